/-
  DERIVED. GIVEN WITH THE SEED: THE CARDS: each row of YtnaajldlloglkaaGreatDoorRows.lean that lists a variable, with what it lists TIED to the program's text (the seventh form; the later family's looks); each row that meets fmt, with fmt's text TOLD by the authors' own Lean function (tested against real Go, not proved from fmt's source: count such statements apart). THE CARD IS WHAT COUNTS. Prove the row's statement (the work); the ties are given (YtnaajldlloglkaaGreatDoorTie.lean); close each card by the builder's one call (the guide's Derived/Test/ToyasCard.lean, 'card_holds'). Laid BY PROGRAM, IN A SANDBOX (cutbox-door.mjs). By AI agents, Wed Nov 11 2026. No macro, syntax, notation, axiom, sorry.
-/
import Derived.Test.YtnaajldlloglkaaGreatDoorRows
import GoSem.ClaimSeven
namespace Go.Proofs.YtnaajldlloglkaaGreatDoor
namespace Rows

/-- THE TIED CARD OF 'hermitagelaw10.MoveBack'. -/
def moveBackCard : Claim7 := { stood := { row := moveBackRow, standIns := [], harness := (true, "c5bfa0a7ac9ab898f0e5b08e3d66d9115d29333d5fe283460c604d326833981f"), looks := false }, kinds := [], alts := [], laidByText := true, laidKinds := [.data], laidTests := true, laidLooks := .later }
def MoveBackCardSaid : Prop := Claim7.holds Tryz.pinned (.plain (OpenSpec.ofChange moveBackSpec)) moveBackCard

/-- THE TIED CARD OF 'hermitagelaw10.MoveAdds'. -/
def moveAddsCard : Claim7 := { stood := { row := moveAddsRow, standIns := [], harness := (true, "c5bfa0a7ac9ab898f0e5b08e3d66d9115d29333d5fe283460c604d326833981f"), looks := false }, kinds := [], alts := [], laidByText := true, laidKinds := [.data], laidTests := true, laidLooks := .later }
def MoveAddsCardSaid : Prop := Claim7.holds Tryz.pinned (.plain (OpenSpec.ofChange moveAddsSpec)) moveAddsCard

/-- THE TIED CARD OF 'hermitagelaw10.MoveRemoves'. -/
def moveRemovesCard : Claim7 := { stood := { row := moveRemovesRow, standIns := [], harness := (true, "c5bfa0a7ac9ab898f0e5b08e3d66d9115d29333d5fe283460c604d326833981f"), looks := false }, kinds := [], alts := [], laidByText := true, laidKinds := [.data], laidTests := true, laidLooks := .later }
def MoveRemovesCardSaid : Prop := Claim7.holds Tryz.pinned (.plain (OpenSpec.ofChange moveRemovesSpec)) moveRemovesCard

/-- THE TIED CARD OF 'hermitagelaw10.MoveTidies'. -/
def moveTidiesCard : Claim7 := { stood := { row := moveTidiesRow, standIns := [], harness := (true, "c5bfa0a7ac9ab898f0e5b08e3d66d9115d29333d5fe283460c604d326833981f"), looks := false }, kinds := [], alts := [], laidByText := true, laidKinds := [.data], laidTests := true, laidLooks := .later }
def MoveTidiesCardSaid : Prop := Claim7.holds Tryz.pinned (.plain (OpenSpec.ofChange moveTidiesSpec)) moveTidiesCard

/-- THE SECOND FORM's CARD OF 'hermitagelaw10.MoveBack'. -/
def moveBackUptoCard : Claim7 := { stood := { row := moveBackUptoRow, standIns := [], harness := (true, "c5bfa0a7ac9ab898f0e5b08e3d66d9115d29333d5fe283460c604d326833981f"), looks := false }, kinds := [], alts := [], laidByText := true, laidKinds := [.data], laidTests := true, laidLooks := .later }
def MoveBackUptoCardSaid : Prop := Claim7.holds Tryz.pinned (.plain (OpenSpec.upto moveBackSpec)) moveBackUptoCard

/-- THE SECOND FORM's CARD OF 'hermitagelaw10.MoveAdds'. -/
def moveAddsUptoCard : Claim7 := { stood := { row := moveAddsUptoRow, standIns := [], harness := (true, "c5bfa0a7ac9ab898f0e5b08e3d66d9115d29333d5fe283460c604d326833981f"), looks := false }, kinds := [], alts := [], laidByText := true, laidKinds := [.data], laidTests := true, laidLooks := .later }
def MoveAddsUptoCardSaid : Prop := Claim7.holds Tryz.pinned (.plain (OpenSpec.upto moveAddsSpec)) moveAddsUptoCard

/-- THE SECOND FORM's CARD OF 'hermitagelaw10.MoveRemoves'. -/
def moveRemovesUptoCard : Claim7 := { stood := { row := moveRemovesUptoRow, standIns := [], harness := (true, "c5bfa0a7ac9ab898f0e5b08e3d66d9115d29333d5fe283460c604d326833981f"), looks := false }, kinds := [], alts := [], laidByText := true, laidKinds := [.data], laidTests := true, laidLooks := .later }
def MoveRemovesUptoCardSaid : Prop := Claim7.holds Tryz.pinned (.plain (OpenSpec.upto moveRemovesSpec)) moveRemovesUptoCard

/-- THE SECOND FORM's CARD OF 'hermitagelaw10.MoveTidies'. -/
def moveTidiesUptoCard : Claim7 := { stood := { row := moveTidiesUptoRow, standIns := [], harness := (true, "c5bfa0a7ac9ab898f0e5b08e3d66d9115d29333d5fe283460c604d326833981f"), looks := false }, kinds := [], alts := [], laidByText := true, laidKinds := [.data], laidTests := true, laidLooks := .later }
def MoveTidiesUptoCardSaid : Prop := Claim7.holds Tryz.pinned (.plain (OpenSpec.upto moveTidiesSpec)) moveTidiesUptoCard
end Rows
end Go.Proofs.YtnaajldlloglkaaGreatDoor
