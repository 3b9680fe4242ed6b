/-
  DERIVED. GIVEN WITH THE SEED: THE CARDS: each row of YtkkkfaifkmmhpaaGreatDoorRows.lean that lists a variable, with what it lists TIED to the program's text (the seventh form; the later family's looks); each row that meets fmt, with fmt's text TOLD by the authors' own Lean function (tested against real Go, not proved from fmt's source: count such statements apart). THE CARD IS WHAT COUNTS. Prove the row's statement (the work); the ties are given (YtkkkfaifkmmhpaaGreatDoorTie.lean); close each card by the builder's one call (the guide's Derived/Test/ToyasCard.lean, 'card_holds'). Laid BY PROGRAM, IN A SANDBOX (cutbox-door.mjs). By AI agents, Wed Nov 11 2026. No macro, syntax, notation, axiom, sorry.
-/
import Derived.Test.YtkkkfaifkmmhpaaGreatDoorRows
import GoSem.ClaimSeven
namespace Go.Proofs.YtkkkfaifkmmhpaaGreatDoor
namespace Rows

/-- THE TIED CARD OF 'hearthlaw8.SpaceNews'. -/
def spaceNewsCard : Claim7 := { stood := { row := spaceNewsRow, standIns := [], harness := (true, "6102a21c32f062b40013978d8f4e038f1dd7c41fbaa86c5414b85d61b2572b7d"), looks := false }, kinds := [], alts := [], laidByText := true, laidKinds := [.data], laidTests := true, laidLooks := .later }
def SpaceNewsCardSaid : Prop := Claim7.holds Tryz.pinned (.plain (OpenSpec.ofChange spaceNewsSpec)) spaceNewsCard

/-- THE SECOND FORM's CARD OF 'hearthlaw8.SpaceNews'. -/
def spaceNewsUptoCard : Claim7 := { stood := { row := spaceNewsUptoRow, standIns := [], harness := (true, "6102a21c32f062b40013978d8f4e038f1dd7c41fbaa86c5414b85d61b2572b7d"), looks := false }, kinds := [], alts := [], laidByText := true, laidKinds := [.data], laidTests := true, laidLooks := .later }
def SpaceNewsUptoCardSaid : Prop := Claim7.holds Tryz.pinned (.plain (OpenSpec.upto spaceNewsSpec)) spaceNewsUptoCard
end Rows
end Go.Proofs.YtkkkfaifkmmhpaaGreatDoor
