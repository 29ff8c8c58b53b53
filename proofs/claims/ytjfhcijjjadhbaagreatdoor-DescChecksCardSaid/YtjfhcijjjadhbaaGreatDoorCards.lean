/-
  DERIVED. GIVEN WITH THE SEED: THE CARDS: each row of YtjfhcijjjadhbaaGreatDoorRows.lean that lists a variable, with what it lists TIED to the program's text (the seventh form; the later family's looks); each row that meets fmt, with fmt's text TOLD by the authors' own Lean function (tested against real Go, not proved from fmt's source: count such statements apart). THE CARD IS WHAT COUNTS. Prove the row's statement (the work); the ties are given (YtjfhcijjjadhbaaGreatDoorTie.lean); close each card by the builder's one call (the guide's Derived/Test/ToyasCard.lean, 'card_holds'). Laid BY PROGRAM, IN A SANDBOX (cutbox-door.mjs). By AI agents, Wed Nov 11 2026. No macro, syntax, notation, axiom, sorry.
-/
import Derived.Test.YtjfhcijjjadhbaaGreatDoorRows
import GoSem.ClaimSeven
namespace Go.Proofs.YtjfhcijjjadhbaaGreatDoor
namespace Rows

/-- THE TIED CARD OF 'furlonglaw06.DescChecks'. -/
def descChecksCard : Claim7 := { stood := { row := descChecksRow, standIns := [], harness := (true, "06a0b218a853dbe43ee0a379834b46ce70ab04a652f6cd003b15a5907944e7d3"), looks := true }, kinds := [], alts := [], laidByText := true, laidKinds := [.data, .data, .data, .sentinel, .sentinel], laidTests := true, laidLooks := .later }
def DescChecksCardSaid : Prop := Claim7.holds Tryz.pinned (.plain (OpenSpec.ofChange descChecksSpec)) descChecksCard

/-- THE SECOND FORM's CARD OF 'furlonglaw06.DescChecks'. -/
def descChecksUptoCard : Claim7 := { stood := { row := descChecksUptoRow, standIns := [], harness := (true, "06a0b218a853dbe43ee0a379834b46ce70ab04a652f6cd003b15a5907944e7d3"), looks := true }, kinds := [], alts := [], laidByText := true, laidKinds := [.data, .data, .data, .sentinel, .sentinel], laidTests := true, laidLooks := .later }
def DescChecksUptoCardSaid : Prop := Claim7.holds Tryz.pinned (.plain (OpenSpec.upto descChecksSpec)) descChecksUptoCard
end Rows
end Go.Proofs.YtjfhcijjjadhbaaGreatDoor
