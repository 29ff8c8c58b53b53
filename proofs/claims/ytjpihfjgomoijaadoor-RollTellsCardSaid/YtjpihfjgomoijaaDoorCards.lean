/-
  DERIVED. GIVEN WITH THE SEED: THE CARDS: each row of YtjpihfjgomoijaaDoorRows.lean that lists a variable, with what it lists TIED to the program's text (the seventh form; the later family's looks); each row that meets fmt, with fmt's text TOLD by the authors' own Lean function (tested against real Go, not proved from fmt's source: count such statements apart). THE CARD IS WHAT COUNTS. Prove the row's statement (the work); the ties are given (YtjpihfjgomoijaaDoorTie.lean); close each card by the builder's one call (the guide's Derived/Test/ToyasCard.lean, 'card_holds'). Laid BY PROGRAM, IN A SANDBOX (cutbox-door.mjs). By AI agents, Wed Nov 11 2026. No macro, syntax, notation, axiom, sorry.
-/
import Derived.Test.YtjpihfjgomoijaaDoorRows
import GoSem.ClaimSeven
namespace Go.Proofs.YtjpihfjgomoijaaDoor
namespace Rows

/-- THE TIED CARD OF 'furlonglaw11.RollChecks'. -/
def rollChecksCard : Claim7 := { stood := { row := rollChecksRow, standIns := [], harness := (true, "7606684b48dde6aeeee000dbed1c0dd6dd6c17208e87027f52e8f7885a5808d5"), looks := true }, kinds := [], alts := [], laidByText := true, laidKinds := [.data, .data, .data, .sentinel, .sentinel], laidTests := true, laidLooks := .later }
def RollChecksCardSaid : Prop := Claim7.holds Tryd.pinned (.plain (OpenSpec.ofChange rollChecksSpec)) rollChecksCard

/-- THE TIED CARD OF 'furlonglaw11.RollMerges'. -/
def rollMergesCard : Claim7 := { stood := { row := rollMergesRow, standIns := [], harness := (true, "7606684b48dde6aeeee000dbed1c0dd6dd6c17208e87027f52e8f7885a5808d5"), looks := true }, kinds := [], alts := [], laidByText := true, laidKinds := [.data, .data, .data, .sentinel, .sentinel], laidTests := true, laidLooks := .later }
def RollMergesCardSaid : Prop := Claim7.holds Tryd.pinned (.plain (OpenSpec.ofChange rollMergesSpec)) rollMergesCard

/-- THE TIED CARD OF 'furlonglaw11.RollOrder'. -/
def rollOrderCard : Claim7 := { stood := { row := rollOrderRow, standIns := [], harness := (true, "7606684b48dde6aeeee000dbed1c0dd6dd6c17208e87027f52e8f7885a5808d5"), looks := true }, kinds := [], alts := [], laidByText := true, laidKinds := [.data, .data, .data, .sentinel, .sentinel], laidTests := true, laidLooks := .later }
def RollOrderCardSaid : Prop := Claim7.holds Tryd.pinned (.plain (OpenSpec.ofChange rollOrderSpec)) rollOrderCard

/-- THE TIED CARD OF 'furlonglaw11.RollCompacts'. -/
def rollCompactsCard : Claim7 := { stood := { row := rollCompactsRow, standIns := [], harness := (true, "7606684b48dde6aeeee000dbed1c0dd6dd6c17208e87027f52e8f7885a5808d5"), looks := true }, kinds := [], alts := [], laidByText := true, laidKinds := [.data, .data, .data, .sentinel, .sentinel], laidTests := true, laidLooks := .later }
def RollCompactsCardSaid : Prop := Claim7.holds Tryd.pinned (.plain (OpenSpec.ofChange rollCompactsSpec)) rollCompactsCard

/-- THE TIED CARD OF 'furlonglaw11.RollTells'. -/
def rollTellsCard : Claim7 := { stood := { row := rollTellsRow, standIns := [], harness := (true, "7606684b48dde6aeeee000dbed1c0dd6dd6c17208e87027f52e8f7885a5808d5"), looks := true }, kinds := [], alts := [], laidByText := true, laidKinds := [.data, .data, .data, .sentinel, .sentinel], laidTests := true, laidLooks := .later }
def RollTellsCardSaid : Prop := Claim7.holds Tryd.pinned (.plain (OpenSpec.ofChange rollTellsSpec)) rollTellsCard

/-- THE SECOND FORM's CARD OF 'furlonglaw11.RollChecks'. -/
def rollChecksUptoCard : Claim7 := { stood := { row := rollChecksUptoRow, standIns := [], harness := (true, "7606684b48dde6aeeee000dbed1c0dd6dd6c17208e87027f52e8f7885a5808d5"), looks := true }, kinds := [], alts := [], laidByText := true, laidKinds := [.data, .data, .data, .sentinel, .sentinel], laidTests := true, laidLooks := .later }
def RollChecksUptoCardSaid : Prop := Claim7.holds Tryd.pinned (.plain (OpenSpec.upto rollChecksSpec)) rollChecksUptoCard

/-- THE SECOND FORM's CARD OF 'furlonglaw11.RollMerges'. -/
def rollMergesUptoCard : Claim7 := { stood := { row := rollMergesUptoRow, standIns := [], harness := (true, "7606684b48dde6aeeee000dbed1c0dd6dd6c17208e87027f52e8f7885a5808d5"), looks := true }, kinds := [], alts := [], laidByText := true, laidKinds := [.data, .data, .data, .sentinel, .sentinel], laidTests := true, laidLooks := .later }
def RollMergesUptoCardSaid : Prop := Claim7.holds Tryd.pinned (.plain (OpenSpec.upto rollMergesSpec)) rollMergesUptoCard

/-- THE SECOND FORM's CARD OF 'furlonglaw11.RollOrder'. -/
def rollOrderUptoCard : Claim7 := { stood := { row := rollOrderUptoRow, standIns := [], harness := (true, "7606684b48dde6aeeee000dbed1c0dd6dd6c17208e87027f52e8f7885a5808d5"), looks := true }, kinds := [], alts := [], laidByText := true, laidKinds := [.data, .data, .data, .sentinel, .sentinel], laidTests := true, laidLooks := .later }
def RollOrderUptoCardSaid : Prop := Claim7.holds Tryd.pinned (.plain (OpenSpec.upto rollOrderSpec)) rollOrderUptoCard

/-- THE SECOND FORM's CARD OF 'furlonglaw11.RollCompacts'. -/
def rollCompactsUptoCard : Claim7 := { stood := { row := rollCompactsUptoRow, standIns := [], harness := (true, "7606684b48dde6aeeee000dbed1c0dd6dd6c17208e87027f52e8f7885a5808d5"), looks := true }, kinds := [], alts := [], laidByText := true, laidKinds := [.data, .data, .data, .sentinel, .sentinel], laidTests := true, laidLooks := .later }
def RollCompactsUptoCardSaid : Prop := Claim7.holds Tryd.pinned (.plain (OpenSpec.upto rollCompactsSpec)) rollCompactsUptoCard

/-- THE SECOND FORM's CARD OF 'furlonglaw11.RollTells'. -/
def rollTellsUptoCard : Claim7 := { stood := { row := rollTellsUptoRow, standIns := [], harness := (true, "7606684b48dde6aeeee000dbed1c0dd6dd6c17208e87027f52e8f7885a5808d5"), looks := true }, kinds := [], alts := [], laidByText := true, laidKinds := [.data, .data, .data, .sentinel, .sentinel], laidTests := true, laidLooks := .later }
def RollTellsUptoCardSaid : Prop := Claim7.holds Tryd.pinned (.plain (OpenSpec.upto rollTellsSpec)) rollTellsUptoCard
end Rows
end Go.Proofs.YtjpihfjgomoijaaDoor
