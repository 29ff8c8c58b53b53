/-
  DERIVED. GIVEN WITH THE SEED: THE CARDS: each row of YthijgcnmbfhjjaaDoorRows.lean that lists a variable, with what it lists TIED to the program's text (the seventh form; the later family's looks); each row that meets fmt, with fmt's text TOLD by the authors' own Lean function (tested against real Go, not proved from fmt's source: count such statements apart). THE CARD IS WHAT COUNTS. Prove the row's statement (the work); the ties are given (YthijgcnmbfhjjaaDoorTie.lean); close each card by the builder's one call (the guide's Derived/Test/ToyasCard.lean, 'card_holds'). Laid BY PROGRAM, IN A SANDBOX (cutbox-door.mjs). By AI agents, Wed Nov 11 2026. No macro, syntax, notation, axiom, sorry.
-/
import Derived.Test.YthijgcnmbfhjjaaDoorRows
import GoSem.ClaimSeven
namespace Go.Proofs.YthijgcnmbfhjjaaDoor
namespace Rows

/-- THE TIED CARD OF 'furlonglaw01.KnotNums'. -/
def knotNumsCard : Claim7 := { stood := { row := knotNumsRow, standIns := [], harness := (true, "5d296bfabe3711f01d433b9a3e3518c31fe6d33b716c6b42239e467ef3e3ec8a"), looks := true }, kinds := [], alts := [], laidByText := true, laidKinds := [.data, .data, .data, .sentinel, .sentinel], laidTests := true, laidLooks := .later }
def KnotNumsCardSaid : Prop := Claim7.holds Tryd.pinned (.plain (OpenSpec.ofChange knotNumsSpec)) knotNumsCard

/-- THE TIED CARD OF 'furlonglaw01.KnotTies'. -/
def knotTiesCard : Claim7 := { stood := { row := knotTiesRow, standIns := [], harness := (true, "5d296bfabe3711f01d433b9a3e3518c31fe6d33b716c6b42239e467ef3e3ec8a"), looks := true }, kinds := [], alts := [], laidByText := true, laidKinds := [.data, .data, .data, .sentinel, .sentinel], laidTests := true, laidLooks := .later }
def KnotTiesCardSaid : Prop := Claim7.holds Tryd.pinned (.plain (OpenSpec.ofChange knotTiesSpec)) knotTiesCard

/-- THE TIED CARD OF 'furlonglaw01.KnotUnties'. -/
def knotUntiesCard : Claim7 := { stood := { row := knotUntiesRow, standIns := [], harness := (true, "5d296bfabe3711f01d433b9a3e3518c31fe6d33b716c6b42239e467ef3e3ec8a"), looks := true }, kinds := [], alts := [], laidByText := true, laidKinds := [.data, .data, .data, .sentinel, .sentinel], laidTests := true, laidLooks := .later }
def KnotUntiesCardSaid : Prop := Claim7.holds Tryd.pinned (.plain (OpenSpec.ofChange knotUntiesSpec)) knotUntiesCard

/-- THE TIED CARD OF 'furlonglaw01.KnotSeals'. -/
def knotSealsCard : Claim7 := { stood := { row := knotSealsRow, standIns := [], harness := (true, "5d296bfabe3711f01d433b9a3e3518c31fe6d33b716c6b42239e467ef3e3ec8a"), looks := true }, kinds := [], alts := [], laidByText := true, laidKinds := [.data, .data, .data, .sentinel, .sentinel], laidTests := true, laidLooks := .later }
def KnotSealsCardSaid : Prop := Claim7.holds Tryd.pinned (.plain (OpenSpec.ofChange knotSealsSpec)) knotSealsCard

/-- THE TIED CARD OF 'furlonglaw01.KnotBack'. -/
def knotBackCard : Claim7 := { stood := { row := knotBackRow, standIns := [], harness := (true, "5d296bfabe3711f01d433b9a3e3518c31fe6d33b716c6b42239e467ef3e3ec8a"), looks := true }, kinds := [], alts := [], laidByText := true, laidKinds := [.data, .data, .data, .sentinel, .sentinel], laidTests := true, laidLooks := .later }
def KnotBackCardSaid : Prop := Claim7.holds Tryd.pinned (.plain (OpenSpec.ofChange knotBackSpec)) knotBackCard

/-- THE TIED CARD OF 'furlonglaw01.KnotSpoilt'. -/
def knotSpoiltCard : Claim7 := { stood := { row := knotSpoiltRow, standIns := [], harness := (true, "5d296bfabe3711f01d433b9a3e3518c31fe6d33b716c6b42239e467ef3e3ec8a"), looks := true }, kinds := [], alts := [], laidByText := true, laidKinds := [.data, .data, .data, .sentinel, .sentinel], laidTests := true, laidLooks := .later }
def KnotSpoiltCardSaid : Prop := Claim7.holds Tryd.pinned (.plain (OpenSpec.ofChange knotSpoiltSpec)) knotSpoiltCard

/-- THE TIED CARD OF 'furlonglaw01.KnotJoins'. -/
def knotJoinsCard : Claim7 := { stood := { row := knotJoinsRow, standIns := [], harness := (true, "5d296bfabe3711f01d433b9a3e3518c31fe6d33b716c6b42239e467ef3e3ec8a"), looks := true }, kinds := [], alts := [], laidByText := true, laidKinds := [.data, .data, .data, .sentinel, .sentinel], laidTests := true, laidLooks := .later }
def KnotJoinsCardSaid : Prop := Claim7.holds Tryd.pinned (.plain (OpenSpec.ofChange knotJoinsSpec)) knotJoinsCard

/-- THE TIED CARD OF 'furlonglaw01.KnotUnique'. -/
def knotUniqueCard : Claim7 := { stood := { row := knotUniqueRow, standIns := [], harness := (true, "5d296bfabe3711f01d433b9a3e3518c31fe6d33b716c6b42239e467ef3e3ec8a"), looks := true }, kinds := [], alts := [], laidByText := true, laidKinds := [.data, .data, .data, .sentinel, .sentinel], laidTests := true, laidLooks := .later }
def KnotUniqueCardSaid : Prop := Claim7.holds Tryd.pinned (.plain (OpenSpec.ofChange knotUniqueSpec)) knotUniqueCard

/-- THE SECOND FORM's CARD OF 'furlonglaw01.KnotNums'. -/
def knotNumsUptoCard : Claim7 := { stood := { row := knotNumsUptoRow, standIns := [], harness := (true, "5d296bfabe3711f01d433b9a3e3518c31fe6d33b716c6b42239e467ef3e3ec8a"), looks := true }, kinds := [], alts := [], laidByText := true, laidKinds := [.data, .data, .data, .sentinel, .sentinel], laidTests := true, laidLooks := .later }
def KnotNumsUptoCardSaid : Prop := Claim7.holds Tryd.pinned (.plain (OpenSpec.upto knotNumsSpec)) knotNumsUptoCard

/-- THE SECOND FORM's CARD OF 'furlonglaw01.KnotTies'. -/
def knotTiesUptoCard : Claim7 := { stood := { row := knotTiesUptoRow, standIns := [], harness := (true, "5d296bfabe3711f01d433b9a3e3518c31fe6d33b716c6b42239e467ef3e3ec8a"), looks := true }, kinds := [], alts := [], laidByText := true, laidKinds := [.data, .data, .data, .sentinel, .sentinel], laidTests := true, laidLooks := .later }
def KnotTiesUptoCardSaid : Prop := Claim7.holds Tryd.pinned (.plain (OpenSpec.upto knotTiesSpec)) knotTiesUptoCard

/-- THE SECOND FORM's CARD OF 'furlonglaw01.KnotUnties'. -/
def knotUntiesUptoCard : Claim7 := { stood := { row := knotUntiesUptoRow, standIns := [], harness := (true, "5d296bfabe3711f01d433b9a3e3518c31fe6d33b716c6b42239e467ef3e3ec8a"), looks := true }, kinds := [], alts := [], laidByText := true, laidKinds := [.data, .data, .data, .sentinel, .sentinel], laidTests := true, laidLooks := .later }
def KnotUntiesUptoCardSaid : Prop := Claim7.holds Tryd.pinned (.plain (OpenSpec.upto knotUntiesSpec)) knotUntiesUptoCard

/-- THE SECOND FORM's CARD OF 'furlonglaw01.KnotSeals'. -/
def knotSealsUptoCard : Claim7 := { stood := { row := knotSealsUptoRow, standIns := [], harness := (true, "5d296bfabe3711f01d433b9a3e3518c31fe6d33b716c6b42239e467ef3e3ec8a"), looks := true }, kinds := [], alts := [], laidByText := true, laidKinds := [.data, .data, .data, .sentinel, .sentinel], laidTests := true, laidLooks := .later }
def KnotSealsUptoCardSaid : Prop := Claim7.holds Tryd.pinned (.plain (OpenSpec.upto knotSealsSpec)) knotSealsUptoCard

/-- THE SECOND FORM's CARD OF 'furlonglaw01.KnotBack'. -/
def knotBackUptoCard : Claim7 := { stood := { row := knotBackUptoRow, standIns := [], harness := (true, "5d296bfabe3711f01d433b9a3e3518c31fe6d33b716c6b42239e467ef3e3ec8a"), looks := true }, kinds := [], alts := [], laidByText := true, laidKinds := [.data, .data, .data, .sentinel, .sentinel], laidTests := true, laidLooks := .later }
def KnotBackUptoCardSaid : Prop := Claim7.holds Tryd.pinned (.plain (OpenSpec.upto knotBackSpec)) knotBackUptoCard

/-- THE SECOND FORM's CARD OF 'furlonglaw01.KnotSpoilt'. -/
def knotSpoiltUptoCard : Claim7 := { stood := { row := knotSpoiltUptoRow, standIns := [], harness := (true, "5d296bfabe3711f01d433b9a3e3518c31fe6d33b716c6b42239e467ef3e3ec8a"), looks := true }, kinds := [], alts := [], laidByText := true, laidKinds := [.data, .data, .data, .sentinel, .sentinel], laidTests := true, laidLooks := .later }
def KnotSpoiltUptoCardSaid : Prop := Claim7.holds Tryd.pinned (.plain (OpenSpec.upto knotSpoiltSpec)) knotSpoiltUptoCard

/-- THE SECOND FORM's CARD OF 'furlonglaw01.KnotJoins'. -/
def knotJoinsUptoCard : Claim7 := { stood := { row := knotJoinsUptoRow, standIns := [], harness := (true, "5d296bfabe3711f01d433b9a3e3518c31fe6d33b716c6b42239e467ef3e3ec8a"), looks := true }, kinds := [], alts := [], laidByText := true, laidKinds := [.data, .data, .data, .sentinel, .sentinel], laidTests := true, laidLooks := .later }
def KnotJoinsUptoCardSaid : Prop := Claim7.holds Tryd.pinned (.plain (OpenSpec.upto knotJoinsSpec)) knotJoinsUptoCard

/-- THE SECOND FORM's CARD OF 'furlonglaw01.KnotUnique'. -/
def knotUniqueUptoCard : Claim7 := { stood := { row := knotUniqueUptoRow, standIns := [], harness := (true, "5d296bfabe3711f01d433b9a3e3518c31fe6d33b716c6b42239e467ef3e3ec8a"), looks := true }, kinds := [], alts := [], laidByText := true, laidKinds := [.data, .data, .data, .sentinel, .sentinel], laidTests := true, laidLooks := .later }
def KnotUniqueUptoCardSaid : Prop := Claim7.holds Tryd.pinned (.plain (OpenSpec.upto knotUniqueSpec)) knotUniqueUptoCard
end Rows
end Go.Proofs.YthijgcnmbfhjjaaDoor
