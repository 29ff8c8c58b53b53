/-
  DERIVED. GIVEN WITH THE SEED: THE CARDS: each row of YtjfhcijjjadhbaaDoorRows.lean that lists a variable, with what it lists TIED to the program's text (the seventh form; the later family's looks); each row that meets fmt, with fmt's text TOLD by the authors' own Lean function (tested against real Go, not proved from fmt's source: count such statements apart). THE CARD IS WHAT COUNTS. Prove the row's statement (the work); the ties are given (YtjfhcijjjadhbaaDoorTie.lean); close each card by the builder's one call (the guide's Derived/Test/ToyasCard.lean, 'card_holds'). Laid BY PROGRAM, IN A SANDBOX (cutbox-door.mjs). By AI agents, Wed Nov 11 2026. No macro, syntax, notation, axiom, sorry.
-/
import Derived.Test.YtjfhcijjjadhbaaDoorRows
import GoSem.ClaimSeven
namespace Go.Proofs.YtjfhcijjjadhbaaDoor
namespace Rows

/-- THE TIED CARD OF 'furlonglaw06.DescSplits'. -/
def descSplitsCard : Claim7 := { stood := { row := descSplitsRow, standIns := [], harness := (true, "d73ef80fa41d837407f56eeddebe1d11a0dad65d3bcf930d2336313ea5e0644f"), looks := true }, kinds := [], alts := [], laidByText := true, laidKinds := [.data, .data, .data, .sentinel, .sentinel], laidTests := true, laidLooks := .later }
def DescSplitsCardSaid : Prop := Claim7.holds Tryd.pinned (.plain (OpenSpec.ofChange descSplitsSpec)) descSplitsCard

/-- THE TIED CARD OF 'furlonglaw06.DescQuorums'. -/
def descQuorumsCard : Claim7 := { stood := { row := descQuorumsRow, standIns := [], harness := (true, "d73ef80fa41d837407f56eeddebe1d11a0dad65d3bcf930d2336313ea5e0644f"), looks := true }, kinds := [], alts := [], laidByText := true, laidKinds := [.data, .data, .data, .sentinel, .sentinel], laidTests := true, laidLooks := .later }
def DescQuorumsCardSaid : Prop := Claim7.holds Tryd.pinned (.plain (OpenSpec.ofChange descQuorumsSpec)) descQuorumsCard

/-- THE TIED CARD OF 'furlonglaw06.DescUnlike'. -/
def descUnlikeCard : Claim7 := { stood := { row := descUnlikeRow, standIns := [], harness := (true, "d73ef80fa41d837407f56eeddebe1d11a0dad65d3bcf930d2336313ea5e0644f"), looks := true }, kinds := [], alts := [], laidByText := true, laidKinds := [.data, .data, .data, .sentinel, .sentinel], laidTests := true, laidLooks := .later }
def DescUnlikeCardSaid : Prop := Claim7.holds Tryd.pinned (.plain (OpenSpec.ofChange descUnlikeSpec)) descUnlikeCard

/-- THE TIED CARD OF 'furlonglaw06.DescMembers'. -/
def descMembersCard : Claim7 := { stood := { row := descMembersRow, standIns := [], harness := (true, "d73ef80fa41d837407f56eeddebe1d11a0dad65d3bcf930d2336313ea5e0644f"), looks := true }, kinds := [], alts := [], laidByText := true, laidKinds := [.data, .data, .data, .sentinel, .sentinel], laidTests := true, laidLooks := .later }
def DescMembersCardSaid : Prop := Claim7.holds Tryd.pinned (.plain (OpenSpec.ofChange descMembersSpec)) descMembersCard

/-- THE TIED CARD OF 'furlonglaw06.DescRises'. -/
def descRisesCard : Claim7 := { stood := { row := descRisesRow, standIns := [], harness := (true, "d73ef80fa41d837407f56eeddebe1d11a0dad65d3bcf930d2336313ea5e0644f"), looks := true }, kinds := [], alts := [], laidByText := true, laidKinds := [.data, .data, .data, .sentinel, .sentinel], laidTests := true, laidLooks := .later }
def DescRisesCardSaid : Prop := Claim7.holds Tryd.pinned (.plain (OpenSpec.ofChange descRisesSpec)) descRisesCard

/-- THE TIED CARD OF 'furlonglaw06.DescBack'. -/
def descBackCard : Claim7 := { stood := { row := descBackRow, standIns := [], harness := (true, "d73ef80fa41d837407f56eeddebe1d11a0dad65d3bcf930d2336313ea5e0644f"), looks := true }, kinds := [], alts := [], laidByText := true, laidKinds := [.data, .data, .data, .sentinel, .sentinel], laidTests := true, laidLooks := .later }
def DescBackCardSaid : Prop := Claim7.holds Tryd.pinned (.plain (OpenSpec.ofChange descBackSpec)) descBackCard

/-- THE SECOND FORM's CARD OF 'furlonglaw06.DescSplits'. -/
def descSplitsUptoCard : Claim7 := { stood := { row := descSplitsUptoRow, standIns := [], harness := (true, "d73ef80fa41d837407f56eeddebe1d11a0dad65d3bcf930d2336313ea5e0644f"), looks := true }, kinds := [], alts := [], laidByText := true, laidKinds := [.data, .data, .data, .sentinel, .sentinel], laidTests := true, laidLooks := .later }
def DescSplitsUptoCardSaid : Prop := Claim7.holds Tryd.pinned (.plain (OpenSpec.upto descSplitsSpec)) descSplitsUptoCard

/-- THE SECOND FORM's CARD OF 'furlonglaw06.DescQuorums'. -/
def descQuorumsUptoCard : Claim7 := { stood := { row := descQuorumsUptoRow, standIns := [], harness := (true, "d73ef80fa41d837407f56eeddebe1d11a0dad65d3bcf930d2336313ea5e0644f"), looks := true }, kinds := [], alts := [], laidByText := true, laidKinds := [.data, .data, .data, .sentinel, .sentinel], laidTests := true, laidLooks := .later }
def DescQuorumsUptoCardSaid : Prop := Claim7.holds Tryd.pinned (.plain (OpenSpec.upto descQuorumsSpec)) descQuorumsUptoCard

/-- THE SECOND FORM's CARD OF 'furlonglaw06.DescUnlike'. -/
def descUnlikeUptoCard : Claim7 := { stood := { row := descUnlikeUptoRow, standIns := [], harness := (true, "d73ef80fa41d837407f56eeddebe1d11a0dad65d3bcf930d2336313ea5e0644f"), looks := true }, kinds := [], alts := [], laidByText := true, laidKinds := [.data, .data, .data, .sentinel, .sentinel], laidTests := true, laidLooks := .later }
def DescUnlikeUptoCardSaid : Prop := Claim7.holds Tryd.pinned (.plain (OpenSpec.upto descUnlikeSpec)) descUnlikeUptoCard

/-- THE SECOND FORM's CARD OF 'furlonglaw06.DescMembers'. -/
def descMembersUptoCard : Claim7 := { stood := { row := descMembersUptoRow, standIns := [], harness := (true, "d73ef80fa41d837407f56eeddebe1d11a0dad65d3bcf930d2336313ea5e0644f"), looks := true }, kinds := [], alts := [], laidByText := true, laidKinds := [.data, .data, .data, .sentinel, .sentinel], laidTests := true, laidLooks := .later }
def DescMembersUptoCardSaid : Prop := Claim7.holds Tryd.pinned (.plain (OpenSpec.upto descMembersSpec)) descMembersUptoCard

/-- THE SECOND FORM's CARD OF 'furlonglaw06.DescRises'. -/
def descRisesUptoCard : Claim7 := { stood := { row := descRisesUptoRow, standIns := [], harness := (true, "d73ef80fa41d837407f56eeddebe1d11a0dad65d3bcf930d2336313ea5e0644f"), looks := true }, kinds := [], alts := [], laidByText := true, laidKinds := [.data, .data, .data, .sentinel, .sentinel], laidTests := true, laidLooks := .later }
def DescRisesUptoCardSaid : Prop := Claim7.holds Tryd.pinned (.plain (OpenSpec.upto descRisesSpec)) descRisesUptoCard

/-- THE SECOND FORM's CARD OF 'furlonglaw06.DescBack'. -/
def descBackUptoCard : Claim7 := { stood := { row := descBackUptoRow, standIns := [], harness := (true, "d73ef80fa41d837407f56eeddebe1d11a0dad65d3bcf930d2336313ea5e0644f"), looks := true }, kinds := [], alts := [], laidByText := true, laidKinds := [.data, .data, .data, .sentinel, .sentinel], laidTests := true, laidLooks := .later }
def DescBackUptoCardSaid : Prop := Claim7.holds Tryd.pinned (.plain (OpenSpec.upto descBackSpec)) descBackUptoCard
end Rows
end Go.Proofs.YtjfhcijjjadhbaaDoor
