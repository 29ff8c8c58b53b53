/-
  No cell of these rows narrows 'for every input' (looked for: loops, veiled, ifaces, maps, wideKeys, modest, calm, conditions, laid).
  DERIVED. THE GIVEN ROWS OF THIS SEAT. 3 by the template 'for every input the law returns true; each argument reads behind the call as it read before'; 0 by the template 'total and deterministic' (their statements: YtppdcldbebnmlaaTotals.lean).
  GIVEN WITH THE SEED: the statements are not yours to turn. If you find one false, say at which input.
  Laid BY PROGRAM, IN A SANDBOX (cutbox-rows.mjs): the forced cells as the released guide's own fill.sh prints them over the translation e73e557ea3712e8b… (all of the seat's roots in one cut). By AI agents, Wed Nov 11 2026. No macro, syntax, notation, axiom, sorry.
-/
import Derived.Test.YtppdcldbebnmlaaChecked
import GoSem.Claim
import GoSem.ClaimJoined
import GoSem.ClaimMapViews
import Derived.JoinedTies
import Derived.KernelRfl
namespace Go.Proofs.Ytppdcldbebnmlaa
/- THE CELL 'sum', in the pinned program and in every row, IS THE sha256 OF THE DUMP (.gsa) THAT YtppdcldbebnmlaaProg.lean LOADS. Nothing in Lean hashes anything: it is a label: what it is worth is what the hold of that sum in a sandbox is worth. -/
noncomputable def Try.pinned : Pinned := { name := "ytppdcldbebnmlaa", sum := "e73e557ea3712e8b5f466d2c8ab093733ae51f26783e92427f206457fb3239ed", checked := Try.checked }
namespace Rows
def none {H : Type} : Left H := { results := [], args := [] }

/-- 'furlonglaw18.RouteLearns': WHATEVER THE INPUT: true; the input reads as it did. -/
def routeLearnsSpec : ChangeSpec := { name := "routeLearns", fn := fun _ => fun
  | [d1, d2, d3, d4] => { results := [.lit (.bool true)], args := [d1, d2, d3, d4] }
  | _ => none }
def routeLearnsRow : OpenClaim := { program := "ytppdcldbebnmlaa", sum := "e73e557ea3712e8b5f466d2c8ab093733ae51f26783e92427f206457fb3239ed", func := "furlong/furlonglaw18.RouteLearns", spec := "routeLearns", inPlace := ["internal/bytealg.abigen_runtime_cmpstring", "internal/abi.NoEscape", "internal/bytealg.MakeNoZero"], unfollowed := true, recurses := true, apart := false }
def RouteLearnsSaid : Prop := routeLearnsRow.holds Try.pinned (OpenSpec.ofChange routeLearnsSpec)

/-- ITS FALSE NEIGHBOUR: 'it returns false'. Refute it at one input. -/
def routeLearnsWrong : ChangeSpec := { name := "routeLearns", fn := fun _ => fun
  | [d1, d2, d3, d4] => { results := [.lit (.bool false)], args := [d1, d2, d3, d4] }
  | _ => none }
def RouteLearnsWrongFalsely : Prop := routeLearnsRow.holds Try.pinned (OpenSpec.ofChange routeLearnsWrong)

/-- 'furlonglaw18.RouteCache': WHATEVER THE INPUT: true; the input reads as it did. -/
def routeCacheSpec : ChangeSpec := { name := "routeCache", fn := fun _ => fun
  | [d1, d2, d3] => { results := [.lit (.bool true)], args := [d1, d2, d3] }
  | _ => none }
def routeCacheRow : OpenClaim := { program := "ytppdcldbebnmlaa", sum := "e73e557ea3712e8b5f466d2c8ab093733ae51f26783e92427f206457fb3239ed", func := "furlong/furlonglaw18.RouteCache", spec := "routeCache", inPlace := ["internal/bytealg.abigen_runtime_cmpstring", "internal/abi.NoEscape", "internal/bytealg.MakeNoZero"], unfollowed := true, recurses := true, apart := false }
def RouteCacheSaid : Prop := routeCacheRow.holds Try.pinned (OpenSpec.ofChange routeCacheSpec)

/-- ITS FALSE NEIGHBOUR: 'it returns false'. Refute it at one input. -/
def routeCacheWrong : ChangeSpec := { name := "routeCache", fn := fun _ => fun
  | [d1, d2, d3] => { results := [.lit (.bool false)], args := [d1, d2, d3] }
  | _ => none }
def RouteCacheWrongFalsely : Prop := routeCacheRow.holds Try.pinned (OpenSpec.ofChange routeCacheWrong)

/-- 'furlonglaw18.RouteBelow': WHATEVER THE INPUT: true; the input reads as it did. -/
def routeBelowSpec : ChangeSpec := { name := "routeBelow", fn := fun _ => fun
  | [d1, d2] => { results := [.lit (.bool true)], args := [d1, d2] }
  | _ => none }
def routeBelowRow : OpenClaim := { program := "ytppdcldbebnmlaa", sum := "e73e557ea3712e8b5f466d2c8ab093733ae51f26783e92427f206457fb3239ed", func := "furlong/furlonglaw18.RouteBelow", spec := "routeBelow", inPlace := ["internal/bytealg.abigen_runtime_cmpstring", "internal/abi.NoEscape", "internal/bytealg.MakeNoZero"], unfollowed := true, recurses := true, apart := false }
def RouteBelowSaid : Prop := routeBelowRow.holds Try.pinned (OpenSpec.ofChange routeBelowSpec)

/-- ITS FALSE NEIGHBOUR: 'it returns false'. Refute it at one input. -/
def routeBelowWrong : ChangeSpec := { name := "routeBelow", fn := fun _ => fun
  | [d1, d2] => { results := [.lit (.bool false)], args := [d1, d2] }
  | _ => none }
def RouteBelowWrongFalsely : Prop := routeBelowRow.holds Try.pinned (OpenSpec.ofChange routeBelowWrong)

/- THE SECOND FORM. 'bulk': how many values and letters a reading holds, each counted each time it is reached (what is shared counts as often as it is met; a slice's spare places count too). A statement '..UptoSaid' is the law's where the arguments, and the package variables that the reading takes, are together of bulk at most 1048576: NARROWER than '..Said'. Prove '..Said' where nothing that the law and all that it calls make is longer than what came in: it says more and counts as full. Else prove '..UptoSaid'. A law counts once. -/
mutual
def uptoBulk {H : Type} : DataW H → Nat
  | .lit (.string bytes) => bytes.length + 1
  | .lit _ => 1
  | .nil => 1
  | .ptr d => uptoBulk d + 1
  | .slice elems spare => uptoBulkAll elems + uptoBulkAll spare + 1
  | .agg parts => uptoBulkAll parts + 1
  | .iface _ d => uptoBulk d + 1
  | .map entries => uptoBulkEntries entries + 1
  | .held _ => 1
def uptoBulkAll {H : Type} : List (DataW H) → Nat
  | [] => 0
  | d :: r => uptoBulk d + uptoBulkAll r
def uptoBulkEntries {H : Type} : List (Lit × DataW H) → Nat
  | [] => 0
  | x :: r => uptoBulkEntry x + uptoBulkEntries r
def uptoBulkEntry {H : Type} : Lit × DataW H → Nat
  | (.string bytes, d) => bytes.length + uptoBulk d + 1
  | (_, d) => uptoBulk d + 1
 end
def uptoSmall : (H : Type) → List (DataW H) → Bool := fun _ ds => decide (uptoBulkAll ds ≤ 1048576)
def OpenSpec.upto (s : _root_.Go.ChangeSpec) : _root_.Go.OpenSpec := { _root_.Go.OpenSpec.ofChange s with cond := some uptoSmall }

/-- 'furlonglaw18.RouteLearns', WHERE WHAT IT READS IS OF BULK AT MOST 1048576: true; the input reads as it did. -/
def routeLearnsUptoRow : OpenClaim := { program := "ytppdcldbebnmlaa", sum := "e73e557ea3712e8b5f466d2c8ab093733ae51f26783e92427f206457fb3239ed", func := "furlong/furlonglaw18.RouteLearns", spec := "routeLearns", inPlace := ["internal/bytealg.abigen_runtime_cmpstring", "internal/abi.NoEscape", "internal/bytealg.MakeNoZero"], unfollowed := true, recurses := true, apart := false, narrowed := true }
def RouteLearnsUptoSaid : Prop := routeLearnsUptoRow.holds Try.pinned (OpenSpec.upto routeLearnsSpec)

/-- 'furlonglaw18.RouteCache', WHERE WHAT IT READS IS OF BULK AT MOST 1048576: true; the input reads as it did. -/
def routeCacheUptoRow : OpenClaim := { program := "ytppdcldbebnmlaa", sum := "e73e557ea3712e8b5f466d2c8ab093733ae51f26783e92427f206457fb3239ed", func := "furlong/furlonglaw18.RouteCache", spec := "routeCache", inPlace := ["internal/bytealg.abigen_runtime_cmpstring", "internal/abi.NoEscape", "internal/bytealg.MakeNoZero"], unfollowed := true, recurses := true, apart := false, narrowed := true }
def RouteCacheUptoSaid : Prop := routeCacheUptoRow.holds Try.pinned (OpenSpec.upto routeCacheSpec)

/-- 'furlonglaw18.RouteBelow', WHERE WHAT IT READS IS OF BULK AT MOST 1048576: true; the input reads as it did. -/
def routeBelowUptoRow : OpenClaim := { program := "ytppdcldbebnmlaa", sum := "e73e557ea3712e8b5f466d2c8ab093733ae51f26783e92427f206457fb3239ed", func := "furlong/furlonglaw18.RouteBelow", spec := "routeBelow", inPlace := ["internal/bytealg.abigen_runtime_cmpstring", "internal/abi.NoEscape", "internal/bytealg.MakeNoZero"], unfollowed := true, recurses := true, apart := false, narrowed := true }
def RouteBelowUptoSaid : Prop := routeBelowUptoRow.holds Try.pinned (OpenSpec.upto routeBelowSpec)

end Rows
end Go.Proofs.Ytppdcldbebnmlaa
