/-
  No cell of these rows narrows 'for every input' (looked for: loops, veiled, ifaces, maps, wideKeys, modest, calm, conditions, laid).
  DERIVED. THE GIVEN ROWS OF THIS SEAT. 8 by the template 'for every input the law returns true; each argument reads behind the call as it read before'; 0 by the template 'total and deterministic' (their statements: YtfdpeenamkpcbaaTotals.lean).
  GIVEN WITH THE SEED: the statements are not yours to turn. If you find one false, say at which input.
  Laid BY PROGRAM, IN A SANDBOX (cutbox-rows.mjs): the forced cells as the released guide's own fill.sh prints them over the translation cc1213d10d62729a… (all of the seat's roots in one cut). By AI agents, Wed Nov 11 2026. No macro, syntax, notation, axiom, sorry.
-/
import Derived.Test.YtfdpeenamkpcbaaChecked
import GoSem.Claim
import GoSem.ClaimJoined
import GoSem.ClaimMapViews
import Derived.JoinedTies
import Derived.KernelRfl
namespace Go.Proofs.Ytfdpeenamkpcbaa
/- THE CELL 'sum', in the pinned program and in every row, IS THE sha256 OF THE DUMP (.gsa) THAT YtfdpeenamkpcbaaProg.lean LOADS. Nothing in Lean hashes anything: it is a label: what it is worth is what the hold of that sum in a sandbox is worth. -/
noncomputable def Try.pinned : Pinned := { name := "ytfdpeenamkpcbaa", sum := "cc1213d10d62729afdaad1abeb6fc2fdfab38713e49c786862ca3d0daac7040b", checked := Try.checked }
namespace Rows
def none {H : Type} : Left H := { results := [], args := [] }

/-- 'laws.FnExactDoPours': WHATEVER THE INPUT: true; the input reads as it did. -/
def fnExactDoPoursSpec : ChangeSpec := { name := "fnExactDoPours", fn := fun _ => fun
  | [d1, d2] => { results := [.lit (.bool true)], args := [d1, d2] }
  | _ => none }
def fnExactDoPoursRow : OpenClaim := { program := "ytfdpeenamkpcbaa", sum := "cc1213d10d62729afdaad1abeb6fc2fdfab38713e49c786862ca3d0daac7040b", func := "loop.example/g01215/laws.FnExactDoPours", spec := "fnExactDoPours", unfollowed := true, recurses := true, plainKeys := false, apart := false }
def FnExactDoPoursSaid : Prop := fnExactDoPoursRow.holds Try.pinned (OpenSpec.ofChange fnExactDoPoursSpec)

/-- ITS FALSE NEIGHBOUR: 'it returns false'. Refute it at one input. -/
def fnExactDoPoursWrong : ChangeSpec := { name := "fnExactDoPours", fn := fun _ => fun
  | [d1, d2] => { results := [.lit (.bool false)], args := [d1, d2] }
  | _ => none }
def FnExactDoPoursWrongFalsely : Prop := fnExactDoPoursRow.holds Try.pinned (OpenSpec.ofChange fnExactDoPoursWrong)

/-- 'laws.FnExactRankOfRack': WHATEVER THE INPUT: true; the input reads as it did. -/
def fnExactRankOfRackSpec : ChangeSpec := { name := "fnExactRankOfRack", fn := fun _ => fun
  | [d] => { results := [.lit (.bool true)], args := [d] }
  | _ => none }
def fnExactRankOfRackRow : OpenClaim := { program := "ytfdpeenamkpcbaa", sum := "cc1213d10d62729afdaad1abeb6fc2fdfab38713e49c786862ca3d0daac7040b", func := "loop.example/g01215/laws.FnExactRankOfRack", spec := "fnExactRankOfRack", unfollowed := true, recurses := true, plainKeys := false, apart := false }
def FnExactRankOfRackSaid : Prop := fnExactRankOfRackRow.holds Try.pinned (OpenSpec.ofChange fnExactRankOfRackSpec)

/-- ITS FALSE NEIGHBOUR: 'it returns false'. Refute it at one input. -/
def fnExactRankOfRackWrong : ChangeSpec := { name := "fnExactRankOfRack", fn := fun _ => fun
  | [d] => { results := [.lit (.bool false)], args := [d] }
  | _ => none }
def FnExactRankOfRackWrongFalsely : Prop := fnExactRankOfRackRow.holds Try.pinned (OpenSpec.ofChange fnExactRankOfRackWrong)

/-- 'laws.FnExactCertainPours': WHATEVER THE INPUT: true; the input reads as it did. -/
def fnExactCertainPoursSpec : ChangeSpec := { name := "fnExactCertainPours", fn := fun _ => fun
  | [d] => { results := [.lit (.bool true)], args := [d] }
  | _ => none }
def fnExactCertainPoursRow : OpenClaim := { program := "ytfdpeenamkpcbaa", sum := "cc1213d10d62729afdaad1abeb6fc2fdfab38713e49c786862ca3d0daac7040b", func := "loop.example/g01215/laws.FnExactCertainPours", spec := "fnExactCertainPours", unfollowed := true, recurses := true, plainKeys := false, apart := false }
def FnExactCertainPoursSaid : Prop := fnExactCertainPoursRow.holds Try.pinned (OpenSpec.ofChange fnExactCertainPoursSpec)

/-- ITS FALSE NEIGHBOUR: 'it returns false'. Refute it at one input. -/
def fnExactCertainPoursWrong : ChangeSpec := { name := "fnExactCertainPours", fn := fun _ => fun
  | [d] => { results := [.lit (.bool false)], args := [d] }
  | _ => none }
def FnExactCertainPoursWrongFalsely : Prop := fnExactCertainPoursRow.holds Try.pinned (OpenSpec.ofChange fnExactCertainPoursWrong)

/-- 'laws.FnExactReachBy': WHATEVER THE INPUT: true; the input reads as it did. -/
def fnExactReachBySpec : ChangeSpec := { name := "fnExactReachBy", fn := fun _ => fun
  | [d1, d2, d3, d4] => { results := [.lit (.bool true)], args := [d1, d2, d3, d4] }
  | _ => none }
def fnExactReachByRow : OpenClaim := { program := "ytfdpeenamkpcbaa", sum := "cc1213d10d62729afdaad1abeb6fc2fdfab38713e49c786862ca3d0daac7040b", func := "loop.example/g01215/laws.FnExactReachBy", spec := "fnExactReachBy", unfollowed := true, recurses := true, plainKeys := false, apart := false }
def FnExactReachBySaid : Prop := fnExactReachByRow.holds Try.pinned (OpenSpec.ofChange fnExactReachBySpec)

/-- ITS FALSE NEIGHBOUR: 'it returns false'. Refute it at one input. -/
def fnExactReachByWrong : ChangeSpec := { name := "fnExactReachBy", fn := fun _ => fun
  | [d1, d2, d3, d4] => { results := [.lit (.bool false)], args := [d1, d2, d3, d4] }
  | _ => none }
def FnExactReachByWrongFalsely : Prop := fnExactReachByRow.holds Try.pinned (OpenSpec.ofChange fnExactReachByWrong)

/-- 'laws.FnExactChanceSorted': WHATEVER THE INPUT: true; the input reads as it did. -/
def fnExactChanceSortedSpec : ChangeSpec := { name := "fnExactChanceSorted", fn := fun _ => fun
  | [d] => { results := [.lit (.bool true)], args := [d] }
  | _ => none }
def fnExactChanceSortedRow : OpenClaim := { program := "ytfdpeenamkpcbaa", sum := "cc1213d10d62729afdaad1abeb6fc2fdfab38713e49c786862ca3d0daac7040b", func := "loop.example/g01215/laws.FnExactChanceSorted", spec := "fnExactChanceSorted", unfollowed := true, recurses := true, plainKeys := false, apart := false }
def FnExactChanceSortedSaid : Prop := fnExactChanceSortedRow.holds Try.pinned (OpenSpec.ofChange fnExactChanceSortedSpec)

/-- ITS FALSE NEIGHBOUR: 'it returns false'. Refute it at one input. -/
def fnExactChanceSortedWrong : ChangeSpec := { name := "fnExactChanceSorted", fn := fun _ => fun
  | [d] => { results := [.lit (.bool false)], args := [d] }
  | _ => none }
def FnExactChanceSortedWrongFalsely : Prop := fnExactChanceSortedRow.holds Try.pinned (OpenSpec.ofChange fnExactChanceSortedWrong)

/-- 'laws.FnExactBackTo': WHATEVER THE INPUT: true; the input reads as it did. -/
def fnExactBackToSpec : ChangeSpec := { name := "fnExactBackTo", fn := fun _ => fun
  | [d1, d2] => { results := [.lit (.bool true)], args := [d1, d2] }
  | _ => none }
def fnExactBackToRow : OpenClaim := { program := "ytfdpeenamkpcbaa", sum := "cc1213d10d62729afdaad1abeb6fc2fdfab38713e49c786862ca3d0daac7040b", func := "loop.example/g01215/laws.FnExactBackTo", spec := "fnExactBackTo", unfollowed := true, recurses := true, plainKeys := false, apart := false }
def FnExactBackToSaid : Prop := fnExactBackToRow.holds Try.pinned (OpenSpec.ofChange fnExactBackToSpec)

/-- ITS FALSE NEIGHBOUR: 'it returns false'. Refute it at one input. -/
def fnExactBackToWrong : ChangeSpec := { name := "fnExactBackTo", fn := fun _ => fun
  | [d1, d2] => { results := [.lit (.bool false)], args := [d1, d2] }
  | _ => none }
def FnExactBackToWrongFalsely : Prop := fnExactBackToRow.holds Try.pinned (OpenSpec.ofChange fnExactBackToWrong)

/-- 'laws.FnExactFewestBy': WHATEVER THE INPUT: true; the input reads as it did. -/
def fnExactFewestBySpec : ChangeSpec := { name := "fnExactFewestBy", fn := fun _ => fun
  | [d1, d2, d3] => { results := [.lit (.bool true)], args := [d1, d2, d3] }
  | _ => none }
def fnExactFewestByRow : OpenClaim := { program := "ytfdpeenamkpcbaa", sum := "cc1213d10d62729afdaad1abeb6fc2fdfab38713e49c786862ca3d0daac7040b", func := "loop.example/g01215/laws.FnExactFewestBy", spec := "fnExactFewestBy", unfollowed := true, recurses := true, plainKeys := false, apart := false }
def FnExactFewestBySaid : Prop := fnExactFewestByRow.holds Try.pinned (OpenSpec.ofChange fnExactFewestBySpec)

/-- ITS FALSE NEIGHBOUR: 'it returns false'. Refute it at one input. -/
def fnExactFewestByWrong : ChangeSpec := { name := "fnExactFewestBy", fn := fun _ => fun
  | [d1, d2, d3] => { results := [.lit (.bool false)], args := [d1, d2, d3] }
  | _ => none }
def FnExactFewestByWrongFalsely : Prop := fnExactFewestByRow.holds Try.pinned (OpenSpec.ofChange fnExactFewestByWrong)

/-- 'laws.FnExactMixedBy': WHATEVER THE INPUT: true; the input reads as it did. -/
def fnExactMixedBySpec : ChangeSpec := { name := "fnExactMixedBy", fn := fun _ => fun
  | [d1, d2] => { results := [.lit (.bool true)], args := [d1, d2] }
  | _ => none }
def fnExactMixedByRow : OpenClaim := { program := "ytfdpeenamkpcbaa", sum := "cc1213d10d62729afdaad1abeb6fc2fdfab38713e49c786862ca3d0daac7040b", func := "loop.example/g01215/laws.FnExactMixedBy", spec := "fnExactMixedBy", unfollowed := true, recurses := true, plainKeys := false, apart := false }
def FnExactMixedBySaid : Prop := fnExactMixedByRow.holds Try.pinned (OpenSpec.ofChange fnExactMixedBySpec)

/-- ITS FALSE NEIGHBOUR: 'it returns false'. Refute it at one input. -/
def fnExactMixedByWrong : ChangeSpec := { name := "fnExactMixedBy", fn := fun _ => fun
  | [d1, d2] => { results := [.lit (.bool false)], args := [d1, d2] }
  | _ => none }
def FnExactMixedByWrongFalsely : Prop := fnExactMixedByRow.holds Try.pinned (OpenSpec.ofChange fnExactMixedByWrong)

/- THE SECOND FORM. 'bulk': how many values and letters a reading holds, each counted each time it is reached (what is shared counts as often as it is met; a slice's spare places count too). A statement '..UptoSaid' is the law's where the arguments, and the package variables that the reading takes, are together of bulk at most 1048576: NARROWER than '..Said'. Prove '..Said' where nothing that the law and all that it calls make is longer than what came in: it says more and counts as full. Else prove '..UptoSaid'. A law counts once. -/
mutual
def uptoBulk {H : Type} : DataW H → Nat
  | .lit (.string bytes) => bytes.length + 1
  | .lit _ => 1
  | .nil => 1
  | .ptr d => uptoBulk d + 1
  | .slice elems spare => uptoBulkAll elems + uptoBulkAll spare + 1
  | .agg parts => uptoBulkAll parts + 1
  | .iface _ d => uptoBulk d + 1
  | .map entries => uptoBulkEntries entries + 1
  | .held _ => 1
def uptoBulkAll {H : Type} : List (DataW H) → Nat
  | [] => 0
  | d :: r => uptoBulk d + uptoBulkAll r
def uptoBulkEntries {H : Type} : List (Lit × DataW H) → Nat
  | [] => 0
  | x :: r => uptoBulkEntry x + uptoBulkEntries r
def uptoBulkEntry {H : Type} : Lit × DataW H → Nat
  | (.string bytes, d) => bytes.length + uptoBulk d + 1
  | (_, d) => uptoBulk d + 1
 end
def uptoSmall : (H : Type) → List (DataW H) → Bool := fun _ ds => decide (uptoBulkAll ds ≤ 1048576)
def OpenSpec.upto (s : _root_.Go.ChangeSpec) : _root_.Go.OpenSpec := { _root_.Go.OpenSpec.ofChange s with cond := some uptoSmall }

/-- 'laws.FnExactDoPours', WHERE WHAT IT READS IS OF BULK AT MOST 1048576: true; the input reads as it did. -/
def fnExactDoPoursUptoRow : OpenClaim := { program := "ytfdpeenamkpcbaa", sum := "cc1213d10d62729afdaad1abeb6fc2fdfab38713e49c786862ca3d0daac7040b", func := "loop.example/g01215/laws.FnExactDoPours", spec := "fnExactDoPours", unfollowed := true, recurses := true, plainKeys := false, apart := false, narrowed := true }
def FnExactDoPoursUptoSaid : Prop := fnExactDoPoursUptoRow.holds Try.pinned (OpenSpec.upto fnExactDoPoursSpec)

/-- 'laws.FnExactRankOfRack', WHERE WHAT IT READS IS OF BULK AT MOST 1048576: true; the input reads as it did. -/
def fnExactRankOfRackUptoRow : OpenClaim := { program := "ytfdpeenamkpcbaa", sum := "cc1213d10d62729afdaad1abeb6fc2fdfab38713e49c786862ca3d0daac7040b", func := "loop.example/g01215/laws.FnExactRankOfRack", spec := "fnExactRankOfRack", unfollowed := true, recurses := true, plainKeys := false, apart := false, narrowed := true }
def FnExactRankOfRackUptoSaid : Prop := fnExactRankOfRackUptoRow.holds Try.pinned (OpenSpec.upto fnExactRankOfRackSpec)

/-- 'laws.FnExactCertainPours', WHERE WHAT IT READS IS OF BULK AT MOST 1048576: true; the input reads as it did. -/
def fnExactCertainPoursUptoRow : OpenClaim := { program := "ytfdpeenamkpcbaa", sum := "cc1213d10d62729afdaad1abeb6fc2fdfab38713e49c786862ca3d0daac7040b", func := "loop.example/g01215/laws.FnExactCertainPours", spec := "fnExactCertainPours", unfollowed := true, recurses := true, plainKeys := false, apart := false, narrowed := true }
def FnExactCertainPoursUptoSaid : Prop := fnExactCertainPoursUptoRow.holds Try.pinned (OpenSpec.upto fnExactCertainPoursSpec)

/-- 'laws.FnExactReachBy', WHERE WHAT IT READS IS OF BULK AT MOST 1048576: true; the input reads as it did. -/
def fnExactReachByUptoRow : OpenClaim := { program := "ytfdpeenamkpcbaa", sum := "cc1213d10d62729afdaad1abeb6fc2fdfab38713e49c786862ca3d0daac7040b", func := "loop.example/g01215/laws.FnExactReachBy", spec := "fnExactReachBy", unfollowed := true, recurses := true, plainKeys := false, apart := false, narrowed := true }
def FnExactReachByUptoSaid : Prop := fnExactReachByUptoRow.holds Try.pinned (OpenSpec.upto fnExactReachBySpec)

/-- 'laws.FnExactChanceSorted', WHERE WHAT IT READS IS OF BULK AT MOST 1048576: true; the input reads as it did. -/
def fnExactChanceSortedUptoRow : OpenClaim := { program := "ytfdpeenamkpcbaa", sum := "cc1213d10d62729afdaad1abeb6fc2fdfab38713e49c786862ca3d0daac7040b", func := "loop.example/g01215/laws.FnExactChanceSorted", spec := "fnExactChanceSorted", unfollowed := true, recurses := true, plainKeys := false, apart := false, narrowed := true }
def FnExactChanceSortedUptoSaid : Prop := fnExactChanceSortedUptoRow.holds Try.pinned (OpenSpec.upto fnExactChanceSortedSpec)

/-- 'laws.FnExactBackTo', WHERE WHAT IT READS IS OF BULK AT MOST 1048576: true; the input reads as it did. -/
def fnExactBackToUptoRow : OpenClaim := { program := "ytfdpeenamkpcbaa", sum := "cc1213d10d62729afdaad1abeb6fc2fdfab38713e49c786862ca3d0daac7040b", func := "loop.example/g01215/laws.FnExactBackTo", spec := "fnExactBackTo", unfollowed := true, recurses := true, plainKeys := false, apart := false, narrowed := true }
def FnExactBackToUptoSaid : Prop := fnExactBackToUptoRow.holds Try.pinned (OpenSpec.upto fnExactBackToSpec)

/-- 'laws.FnExactFewestBy', WHERE WHAT IT READS IS OF BULK AT MOST 1048576: true; the input reads as it did. -/
def fnExactFewestByUptoRow : OpenClaim := { program := "ytfdpeenamkpcbaa", sum := "cc1213d10d62729afdaad1abeb6fc2fdfab38713e49c786862ca3d0daac7040b", func := "loop.example/g01215/laws.FnExactFewestBy", spec := "fnExactFewestBy", unfollowed := true, recurses := true, plainKeys := false, apart := false, narrowed := true }
def FnExactFewestByUptoSaid : Prop := fnExactFewestByUptoRow.holds Try.pinned (OpenSpec.upto fnExactFewestBySpec)

/-- 'laws.FnExactMixedBy', WHERE WHAT IT READS IS OF BULK AT MOST 1048576: true; the input reads as it did. -/
def fnExactMixedByUptoRow : OpenClaim := { program := "ytfdpeenamkpcbaa", sum := "cc1213d10d62729afdaad1abeb6fc2fdfab38713e49c786862ca3d0daac7040b", func := "loop.example/g01215/laws.FnExactMixedBy", spec := "fnExactMixedBy", unfollowed := true, recurses := true, plainKeys := false, apart := false, narrowed := true }
def FnExactMixedByUptoSaid : Prop := fnExactMixedByUptoRow.holds Try.pinned (OpenSpec.upto fnExactMixedBySpec)

end Rows
end Go.Proofs.Ytfdpeenamkpcbaa
