/-
  No cell of these rows narrows 'for every input' (looked for: loops, veiled, ifaces, maps, wideKeys, modest, calm, conditions, laid).
  DERIVED. THE GIVEN ROWS OF THIS SEAT. 12 by the template 'for every input the law returns true; each argument reads behind the call as it read before'; 0 by the template 'total and deterministic' (their statements: YtneoccmigccbeaaTotals.lean).
  GIVEN WITH THE SEED: the statements are not yours to turn. If you find one false, say at which input.
  Laid BY PROGRAM, IN A SANDBOX (cutbox-rows.mjs): the forced cells as the released guide's own fill.sh prints them over the translation 7eefff35cb4fa3eb… (all of the seat's roots in one cut). By AI agents, Wed Nov 11 2026. No macro, syntax, notation, axiom, sorry.
-/
import Derived.Test.YtneoccmigccbeaaChecked
import GoSem.Claim
import GoSem.ClaimJoined
import GoSem.ClaimMapViews
import Derived.JoinedTies
import Derived.KernelRfl
namespace Go.Proofs.Ytneoccmigccbeaa
/- THE CELL 'sum', in the pinned program and in every row, IS THE sha256 OF THE DUMP (.gsa) THAT YtneoccmigccbeaaProg.lean LOADS. Nothing in Lean hashes anything: it is a label: what it is worth is what the hold of that sum in a sandbox is worth. -/
noncomputable def Try.pinned : Pinned := { name := "ytneoccmigccbeaa", sum := "7eefff35cb4fa3eb024e51e8d14925f6d68e6e8bc095f3efa628892df9e3fd02", checked := Try.checked }
namespace Rows
def none {H : Type} : Left H := { results := [], args := [] }

/-- 'laws.FnExactRankOfRack': WHATEVER THE INPUT: true; the input reads as it did. -/
def fnExactRankOfRackSpec : ChangeSpec := { name := "fnExactRankOfRack", fn := fun _ => fun
  | [d] => { results := [.lit (.bool true)], args := [d] }
  | _ => none }
def fnExactRankOfRackRow : OpenClaim := { program := "ytneoccmigccbeaa", sum := "7eefff35cb4fa3eb024e51e8d14925f6d68e6e8bc095f3efa628892df9e3fd02", func := "loop.example/g01215/laws.FnExactRankOfRack", spec := "fnExactRankOfRack", unfollowed := true, recurses := true, apart := false }
def FnExactRankOfRackSaid : Prop := fnExactRankOfRackRow.holds Try.pinned (OpenSpec.ofChange fnExactRankOfRackSpec)

/-- ITS FALSE NEIGHBOUR: 'it returns false'. Refute it at one input. -/
def fnExactRankOfRackWrong : ChangeSpec := { name := "fnExactRankOfRack", fn := fun _ => fun
  | [d] => { results := [.lit (.bool false)], args := [d] }
  | _ => none }
def FnExactRankOfRackWrongFalsely : Prop := fnExactRankOfRackRow.holds Try.pinned (OpenSpec.ofChange fnExactRankOfRackWrong)

/-- 'laws.FnExactViewBehind': WHATEVER THE INPUT: true; the input reads as it did. -/
def fnExactViewBehindSpec : ChangeSpec := { name := "fnExactViewBehind", fn := fun _ => fun
  | [d1, d2, d3] => { results := [.lit (.bool true)], args := [d1, d2, d3] }
  | _ => none }
def fnExactViewBehindRow : OpenClaim := { program := "ytneoccmigccbeaa", sum := "7eefff35cb4fa3eb024e51e8d14925f6d68e6e8bc095f3efa628892df9e3fd02", func := "loop.example/g01215/laws.FnExactViewBehind", spec := "fnExactViewBehind", unfollowed := true, recurses := true, apart := false }
def FnExactViewBehindSaid : Prop := fnExactViewBehindRow.holds Try.pinned (OpenSpec.ofChange fnExactViewBehindSpec)

/-- ITS FALSE NEIGHBOUR: 'it returns false'. Refute it at one input. -/
def fnExactViewBehindWrong : ChangeSpec := { name := "fnExactViewBehind", fn := fun _ => fun
  | [d1, d2, d3] => { results := [.lit (.bool false)], args := [d1, d2, d3] }
  | _ => none }
def FnExactViewBehindWrongFalsely : Prop := fnExactViewBehindRow.holds Try.pinned (OpenSpec.ofChange fnExactViewBehindWrong)

/-- 'laws.FnExactIsStuck': WHATEVER THE INPUT: true; the input reads as it did. -/
def fnExactIsStuckSpec : ChangeSpec := { name := "fnExactIsStuck", fn := fun _ => fun
  | [d] => { results := [.lit (.bool true)], args := [d] }
  | _ => none }
def fnExactIsStuckRow : OpenClaim := { program := "ytneoccmigccbeaa", sum := "7eefff35cb4fa3eb024e51e8d14925f6d68e6e8bc095f3efa628892df9e3fd02", func := "loop.example/g01215/laws.FnExactIsStuck", spec := "fnExactIsStuck", unfollowed := true, recurses := true, apart := false }
def FnExactIsStuckSaid : Prop := fnExactIsStuckRow.holds Try.pinned (OpenSpec.ofChange fnExactIsStuckSpec)

/-- ITS FALSE NEIGHBOUR: 'it returns false'. Refute it at one input. -/
def fnExactIsStuckWrong : ChangeSpec := { name := "fnExactIsStuck", fn := fun _ => fun
  | [d] => { results := [.lit (.bool false)], args := [d] }
  | _ => none }
def FnExactIsStuckWrongFalsely : Prop := fnExactIsStuckRow.holds Try.pinned (OpenSpec.ofChange fnExactIsStuckWrong)

/-- 'laws.FnExactIsGarden': WHATEVER THE INPUT: true; the input reads as it did. -/
def fnExactIsGardenSpec : ChangeSpec := { name := "fnExactIsGarden", fn := fun _ => fun
  | [d] => { results := [.lit (.bool true)], args := [d] }
  | _ => none }
def fnExactIsGardenRow : OpenClaim := { program := "ytneoccmigccbeaa", sum := "7eefff35cb4fa3eb024e51e8d14925f6d68e6e8bc095f3efa628892df9e3fd02", func := "loop.example/g01215/laws.FnExactIsGarden", spec := "fnExactIsGarden", unfollowed := true, recurses := true, apart := false }
def FnExactIsGardenSaid : Prop := fnExactIsGardenRow.holds Try.pinned (OpenSpec.ofChange fnExactIsGardenSpec)

/-- ITS FALSE NEIGHBOUR: 'it returns false'. Refute it at one input. -/
def fnExactIsGardenWrong : ChangeSpec := { name := "fnExactIsGarden", fn := fun _ => fun
  | [d] => { results := [.lit (.bool false)], args := [d] }
  | _ => none }
def FnExactIsGardenWrongFalsely : Prop := fnExactIsGardenRow.holds Try.pinned (OpenSpec.ofChange fnExactIsGardenWrong)

/-- 'laws.FnExactPourBack': WHATEVER THE INPUT: true; the input reads as it did. -/
def fnExactPourBackSpec : ChangeSpec := { name := "fnExactPourBack", fn := fun _ => fun
  | [d1, d2] => { results := [.lit (.bool true)], args := [d1, d2] }
  | _ => none }
def fnExactPourBackRow : OpenClaim := { program := "ytneoccmigccbeaa", sum := "7eefff35cb4fa3eb024e51e8d14925f6d68e6e8bc095f3efa628892df9e3fd02", func := "loop.example/g01215/laws.FnExactPourBack", spec := "fnExactPourBack", unfollowed := true, recurses := true, apart := false }
def FnExactPourBackSaid : Prop := fnExactPourBackRow.holds Try.pinned (OpenSpec.ofChange fnExactPourBackSpec)

/-- ITS FALSE NEIGHBOUR: 'it returns false'. Refute it at one input. -/
def fnExactPourBackWrong : ChangeSpec := { name := "fnExactPourBack", fn := fun _ => fun
  | [d1, d2] => { results := [.lit (.bool false)], args := [d1, d2] }
  | _ => none }
def FnExactPourBackWrongFalsely : Prop := fnExactPourBackRow.holds Try.pinned (OpenSpec.ofChange fnExactPourBackWrong)

/-- 'laws.FnExactUsefulPours': WHATEVER THE INPUT: true; the input reads as it did. -/
def fnExactUsefulPoursSpec : ChangeSpec := { name := "fnExactUsefulPours", fn := fun _ => fun
  | [d] => { results := [.lit (.bool true)], args := [d] }
  | _ => none }
def fnExactUsefulPoursRow : OpenClaim := { program := "ytneoccmigccbeaa", sum := "7eefff35cb4fa3eb024e51e8d14925f6d68e6e8bc095f3efa628892df9e3fd02", func := "loop.example/g01215/laws.FnExactUsefulPours", spec := "fnExactUsefulPours", unfollowed := true, recurses := true, apart := false }
def FnExactUsefulPoursSaid : Prop := fnExactUsefulPoursRow.holds Try.pinned (OpenSpec.ofChange fnExactUsefulPoursSpec)

/-- ITS FALSE NEIGHBOUR: 'it returns false'. Refute it at one input. -/
def fnExactUsefulPoursWrong : ChangeSpec := { name := "fnExactUsefulPours", fn := fun _ => fun
  | [d] => { results := [.lit (.bool false)], args := [d] }
  | _ => none }
def FnExactUsefulPoursWrongFalsely : Prop := fnExactUsefulPoursRow.holds Try.pinned (OpenSpec.ofChange fnExactUsefulPoursWrong)

/-- 'laws.FnExactDropsFor': WHATEVER THE INPUT: true; the input reads as it did. -/
def fnExactDropsForSpec : ChangeSpec := { name := "fnExactDropsFor", fn := fun _ => fun
  | [d1, d2, d3, d4] => { results := [.lit (.bool true)], args := [d1, d2, d3, d4] }
  | _ => none }
def fnExactDropsForRow : OpenClaim := { program := "ytneoccmigccbeaa", sum := "7eefff35cb4fa3eb024e51e8d14925f6d68e6e8bc095f3efa628892df9e3fd02", func := "loop.example/g01215/laws.FnExactDropsFor", spec := "fnExactDropsFor", unfollowed := true, recurses := true, apart := false }
def FnExactDropsForSaid : Prop := fnExactDropsForRow.holds Try.pinned (OpenSpec.ofChange fnExactDropsForSpec)

/-- ITS FALSE NEIGHBOUR: 'it returns false'. Refute it at one input. -/
def fnExactDropsForWrong : ChangeSpec := { name := "fnExactDropsFor", fn := fun _ => fun
  | [d1, d2, d3, d4] => { results := [.lit (.bool false)], args := [d1, d2, d3, d4] }
  | _ => none }
def FnExactDropsForWrongFalsely : Prop := fnExactDropsForRow.holds Try.pinned (OpenSpec.ofChange fnExactDropsForWrong)

/-- 'laws.FnExactCountRules': WHATEVER THE INPUT: true; the input reads as it did. -/
def fnExactCountRulesSpec : ChangeSpec := { name := "fnExactCountRules", fn := fun _ => fun
  | [d1, d2] => { results := [.lit (.bool true)], args := [d1, d2] }
  | _ => none }
def fnExactCountRulesRow : OpenClaim := { program := "ytneoccmigccbeaa", sum := "7eefff35cb4fa3eb024e51e8d14925f6d68e6e8bc095f3efa628892df9e3fd02", func := "loop.example/g01215/laws.FnExactCountRules", spec := "fnExactCountRules", unfollowed := true, recurses := true, apart := false }
def FnExactCountRulesSaid : Prop := fnExactCountRulesRow.holds Try.pinned (OpenSpec.ofChange fnExactCountRulesSpec)

/-- ITS FALSE NEIGHBOUR: 'it returns false'. Refute it at one input. -/
def fnExactCountRulesWrong : ChangeSpec := { name := "fnExactCountRules", fn := fun _ => fun
  | [d1, d2] => { results := [.lit (.bool false)], args := [d1, d2] }
  | _ => none }
def FnExactCountRulesWrongFalsely : Prop := fnExactCountRulesRow.holds Try.pinned (OpenSpec.ofChange fnExactCountRulesWrong)

/-- 'laws.FnExactCertainPours': WHATEVER THE INPUT: true; the input reads as it did. -/
def fnExactCertainPoursSpec : ChangeSpec := { name := "fnExactCertainPours", fn := fun _ => fun
  | [d] => { results := [.lit (.bool true)], args := [d] }
  | _ => none }
def fnExactCertainPoursRow : OpenClaim := { program := "ytneoccmigccbeaa", sum := "7eefff35cb4fa3eb024e51e8d14925f6d68e6e8bc095f3efa628892df9e3fd02", func := "loop.example/g01215/laws.FnExactCertainPours", spec := "fnExactCertainPours", unfollowed := true, recurses := true, apart := false }
def FnExactCertainPoursSaid : Prop := fnExactCertainPoursRow.holds Try.pinned (OpenSpec.ofChange fnExactCertainPoursSpec)

/-- ITS FALSE NEIGHBOUR: 'it returns false'. Refute it at one input. -/
def fnExactCertainPoursWrong : ChangeSpec := { name := "fnExactCertainPours", fn := fun _ => fun
  | [d] => { results := [.lit (.bool false)], args := [d] }
  | _ => none }
def FnExactCertainPoursWrongFalsely : Prop := fnExactCertainPoursRow.holds Try.pinned (OpenSpec.ofChange fnExactCertainPoursWrong)

/-- 'laws.FnExactPourChange': WHATEVER THE INPUT: true; the input reads as it did. -/
def fnExactPourChangeSpec : ChangeSpec := { name := "fnExactPourChange", fn := fun _ => fun
  | [d1, d2, d3] => { results := [.lit (.bool true)], args := [d1, d2, d3] }
  | _ => none }
def fnExactPourChangeRow : OpenClaim := { program := "ytneoccmigccbeaa", sum := "7eefff35cb4fa3eb024e51e8d14925f6d68e6e8bc095f3efa628892df9e3fd02", func := "loop.example/g01215/laws.FnExactPourChange", spec := "fnExactPourChange", unfollowed := true, recurses := true, apart := false }
def FnExactPourChangeSaid : Prop := fnExactPourChangeRow.holds Try.pinned (OpenSpec.ofChange fnExactPourChangeSpec)

/-- ITS FALSE NEIGHBOUR: 'it returns false'. Refute it at one input. -/
def fnExactPourChangeWrong : ChangeSpec := { name := "fnExactPourChange", fn := fun _ => fun
  | [d1, d2, d3] => { results := [.lit (.bool false)], args := [d1, d2, d3] }
  | _ => none }
def FnExactPourChangeWrongFalsely : Prop := fnExactPourChangeRow.holds Try.pinned (OpenSpec.ofChange fnExactPourChangeWrong)

/-- 'laws.FnExactDoPours': WHATEVER THE INPUT: true; the input reads as it did. -/
def fnExactDoPoursSpec : ChangeSpec := { name := "fnExactDoPours", fn := fun _ => fun
  | [d1, d2] => { results := [.lit (.bool true)], args := [d1, d2] }
  | _ => none }
def fnExactDoPoursRow : OpenClaim := { program := "ytneoccmigccbeaa", sum := "7eefff35cb4fa3eb024e51e8d14925f6d68e6e8bc095f3efa628892df9e3fd02", func := "loop.example/g01215/laws.FnExactDoPours", spec := "fnExactDoPours", unfollowed := true, recurses := true, apart := false }
def FnExactDoPoursSaid : Prop := fnExactDoPoursRow.holds Try.pinned (OpenSpec.ofChange fnExactDoPoursSpec)

/-- ITS FALSE NEIGHBOUR: 'it returns false'. Refute it at one input. -/
def fnExactDoPoursWrong : ChangeSpec := { name := "fnExactDoPours", fn := fun _ => fun
  | [d1, d2] => { results := [.lit (.bool false)], args := [d1, d2] }
  | _ => none }
def FnExactDoPoursWrongFalsely : Prop := fnExactDoPoursRow.holds Try.pinned (OpenSpec.ofChange fnExactDoPoursWrong)

/-- 'laws.FnExactPourBy': WHATEVER THE INPUT: true; the input reads as it did. -/
def fnExactPourBySpec : ChangeSpec := { name := "fnExactPourBy", fn := fun _ => fun
  | [d1, d2, d3, d4, d5] => { results := [.lit (.bool true)], args := [d1, d2, d3, d4, d5] }
  | _ => none }
def fnExactPourByRow : OpenClaim := { program := "ytneoccmigccbeaa", sum := "7eefff35cb4fa3eb024e51e8d14925f6d68e6e8bc095f3efa628892df9e3fd02", func := "loop.example/g01215/laws.FnExactPourBy", spec := "fnExactPourBy", unfollowed := true, recurses := true, apart := false }
def FnExactPourBySaid : Prop := fnExactPourByRow.holds Try.pinned (OpenSpec.ofChange fnExactPourBySpec)

/-- ITS FALSE NEIGHBOUR: 'it returns false'. Refute it at one input. -/
def fnExactPourByWrong : ChangeSpec := { name := "fnExactPourBy", fn := fun _ => fun
  | [d1, d2, d3, d4, d5] => { results := [.lit (.bool false)], args := [d1, d2, d3, d4, d5] }
  | _ => none }
def FnExactPourByWrongFalsely : Prop := fnExactPourByRow.holds Try.pinned (OpenSpec.ofChange fnExactPourByWrong)

/- THE SECOND FORM. 'bulk': how many values and letters a reading holds, each counted each time it is reached (what is shared counts as often as it is met; a slice's spare places count too). A statement '..UptoSaid' is the law's where the arguments, and the package variables that the reading takes, are together of bulk at most 1048576: NARROWER than '..Said'. Prove '..Said' where nothing that the law and all that it calls make is longer than what came in: it says more and counts as full. Else prove '..UptoSaid'. A law counts once. -/
mutual
def uptoBulk {H : Type} : DataW H → Nat
  | .lit (.string bytes) => bytes.length + 1
  | .lit _ => 1
  | .nil => 1
  | .ptr d => uptoBulk d + 1
  | .slice elems spare => uptoBulkAll elems + uptoBulkAll spare + 1
  | .agg parts => uptoBulkAll parts + 1
  | .iface _ d => uptoBulk d + 1
  | .map entries => uptoBulkEntries entries + 1
  | .held _ => 1
def uptoBulkAll {H : Type} : List (DataW H) → Nat
  | [] => 0
  | d :: r => uptoBulk d + uptoBulkAll r
def uptoBulkEntries {H : Type} : List (Lit × DataW H) → Nat
  | [] => 0
  | x :: r => uptoBulkEntry x + uptoBulkEntries r
def uptoBulkEntry {H : Type} : Lit × DataW H → Nat
  | (.string bytes, d) => bytes.length + uptoBulk d + 1
  | (_, d) => uptoBulk d + 1
 end
def uptoSmall : (H : Type) → List (DataW H) → Bool := fun _ ds => decide (uptoBulkAll ds ≤ 1048576)
def OpenSpec.upto (s : _root_.Go.ChangeSpec) : _root_.Go.OpenSpec := { _root_.Go.OpenSpec.ofChange s with cond := some uptoSmall }

/-- 'laws.FnExactRankOfRack', WHERE WHAT IT READS IS OF BULK AT MOST 1048576: true; the input reads as it did. -/
def fnExactRankOfRackUptoRow : OpenClaim := { program := "ytneoccmigccbeaa", sum := "7eefff35cb4fa3eb024e51e8d14925f6d68e6e8bc095f3efa628892df9e3fd02", func := "loop.example/g01215/laws.FnExactRankOfRack", spec := "fnExactRankOfRack", unfollowed := true, recurses := true, apart := false, narrowed := true }
def FnExactRankOfRackUptoSaid : Prop := fnExactRankOfRackUptoRow.holds Try.pinned (OpenSpec.upto fnExactRankOfRackSpec)

/-- 'laws.FnExactViewBehind', WHERE WHAT IT READS IS OF BULK AT MOST 1048576: true; the input reads as it did. -/
def fnExactViewBehindUptoRow : OpenClaim := { program := "ytneoccmigccbeaa", sum := "7eefff35cb4fa3eb024e51e8d14925f6d68e6e8bc095f3efa628892df9e3fd02", func := "loop.example/g01215/laws.FnExactViewBehind", spec := "fnExactViewBehind", unfollowed := true, recurses := true, apart := false, narrowed := true }
def FnExactViewBehindUptoSaid : Prop := fnExactViewBehindUptoRow.holds Try.pinned (OpenSpec.upto fnExactViewBehindSpec)

/-- 'laws.FnExactIsStuck', WHERE WHAT IT READS IS OF BULK AT MOST 1048576: true; the input reads as it did. -/
def fnExactIsStuckUptoRow : OpenClaim := { program := "ytneoccmigccbeaa", sum := "7eefff35cb4fa3eb024e51e8d14925f6d68e6e8bc095f3efa628892df9e3fd02", func := "loop.example/g01215/laws.FnExactIsStuck", spec := "fnExactIsStuck", unfollowed := true, recurses := true, apart := false, narrowed := true }
def FnExactIsStuckUptoSaid : Prop := fnExactIsStuckUptoRow.holds Try.pinned (OpenSpec.upto fnExactIsStuckSpec)

/-- 'laws.FnExactIsGarden', WHERE WHAT IT READS IS OF BULK AT MOST 1048576: true; the input reads as it did. -/
def fnExactIsGardenUptoRow : OpenClaim := { program := "ytneoccmigccbeaa", sum := "7eefff35cb4fa3eb024e51e8d14925f6d68e6e8bc095f3efa628892df9e3fd02", func := "loop.example/g01215/laws.FnExactIsGarden", spec := "fnExactIsGarden", unfollowed := true, recurses := true, apart := false, narrowed := true }
def FnExactIsGardenUptoSaid : Prop := fnExactIsGardenUptoRow.holds Try.pinned (OpenSpec.upto fnExactIsGardenSpec)

/-- 'laws.FnExactPourBack', WHERE WHAT IT READS IS OF BULK AT MOST 1048576: true; the input reads as it did. -/
def fnExactPourBackUptoRow : OpenClaim := { program := "ytneoccmigccbeaa", sum := "7eefff35cb4fa3eb024e51e8d14925f6d68e6e8bc095f3efa628892df9e3fd02", func := "loop.example/g01215/laws.FnExactPourBack", spec := "fnExactPourBack", unfollowed := true, recurses := true, apart := false, narrowed := true }
def FnExactPourBackUptoSaid : Prop := fnExactPourBackUptoRow.holds Try.pinned (OpenSpec.upto fnExactPourBackSpec)

/-- 'laws.FnExactUsefulPours', WHERE WHAT IT READS IS OF BULK AT MOST 1048576: true; the input reads as it did. -/
def fnExactUsefulPoursUptoRow : OpenClaim := { program := "ytneoccmigccbeaa", sum := "7eefff35cb4fa3eb024e51e8d14925f6d68e6e8bc095f3efa628892df9e3fd02", func := "loop.example/g01215/laws.FnExactUsefulPours", spec := "fnExactUsefulPours", unfollowed := true, recurses := true, apart := false, narrowed := true }
def FnExactUsefulPoursUptoSaid : Prop := fnExactUsefulPoursUptoRow.holds Try.pinned (OpenSpec.upto fnExactUsefulPoursSpec)

/-- 'laws.FnExactDropsFor', WHERE WHAT IT READS IS OF BULK AT MOST 1048576: true; the input reads as it did. -/
def fnExactDropsForUptoRow : OpenClaim := { program := "ytneoccmigccbeaa", sum := "7eefff35cb4fa3eb024e51e8d14925f6d68e6e8bc095f3efa628892df9e3fd02", func := "loop.example/g01215/laws.FnExactDropsFor", spec := "fnExactDropsFor", unfollowed := true, recurses := true, apart := false, narrowed := true }
def FnExactDropsForUptoSaid : Prop := fnExactDropsForUptoRow.holds Try.pinned (OpenSpec.upto fnExactDropsForSpec)

/-- 'laws.FnExactCountRules', WHERE WHAT IT READS IS OF BULK AT MOST 1048576: true; the input reads as it did. -/
def fnExactCountRulesUptoRow : OpenClaim := { program := "ytneoccmigccbeaa", sum := "7eefff35cb4fa3eb024e51e8d14925f6d68e6e8bc095f3efa628892df9e3fd02", func := "loop.example/g01215/laws.FnExactCountRules", spec := "fnExactCountRules", unfollowed := true, recurses := true, apart := false, narrowed := true }
def FnExactCountRulesUptoSaid : Prop := fnExactCountRulesUptoRow.holds Try.pinned (OpenSpec.upto fnExactCountRulesSpec)

/-- 'laws.FnExactCertainPours', WHERE WHAT IT READS IS OF BULK AT MOST 1048576: true; the input reads as it did. -/
def fnExactCertainPoursUptoRow : OpenClaim := { program := "ytneoccmigccbeaa", sum := "7eefff35cb4fa3eb024e51e8d14925f6d68e6e8bc095f3efa628892df9e3fd02", func := "loop.example/g01215/laws.FnExactCertainPours", spec := "fnExactCertainPours", unfollowed := true, recurses := true, apart := false, narrowed := true }
def FnExactCertainPoursUptoSaid : Prop := fnExactCertainPoursUptoRow.holds Try.pinned (OpenSpec.upto fnExactCertainPoursSpec)

/-- 'laws.FnExactPourChange', WHERE WHAT IT READS IS OF BULK AT MOST 1048576: true; the input reads as it did. -/
def fnExactPourChangeUptoRow : OpenClaim := { program := "ytneoccmigccbeaa", sum := "7eefff35cb4fa3eb024e51e8d14925f6d68e6e8bc095f3efa628892df9e3fd02", func := "loop.example/g01215/laws.FnExactPourChange", spec := "fnExactPourChange", unfollowed := true, recurses := true, apart := false, narrowed := true }
def FnExactPourChangeUptoSaid : Prop := fnExactPourChangeUptoRow.holds Try.pinned (OpenSpec.upto fnExactPourChangeSpec)

/-- 'laws.FnExactDoPours', WHERE WHAT IT READS IS OF BULK AT MOST 1048576: true; the input reads as it did. -/
def fnExactDoPoursUptoRow : OpenClaim := { program := "ytneoccmigccbeaa", sum := "7eefff35cb4fa3eb024e51e8d14925f6d68e6e8bc095f3efa628892df9e3fd02", func := "loop.example/g01215/laws.FnExactDoPours", spec := "fnExactDoPours", unfollowed := true, recurses := true, apart := false, narrowed := true }
def FnExactDoPoursUptoSaid : Prop := fnExactDoPoursUptoRow.holds Try.pinned (OpenSpec.upto fnExactDoPoursSpec)

/-- 'laws.FnExactPourBy', WHERE WHAT IT READS IS OF BULK AT MOST 1048576: true; the input reads as it did. -/
def fnExactPourByUptoRow : OpenClaim := { program := "ytneoccmigccbeaa", sum := "7eefff35cb4fa3eb024e51e8d14925f6d68e6e8bc095f3efa628892df9e3fd02", func := "loop.example/g01215/laws.FnExactPourBy", spec := "fnExactPourBy", unfollowed := true, recurses := true, apart := false, narrowed := true }
def FnExactPourByUptoSaid : Prop := fnExactPourByUptoRow.holds Try.pinned (OpenSpec.upto fnExactPourBySpec)

end Rows
end Go.Proofs.Ytneoccmigccbeaa
