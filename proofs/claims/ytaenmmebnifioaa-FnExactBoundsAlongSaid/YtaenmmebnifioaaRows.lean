/-
  No cell of these rows narrows 'for every input' (looked for: loops, veiled, ifaces, maps, wideKeys, modest, calm, conditions, laid).
  DERIVED. THE GIVEN ROWS OF THIS SEAT. 12 by the template 'for every input the law returns true; each argument reads behind the call as it read before'; 0 by the template 'total and deterministic' (their statements: YtaenmmebnifioaaTotals.lean).
  GIVEN WITH THE SEED: the statements are not yours to turn. If you find one false, say at which input.
  Laid BY PROGRAM, IN A SANDBOX (cutbox-rows.mjs): the forced cells as the released guide's own fill.sh prints them over the translation 6a1edc7158803e79… (all of the seat's roots in one cut). By AI agents, Wed Nov 11 2026. No macro, syntax, notation, axiom, sorry.
-/
import Derived.Test.YtaenmmebnifioaaChecked
import GoSem.Claim
import GoSem.ClaimJoined
import GoSem.ClaimMapViews
import Derived.JoinedTies
import Derived.KernelRfl
namespace Go.Proofs.Ytaenmmebnifioaa
/- THE CELL 'sum', in the pinned program and in every row, IS THE sha256 OF THE DUMP (.gsa) THAT YtaenmmebnifioaaProg.lean LOADS. Nothing in Lean hashes anything: it is a label: what it is worth is what the hold of that sum in a sandbox is worth. -/
noncomputable def Try.pinned : Pinned := { name := "ytaenmmebnifioaa", sum := "6a1edc7158803e79a9ba8d807cda7a92c0ac52a4fe5905fc073d7cfca4f5fb21", checked := Try.checked }
namespace Rows
def none {H : Type} : Left H := { results := [], args := [] }

/-- 'laws.FnExactPoursBy': WHATEVER THE INPUT: true; the input reads as it did. -/
def fnExactPoursBySpec : ChangeSpec := { name := "fnExactPoursBy", fn := fun _ => fun
  | [d1, d2, d3] => { results := [.lit (.bool true)], args := [d1, d2, d3] }
  | _ => none }
def fnExactPoursByRow : OpenClaim := { program := "ytaenmmebnifioaa", sum := "6a1edc7158803e79a9ba8d807cda7a92c0ac52a4fe5905fc073d7cfca4f5fb21", func := "loop.example/g01215/laws.FnExactPoursBy", spec := "fnExactPoursBy", unfollowed := true, recurses := true, apart := false }
def FnExactPoursBySaid : Prop := fnExactPoursByRow.holds Try.pinned (OpenSpec.ofChange fnExactPoursBySpec)

/-- ITS FALSE NEIGHBOUR: 'it returns false'. Refute it at one input. -/
def fnExactPoursByWrong : ChangeSpec := { name := "fnExactPoursBy", fn := fun _ => fun
  | [d1, d2, d3] => { results := [.lit (.bool false)], args := [d1, d2, d3] }
  | _ => none }
def FnExactPoursByWrongFalsely : Prop := fnExactPoursByRow.holds Try.pinned (OpenSpec.ofChange fnExactPoursByWrong)

/-- 'laws.FnExactUndonePours': WHATEVER THE INPUT: true; the input reads as it did. -/
def fnExactUndonePoursSpec : ChangeSpec := { name := "fnExactUndonePours", fn := fun _ => fun
  | [d] => { results := [.lit (.bool true)], args := [d] }
  | _ => none }
def fnExactUndonePoursRow : OpenClaim := { program := "ytaenmmebnifioaa", sum := "6a1edc7158803e79a9ba8d807cda7a92c0ac52a4fe5905fc073d7cfca4f5fb21", func := "loop.example/g01215/laws.FnExactUndonePours", spec := "fnExactUndonePours", unfollowed := true, recurses := true, apart := false }
def FnExactUndonePoursSaid : Prop := fnExactUndonePoursRow.holds Try.pinned (OpenSpec.ofChange fnExactUndonePoursSpec)

/-- ITS FALSE NEIGHBOUR: 'it returns false'. Refute it at one input. -/
def fnExactUndonePoursWrong : ChangeSpec := { name := "fnExactUndonePours", fn := fun _ => fun
  | [d] => { results := [.lit (.bool false)], args := [d] }
  | _ => none }
def FnExactUndonePoursWrongFalsely : Prop := fnExactUndonePoursRow.holds Try.pinned (OpenSpec.ofChange fnExactUndonePoursWrong)

/-- 'laws.FnExactTurnBack': WHATEVER THE INPUT: true; the input reads as it did. -/
def fnExactTurnBackSpec : ChangeSpec := { name := "fnExactTurnBack", fn := fun _ => fun
  | [d1, d2, d3, d4] => { results := [.lit (.bool true)], args := [d1, d2, d3, d4] }
  | _ => none }
def fnExactTurnBackRow : OpenClaim := { program := "ytaenmmebnifioaa", sum := "6a1edc7158803e79a9ba8d807cda7a92c0ac52a4fe5905fc073d7cfca4f5fb21", func := "loop.example/g01215/laws.FnExactTurnBack", spec := "fnExactTurnBack", unfollowed := true, recurses := true, apart := false }
def FnExactTurnBackSaid : Prop := fnExactTurnBackRow.holds Try.pinned (OpenSpec.ofChange fnExactTurnBackSpec)

/-- ITS FALSE NEIGHBOUR: 'it returns false'. Refute it at one input. -/
def fnExactTurnBackWrong : ChangeSpec := { name := "fnExactTurnBack", fn := fun _ => fun
  | [d1, d2, d3, d4] => { results := [.lit (.bool false)], args := [d1, d2, d3, d4] }
  | _ => none }
def FnExactTurnBackWrongFalsely : Prop := fnExactTurnBackRow.holds Try.pinned (OpenSpec.ofChange fnExactTurnBackWrong)

/-- 'laws.FnExactSamePours': WHATEVER THE INPUT: true; the input reads as it did. -/
def fnExactSamePoursSpec : ChangeSpec := { name := "fnExactSamePours", fn := fun _ => fun
  | [d1, d2] => { results := [.lit (.bool true)], args := [d1, d2] }
  | _ => none }
def fnExactSamePoursRow : OpenClaim := { program := "ytaenmmebnifioaa", sum := "6a1edc7158803e79a9ba8d807cda7a92c0ac52a4fe5905fc073d7cfca4f5fb21", func := "loop.example/g01215/laws.FnExactSamePours", spec := "fnExactSamePours", unfollowed := true, recurses := true, apart := false }
def FnExactSamePoursSaid : Prop := fnExactSamePoursRow.holds Try.pinned (OpenSpec.ofChange fnExactSamePoursSpec)

/-- ITS FALSE NEIGHBOUR: 'it returns false'. Refute it at one input. -/
def fnExactSamePoursWrong : ChangeSpec := { name := "fnExactSamePours", fn := fun _ => fun
  | [d1, d2] => { results := [.lit (.bool false)], args := [d1, d2] }
  | _ => none }
def FnExactSamePoursWrongFalsely : Prop := fnExactSamePoursRow.holds Try.pinned (OpenSpec.ofChange fnExactSamePoursWrong)

/-- 'laws.FnExactCommonPours': WHATEVER THE INPUT: true; the input reads as it did. -/
def fnExactCommonPoursSpec : ChangeSpec := { name := "fnExactCommonPours", fn := fun _ => fun
  | [d1, d2] => { results := [.lit (.bool true)], args := [d1, d2] }
  | _ => none }
def fnExactCommonPoursRow : OpenClaim := { program := "ytaenmmebnifioaa", sum := "6a1edc7158803e79a9ba8d807cda7a92c0ac52a4fe5905fc073d7cfca4f5fb21", func := "loop.example/g01215/laws.FnExactCommonPours", spec := "fnExactCommonPours", unfollowed := true, recurses := true, apart := false }
def FnExactCommonPoursSaid : Prop := fnExactCommonPoursRow.holds Try.pinned (OpenSpec.ofChange fnExactCommonPoursSpec)

/-- ITS FALSE NEIGHBOUR: 'it returns false'. Refute it at one input. -/
def fnExactCommonPoursWrong : ChangeSpec := { name := "fnExactCommonPours", fn := fun _ => fun
  | [d1, d2] => { results := [.lit (.bool false)], args := [d1, d2] }
  | _ => none }
def FnExactCommonPoursWrongFalsely : Prop := fnExactCommonPoursRow.holds Try.pinned (OpenSpec.ofChange fnExactCommonPoursWrong)

/-- 'laws.FnExactGoodPours': WHATEVER THE INPUT: true; the input reads as it did. -/
def fnExactGoodPoursSpec : ChangeSpec := { name := "fnExactGoodPours", fn := fun _ => fun
  | [d] => { results := [.lit (.bool true)], args := [d] }
  | _ => none }
def fnExactGoodPoursRow : OpenClaim := { program := "ytaenmmebnifioaa", sum := "6a1edc7158803e79a9ba8d807cda7a92c0ac52a4fe5905fc073d7cfca4f5fb21", func := "loop.example/g01215/laws.FnExactGoodPours", spec := "fnExactGoodPours", unfollowed := true, recurses := true, apart := false }
def FnExactGoodPoursSaid : Prop := fnExactGoodPoursRow.holds Try.pinned (OpenSpec.ofChange fnExactGoodPoursSpec)

/-- ITS FALSE NEIGHBOUR: 'it returns false'. Refute it at one input. -/
def fnExactGoodPoursWrong : ChangeSpec := { name := "fnExactGoodPours", fn := fun _ => fun
  | [d] => { results := [.lit (.bool false)], args := [d] }
  | _ => none }
def FnExactGoodPoursWrongFalsely : Prop := fnExactGoodPoursRow.holds Try.pinned (OpenSpec.ofChange fnExactGoodPoursWrong)

/-- 'laws.FnExactSourcesOf': WHATEVER THE INPUT: true; the input reads as it did. -/
def fnExactSourcesOfSpec : ChangeSpec := { name := "fnExactSourcesOf", fn := fun _ => fun
  | [d] => { results := [.lit (.bool true)], args := [d] }
  | _ => none }
def fnExactSourcesOfRow : OpenClaim := { program := "ytaenmmebnifioaa", sum := "6a1edc7158803e79a9ba8d807cda7a92c0ac52a4fe5905fc073d7cfca4f5fb21", func := "loop.example/g01215/laws.FnExactSourcesOf", spec := "fnExactSourcesOf", unfollowed := true, recurses := true, apart := false }
def FnExactSourcesOfSaid : Prop := fnExactSourcesOfRow.holds Try.pinned (OpenSpec.ofChange fnExactSourcesOfSpec)

/-- ITS FALSE NEIGHBOUR: 'it returns false'. Refute it at one input. -/
def fnExactSourcesOfWrong : ChangeSpec := { name := "fnExactSourcesOf", fn := fun _ => fun
  | [d] => { results := [.lit (.bool false)], args := [d] }
  | _ => none }
def FnExactSourcesOfWrongFalsely : Prop := fnExactSourcesOfRow.holds Try.pinned (OpenSpec.ofChange fnExactSourcesOfWrong)

/-- 'laws.FnExactChanceSorted': WHATEVER THE INPUT: true; the input reads as it did. -/
def fnExactChanceSortedSpec : ChangeSpec := { name := "fnExactChanceSorted", fn := fun _ => fun
  | [d] => { results := [.lit (.bool true)], args := [d] }
  | _ => none }
def fnExactChanceSortedRow : OpenClaim := { program := "ytaenmmebnifioaa", sum := "6a1edc7158803e79a9ba8d807cda7a92c0ac52a4fe5905fc073d7cfca4f5fb21", func := "loop.example/g01215/laws.FnExactChanceSorted", spec := "fnExactChanceSorted", unfollowed := true, recurses := true, apart := false }
def FnExactChanceSortedSaid : Prop := fnExactChanceSortedRow.holds Try.pinned (OpenSpec.ofChange fnExactChanceSortedSpec)

/-- ITS FALSE NEIGHBOUR: 'it returns false'. Refute it at one input. -/
def fnExactChanceSortedWrong : ChangeSpec := { name := "fnExactChanceSorted", fn := fun _ => fun
  | [d] => { results := [.lit (.bool false)], args := [d] }
  | _ => none }
def FnExactChanceSortedWrongFalsely : Prop := fnExactChanceSortedRow.holds Try.pinned (OpenSpec.ofChange fnExactChanceSortedWrong)

/-- 'laws.FnExactGoodPath': WHATEVER THE INPUT: true; the input reads as it did. -/
def fnExactGoodPathSpec : ChangeSpec := { name := "fnExactGoodPath", fn := fun _ => fun
  | [d] => { results := [.lit (.bool true)], args := [d] }
  | _ => none }
def fnExactGoodPathRow : OpenClaim := { program := "ytaenmmebnifioaa", sum := "6a1edc7158803e79a9ba8d807cda7a92c0ac52a4fe5905fc073d7cfca4f5fb21", func := "loop.example/g01215/laws.FnExactGoodPath", spec := "fnExactGoodPath", unfollowed := true, recurses := true, apart := false }
def FnExactGoodPathSaid : Prop := fnExactGoodPathRow.holds Try.pinned (OpenSpec.ofChange fnExactGoodPathSpec)

/-- ITS FALSE NEIGHBOUR: 'it returns false'. Refute it at one input. -/
def fnExactGoodPathWrong : ChangeSpec := { name := "fnExactGoodPath", fn := fun _ => fun
  | [d] => { results := [.lit (.bool false)], args := [d] }
  | _ => none }
def FnExactGoodPathWrongFalsely : Prop := fnExactGoodPathRow.holds Try.pinned (OpenSpec.ofChange fnExactGoodPathWrong)

/-- 'laws.FnExactIsGoodPath': WHATEVER THE INPUT: true; the input reads as it did. -/
def fnExactIsGoodPathSpec : ChangeSpec := { name := "fnExactIsGoodPath", fn := fun _ => fun
  | [d1, d2] => { results := [.lit (.bool true)], args := [d1, d2] }
  | _ => none }
def fnExactIsGoodPathRow : OpenClaim := { program := "ytaenmmebnifioaa", sum := "6a1edc7158803e79a9ba8d807cda7a92c0ac52a4fe5905fc073d7cfca4f5fb21", func := "loop.example/g01215/laws.FnExactIsGoodPath", spec := "fnExactIsGoodPath", unfollowed := true, recurses := true, apart := false }
def FnExactIsGoodPathSaid : Prop := fnExactIsGoodPathRow.holds Try.pinned (OpenSpec.ofChange fnExactIsGoodPathSpec)

/-- ITS FALSE NEIGHBOUR: 'it returns false'. Refute it at one input. -/
def fnExactIsGoodPathWrong : ChangeSpec := { name := "fnExactIsGoodPath", fn := fun _ => fun
  | [d1, d2] => { results := [.lit (.bool false)], args := [d1, d2] }
  | _ => none }
def FnExactIsGoodPathWrongFalsely : Prop := fnExactIsGoodPathRow.holds Try.pinned (OpenSpec.ofChange fnExactIsGoodPathWrong)

/-- 'laws.FnExactPourBacks': WHATEVER THE INPUT: true; the input reads as it did. -/
def fnExactPourBacksSpec : ChangeSpec := { name := "fnExactPourBacks", fn := fun _ => fun
  | [d1, d2] => { results := [.lit (.bool true)], args := [d1, d2] }
  | _ => none }
def fnExactPourBacksRow : OpenClaim := { program := "ytaenmmebnifioaa", sum := "6a1edc7158803e79a9ba8d807cda7a92c0ac52a4fe5905fc073d7cfca4f5fb21", func := "loop.example/g01215/laws.FnExactPourBacks", spec := "fnExactPourBacks", unfollowed := true, recurses := true, apart := false }
def FnExactPourBacksSaid : Prop := fnExactPourBacksRow.holds Try.pinned (OpenSpec.ofChange fnExactPourBacksSpec)

/-- ITS FALSE NEIGHBOUR: 'it returns false'. Refute it at one input. -/
def fnExactPourBacksWrong : ChangeSpec := { name := "fnExactPourBacks", fn := fun _ => fun
  | [d1, d2] => { results := [.lit (.bool false)], args := [d1, d2] }
  | _ => none }
def FnExactPourBacksWrongFalsely : Prop := fnExactPourBacksRow.holds Try.pinned (OpenSpec.ofChange fnExactPourBacksWrong)

/-- 'laws.FnExactBoundsAlong': WHATEVER THE INPUT: true; the input reads as it did. -/
def fnExactBoundsAlongSpec : ChangeSpec := { name := "fnExactBoundsAlong", fn := fun _ => fun
  | [d1, d2] => { results := [.lit (.bool true)], args := [d1, d2] }
  | _ => none }
def fnExactBoundsAlongRow : OpenClaim := { program := "ytaenmmebnifioaa", sum := "6a1edc7158803e79a9ba8d807cda7a92c0ac52a4fe5905fc073d7cfca4f5fb21", func := "loop.example/g01215/laws.FnExactBoundsAlong", spec := "fnExactBoundsAlong", unfollowed := true, recurses := true, apart := false }
def FnExactBoundsAlongSaid : Prop := fnExactBoundsAlongRow.holds Try.pinned (OpenSpec.ofChange fnExactBoundsAlongSpec)

/-- ITS FALSE NEIGHBOUR: 'it returns false'. Refute it at one input. -/
def fnExactBoundsAlongWrong : ChangeSpec := { name := "fnExactBoundsAlong", fn := fun _ => fun
  | [d1, d2] => { results := [.lit (.bool false)], args := [d1, d2] }
  | _ => none }
def FnExactBoundsAlongWrongFalsely : Prop := fnExactBoundsAlongRow.holds Try.pinned (OpenSpec.ofChange fnExactBoundsAlongWrong)

/- THE SECOND FORM. 'bulk': how many values and letters a reading holds, each counted each time it is reached (what is shared counts as often as it is met; a slice's spare places count too). A statement '..UptoSaid' is the law's where the arguments, and the package variables that the reading takes, are together of bulk at most 1048576: NARROWER than '..Said'. Prove '..Said' where nothing that the law and all that it calls make is longer than what came in: it says more and counts as full. Else prove '..UptoSaid'. A law counts once. -/
mutual
def uptoBulk {H : Type} : DataW H → Nat
  | .lit (.string bytes) => bytes.length + 1
  | .lit _ => 1
  | .nil => 1
  | .ptr d => uptoBulk d + 1
  | .slice elems spare => uptoBulkAll elems + uptoBulkAll spare + 1
  | .agg parts => uptoBulkAll parts + 1
  | .iface _ d => uptoBulk d + 1
  | .map entries => uptoBulkEntries entries + 1
  | .held _ => 1
def uptoBulkAll {H : Type} : List (DataW H) → Nat
  | [] => 0
  | d :: r => uptoBulk d + uptoBulkAll r
def uptoBulkEntries {H : Type} : List (Lit × DataW H) → Nat
  | [] => 0
  | x :: r => uptoBulkEntry x + uptoBulkEntries r
def uptoBulkEntry {H : Type} : Lit × DataW H → Nat
  | (.string bytes, d) => bytes.length + uptoBulk d + 1
  | (_, d) => uptoBulk d + 1
 end
def uptoSmall : (H : Type) → List (DataW H) → Bool := fun _ ds => decide (uptoBulkAll ds ≤ 1048576)
def OpenSpec.upto (s : _root_.Go.ChangeSpec) : _root_.Go.OpenSpec := { _root_.Go.OpenSpec.ofChange s with cond := some uptoSmall }

/-- 'laws.FnExactPoursBy', WHERE WHAT IT READS IS OF BULK AT MOST 1048576: true; the input reads as it did. -/
def fnExactPoursByUptoRow : OpenClaim := { program := "ytaenmmebnifioaa", sum := "6a1edc7158803e79a9ba8d807cda7a92c0ac52a4fe5905fc073d7cfca4f5fb21", func := "loop.example/g01215/laws.FnExactPoursBy", spec := "fnExactPoursBy", unfollowed := true, recurses := true, apart := false, narrowed := true }
def FnExactPoursByUptoSaid : Prop := fnExactPoursByUptoRow.holds Try.pinned (OpenSpec.upto fnExactPoursBySpec)

/-- 'laws.FnExactUndonePours', WHERE WHAT IT READS IS OF BULK AT MOST 1048576: true; the input reads as it did. -/
def fnExactUndonePoursUptoRow : OpenClaim := { program := "ytaenmmebnifioaa", sum := "6a1edc7158803e79a9ba8d807cda7a92c0ac52a4fe5905fc073d7cfca4f5fb21", func := "loop.example/g01215/laws.FnExactUndonePours", spec := "fnExactUndonePours", unfollowed := true, recurses := true, apart := false, narrowed := true }
def FnExactUndonePoursUptoSaid : Prop := fnExactUndonePoursUptoRow.holds Try.pinned (OpenSpec.upto fnExactUndonePoursSpec)

/-- 'laws.FnExactTurnBack', WHERE WHAT IT READS IS OF BULK AT MOST 1048576: true; the input reads as it did. -/
def fnExactTurnBackUptoRow : OpenClaim := { program := "ytaenmmebnifioaa", sum := "6a1edc7158803e79a9ba8d807cda7a92c0ac52a4fe5905fc073d7cfca4f5fb21", func := "loop.example/g01215/laws.FnExactTurnBack", spec := "fnExactTurnBack", unfollowed := true, recurses := true, apart := false, narrowed := true }
def FnExactTurnBackUptoSaid : Prop := fnExactTurnBackUptoRow.holds Try.pinned (OpenSpec.upto fnExactTurnBackSpec)

/-- 'laws.FnExactSamePours', WHERE WHAT IT READS IS OF BULK AT MOST 1048576: true; the input reads as it did. -/
def fnExactSamePoursUptoRow : OpenClaim := { program := "ytaenmmebnifioaa", sum := "6a1edc7158803e79a9ba8d807cda7a92c0ac52a4fe5905fc073d7cfca4f5fb21", func := "loop.example/g01215/laws.FnExactSamePours", spec := "fnExactSamePours", unfollowed := true, recurses := true, apart := false, narrowed := true }
def FnExactSamePoursUptoSaid : Prop := fnExactSamePoursUptoRow.holds Try.pinned (OpenSpec.upto fnExactSamePoursSpec)

/-- 'laws.FnExactCommonPours', WHERE WHAT IT READS IS OF BULK AT MOST 1048576: true; the input reads as it did. -/
def fnExactCommonPoursUptoRow : OpenClaim := { program := "ytaenmmebnifioaa", sum := "6a1edc7158803e79a9ba8d807cda7a92c0ac52a4fe5905fc073d7cfca4f5fb21", func := "loop.example/g01215/laws.FnExactCommonPours", spec := "fnExactCommonPours", unfollowed := true, recurses := true, apart := false, narrowed := true }
def FnExactCommonPoursUptoSaid : Prop := fnExactCommonPoursUptoRow.holds Try.pinned (OpenSpec.upto fnExactCommonPoursSpec)

/-- 'laws.FnExactGoodPours', WHERE WHAT IT READS IS OF BULK AT MOST 1048576: true; the input reads as it did. -/
def fnExactGoodPoursUptoRow : OpenClaim := { program := "ytaenmmebnifioaa", sum := "6a1edc7158803e79a9ba8d807cda7a92c0ac52a4fe5905fc073d7cfca4f5fb21", func := "loop.example/g01215/laws.FnExactGoodPours", spec := "fnExactGoodPours", unfollowed := true, recurses := true, apart := false, narrowed := true }
def FnExactGoodPoursUptoSaid : Prop := fnExactGoodPoursUptoRow.holds Try.pinned (OpenSpec.upto fnExactGoodPoursSpec)

/-- 'laws.FnExactSourcesOf', WHERE WHAT IT READS IS OF BULK AT MOST 1048576: true; the input reads as it did. -/
def fnExactSourcesOfUptoRow : OpenClaim := { program := "ytaenmmebnifioaa", sum := "6a1edc7158803e79a9ba8d807cda7a92c0ac52a4fe5905fc073d7cfca4f5fb21", func := "loop.example/g01215/laws.FnExactSourcesOf", spec := "fnExactSourcesOf", unfollowed := true, recurses := true, apart := false, narrowed := true }
def FnExactSourcesOfUptoSaid : Prop := fnExactSourcesOfUptoRow.holds Try.pinned (OpenSpec.upto fnExactSourcesOfSpec)

/-- 'laws.FnExactChanceSorted', WHERE WHAT IT READS IS OF BULK AT MOST 1048576: true; the input reads as it did. -/
def fnExactChanceSortedUptoRow : OpenClaim := { program := "ytaenmmebnifioaa", sum := "6a1edc7158803e79a9ba8d807cda7a92c0ac52a4fe5905fc073d7cfca4f5fb21", func := "loop.example/g01215/laws.FnExactChanceSorted", spec := "fnExactChanceSorted", unfollowed := true, recurses := true, apart := false, narrowed := true }
def FnExactChanceSortedUptoSaid : Prop := fnExactChanceSortedUptoRow.holds Try.pinned (OpenSpec.upto fnExactChanceSortedSpec)

/-- 'laws.FnExactGoodPath', WHERE WHAT IT READS IS OF BULK AT MOST 1048576: true; the input reads as it did. -/
def fnExactGoodPathUptoRow : OpenClaim := { program := "ytaenmmebnifioaa", sum := "6a1edc7158803e79a9ba8d807cda7a92c0ac52a4fe5905fc073d7cfca4f5fb21", func := "loop.example/g01215/laws.FnExactGoodPath", spec := "fnExactGoodPath", unfollowed := true, recurses := true, apart := false, narrowed := true }
def FnExactGoodPathUptoSaid : Prop := fnExactGoodPathUptoRow.holds Try.pinned (OpenSpec.upto fnExactGoodPathSpec)

/-- 'laws.FnExactIsGoodPath', WHERE WHAT IT READS IS OF BULK AT MOST 1048576: true; the input reads as it did. -/
def fnExactIsGoodPathUptoRow : OpenClaim := { program := "ytaenmmebnifioaa", sum := "6a1edc7158803e79a9ba8d807cda7a92c0ac52a4fe5905fc073d7cfca4f5fb21", func := "loop.example/g01215/laws.FnExactIsGoodPath", spec := "fnExactIsGoodPath", unfollowed := true, recurses := true, apart := false, narrowed := true }
def FnExactIsGoodPathUptoSaid : Prop := fnExactIsGoodPathUptoRow.holds Try.pinned (OpenSpec.upto fnExactIsGoodPathSpec)

/-- 'laws.FnExactPourBacks', WHERE WHAT IT READS IS OF BULK AT MOST 1048576: true; the input reads as it did. -/
def fnExactPourBacksUptoRow : OpenClaim := { program := "ytaenmmebnifioaa", sum := "6a1edc7158803e79a9ba8d807cda7a92c0ac52a4fe5905fc073d7cfca4f5fb21", func := "loop.example/g01215/laws.FnExactPourBacks", spec := "fnExactPourBacks", unfollowed := true, recurses := true, apart := false, narrowed := true }
def FnExactPourBacksUptoSaid : Prop := fnExactPourBacksUptoRow.holds Try.pinned (OpenSpec.upto fnExactPourBacksSpec)

/-- 'laws.FnExactBoundsAlong', WHERE WHAT IT READS IS OF BULK AT MOST 1048576: true; the input reads as it did. -/
def fnExactBoundsAlongUptoRow : OpenClaim := { program := "ytaenmmebnifioaa", sum := "6a1edc7158803e79a9ba8d807cda7a92c0ac52a4fe5905fc073d7cfca4f5fb21", func := "loop.example/g01215/laws.FnExactBoundsAlong", spec := "fnExactBoundsAlong", unfollowed := true, recurses := true, apart := false, narrowed := true }
def FnExactBoundsAlongUptoSaid : Prop := fnExactBoundsAlongUptoRow.holds Try.pinned (OpenSpec.upto fnExactBoundsAlongSpec)

end Rows
end Go.Proofs.Ytaenmmebnifioaa
