/-
  No cell of these rows narrows 'for every input' (looked for: loops, veiled, ifaces, maps, wideKeys, modest, calm, conditions, laid).
  DERIVED. THE GIVEN ROWS OF THIS SEAT. 12 by the template 'for every input the law returns true; each argument reads behind the call as it read before'; 0 by the template 'total and deterministic' (their statements: YtdnechlmkbchaaaTotals.lean).
  GIVEN WITH THE SEED: the statements are not yours to turn. If you find one false, say at which input.
  Laid BY PROGRAM, IN A SANDBOX (cutbox-rows.mjs): the forced cells as the released guide's own fill.sh prints them over the translation a8b999784d340732… (all of the seat's roots in one cut). By AI agents, Wed Nov 11 2026. No macro, syntax, notation, axiom, sorry.
-/
import Derived.Test.YtdnechlmkbchaaaChecked
import GoSem.Claim
import GoSem.ClaimJoined
import GoSem.ClaimMapViews
import Derived.JoinedTies
import Derived.KernelRfl
namespace Go.Proofs.Ytdnechlmkbchaaa
/- THE CELL 'sum', in the pinned program and in every row, IS THE sha256 OF THE DUMP (.gsa) THAT YtdnechlmkbchaaaProg.lean LOADS. Nothing in Lean hashes anything: it is a label: what it is worth is what the hold of that sum in a sandbox is worth. -/
noncomputable def Try.pinned : Pinned := { name := "ytdnechlmkbchaaa", sum := "a8b999784d3407325d0b01f9f4abd876c470a6a00a16a272fab1dff35ed17308", checked := Try.checked }
namespace Rows
def none {H : Type} : Left H := { results := [], args := [] }

/-- 'laws.FnExactDistinctPours': WHATEVER THE INPUT: true; the input reads as it did. -/
def fnExactDistinctPoursSpec : ChangeSpec := { name := "fnExactDistinctPours", fn := fun _ => fun
  | [d] => { results := [.lit (.bool true)], args := [d] }
  | _ => none }
def fnExactDistinctPoursRow : OpenClaim := { program := "ytdnechlmkbchaaa", sum := "a8b999784d3407325d0b01f9f4abd876c470a6a00a16a272fab1dff35ed17308", func := "loop.example/g01215/laws.FnExactDistinctPours", spec := "fnExactDistinctPours", unfollowed := true, recurses := true, plainKeys := false, apart := false }
def FnExactDistinctPoursSaid : Prop := fnExactDistinctPoursRow.holds Try.pinned (OpenSpec.ofChange fnExactDistinctPoursSpec)

/-- ITS FALSE NEIGHBOUR: 'it returns false'. Refute it at one input. -/
def fnExactDistinctPoursWrong : ChangeSpec := { name := "fnExactDistinctPours", fn := fun _ => fun
  | [d] => { results := [.lit (.bool false)], args := [d] }
  | _ => none }
def FnExactDistinctPoursWrongFalsely : Prop := fnExactDistinctPoursRow.holds Try.pinned (OpenSpec.ofChange fnExactDistinctPoursWrong)

/-- 'laws.FnExactCountReached': WHATEVER THE INPUT: true; the input reads as it did. -/
def fnExactCountReachedSpec : ChangeSpec := { name := "fnExactCountReached", fn := fun _ => fun
  | [d1, d2] => { results := [.lit (.bool true)], args := [d1, d2] }
  | _ => none }
def fnExactCountReachedRow : OpenClaim := { program := "ytdnechlmkbchaaa", sum := "a8b999784d3407325d0b01f9f4abd876c470a6a00a16a272fab1dff35ed17308", func := "loop.example/g01215/laws.FnExactCountReached", spec := "fnExactCountReached", unfollowed := true, recurses := true, plainKeys := false, apart := false }
def FnExactCountReachedSaid : Prop := fnExactCountReachedRow.holds Try.pinned (OpenSpec.ofChange fnExactCountReachedSpec)

/-- ITS FALSE NEIGHBOUR: 'it returns false'. Refute it at one input. -/
def fnExactCountReachedWrong : ChangeSpec := { name := "fnExactCountReached", fn := fun _ => fun
  | [d1, d2] => { results := [.lit (.bool false)], args := [d1, d2] }
  | _ => none }
def FnExactCountReachedWrongFalsely : Prop := fnExactCountReachedRow.holds Try.pinned (OpenSpec.ofChange fnExactCountReachedWrong)

/-- 'laws.FnExactCountFormsBefore': WHATEVER THE INPUT: true; the input reads as it did. -/
def fnExactCountFormsBeforeSpec : ChangeSpec := { name := "fnExactCountFormsBefore", fn := fun _ => fun
  | [d] => { results := [.lit (.bool true)], args := [d] }
  | _ => none }
def fnExactCountFormsBeforeRow : OpenClaim := { program := "ytdnechlmkbchaaa", sum := "a8b999784d3407325d0b01f9f4abd876c470a6a00a16a272fab1dff35ed17308", func := "loop.example/g01215/laws.FnExactCountFormsBefore", spec := "fnExactCountFormsBefore", unfollowed := true, recurses := true, plainKeys := false, apart := false }
def FnExactCountFormsBeforeSaid : Prop := fnExactCountFormsBeforeRow.holds Try.pinned (OpenSpec.ofChange fnExactCountFormsBeforeSpec)

/-- ITS FALSE NEIGHBOUR: 'it returns false'. Refute it at one input. -/
def fnExactCountFormsBeforeWrong : ChangeSpec := { name := "fnExactCountFormsBefore", fn := fun _ => fun
  | [d] => { results := [.lit (.bool false)], args := [d] }
  | _ => none }
def FnExactCountFormsBeforeWrongFalsely : Prop := fnExactCountFormsBeforeRow.holds Try.pinned (OpenSpec.ofChange fnExactCountFormsBeforeWrong)

/-- 'laws.FnExactReachedAll': WHATEVER THE INPUT: true; the input reads as it did. -/
def fnExactReachedAllSpec : ChangeSpec := { name := "fnExactReachedAll", fn := fun _ => fun
  | [d] => { results := [.lit (.bool true)], args := [d] }
  | _ => none }
def fnExactReachedAllRow : OpenClaim := { program := "ytdnechlmkbchaaa", sum := "a8b999784d3407325d0b01f9f4abd876c470a6a00a16a272fab1dff35ed17308", func := "loop.example/g01215/laws.FnExactReachedAll", spec := "fnExactReachedAll", unfollowed := true, recurses := true, plainKeys := false, apart := false }
def FnExactReachedAllSaid : Prop := fnExactReachedAllRow.holds Try.pinned (OpenSpec.ofChange fnExactReachedAllSpec)

/-- ITS FALSE NEIGHBOUR: 'it returns false'. Refute it at one input. -/
def fnExactReachedAllWrong : ChangeSpec := { name := "fnExactReachedAll", fn := fun _ => fun
  | [d] => { results := [.lit (.bool false)], args := [d] }
  | _ => none }
def FnExactReachedAllWrongFalsely : Prop := fnExactReachedAllRow.holds Try.pinned (OpenSpec.ofChange fnExactReachedAllWrong)

/-- 'laws.FnExactRacksBefore': WHATEVER THE INPUT: true; the input reads as it did. -/
def fnExactRacksBeforeSpec : ChangeSpec := { name := "fnExactRacksBefore", fn := fun _ => fun
  | [d] => { results := [.lit (.bool true)], args := [d] }
  | _ => none }
def fnExactRacksBeforeRow : OpenClaim := { program := "ytdnechlmkbchaaa", sum := "a8b999784d3407325d0b01f9f4abd876c470a6a00a16a272fab1dff35ed17308", func := "loop.example/g01215/laws.FnExactRacksBefore", spec := "fnExactRacksBefore", unfollowed := true, recurses := true, plainKeys := false, apart := false }
def FnExactRacksBeforeSaid : Prop := fnExactRacksBeforeRow.holds Try.pinned (OpenSpec.ofChange fnExactRacksBeforeSpec)

/-- ITS FALSE NEIGHBOUR: 'it returns false'. Refute it at one input. -/
def fnExactRacksBeforeWrong : ChangeSpec := { name := "fnExactRacksBefore", fn := fun _ => fun
  | [d] => { results := [.lit (.bool false)], args := [d] }
  | _ => none }
def FnExactRacksBeforeWrongFalsely : Prop := fnExactRacksBeforeRow.holds Try.pinned (OpenSpec.ofChange fnExactRacksBeforeWrong)

/-- 'laws.FnExactGardensBefore': WHATEVER THE INPUT: true; the input reads as it did. -/
def fnExactGardensBeforeSpec : ChangeSpec := { name := "fnExactGardensBefore", fn := fun _ => fun
  | [d] => { results := [.lit (.bool true)], args := [d] }
  | _ => none }
def fnExactGardensBeforeRow : OpenClaim := { program := "ytdnechlmkbchaaa", sum := "a8b999784d3407325d0b01f9f4abd876c470a6a00a16a272fab1dff35ed17308", func := "loop.example/g01215/laws.FnExactGardensBefore", spec := "fnExactGardensBefore", unfollowed := true, recurses := true, plainKeys := false, apart := false }
def FnExactGardensBeforeSaid : Prop := fnExactGardensBeforeRow.holds Try.pinned (OpenSpec.ofChange fnExactGardensBeforeSpec)

/-- ITS FALSE NEIGHBOUR: 'it returns false'. Refute it at one input. -/
def fnExactGardensBeforeWrong : ChangeSpec := { name := "fnExactGardensBefore", fn := fun _ => fun
  | [d] => { results := [.lit (.bool false)], args := [d] }
  | _ => none }
def FnExactGardensBeforeWrongFalsely : Prop := fnExactGardensBeforeRow.holds Try.pinned (OpenSpec.ofChange fnExactGardensBeforeWrong)

/-- 'laws.FnExactFewestTo': WHATEVER THE INPUT: true; the input reads as it did. -/
def fnExactFewestToSpec : ChangeSpec := { name := "fnExactFewestTo", fn := fun _ => fun
  | [d1, d2] => { results := [.lit (.bool true)], args := [d1, d2] }
  | _ => none }
def fnExactFewestToRow : OpenClaim := { program := "ytdnechlmkbchaaa", sum := "a8b999784d3407325d0b01f9f4abd876c470a6a00a16a272fab1dff35ed17308", func := "loop.example/g01215/laws.FnExactFewestTo", spec := "fnExactFewestTo", unfollowed := true, recurses := true, plainKeys := false, apart := false }
def FnExactFewestToSaid : Prop := fnExactFewestToRow.holds Try.pinned (OpenSpec.ofChange fnExactFewestToSpec)

/-- ITS FALSE NEIGHBOUR: 'it returns false'. Refute it at one input. -/
def fnExactFewestToWrong : ChangeSpec := { name := "fnExactFewestTo", fn := fun _ => fun
  | [d1, d2] => { results := [.lit (.bool false)], args := [d1, d2] }
  | _ => none }
def FnExactFewestToWrongFalsely : Prop := fnExactFewestToRow.holds Try.pinned (OpenSpec.ofChange fnExactFewestToWrong)

/-- 'laws.FnExactCanBeSorted': WHATEVER THE INPUT: true; the input reads as it did. -/
def fnExactCanBeSortedSpec : ChangeSpec := { name := "fnExactCanBeSorted", fn := fun _ => fun
  | [d] => { results := [.lit (.bool true)], args := [d] }
  | _ => none }
def fnExactCanBeSortedRow : OpenClaim := { program := "ytdnechlmkbchaaa", sum := "a8b999784d3407325d0b01f9f4abd876c470a6a00a16a272fab1dff35ed17308", func := "loop.example/g01215/laws.FnExactCanBeSorted", spec := "fnExactCanBeSorted", unfollowed := true, recurses := true, plainKeys := false, apart := false }
def FnExactCanBeSortedSaid : Prop := fnExactCanBeSortedRow.holds Try.pinned (OpenSpec.ofChange fnExactCanBeSortedSpec)

/-- ITS FALSE NEIGHBOUR: 'it returns false'. Refute it at one input. -/
def fnExactCanBeSortedWrong : ChangeSpec := { name := "fnExactCanBeSorted", fn := fun _ => fun
  | [d] => { results := [.lit (.bool false)], args := [d] }
  | _ => none }
def FnExactCanBeSortedWrongFalsely : Prop := fnExactCanBeSortedRow.holds Try.pinned (OpenSpec.ofChange fnExactCanBeSortedWrong)

/-- 'laws.FnExactFewestPours': WHATEVER THE INPUT: true; the input reads as it did. -/
def fnExactFewestPoursSpec : ChangeSpec := { name := "fnExactFewestPours", fn := fun _ => fun
  | [d] => { results := [.lit (.bool true)], args := [d] }
  | _ => none }
def fnExactFewestPoursRow : OpenClaim := { program := "ytdnechlmkbchaaa", sum := "a8b999784d3407325d0b01f9f4abd876c470a6a00a16a272fab1dff35ed17308", func := "loop.example/g01215/laws.FnExactFewestPours", spec := "fnExactFewestPours", unfollowed := true, recurses := true, plainKeys := false, apart := false }
def FnExactFewestPoursSaid : Prop := fnExactFewestPoursRow.holds Try.pinned (OpenSpec.ofChange fnExactFewestPoursSpec)

/-- ITS FALSE NEIGHBOUR: 'it returns false'. Refute it at one input. -/
def fnExactFewestPoursWrong : ChangeSpec := { name := "fnExactFewestPours", fn := fun _ => fun
  | [d] => { results := [.lit (.bool false)], args := [d] }
  | _ => none }
def FnExactFewestPoursWrongFalsely : Prop := fnExactFewestPoursRow.holds Try.pinned (OpenSpec.ofChange fnExactFewestPoursWrong)

/-- 'laws.FnExactLosingPours': WHATEVER THE INPUT: true; the input reads as it did. -/
def fnExactLosingPoursSpec : ChangeSpec := { name := "fnExactLosingPours", fn := fun _ => fun
  | [d] => { results := [.lit (.bool true)], args := [d] }
  | _ => none }
def fnExactLosingPoursRow : OpenClaim := { program := "ytdnechlmkbchaaa", sum := "a8b999784d3407325d0b01f9f4abd876c470a6a00a16a272fab1dff35ed17308", func := "loop.example/g01215/laws.FnExactLosingPours", spec := "fnExactLosingPours", unfollowed := true, recurses := true, plainKeys := false, apart := false }
def FnExactLosingPoursSaid : Prop := fnExactLosingPoursRow.holds Try.pinned (OpenSpec.ofChange fnExactLosingPoursSpec)

/-- ITS FALSE NEIGHBOUR: 'it returns false'. Refute it at one input. -/
def fnExactLosingPoursWrong : ChangeSpec := { name := "fnExactLosingPours", fn := fun _ => fun
  | [d] => { results := [.lit (.bool false)], args := [d] }
  | _ => none }
def FnExactLosingPoursWrongFalsely : Prop := fnExactLosingPoursRow.holds Try.pinned (OpenSpec.ofChange fnExactLosingPoursWrong)

/-- 'laws.FnExactCountWays': WHATEVER THE INPUT: true; the input reads as it did. -/
def fnExactCountWaysSpec : ChangeSpec := { name := "fnExactCountWays", fn := fun _ => fun
  | [d] => { results := [.lit (.bool true)], args := [d] }
  | _ => none }
def fnExactCountWaysRow : OpenClaim := { program := "ytdnechlmkbchaaa", sum := "a8b999784d3407325d0b01f9f4abd876c470a6a00a16a272fab1dff35ed17308", func := "loop.example/g01215/laws.FnExactCountWays", spec := "fnExactCountWays", unfollowed := true, recurses := true, plainKeys := false, apart := false }
def FnExactCountWaysSaid : Prop := fnExactCountWaysRow.holds Try.pinned (OpenSpec.ofChange fnExactCountWaysSpec)

/-- ITS FALSE NEIGHBOUR: 'it returns false'. Refute it at one input. -/
def fnExactCountWaysWrong : ChangeSpec := { name := "fnExactCountWays", fn := fun _ => fun
  | [d] => { results := [.lit (.bool false)], args := [d] }
  | _ => none }
def FnExactCountWaysWrongFalsely : Prop := fnExactCountWaysRow.holds Try.pinned (OpenSpec.ofChange fnExactCountWaysWrong)

/-- 'laws.FnExactBestPours': WHATEVER THE INPUT: true; the input reads as it did. -/
def fnExactBestPoursSpec : ChangeSpec := { name := "fnExactBestPours", fn := fun _ => fun
  | [d] => { results := [.lit (.bool true)], args := [d] }
  | _ => none }
def fnExactBestPoursRow : OpenClaim := { program := "ytdnechlmkbchaaa", sum := "a8b999784d3407325d0b01f9f4abd876c470a6a00a16a272fab1dff35ed17308", func := "loop.example/g01215/laws.FnExactBestPours", spec := "fnExactBestPours", unfollowed := true, recurses := true, plainKeys := false, apart := false }
def FnExactBestPoursSaid : Prop := fnExactBestPoursRow.holds Try.pinned (OpenSpec.ofChange fnExactBestPoursSpec)

/-- ITS FALSE NEIGHBOUR: 'it returns false'. Refute it at one input. -/
def fnExactBestPoursWrong : ChangeSpec := { name := "fnExactBestPours", fn := fun _ => fun
  | [d] => { results := [.lit (.bool false)], args := [d] }
  | _ => none }
def FnExactBestPoursWrongFalsely : Prop := fnExactBestPoursRow.holds Try.pinned (OpenSpec.ofChange fnExactBestPoursWrong)

/- THE SECOND FORM. 'bulk': how many values and letters a reading holds, each counted each time it is reached (what is shared counts as often as it is met; a slice's spare places count too). A statement '..UptoSaid' is the law's where the arguments, and the package variables that the reading takes, are together of bulk at most 1048576: NARROWER than '..Said'. Prove '..Said' where nothing that the law and all that it calls make is longer than what came in: it says more and counts as full. Else prove '..UptoSaid'. A law counts once. -/
mutual
def uptoBulk {H : Type} : DataW H → Nat
  | .lit (.string bytes) => bytes.length + 1
  | .lit _ => 1
  | .nil => 1
  | .ptr d => uptoBulk d + 1
  | .slice elems spare => uptoBulkAll elems + uptoBulkAll spare + 1
  | .agg parts => uptoBulkAll parts + 1
  | .iface _ d => uptoBulk d + 1
  | .map entries => uptoBulkEntries entries + 1
  | .held _ => 1
def uptoBulkAll {H : Type} : List (DataW H) → Nat
  | [] => 0
  | d :: r => uptoBulk d + uptoBulkAll r
def uptoBulkEntries {H : Type} : List (Lit × DataW H) → Nat
  | [] => 0
  | x :: r => uptoBulkEntry x + uptoBulkEntries r
def uptoBulkEntry {H : Type} : Lit × DataW H → Nat
  | (.string bytes, d) => bytes.length + uptoBulk d + 1
  | (_, d) => uptoBulk d + 1
 end
def uptoSmall : (H : Type) → List (DataW H) → Bool := fun _ ds => decide (uptoBulkAll ds ≤ 1048576)
def OpenSpec.upto (s : _root_.Go.ChangeSpec) : _root_.Go.OpenSpec := { _root_.Go.OpenSpec.ofChange s with cond := some uptoSmall }

/-- 'laws.FnExactDistinctPours', WHERE WHAT IT READS IS OF BULK AT MOST 1048576: true; the input reads as it did. -/
def fnExactDistinctPoursUptoRow : OpenClaim := { program := "ytdnechlmkbchaaa", sum := "a8b999784d3407325d0b01f9f4abd876c470a6a00a16a272fab1dff35ed17308", func := "loop.example/g01215/laws.FnExactDistinctPours", spec := "fnExactDistinctPours", unfollowed := true, recurses := true, plainKeys := false, apart := false, narrowed := true }
def FnExactDistinctPoursUptoSaid : Prop := fnExactDistinctPoursUptoRow.holds Try.pinned (OpenSpec.upto fnExactDistinctPoursSpec)

/-- 'laws.FnExactCountReached', WHERE WHAT IT READS IS OF BULK AT MOST 1048576: true; the input reads as it did. -/
def fnExactCountReachedUptoRow : OpenClaim := { program := "ytdnechlmkbchaaa", sum := "a8b999784d3407325d0b01f9f4abd876c470a6a00a16a272fab1dff35ed17308", func := "loop.example/g01215/laws.FnExactCountReached", spec := "fnExactCountReached", unfollowed := true, recurses := true, plainKeys := false, apart := false, narrowed := true }
def FnExactCountReachedUptoSaid : Prop := fnExactCountReachedUptoRow.holds Try.pinned (OpenSpec.upto fnExactCountReachedSpec)

/-- 'laws.FnExactCountFormsBefore', WHERE WHAT IT READS IS OF BULK AT MOST 1048576: true; the input reads as it did. -/
def fnExactCountFormsBeforeUptoRow : OpenClaim := { program := "ytdnechlmkbchaaa", sum := "a8b999784d3407325d0b01f9f4abd876c470a6a00a16a272fab1dff35ed17308", func := "loop.example/g01215/laws.FnExactCountFormsBefore", spec := "fnExactCountFormsBefore", unfollowed := true, recurses := true, plainKeys := false, apart := false, narrowed := true }
def FnExactCountFormsBeforeUptoSaid : Prop := fnExactCountFormsBeforeUptoRow.holds Try.pinned (OpenSpec.upto fnExactCountFormsBeforeSpec)

/-- 'laws.FnExactReachedAll', WHERE WHAT IT READS IS OF BULK AT MOST 1048576: true; the input reads as it did. -/
def fnExactReachedAllUptoRow : OpenClaim := { program := "ytdnechlmkbchaaa", sum := "a8b999784d3407325d0b01f9f4abd876c470a6a00a16a272fab1dff35ed17308", func := "loop.example/g01215/laws.FnExactReachedAll", spec := "fnExactReachedAll", unfollowed := true, recurses := true, plainKeys := false, apart := false, narrowed := true }
def FnExactReachedAllUptoSaid : Prop := fnExactReachedAllUptoRow.holds Try.pinned (OpenSpec.upto fnExactReachedAllSpec)

/-- 'laws.FnExactRacksBefore', WHERE WHAT IT READS IS OF BULK AT MOST 1048576: true; the input reads as it did. -/
def fnExactRacksBeforeUptoRow : OpenClaim := { program := "ytdnechlmkbchaaa", sum := "a8b999784d3407325d0b01f9f4abd876c470a6a00a16a272fab1dff35ed17308", func := "loop.example/g01215/laws.FnExactRacksBefore", spec := "fnExactRacksBefore", unfollowed := true, recurses := true, plainKeys := false, apart := false, narrowed := true }
def FnExactRacksBeforeUptoSaid : Prop := fnExactRacksBeforeUptoRow.holds Try.pinned (OpenSpec.upto fnExactRacksBeforeSpec)

/-- 'laws.FnExactGardensBefore', WHERE WHAT IT READS IS OF BULK AT MOST 1048576: true; the input reads as it did. -/
def fnExactGardensBeforeUptoRow : OpenClaim := { program := "ytdnechlmkbchaaa", sum := "a8b999784d3407325d0b01f9f4abd876c470a6a00a16a272fab1dff35ed17308", func := "loop.example/g01215/laws.FnExactGardensBefore", spec := "fnExactGardensBefore", unfollowed := true, recurses := true, plainKeys := false, apart := false, narrowed := true }
def FnExactGardensBeforeUptoSaid : Prop := fnExactGardensBeforeUptoRow.holds Try.pinned (OpenSpec.upto fnExactGardensBeforeSpec)

/-- 'laws.FnExactFewestTo', WHERE WHAT IT READS IS OF BULK AT MOST 1048576: true; the input reads as it did. -/
def fnExactFewestToUptoRow : OpenClaim := { program := "ytdnechlmkbchaaa", sum := "a8b999784d3407325d0b01f9f4abd876c470a6a00a16a272fab1dff35ed17308", func := "loop.example/g01215/laws.FnExactFewestTo", spec := "fnExactFewestTo", unfollowed := true, recurses := true, plainKeys := false, apart := false, narrowed := true }
def FnExactFewestToUptoSaid : Prop := fnExactFewestToUptoRow.holds Try.pinned (OpenSpec.upto fnExactFewestToSpec)

/-- 'laws.FnExactCanBeSorted', WHERE WHAT IT READS IS OF BULK AT MOST 1048576: true; the input reads as it did. -/
def fnExactCanBeSortedUptoRow : OpenClaim := { program := "ytdnechlmkbchaaa", sum := "a8b999784d3407325d0b01f9f4abd876c470a6a00a16a272fab1dff35ed17308", func := "loop.example/g01215/laws.FnExactCanBeSorted", spec := "fnExactCanBeSorted", unfollowed := true, recurses := true, plainKeys := false, apart := false, narrowed := true }
def FnExactCanBeSortedUptoSaid : Prop := fnExactCanBeSortedUptoRow.holds Try.pinned (OpenSpec.upto fnExactCanBeSortedSpec)

/-- 'laws.FnExactFewestPours', WHERE WHAT IT READS IS OF BULK AT MOST 1048576: true; the input reads as it did. -/
def fnExactFewestPoursUptoRow : OpenClaim := { program := "ytdnechlmkbchaaa", sum := "a8b999784d3407325d0b01f9f4abd876c470a6a00a16a272fab1dff35ed17308", func := "loop.example/g01215/laws.FnExactFewestPours", spec := "fnExactFewestPours", unfollowed := true, recurses := true, plainKeys := false, apart := false, narrowed := true }
def FnExactFewestPoursUptoSaid : Prop := fnExactFewestPoursUptoRow.holds Try.pinned (OpenSpec.upto fnExactFewestPoursSpec)

/-- 'laws.FnExactLosingPours', WHERE WHAT IT READS IS OF BULK AT MOST 1048576: true; the input reads as it did. -/
def fnExactLosingPoursUptoRow : OpenClaim := { program := "ytdnechlmkbchaaa", sum := "a8b999784d3407325d0b01f9f4abd876c470a6a00a16a272fab1dff35ed17308", func := "loop.example/g01215/laws.FnExactLosingPours", spec := "fnExactLosingPours", unfollowed := true, recurses := true, plainKeys := false, apart := false, narrowed := true }
def FnExactLosingPoursUptoSaid : Prop := fnExactLosingPoursUptoRow.holds Try.pinned (OpenSpec.upto fnExactLosingPoursSpec)

/-- 'laws.FnExactCountWays', WHERE WHAT IT READS IS OF BULK AT MOST 1048576: true; the input reads as it did. -/
def fnExactCountWaysUptoRow : OpenClaim := { program := "ytdnechlmkbchaaa", sum := "a8b999784d3407325d0b01f9f4abd876c470a6a00a16a272fab1dff35ed17308", func := "loop.example/g01215/laws.FnExactCountWays", spec := "fnExactCountWays", unfollowed := true, recurses := true, plainKeys := false, apart := false, narrowed := true }
def FnExactCountWaysUptoSaid : Prop := fnExactCountWaysUptoRow.holds Try.pinned (OpenSpec.upto fnExactCountWaysSpec)

/-- 'laws.FnExactBestPours', WHERE WHAT IT READS IS OF BULK AT MOST 1048576: true; the input reads as it did. -/
def fnExactBestPoursUptoRow : OpenClaim := { program := "ytdnechlmkbchaaa", sum := "a8b999784d3407325d0b01f9f4abd876c470a6a00a16a272fab1dff35ed17308", func := "loop.example/g01215/laws.FnExactBestPours", spec := "fnExactBestPours", unfollowed := true, recurses := true, plainKeys := false, apart := false, narrowed := true }
def FnExactBestPoursUptoSaid : Prop := fnExactBestPoursUptoRow.holds Try.pinned (OpenSpec.upto fnExactBestPoursSpec)

end Rows
end Go.Proofs.Ytdnechlmkbchaaa
