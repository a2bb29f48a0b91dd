/-
  No cell of these rows narrows 'for every input' (looked for: loops, veiled, ifaces, maps, wideKeys, modest, calm, conditions, laid).
  DERIVED. THE GIVEN ROWS OF THIS SEAT. 7 by the template 'for every input the law returns true; each argument reads behind the call as it read before'; 0 by the template 'total and deterministic' (their statements: YtoijedoamjghjaaTotals.lean).
  GIVEN WITH THE SEED: the statements are not yours to turn. If you find one false, say at which input.
  Laid BY PROGRAM, IN A SANDBOX (cutbox-rows.mjs): the forced cells as the released guide's own fill.sh prints them over the translation 7bb6d46ec3f220e6… (all of the seat's roots in one cut). By AI agents, Wed Nov 11 2026. No macro, syntax, notation, axiom, sorry.
-/
import Derived.Test.YtoijedoamjghjaaChecked
import GoSem.Claim
import GoSem.ClaimJoined
import GoSem.ClaimMapViews
import Derived.JoinedTies
import Derived.KernelRfl
namespace Go.Proofs.Ytoijedoamjghjaa
/- THE CELL 'sum', in the pinned program and in every row, IS THE sha256 OF THE DUMP (.gsa) THAT YtoijedoamjghjaaProg.lean LOADS. Nothing in Lean hashes anything: it is a label: what it is worth is what the hold of that sum in a sandbox is worth. -/
noncomputable def Try.pinned : Pinned := { name := "ytoijedoamjghjaa", sum := "7bb6d46ec3f220e63475c2c193555e814a145b5587af082407267e4b3a3125c0", checked := Try.checked }
namespace Rows
def none {H : Type} : Left H := { results := [], args := [] }

/-- 'laws.FnExactIsDepths': WHATEVER THE INPUT: true; the input reads as it did. -/
def fnExactIsDepthsSpec : ChangeSpec := { name := "fnExactIsDepths", fn := fun _ => fun
  | [d] => { results := [.lit (.bool true)], args := [d] }
  | _ => none }
def fnExactIsDepthsRow : OpenClaim := { program := "ytoijedoamjghjaa", sum := "7bb6d46ec3f220e63475c2c193555e814a145b5587af082407267e4b3a3125c0", func := "loop.example/g01215/laws.FnExactIsDepths", spec := "fnExactIsDepths", unfollowed := true, recurses := true, apart := false }
def FnExactIsDepthsSaid : Prop := fnExactIsDepthsRow.holds Try.pinned (OpenSpec.ofChange fnExactIsDepthsSpec)

/-- ITS FALSE NEIGHBOUR: 'it returns false'. Refute it at one input. -/
def fnExactIsDepthsWrong : ChangeSpec := { name := "fnExactIsDepths", fn := fun _ => fun
  | [d] => { results := [.lit (.bool false)], args := [d] }
  | _ => none }
def FnExactIsDepthsWrongFalsely : Prop := fnExactIsDepthsRow.holds Try.pinned (OpenSpec.ofChange fnExactIsDepthsWrong)

/-- 'laws.FnExactCountDeals': WHATEVER THE INPUT: true; the input reads as it did. -/
def fnExactCountDealsSpec : ChangeSpec := { name := "fnExactCountDeals", fn := fun _ => fun
  | [d1, d2] => { results := [.lit (.bool true)], args := [d1, d2] }
  | _ => none }
def fnExactCountDealsRow : OpenClaim := { program := "ytoijedoamjghjaa", sum := "7bb6d46ec3f220e63475c2c193555e814a145b5587af082407267e4b3a3125c0", func := "loop.example/g01215/laws.FnExactCountDeals", spec := "fnExactCountDeals", unfollowed := true, recurses := true, apart := false }
def FnExactCountDealsSaid : Prop := fnExactCountDealsRow.holds Try.pinned (OpenSpec.ofChange fnExactCountDealsSpec)

/-- ITS FALSE NEIGHBOUR: 'it returns false'. Refute it at one input. -/
def fnExactCountDealsWrong : ChangeSpec := { name := "fnExactCountDeals", fn := fun _ => fun
  | [d1, d2] => { results := [.lit (.bool false)], args := [d1, d2] }
  | _ => none }
def FnExactCountDealsWrongFalsely : Prop := fnExactCountDealsRow.holds Try.pinned (OpenSpec.ofChange fnExactCountDealsWrong)

/-- 'laws.FnExactDealTop': WHATEVER THE INPUT: true; the input reads as it did. -/
def fnExactDealTopSpec : ChangeSpec := { name := "fnExactDealTop", fn := fun _ => fun
  | [d1, d2, d3, d4] => { results := [.lit (.bool true)], args := [d1, d2, d3, d4] }
  | _ => none }
def fnExactDealTopRow : OpenClaim := { program := "ytoijedoamjghjaa", sum := "7bb6d46ec3f220e63475c2c193555e814a145b5587af082407267e4b3a3125c0", func := "loop.example/g01215/laws.FnExactDealTop", spec := "fnExactDealTop", unfollowed := true, recurses := true, apart := false }
def FnExactDealTopSaid : Prop := fnExactDealTopRow.holds Try.pinned (OpenSpec.ofChange fnExactDealTopSpec)

/-- ITS FALSE NEIGHBOUR: 'it returns false'. Refute it at one input. -/
def fnExactDealTopWrong : ChangeSpec := { name := "fnExactDealTop", fn := fun _ => fun
  | [d1, d2, d3, d4] => { results := [.lit (.bool false)], args := [d1, d2, d3, d4] }
  | _ => none }
def FnExactDealTopWrongFalsely : Prop := fnExactDealTopRow.holds Try.pinned (OpenSpec.ofChange fnExactDealTopWrong)

/-- 'laws.FnExactDealAlike': WHATEVER THE INPUT: true; the input reads as it did. -/
def fnExactDealAlikeSpec : ChangeSpec := { name := "fnExactDealAlike", fn := fun _ => fun
  | [d1, d2, d3, d4] => { results := [.lit (.bool true)], args := [d1, d2, d3, d4] }
  | _ => none }
def fnExactDealAlikeRow : OpenClaim := { program := "ytoijedoamjghjaa", sum := "7bb6d46ec3f220e63475c2c193555e814a145b5587af082407267e4b3a3125c0", func := "loop.example/g01215/laws.FnExactDealAlike", spec := "fnExactDealAlike", unfollowed := true, recurses := true, apart := false }
def FnExactDealAlikeSaid : Prop := fnExactDealAlikeRow.holds Try.pinned (OpenSpec.ofChange fnExactDealAlikeSpec)

/-- ITS FALSE NEIGHBOUR: 'it returns false'. Refute it at one input. -/
def fnExactDealAlikeWrong : ChangeSpec := { name := "fnExactDealAlike", fn := fun _ => fun
  | [d1, d2, d3, d4] => { results := [.lit (.bool false)], args := [d1, d2, d3, d4] }
  | _ => none }
def FnExactDealAlikeWrongFalsely : Prop := fnExactDealAlikeRow.holds Try.pinned (OpenSpec.ofChange fnExactDealAlikeWrong)

/-- 'laws.FnExactFitsDepths': WHATEVER THE INPUT: true; the input reads as it did. -/
def fnExactFitsDepthsSpec : ChangeSpec := { name := "fnExactFitsDepths", fn := fun _ => fun
  | [d1, d2] => { results := [.lit (.bool true)], args := [d1, d2] }
  | _ => none }
def fnExactFitsDepthsRow : OpenClaim := { program := "ytoijedoamjghjaa", sum := "7bb6d46ec3f220e63475c2c193555e814a145b5587af082407267e4b3a3125c0", func := "loop.example/g01215/laws.FnExactFitsDepths", spec := "fnExactFitsDepths", unfollowed := true, recurses := true, apart := false }
def FnExactFitsDepthsSaid : Prop := fnExactFitsDepthsRow.holds Try.pinned (OpenSpec.ofChange fnExactFitsDepthsSpec)

/-- ITS FALSE NEIGHBOUR: 'it returns false'. Refute it at one input. -/
def fnExactFitsDepthsWrong : ChangeSpec := { name := "fnExactFitsDepths", fn := fun _ => fun
  | [d1, d2] => { results := [.lit (.bool false)], args := [d1, d2] }
  | _ => none }
def FnExactFitsDepthsWrongFalsely : Prop := fnExactFitsDepthsRow.holds Try.pinned (OpenSpec.ofChange fnExactFitsDepthsWrong)

/-- 'laws.FnExactDealRuns': WHATEVER THE INPUT: true; the input reads as it did. -/
def fnExactDealRunsSpec : ChangeSpec := { name := "fnExactDealRuns", fn := fun _ => fun
  | [d1, d2] => { results := [.lit (.bool true)], args := [d1, d2] }
  | _ => none }
def fnExactDealRunsRow : OpenClaim := { program := "ytoijedoamjghjaa", sum := "7bb6d46ec3f220e63475c2c193555e814a145b5587af082407267e4b3a3125c0", func := "loop.example/g01215/laws.FnExactDealRuns", spec := "fnExactDealRuns", unfollowed := true, recurses := true, apart := false }
def FnExactDealRunsSaid : Prop := fnExactDealRunsRow.holds Try.pinned (OpenSpec.ofChange fnExactDealRunsSpec)

/-- ITS FALSE NEIGHBOUR: 'it returns false'. Refute it at one input. -/
def fnExactDealRunsWrong : ChangeSpec := { name := "fnExactDealRuns", fn := fun _ => fun
  | [d1, d2] => { results := [.lit (.bool false)], args := [d1, d2] }
  | _ => none }
def FnExactDealRunsWrongFalsely : Prop := fnExactDealRunsRow.holds Try.pinned (OpenSpec.ofChange fnExactDealRunsWrong)

/-- 'laws.FnExactMostPoured': WHATEVER THE INPUT: true; the input reads as it did. -/
def fnExactMostPouredSpec : ChangeSpec := { name := "fnExactMostPoured", fn := fun _ => fun
  | [d] => { results := [.lit (.bool true)], args := [d] }
  | _ => none }
def fnExactMostPouredRow : OpenClaim := { program := "ytoijedoamjghjaa", sum := "7bb6d46ec3f220e63475c2c193555e814a145b5587af082407267e4b3a3125c0", func := "loop.example/g01215/laws.FnExactMostPoured", spec := "fnExactMostPoured", unfollowed := true, recurses := true, apart := false }
def FnExactMostPouredSaid : Prop := fnExactMostPouredRow.holds Try.pinned (OpenSpec.ofChange fnExactMostPouredSpec)

/-- ITS FALSE NEIGHBOUR: 'it returns false'. Refute it at one input. -/
def fnExactMostPouredWrong : ChangeSpec := { name := "fnExactMostPoured", fn := fun _ => fun
  | [d] => { results := [.lit (.bool false)], args := [d] }
  | _ => none }
def FnExactMostPouredWrongFalsely : Prop := fnExactMostPouredRow.holds Try.pinned (OpenSpec.ofChange fnExactMostPouredWrong)

/- THE SECOND FORM. 'bulk': how many values and letters a reading holds, each counted each time it is reached (what is shared counts as often as it is met; a slice's spare places count too). A statement '..UptoSaid' is the law's where the arguments, and the package variables that the reading takes, are together of bulk at most 1048576: NARROWER than '..Said'. Prove '..Said' where nothing that the law and all that it calls make is longer than what came in: it says more and counts as full. Else prove '..UptoSaid'. A law counts once. -/
mutual
def uptoBulk {H : Type} : DataW H → Nat
  | .lit (.string bytes) => bytes.length + 1
  | .lit _ => 1
  | .nil => 1
  | .ptr d => uptoBulk d + 1
  | .slice elems spare => uptoBulkAll elems + uptoBulkAll spare + 1
  | .agg parts => uptoBulkAll parts + 1
  | .iface _ d => uptoBulk d + 1
  | .map entries => uptoBulkEntries entries + 1
  | .held _ => 1
def uptoBulkAll {H : Type} : List (DataW H) → Nat
  | [] => 0
  | d :: r => uptoBulk d + uptoBulkAll r
def uptoBulkEntries {H : Type} : List (Lit × DataW H) → Nat
  | [] => 0
  | x :: r => uptoBulkEntry x + uptoBulkEntries r
def uptoBulkEntry {H : Type} : Lit × DataW H → Nat
  | (.string bytes, d) => bytes.length + uptoBulk d + 1
  | (_, d) => uptoBulk d + 1
 end
def uptoSmall : (H : Type) → List (DataW H) → Bool := fun _ ds => decide (uptoBulkAll ds ≤ 1048576)
def OpenSpec.upto (s : _root_.Go.ChangeSpec) : _root_.Go.OpenSpec := { _root_.Go.OpenSpec.ofChange s with cond := some uptoSmall }

/-- 'laws.FnExactIsDepths', WHERE WHAT IT READS IS OF BULK AT MOST 1048576: true; the input reads as it did. -/
def fnExactIsDepthsUptoRow : OpenClaim := { program := "ytoijedoamjghjaa", sum := "7bb6d46ec3f220e63475c2c193555e814a145b5587af082407267e4b3a3125c0", func := "loop.example/g01215/laws.FnExactIsDepths", spec := "fnExactIsDepths", unfollowed := true, recurses := true, apart := false, narrowed := true }
def FnExactIsDepthsUptoSaid : Prop := fnExactIsDepthsUptoRow.holds Try.pinned (OpenSpec.upto fnExactIsDepthsSpec)

/-- 'laws.FnExactCountDeals', WHERE WHAT IT READS IS OF BULK AT MOST 1048576: true; the input reads as it did. -/
def fnExactCountDealsUptoRow : OpenClaim := { program := "ytoijedoamjghjaa", sum := "7bb6d46ec3f220e63475c2c193555e814a145b5587af082407267e4b3a3125c0", func := "loop.example/g01215/laws.FnExactCountDeals", spec := "fnExactCountDeals", unfollowed := true, recurses := true, apart := false, narrowed := true }
def FnExactCountDealsUptoSaid : Prop := fnExactCountDealsUptoRow.holds Try.pinned (OpenSpec.upto fnExactCountDealsSpec)

/-- 'laws.FnExactDealTop', WHERE WHAT IT READS IS OF BULK AT MOST 1048576: true; the input reads as it did. -/
def fnExactDealTopUptoRow : OpenClaim := { program := "ytoijedoamjghjaa", sum := "7bb6d46ec3f220e63475c2c193555e814a145b5587af082407267e4b3a3125c0", func := "loop.example/g01215/laws.FnExactDealTop", spec := "fnExactDealTop", unfollowed := true, recurses := true, apart := false, narrowed := true }
def FnExactDealTopUptoSaid : Prop := fnExactDealTopUptoRow.holds Try.pinned (OpenSpec.upto fnExactDealTopSpec)

/-- 'laws.FnExactDealAlike', WHERE WHAT IT READS IS OF BULK AT MOST 1048576: true; the input reads as it did. -/
def fnExactDealAlikeUptoRow : OpenClaim := { program := "ytoijedoamjghjaa", sum := "7bb6d46ec3f220e63475c2c193555e814a145b5587af082407267e4b3a3125c0", func := "loop.example/g01215/laws.FnExactDealAlike", spec := "fnExactDealAlike", unfollowed := true, recurses := true, apart := false, narrowed := true }
def FnExactDealAlikeUptoSaid : Prop := fnExactDealAlikeUptoRow.holds Try.pinned (OpenSpec.upto fnExactDealAlikeSpec)

/-- 'laws.FnExactFitsDepths', WHERE WHAT IT READS IS OF BULK AT MOST 1048576: true; the input reads as it did. -/
def fnExactFitsDepthsUptoRow : OpenClaim := { program := "ytoijedoamjghjaa", sum := "7bb6d46ec3f220e63475c2c193555e814a145b5587af082407267e4b3a3125c0", func := "loop.example/g01215/laws.FnExactFitsDepths", spec := "fnExactFitsDepths", unfollowed := true, recurses := true, apart := false, narrowed := true }
def FnExactFitsDepthsUptoSaid : Prop := fnExactFitsDepthsUptoRow.holds Try.pinned (OpenSpec.upto fnExactFitsDepthsSpec)

/-- 'laws.FnExactDealRuns', WHERE WHAT IT READS IS OF BULK AT MOST 1048576: true; the input reads as it did. -/
def fnExactDealRunsUptoRow : OpenClaim := { program := "ytoijedoamjghjaa", sum := "7bb6d46ec3f220e63475c2c193555e814a145b5587af082407267e4b3a3125c0", func := "loop.example/g01215/laws.FnExactDealRuns", spec := "fnExactDealRuns", unfollowed := true, recurses := true, apart := false, narrowed := true }
def FnExactDealRunsUptoSaid : Prop := fnExactDealRunsUptoRow.holds Try.pinned (OpenSpec.upto fnExactDealRunsSpec)

/-- 'laws.FnExactMostPoured', WHERE WHAT IT READS IS OF BULK AT MOST 1048576: true; the input reads as it did. -/
def fnExactMostPouredUptoRow : OpenClaim := { program := "ytoijedoamjghjaa", sum := "7bb6d46ec3f220e63475c2c193555e814a145b5587af082407267e4b3a3125c0", func := "loop.example/g01215/laws.FnExactMostPoured", spec := "fnExactMostPoured", unfollowed := true, recurses := true, apart := false, narrowed := true }
def FnExactMostPouredUptoSaid : Prop := fnExactMostPouredUptoRow.holds Try.pinned (OpenSpec.upto fnExactMostPouredSpec)

end Rows
end Go.Proofs.Ytoijedoamjghjaa
