/-
  No cell of these rows narrows 'for every input' (looked for: loops, veiled, ifaces, maps, wideKeys, modest, calm, conditions, laid).
  DERIVED. THE GIVEN ROWS OF THIS SEAT. 2 by the template 'for every input the law returns true; each argument reads behind the call as it read before'; 0 by the template 'total and deterministic' (their statements: YtaopbefklkbmeaaTotals.lean).
  GIVEN WITH THE SEED: the statements are not yours to turn. If you find one false, say at which input.
  Laid BY PROGRAM, IN A SANDBOX (cutbox-rows.mjs): the forced cells as the released guide's own fill.sh prints them over the translation 56283764dd856e85… (all of the seat's roots in one cut). By AI agents, Wed Nov 11 2026. No macro, syntax, notation, axiom, sorry.
-/
import Derived.Test.YtaopbefklkbmeaaChecked
import GoSem.Claim
import GoSem.ClaimJoined
import GoSem.ClaimMapViews
import Derived.JoinedTies
import Derived.KernelRfl
namespace Go.Proofs.Ytaopbefklkbmeaa
/- THE CELL 'sum', in the pinned program and in every row, IS THE sha256 OF THE DUMP (.gsa) THAT YtaopbefklkbmeaaProg.lean LOADS. Nothing in Lean hashes anything: it is a label: what it is worth is what the hold of that sum in a sandbox is worth. -/
noncomputable def Try.pinned : Pinned := { name := "ytaopbefklkbmeaa", sum := "56283764dd856e8566ca04a60fc5f7754cc3c20d8a15f77dd66a6f9f70a784e1", checked := Try.checked }
namespace Rows
def none {H : Type} : Left H := { results := [], args := [] }

/-- 'laws.FnExactLosingPours': WHATEVER THE INPUT: true; the input reads as it did. -/
def fnExactLosingPoursSpec : ChangeSpec := { name := "fnExactLosingPours", fn := fun _ => fun
  | [d] => { results := [.lit (.bool true)], args := [d] }
  | _ => none }
def fnExactLosingPoursRow : OpenClaim := { program := "ytaopbefklkbmeaa", sum := "56283764dd856e8566ca04a60fc5f7754cc3c20d8a15f77dd66a6f9f70a784e1", func := "loop.example/g01215/laws.FnExactLosingPours", spec := "fnExactLosingPours", unfollowed := true, recurses := true, plainKeys := false, apart := false }
def FnExactLosingPoursSaid : Prop := fnExactLosingPoursRow.holds Try.pinned (OpenSpec.ofChange fnExactLosingPoursSpec)

/-- ITS FALSE NEIGHBOUR: 'it returns false'. Refute it at one input. -/
def fnExactLosingPoursWrong : ChangeSpec := { name := "fnExactLosingPours", fn := fun _ => fun
  | [d] => { results := [.lit (.bool false)], args := [d] }
  | _ => none }
def FnExactLosingPoursWrongFalsely : Prop := fnExactLosingPoursRow.holds Try.pinned (OpenSpec.ofChange fnExactLosingPoursWrong)

/-- 'laws.FnExactCountWays': WHATEVER THE INPUT: true; the input reads as it did. -/
def fnExactCountWaysSpec : ChangeSpec := { name := "fnExactCountWays", fn := fun _ => fun
  | [d] => { results := [.lit (.bool true)], args := [d] }
  | _ => none }
def fnExactCountWaysRow : OpenClaim := { program := "ytaopbefklkbmeaa", sum := "56283764dd856e8566ca04a60fc5f7754cc3c20d8a15f77dd66a6f9f70a784e1", func := "loop.example/g01215/laws.FnExactCountWays", spec := "fnExactCountWays", unfollowed := true, recurses := true, plainKeys := false, apart := false }
def FnExactCountWaysSaid : Prop := fnExactCountWaysRow.holds Try.pinned (OpenSpec.ofChange fnExactCountWaysSpec)

/-- ITS FALSE NEIGHBOUR: 'it returns false'. Refute it at one input. -/
def fnExactCountWaysWrong : ChangeSpec := { name := "fnExactCountWays", fn := fun _ => fun
  | [d] => { results := [.lit (.bool false)], args := [d] }
  | _ => none }
def FnExactCountWaysWrongFalsely : Prop := fnExactCountWaysRow.holds Try.pinned (OpenSpec.ofChange fnExactCountWaysWrong)

/- THE SECOND FORM. 'bulk': how many values and letters a reading holds, each counted each time it is reached (what is shared counts as often as it is met; a slice's spare places count too). A statement '..UptoSaid' is the law's where the arguments, and the package variables that the reading takes, are together of bulk at most 1048576: NARROWER than '..Said'. Prove '..Said' where nothing that the law and all that it calls make is longer than what came in: it says more and counts as full. Else prove '..UptoSaid'. A law counts once. -/
mutual
def uptoBulk {H : Type} : DataW H → Nat
  | .lit (.string bytes) => bytes.length + 1
  | .lit _ => 1
  | .nil => 1
  | .ptr d => uptoBulk d + 1
  | .slice elems spare => uptoBulkAll elems + uptoBulkAll spare + 1
  | .agg parts => uptoBulkAll parts + 1
  | .iface _ d => uptoBulk d + 1
  | .map entries => uptoBulkEntries entries + 1
  | .held _ => 1
def uptoBulkAll {H : Type} : List (DataW H) → Nat
  | [] => 0
  | d :: r => uptoBulk d + uptoBulkAll r
def uptoBulkEntries {H : Type} : List (Lit × DataW H) → Nat
  | [] => 0
  | x :: r => uptoBulkEntry x + uptoBulkEntries r
def uptoBulkEntry {H : Type} : Lit × DataW H → Nat
  | (.string bytes, d) => bytes.length + uptoBulk d + 1
  | (_, d) => uptoBulk d + 1
 end
def uptoSmall : (H : Type) → List (DataW H) → Bool := fun _ ds => decide (uptoBulkAll ds ≤ 1048576)
def OpenSpec.upto (s : _root_.Go.ChangeSpec) : _root_.Go.OpenSpec := { _root_.Go.OpenSpec.ofChange s with cond := some uptoSmall }

/-- 'laws.FnExactLosingPours', WHERE WHAT IT READS IS OF BULK AT MOST 1048576: true; the input reads as it did. -/
def fnExactLosingPoursUptoRow : OpenClaim := { program := "ytaopbefklkbmeaa", sum := "56283764dd856e8566ca04a60fc5f7754cc3c20d8a15f77dd66a6f9f70a784e1", func := "loop.example/g01215/laws.FnExactLosingPours", spec := "fnExactLosingPours", unfollowed := true, recurses := true, plainKeys := false, apart := false, narrowed := true }
def FnExactLosingPoursUptoSaid : Prop := fnExactLosingPoursUptoRow.holds Try.pinned (OpenSpec.upto fnExactLosingPoursSpec)

/-- 'laws.FnExactCountWays', WHERE WHAT IT READS IS OF BULK AT MOST 1048576: true; the input reads as it did. -/
def fnExactCountWaysUptoRow : OpenClaim := { program := "ytaopbefklkbmeaa", sum := "56283764dd856e8566ca04a60fc5f7754cc3c20d8a15f77dd66a6f9f70a784e1", func := "loop.example/g01215/laws.FnExactCountWays", spec := "fnExactCountWays", unfollowed := true, recurses := true, plainKeys := false, apart := false, narrowed := true }
def FnExactCountWaysUptoSaid : Prop := fnExactCountWaysUptoRow.holds Try.pinned (OpenSpec.upto fnExactCountWaysSpec)

end Rows
end Go.Proofs.Ytaopbefklkbmeaa
