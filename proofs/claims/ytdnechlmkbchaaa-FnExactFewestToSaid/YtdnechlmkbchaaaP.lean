/- Walks: places of racks, pours as the outside sees them. -/
import Derived.Test.YtdnechlmkbchaaaN
import Derived.Test.YtdnechlmkbchaaaE
set_option maxRecDepth 100000
set_option linter.unusedSimpArgs false
set_option linter.unusedVariables false
namespace Go.Proofs.Ytdnechlmkbchaaa
open Go Go.RowKit
--@tbl isAt = impl.isAt
--@tbl areAll_place = impl.areAll[int]
def areAll_place_F := areAllI_F [(134, plF)]
theorem areAll_place_T : ∀ args H p v, areAll_place_F args H = some (p, v) → p → PureH Try.prog 123 args H v :=
  areAllI_T (by intro q hq; simp at hq; rcases hq with rfl; exact isPlace_ok)
def isAt_F : List SV → Heap → Option (Prop × SV)
  | [.arr R, .slice b off len _], H => match hget H b with
    | some (.ints L _) => some (R.length = 24 ∧ off + len ≤ L.length ∧ len ≤ 9223372036854775806, .bool (rackB R && ((L.drop off).take len).all plF))
    | _ => none
  | _, _ => none
end Go.Proofs.Ytdnechlmkbchaaa
