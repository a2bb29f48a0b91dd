/- Walks: pours as the outside sees them. -/
import Derived.Test.YtdnechlmkbchaaaP
import Derived.Test.YtdnechlmkbchaaaG
set_option maxRecDepth 100000
set_option linter.unusedSimpArgs false
set_option linter.unusedVariables false
namespace Go.Proofs.Ytdnechlmkbchaaa
open Go Go.RowKit
def pourB (R : List Int) (i j : Int) : Bool := rackB R && plF i && plF j && canF R i j
def pourT (R : List Int) (i j : Int) : List Int := if pourB R i j = true then pourF R i.toNat j.toNat else List.replicate 24 0
def pourM (R : List Int) (i j : Int) : Int := if pourB R i j = true then pmN R i.toNat j.toNat else 0
theorem pourF_len {R : List Int} (hR : R.length = 24) (a b : Nat) : (pourF R a b).length = 24 := by unfold pourF; rw [pmR_len, hR]
theorem pourT_len {R : List Int} (hR : R.length = 24) (i j : Int) : (pourT R i j).length = 24 := by
  unfold pourT
  split
  · exact pourF_len hR _ _
  · rfl
--@tbl Pour = impl.Pour
--@tbl sPour = spec.Pour
end Go.Proofs.Ytdnechlmkbchaaa
