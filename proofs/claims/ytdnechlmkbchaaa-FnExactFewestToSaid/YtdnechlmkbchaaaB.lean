/- Walks: small functions. -/
import Derived.Test.YtdnechlmkbchaaaA
set_option maxRecDepth 100000
set_option linter.unusedSimpArgs false
set_option linter.unusedVariables false
namespace Go.Proofs.Ytdnechlmkbchaaa
open Go Go.RowKit
--@tbl toIntA6 = laws.toIntA6
/-! IsDepths. -/
def isDep (n : Int) : Bool := decide (1 ≤ n ∧ n ≤ 4)
--@tbl areAll_dep = impl.areAll[int]
--@tbl isDepths = impl.IsDepths
--@tbl l8Depths = spec.l8Depths
theorem all_hit {pr : Int → Bool} {L : List Int} {i : Nat} (hi : i < L.length) (h : pr (L.getD i 0) = false) : L.all pr = false := by
  rw [List.all_eq_false]
  refine ⟨L[i], List.getElem_mem _, ?_⟩
  simpa [List.getD, List.getElem?_eq_getElem hi] using h
theorem all_none {pr : Int → Bool} {L : List Int} (h : ∀ k, k < L.length → pr (L.getD k 0) = true) : L.all pr = true := by
  rw [List.all_eq_true]
  intro x hx
  obtain ⟨k, hk, rfl⟩ := List.getElem_of_mem hx
  have := h k hk
  simpa [List.getD, List.getElem?_eq_getElem hk] using this
--@tbl sIsDepths = spec.IsDepths
end Go.Proofs.Ytdnechlmkbchaaa
