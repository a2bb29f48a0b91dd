/- Walks: what the outside sees of pours by rules. -/
import Derived.Test.YtdnechlmkbchaaaRule
set_option maxRecDepth 100000
set_option linter.unusedSimpArgs false
set_option linter.unusedVariables false
namespace Go.Proofs.Ytdnechlmkbchaaa
open Go Go.RowKit
def poursBy_F : List SV → Heap → Nat → Nat → K1 → Prop
  | [.arr R, .arr D, .int u], H, n, _, κ => (R.length = 24 ∧ D.length = 6 ∧ forB R D = true) ∧ freshK .one (GL (pbB R D u) 36) ((GL (pbB R D u) 36).length / 2) 2 51 true H n κ
  | _, _, _, _, _ => False
--@tbl poursBy = impl.poursBy
def l8Pours_F : List SV → Heap → Nat → Nat → K1 → Prop
  | [.arr R, .arr D, .int u], H, n, _, κ => (R.length = 24 ∧ D.length = 6 ∧ forB R D = true ∧ ruF u = true) ∧ freshK .one (GL (pbB R D u) 36) ((GL (pbB R D u) 36).length / 2) 2 51 false H n κ
  | _, _, _, _, _ => False
--@tbl l8Pours = spec.l8Pours
def pbyB (R D : List Int) (u i j : Int) : Bool := forB R D && ruF u && plF i && plF j && !decide (movF R D u i j = 0)
def pbyT (R D : List Int) (u i j : Int) : List Int := if pbyB R D u i j = true then mvR R i.toNat j.toNat (movF R D u i j).toNat else List.replicate 24 0
def pbyN (R D : List Int) (u i j : Int) : Int := if pbyB R D u i j = true then movF R D u i j else 0
theorem pbyT_len {R : List Int} (hR : R.length = 24) (D : List Int) (u i j : Int) : (pbyT R D u i j).length = 24 := by
  unfold pbyT
  split
  · rw [mvR_len, hR]
  · rfl
--@tbl PourBy = impl.PourBy
--@tbl sPourBy = spec.PourBy
--@tbl DropsFor = impl.DropsFor
--@tbl sDropsFor = spec.DropsFor
/-! CountRules. -/
def crlK (R D : List Int) (k : Nat) : List Int := (List.range 5).map fun c => if 1 ≤ c ∧ c ≤ k then (((GL (pbB R D c) 36).length / 2 : Nat) : Int) else 0
theorem crlK_len (R D : List Int) (k : Nat) : (crlK R D k).length = 5 := by simp [crlK]
theorem crlK_zero (R D : List Int) : crlK R D 0 = List.replicate 5 0 := by
  simp only [crlK]
  apply List.ext_getElem (by simp)
  intro k h1 h2
  simp only [List.getElem_map, List.getElem_range, List.getElem_replicate]
  rw [if_neg (by omega)]
theorem crlK_step (R D : List Int) (k : Nat) (hk : k < 4) : (crlK R D k).set (k + 1) (((GL (pbB R D ((k + 1 : Nat) : Int)) 36).length / 2 : Nat) : Int) = crlK R D (k + 1) := by
  apply List.ext_getElem (by simp [crlK])
  intro c h1 h2
  simp only [crlK, List.getElem_set, List.getElem_map, List.getElem_range]
  by_cases hc : k + 1 = c
  · subst hc; rw [if_pos rfl, if_pos (by omega)]
  · rw [if_neg hc]
    by_cases h3 : 1 ≤ c ∧ c ≤ k
    · rw [if_pos h3, if_pos (by omega)]
    · rw [if_neg h3, if_neg (by omega)]
def crlF (R D : List Int) : List Int := if forB R D = true then crlK R D 4 else List.replicate 5 0
theorem crlF_len (R D : List Int) : (crlF R D).length = 5 := by
  unfold crlF
  split
  · exact crlK_len _ _ _
  · rfl
--@tbl CountRules = impl.CountRules
--@tbl sCountRules = spec.CountRules
end Go.Proofs.Ytdnechlmkbchaaa
