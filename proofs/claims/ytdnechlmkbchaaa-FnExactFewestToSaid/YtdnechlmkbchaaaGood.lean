/- Walks: GoodPours, UndonePours. -/
import Derived.Test.YtdnechlmkbchaaaUse
import Derived.Test.YtdnechlmkbchaaaSl
import Derived.Test.YtdnechlmkbchaaaCom
import Derived.Test.YtdnechlmkbchaaaEqR
set_option maxRecDepth 100000
set_option linter.unusedSimpArgs false
set_option linter.unusedVariables false
namespace Go.Proofs.Ytdnechlmkbchaaa
open Go Go.RowKit
def goodF (R p : List Int) : Bool := decide (bndF (pourF R (p.getD 0 0).toNat (p.getD 1 0).toNat) < bndF R)
def qCan (R p : List Int) : Prop := rackB R = true ∧ okP p ∧ canF R (p.getD 0 0) (p.getD 1 0) = true
theorem qCan_of {R : List Int} (hr : rackB R = true) (i : Nat) (junk : List Int) (h : i * 2 + 2 ≤ (PL R 36).length) : qCan R (List.take 2 (List.drop (i * 2) (PL R 36 ++ junk))) := by
  obtain ⟨a, b, h1, h2, h3, h4⟩ := GL_pair' (fun i j => canF R i j) i junk h
  rw [PL_GL, h4]
  exact ⟨hr, ⟨rfl, by simp only [List.getD_cons_zero]; omega, by simp only [List.getD_cons_succ, List.getD_cons_zero]; omega⟩, h3⟩
theorem qCan_pair {R : List Int} (hr : rackB R = true) (i : Nat) (h : i * 2 + 2 ≤ (PL R 36).length) : canF R ((PL R 36).getD (i * 2) 0) ((PL R 36).getD (i * 2 + 1) 0) = true := by
  have h1 := (qCan_of hr i [] h).2.2
  rw [List.append_nil, take2_drop _ _ (by omega)] at h1
  exact h1
--@tbl isGood = impl.isGood
--@tbl gDel = slices.DeleteFunc[[][2]int,[2]int]
def gdL (R : List Int) : List Int := kept (fun p => goodF R p) (PL R 36) ((PL R 36).length / 2)
theorem gdL_even (R : List Int) : ∃ k, (gdL R).length = k * 2 ∧ k ≤ 36 := by
  obtain ⟨m, hm, hm36⟩ := PL_even R 36
  obtain ⟨k, hk, hkm⟩ := kept_even (fun p => goodF R p) (PL R 36) m (by omega)
  have e2 : (PL R 36).length / 2 = m := by omega
  exact ⟨k, by unfold gdL; rw [e2]; exact hk, by omega⟩
def good_F : List SV → Heap → Nat → Nat → K1 → Prop
  | [.arr R], H, n, _, κ => (R.length = 24 ∧ rackB R = true) ∧ freshK .one (gdL R) ((gdL R).length / 2) 2 51 (decide (PL R 36 = [])) H n κ
  | _, _, _, _, _ => False
--@tbl good = impl.good
def undF (R p : List Int) : Bool := canF (pourF R (p.getD 0 0).toNat (p.getD 1 0).toNat) (p.getD 1 0) (p.getD 0 0) && decide (pourF (pourF R (p.getD 0 0).toNat (p.getD 1 0).toNat) (p.getD 1 0).toNat (p.getD 0 0).toNat = R)
--@tbl isUndone = impl.isUndone
--@tbl l5Undone = spec.l5Undone
--@w
def l6Good_F : List SV → Heap → Nat → Nat → K1 → Prop
  | [.arr R], H, n, _, κ => (R.length = 24 ∧ rackB R = true) ∧ freshK .one (gdL R) ((gdL R).length / 2) 2 51 (false) H n κ
  | _, _, _, _, _ => False
--@tbl l6Good = spec.l6Good
def unL (R : List Int) : List Int := kept (fun p => undF R p) (PL R 36) ((PL R 36).length / 2)
theorem unL_even (R : List Int) : ∃ k, (unL R).length = k * 2 ∧ k ≤ 36 := by
  obtain ⟨m, hm, hm36⟩ := PL_even R 36
  obtain ⟨k, hk, hkm⟩ := kept_even (fun p => undF R p) (PL R 36) m (by omega)
  have e2 : (PL R 36).length / 2 = m := by omega
  exact ⟨k, by unfold unL; rw [e2]; exact hk, by omega⟩
--@tbl uuDel = slices.DeleteFunc[[][2]int,[2]int]
def gpF (R : List Int) : List Int := if rackB R = true then gdL R else []
theorem gpF_even (R : List Int) : ∃ k, (gpF R).length = k * 2 ∧ k ≤ 36 := by
  unfold gpF
  split
  · exact gdL_even R
  · exact ⟨0, rfl, by omega⟩
def upnF (R : List Int) : List Int := if rackB R = true then unL R else []
theorem upnF_even (R : List Int) : ∃ k, (upnF R).length = k * 2 ∧ k ≤ 36 := by
  unfold upnF
  split
  · exact unL_even R
  · exact ⟨0, rfl, by omega⟩
def GoodPours_F : List SV → Heap → Nat → Nat → K1 → Prop
  | [.arr R], H, n, _, κ => (R.length = 24) ∧ freshK (.more [.bool (rackB R)]) (gpF R) ((gpF R).length / 2) 2 51 (decide (rackB R = false ∨ PL R 36 = [])) H n κ
  | _, _, _, _, _ => False
--@tbl GoodPours = impl.GoodPours
def sGoodPours_F : List SV → Heap → Nat → Nat → K1 → Prop
  | [.arr R], H, n, _, κ => (R.length = 24) ∧ freshK (.more [.bool (rackB R)]) (gpF R) ((gpF R).length / 2) 2 51 (false) H n κ
  | _, _, _, _, _ => False
--@tbl sGoodPours = spec.GoodPours
def UndonePours_F : List SV → Heap → Nat → Nat → K1 → Prop
  | [.arr R], H, n, _, κ => (R.length = 24) ∧ freshK (.more [.bool (rackB R)]) (upnF R) ((upnF R).length / 2) 2 51 (decide (rackB R = false ∨ PL R 36 = [])) H n κ
  | _, _, _, _, _ => False
--@tbl UndonePours = impl.UndonePours
def sUndonePours_F : List SV → Heap → Nat → Nat → K1 → Prop
  | [.arr R], H, n, _, κ => (R.length = 24) ∧ freshK (.more [.bool (rackB R)]) (upnF R) ((upnF R).length / 2) 2 51 (false) H n κ
  | _, _, _, _, _ => False
--@tbl sUndonePours = spec.UndonePours
end Go.Proofs.Ytdnechlmkbchaaa
