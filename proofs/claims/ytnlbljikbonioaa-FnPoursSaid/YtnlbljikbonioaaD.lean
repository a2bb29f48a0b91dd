/- Walks: deals. -/
import Derived.Test.YtnlbljikbonioaaC
set_option maxRecDepth 100000
set_option linter.unusedSimpArgs false
set_option linter.unusedVariables false
namespace Go.Proofs.Ytnlbljikbonioaa
open Go Go.RowKit

def in04 (n : Int) : Bool := decide (0 ≤ n ∧ n ≤ 4)
def in024 (n : Int) : Bool := decide (0 ≤ n ∧ n ≤ 24)
--@tbl areAll_deal = impl.areAll[int]
theorem all_bd {a b : Int} {pr : Int → Bool} {l : List Int} (h : l.all pr = true) (hp : ∀ x, pr x = true → a ≤ x ∧ x ≤ b) : Bd a b l := fun x hx => hp x (List.all_eq_true.1 h x hx)
def isDealF (m c : List Int) : Bool := decide (c.getD 0 0 = 0) && m.all in04 && c.all in024 && decide (m.sum = c.sum)
--@tbl isDeal = impl.isDeal
theorem isDealF_bd {m c : List Int} (h : isDealF m c = true) : c.getD 0 0 = 0 ∧ Bd 0 4 m ∧ Bd 0 24 c ∧ m.sum = c.sum := by
  simp only [isDealF, Bool.and_eq_true, decide_eq_true_eq] at h
  exact ⟨h.1.1.1, all_bd h.1.1.2 (by intro x; simp [in04]), all_bd h.1.2 (by intro x; simp [in024]), h.2⟩

--@tbl l9Deal = spec.l9Deal
def l9DealF (m c : List Int) : Int × Bool := if m.all in04 = true then if (c.drop 1).all in024 = true then (m.sum, decide (c.getD 0 0 = 0) && decide (m.sum = (c.drop 1).sum)) else (0, false) else (0, false)
theorem all_take_succ (pr : Int → Bool) (l : List Int) (k : Nat) (h : k < l.length) : (l.take (k + 1)).all pr = ((l.take k).all pr && pr (l.getD k 0)) := by
  rw [List.take_succ_eq_append_getElem h, List.all_append]
  simp [List.getD, List.getElem?_eq_getElem h]
theorem in04_bd (x : Int) (h : in04 x = true) : 0 ≤ x ∧ x ≤ 4 := by simpa [in04] using h
theorem in024_bd (x : Int) (h : in024 x = true) : 0 ≤ x ∧ x ≤ 24 := by simpa [in024] using h
end Go.Proofs.Ytnlbljikbonioaa
