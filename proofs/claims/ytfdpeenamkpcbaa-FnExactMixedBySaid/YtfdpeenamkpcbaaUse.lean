/- Walks: useful pours. -/
import Derived.Test.YtfdpeenamkpcbaaDel
import Derived.Test.YtfdpeenamkpcbaaBnd
set_option maxRecDepth 100000
set_option linter.unusedSimpArgs false
set_option linter.unusedVariables false
namespace Go.Proofs.Ytfdpeenamkpcbaa
open Go Go.RowKit
def idleF (R p : List Int) : Bool := decide ((runsL (tubeAt R (p.getD 0 0).toNat)).length / 2 = 1) && decide (layN (tubeAt R (p.getD 1 0).toNat) = 0)
def okP (p : List Int) : Prop := p.length = 2 ∧ (0 ≤ p.getD 0 0 ∧ p.getD 0 0 ≤ 5) ∧ (0 ≤ p.getD 1 0 ∧ p.getD 1 0 ≤ 5)
theorem okP_take {p : List Int} (h : okP p) : p.take 2 = p := List.take_of_length_le (by have := h.1; omega)
--@tbl isIdle = impl.isIdle
/-! DeleteFunc with a closure over one rack. -/
--@tbl delR = slices.DeleteFunc[[][2]int,[2]int]
def delR_F (g : Nat) (pr : List Int → List Int → Bool) (Q : List Int → List Int → Prop) : List SV → Heap → Nat → Nat → K1 → Prop
  | [.slice b 0 len cap, .fn f [.ptr k 0]], H, n, m, κ => match hget H b, hget H k with
    | some (.ints L e), some (.ints R _) => f = g ∧ R.length = 24 ∧ L.length = cap * 2 ∧ len ≤ cap ∧ len ≤ 4611686018427387903 ∧ b ≠ k ∧ m ≤ b ∧ (∀ i, i < len → Q R ((L.drop (i * 2)).take 2)) ∧
        κ (.slice b 0 ((kept (fun x => !pr R x) L len).length / 2) cap) ((b, .ints (kept (fun x => !pr R x) L len ++ List.replicate (len * 2 - (kept (fun x => !pr R x) L len).length) 0 ++ L.drop (len * 2)) e) :: H) n
    | _, _ => False
  | [.nils, .fn _ [.ptr k 0]], H, n, _, κ => match hget H k with
    | some (.ints _ _) => κ .nils H n
    | _ => False
  | _, _, _, _, _ => False
--@tbl useful = impl.useful
--@tbl uDel = slices.DeleteFunc[[][2]int,[2]int]
def ulF (R : List Int) : List Int := kept (fun p => !idleF R p) (PL R 36) ((PL R 36).length / 2)
theorem PL_okP (R : List Int) (i : Nat) (junk : List Int) (h : i * 2 + 2 ≤ (PL R 36).length) : okP (List.take 2 (List.drop (i * 2) (PL R 36 ++ junk))) := by
  have hbd : Bd 0 5 (PL R 36) := PL_bd R 36 (by omega)
  rw [take2_drop _ _ (by rw [List.length_append]; omega), getD_app _ _ _ (by omega), getD_app _ _ _ (by omega)]
  exact ⟨rfl, hbd.getD (by omega), hbd.getD (by omega)⟩
def useful_F : List SV → Heap → Nat → Nat → K1 → Prop
  | [.arr R], H, n, _, κ => R.length = 24 ∧ freshK .one (ulF R) ((ulF R).length / 2) 2 50 (decide (PL R 36 = [])) H n κ
  | _, _, _, _, _ => False
/-! The model's. -/
--@tbl l2Idle = spec.l2Idle
--@tbl l2Useful = spec.l2Useful
def l2Useful_F : List SV → Heap → Nat → Nat → K1 → Prop
  | [.arr R], H, n, _, κ => (R.length = 24 ∧ rackB R = true) ∧ freshK .one (ulF R) ((ulF R).length / 2) 2 50 false H n κ
  | _, _, _, _, _ => False
theorem ulF_even (R : List Int) : ∃ k, (ulF R).length = k * 2 ∧ k ≤ 36 := by
  obtain ⟨m, hm, hm36⟩ := PL_even R 36
  obtain ⟨k, hk, hkm⟩ := kept_even (fun p => !idleF R p) (PL R 36) m (by omega)
  have e2 : (PL R 36).length / 2 = m := by omega
  exact ⟨k, by unfold ulF; rw [e2]; exact hk, by omega⟩
theorem ulF_zero (R : List Int) : decide ((((ulF R).length / 2 : Nat) : Int) = 0) = decide (ulF R = []) := by
  obtain ⟨k, hk, _⟩ := ulF_even R
  by_cases h : ulF R = []
  · simp [h]
  · have : ¬ k = 0 := fun h0 => h (List.length_eq_zero_iff.1 (by rw [hk, h0]))
    have h2 : ¬ (((ulF R).length / 2 : Nat) : Int) = 0 := by omega
    simp only [h, h2]
end Go.Proofs.Ytfdpeenamkpcbaa
