/- Walks: MostPoured. -/
import Derived.Test.YtnlbljikbonioaaN
import Derived.Test.YtnlbljikbonioaaE
set_option maxRecDepth 100000
set_option linter.unusedSimpArgs false
set_option linter.unusedVariables false
namespace Go.Proofs.Ytnlbljikbonioaa
open Go Go.RowKit
theorem PL_bd (R : List Int) (m : Nat) (hm : m ≤ 36) : ∀ x ∈ PL R m, 0 ≤ x ∧ x ≤ 5 := by
  intro x hx
  unfold PL at hx
  obtain ⟨k, hk, hx⟩ := List.mem_flatMap.1 hx
  have := List.mem_range.1 hk
  unfold prK at hx
  split at hx
  · simp at hx; omega
  · simp at hx
theorem PL_even (R : List Int) : ∀ m, ∃ n, (PL R m).length = n * 2 ∧ n ≤ m
  | 0 => ⟨0, rfl, by omega⟩
  | m + 1 => by
    obtain ⟨n, h1, h2⟩ := PL_even R m
    rw [PL_succ, List.length_append, h1]
    unfold prK
    split
    · exact ⟨n + 1, by simp; omega, by omega⟩
    · exact ⟨n, by simp, by omega⟩
def pours_F : List SV → Heap → Nat → Nat → K1 → Prop
  | [.arr R], H, n, _, κ => R.length = 24 ∧ freshK .one (PL R 36) ((PL R 36).length / 2) 2 44 true H n κ
  | _, _, _, _, _ => False
theorem pours_T : ∀ args H n m κ, pours_F args H n m κ → GenOK Try.prog 63 args H n m κ := by
  intro args H n m κ h
  unfold pours_F at h
  split at h
  · exact gen_of_fresh (pours_ok _ h.1) (fun k o hk => by cases hk) h.2
  · exact h.elim
def l2Pours_F : List SV → Heap → Nat → Nat → K1 → Prop
  | [.arr R], H, n, _, κ => (R.length = 24 ∧ rackB R = true) ∧ freshK .one (PL R 36) ((PL R 36).length / 2) 2 44 false H n κ
  | _, _, _, _, _ => False
theorem l2Pours_T : ∀ args H n m κ, l2Pours_F args H n m κ → GenOK Try.prog 64 args H n m κ := by
  intro args H n m κ h
  unfold l2Pours_F at h
  split at h
  · exact gen_of_fresh (l2Pours_ok _ h.1.1 h.1.2) (fun k o hk => by cases hk) h.2
  · exact h.elim
def stepM (R : List Int) (s : Int × List Int) (a b : Int) : Int × List Int := if s.1 < pmN R a.toNat b.toNat then (pmN R a.toNat b.toNat, [a, b]) else s
def mostF (R P : List Int) : Nat → Int × List Int
  | 0 => (0, [0, 0])
  | k + 1 => stepM R (mostF R P k) (P.getD (k * 2) 0) (P.getD (k * 2 + 1) 0)
theorem mostF_zero (R P : List Int) : mostF R P 0 = (0, [0, 0]) := rfl
theorem mostF_succ (R P : List Int) (k : Nat) : mostF R P (k + 1) = stepM R (mostF R P k) (P.getD (k * 2) 0) (P.getD (k * 2 + 1) 0) := rfl
def mpN (R : List Int) : Int := if rackB R = true then (mostF R (PL R 36) ((PL R 36).length / 2)).1 else 0
def mpL (R : List Int) : List Int := if rackB R = true then (mostF R (PL R 36) ((PL R 36).length / 2)).2 else [0, 0]
theorem mostF_len (R P : List Int) : ∀ k, (mostF R P k).2.length = 2
  | 0 => rfl
  | k + 1 => by
    rw [mostF_succ]
    unfold stepM
    split
    · rfl
    · exact mostF_len R P k
theorem mpL_len (R : List Int) : (mpL R).length = 2 := by
  unfold mpL
  split
  · exact mostF_len _ _ _
  · rfl
theorem take2_drop (L : List Int) (o : Nat) (h : o + 2 ≤ L.length) : (L.drop o).take 2 = [L.getD o 0, L.getD (o + 1) 0] := by
  rw [List.drop_eq_getElem_cons (show o < L.length by omega), List.drop_eq_getElem_cons (show o + 1 < L.length by omega)]
  simp only [List.getD, List.getElem?_eq_getElem (show o < L.length by omega), List.getElem?_eq_getElem (show o + 1 < L.length by omega), Option.getD_some, List.take_succ_cons, List.take_zero]
--@tbl MostPoured = impl.MostPoured
--@tbl sMostPoured = spec.MostPoured
end Go.Proofs.Ytnlbljikbonioaa
