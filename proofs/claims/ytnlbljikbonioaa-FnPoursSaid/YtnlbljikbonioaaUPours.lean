/- Walks: UsefulPours. -/
import Derived.Test.YtnlbljikbonioaaUse
import Derived.Test.YtnlbljikbonioaaSl
set_option maxRecDepth 100000
set_option linter.unusedSimpArgs false
set_option linter.unusedVariables false
namespace Go.Proofs.Ytnlbljikbonioaa
open Go Go.RowKit
def upF (R : List Int) : List Int := if rackB R = true then ulF R else []
theorem upF_even (R : List Int) : ∃ k, (upF R).length = k * 2 ∧ k ≤ 36 := by
  unfold upF
  split
  · exact ulF_even R
  · exact ⟨0, rfl, by omega⟩
--@tbl UsefulPours = impl.UsefulPours
--@tbl sUsefulPours = spec.UsefulPours
theorem UsefulPours_ok (R : List Int) (hR : R.length = 24) : FreshP Try.prog 16 [.arr R] [] (upF R) ((upF R).length / 2) 2 44 (decide (rackB R = false ∨ PL R 36 = [])) (.more [.bool (rackB R)]) := by
  have tkR : R.take 24 = R := List.take_of_length_le (by omega)
  unfold upF
  cases hr : rackB R
  · refine fresh_of_vc (X := ⟨Try.prog, tys, [(14, IsRack_F)], [(67, useful_F)], true, true, 0, [], []⟩) fn_16 ⟨tys_ok, (.cons IsRack_T .nil), (.cons useful_T .nil), mixed⟩ (n0 := 0) rfl (Nat.le_of_ble_eq_true rfl) (by simp [wfL, SV.wf]) (wfH_spec (by simp [wfH, SObj.wf])) (Nat.le_refl _) ?_
    simp -implicitDefEqProofs only [Try.f16, Option.getD_some, argS, IsRack_F, useful_F, hR, tkR, hr, freshK, Wrap.ap, ZB, Int.reduceToNat, Nat.reduceLT, Nat.reduceLeDiff, Int.reduceLE, Int.reduceLT, Nat.reduceEqDiff, Nat.reduceSub, SB, SV.known, packR, ne_eq, reduceCtorEq, Nat.reduceEqDiff, ↓reduceIte, if_true, if_false, eq_self, Nat.reduceAdd, Nat.reduceMul, Nat.reduceSub, forall_const, oneCellS, litOne, flat1, Kd.isSca, flat, TYB]
    exact .inl ⟨by simp, rfl, rfl⟩
  · refine fresh_of_vc (X := ⟨Try.prog, tys, [(14, IsRack_F)], [(67, useful_F)], true, true, 0, [], []⟩) fn_16 ⟨tys_ok, (.cons IsRack_T .nil), (.cons useful_T .nil), mixed⟩ (n0 := 0) rfl (Nat.le_of_ble_eq_true rfl) (by simp [wfL, SV.wf]) (wfH_spec (by simp [wfH, SObj.wf])) (Nat.le_refl _) ?_
    simp -implicitDefEqProofs only [Try.f16, Option.getD_some, argS, IsRack_F, useful_F, hR, tkR, hr, freshK, Wrap.ap, ZB, Int.reduceToNat, Nat.reduceLT, Nat.reduceLeDiff, Int.reduceLE, Int.reduceLT, Nat.reduceEqDiff, Nat.reduceSub, SB, SV.known, packR, ne_eq, reduceCtorEq, Nat.reduceEqDiff, ↓reduceIte, if_true, if_false, eq_self, Nat.reduceAdd, Nat.reduceMul, Nat.reduceSub, forall_const, oneCellS, litOne, flat1, Kd.isSca, flat, TYB]
    exact ⟨fun h1 h2 => .inl ⟨by simp [h1], h2, rfl⟩, fun h cap junk hj => .inr ⟨1, cap, junk, rfl, by simp [hget_cons], by omega, hj, by simpa using h⟩⟩
theorem sUsefulPours_ok (R : List Int) (hR : R.length = 24) : FreshP Try.prog 17 [.arr R] [] (upF R) ((upF R).length / 2) 2 44 false (.more [.bool (rackB R)]) := by
  have tkR : R.take 24 = R := List.take_of_length_le (by omega)
  unfold upF
  cases hr : rackB R
  · refine fresh_of_vc (X := ⟨Try.prog, tys, [(59, l2Rack_F)], [(68, l2Useful_F)], true, true, 0, [], []⟩) fn_17 ⟨tys_ok, (.cons l2Rack_T .nil), (.cons l2Useful_T .nil), mixed⟩ (n0 := 0) rfl (Nat.le_of_ble_eq_true rfl) (by simp [wfL, SV.wf]) (wfH_spec (by simp [wfH, SObj.wf])) (Nat.le_refl _) ?_
    simp -implicitDefEqProofs only [Try.f17, Option.getD_some, argS, l2Rack_F, l2Useful_F, hR, tkR, hr, freshK, Wrap.ap, ZB, Int.reduceToNat, Nat.reduceLT, Nat.reduceLeDiff, Int.reduceLE, Int.reduceLT, Nat.reduceEqDiff, Nat.reduceSub, SB, SV.known, packR, ne_eq, reduceCtorEq, Nat.reduceEqDiff, ↓reduceIte, if_true, if_false, eq_self, Nat.reduceAdd, Nat.reduceMul, Nat.reduceSub, forall_const, oneCellS, litOne, flat1, Kd.isSca, flat, TYB]
    exact .inr ⟨1, 0, [], rfl, by simp [hget_cons], by omega, rfl, by simp⟩
  · refine fresh_of_vc (X := ⟨Try.prog, tys, [(59, l2Rack_F)], [(68, l2Useful_F)], true, true, 0, [], []⟩) fn_17 ⟨tys_ok, (.cons l2Rack_T .nil), (.cons l2Useful_T .nil), mixed⟩ (n0 := 0) rfl (Nat.le_of_ble_eq_true rfl) (by simp [wfL, SV.wf]) (wfH_spec (by simp [wfH, SObj.wf])) (Nat.le_refl _) ?_
    simp -implicitDefEqProofs only [Try.f17, Option.getD_some, argS, l2Rack_F, l2Useful_F, hR, tkR, hr, freshK, Wrap.ap, ZB, Int.reduceToNat, Nat.reduceLT, Nat.reduceLeDiff, Int.reduceLE, Int.reduceLT, Nat.reduceEqDiff, Nat.reduceSub, SB, SV.known, packR, ne_eq, reduceCtorEq, Nat.reduceEqDiff, ↓reduceIte, if_true, if_false, eq_self, Nat.reduceAdd, Nat.reduceMul, Nat.reduceSub, forall_const, oneCellS, litOne, flat1, Kd.isSca, flat, TYB]
    exact fun cap junk hj => .inr ⟨1, cap, junk, rfl, by simp [hget_cons], by omega, hj, by simp⟩
def UsefulPours_F : List SV → Heap → Nat → Nat → K1 → Prop
  | [.arr R], H, n, _, κ => R.length = 24 ∧ freshK (.more [.bool (rackB R)]) (upF R) ((upF R).length / 2) 2 44 (decide (rackB R = false ∨ PL R 36 = [])) H n κ
  | _, _, _, _, _ => False
theorem UsefulPours_T : ∀ args H n m κ, UsefulPours_F args H n m κ → GenOK Try.prog 16 args H n m κ := by
  intro args H n m κ h
  unfold UsefulPours_F at h
  split at h
  · exact gen_of_fresh (UsefulPours_ok _ h.1) (fun k o hk => by cases hk) h.2
  · exact h.elim
def sUsefulPours_F : List SV → Heap → Nat → Nat → K1 → Prop
  | [.arr R], H, n, _, κ => R.length = 24 ∧ freshK (.more [.bool (rackB R)]) (upF R) ((upF R).length / 2) 2 44 false H n κ
  | _, _, _, _, _ => False
theorem sUsefulPours_T : ∀ args H n m κ, sUsefulPours_F args H n m κ → GenOK Try.prog 17 args H n m κ := by
  intro args H n m κ h
  unfold sUsefulPours_F at h
  split at h
  · exact gen_of_fresh (sUsefulPours_ok _ h.1) (fun k o hk => by cases hk) h.2
  · exact h.elim
end Go.Proofs.Ytnlbljikbonioaa
