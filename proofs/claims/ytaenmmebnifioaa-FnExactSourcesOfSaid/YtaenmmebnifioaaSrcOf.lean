/- Walks: SourcesOf. -/
import Derived.Test.YtaenmmebnifioaaSl3
set_option maxRecDepth 100000
set_option linter.unusedSimpArgs false
set_option linter.unusedVariables false
namespace Go.Proofs.Ytaenmmebnifioaa
open Go Go.RowKit
def soF (R : List Int) : List Int := if rackB R = true then SrL R 144 else []
theorem soF_three (R : List Int) : ∃ k, (soF R).length = k * 3 ∧ k ≤ 144 := by
  unfold soF
  split
  · exact SrL_three R 144
  · exact ⟨0, rfl, by omega⟩
theorem SourcesOf_ok (R : List Int) (hR : R.length = 24) : FreshP Try.prog 34 [.arr R] [] (soF R) ((soF R).length / 3) 3 90 true (.more [.bool (rackB R)]) := by
  have tkR : R.take 24 = R := List.take_of_length_le (by omega)
  unfold soF
  cases hr : rackB R
  · refine fresh_of_vc (X := ⟨Try.prog, tys, [(67, IsRack_F)], [(82, sources_F)], true, true, 0, [], []⟩) fn_34 ⟨tys_ok, (.cons IsRack_T .nil), (.cons sources_T .nil), mixed⟩ (n0 := 0) rfl (Nat.le_of_ble_eq_true rfl) (by simp [wfL, SV.wf]) (wfH_spec (by simp [wfH, SObj.wf])) (Nat.le_refl _) ?_
    simp -implicitDefEqProofs only [Try.f34, Option.getD_some, argS, IsRack_F, sources_F, hR, tkR, hr, freshK, Wrap.ap, ZB, Int.reduceToNat, Nat.reduceLT, Nat.reduceLeDiff, Int.reduceLE, Int.reduceLT, Nat.reduceEqDiff, Nat.reduceSub, SB, SV.known, packR, ne_eq, reduceCtorEq, Nat.reduceEqDiff, ↓reduceIte, if_true, if_false, eq_self, Nat.reduceAdd, Nat.reduceMul, Nat.reduceSub, forall_const, oneCellS, Kd.isSca, flat, TYB]
    exact .inl ⟨rfl, rfl, rfl⟩
  · refine fresh_of_vc (X := ⟨Try.prog, tys, [(67, IsRack_F)], [(82, sources_F)], true, true, 0, [], []⟩) fn_34 ⟨tys_ok, (.cons IsRack_T .nil), (.cons sources_T .nil), mixed⟩ (n0 := 0) rfl (Nat.le_of_ble_eq_true rfl) (by simp [wfL, SV.wf]) (wfH_spec (by simp [wfH, SObj.wf])) (Nat.le_refl _) ?_
    simp -implicitDefEqProofs only [Try.f34, Option.getD_some, argS, IsRack_F, sources_F, hR, tkR, hr, freshK, Wrap.ap, ZB, Int.reduceToNat, Nat.reduceLT, Nat.reduceLeDiff, Int.reduceLE, Int.reduceLT, Nat.reduceEqDiff, Nat.reduceSub, SB, SV.known, packR, ne_eq, reduceCtorEq, Nat.reduceEqDiff, ↓reduceIte, if_true, if_false, eq_self, Nat.reduceAdd, Nat.reduceMul, Nat.reduceSub, forall_const, oneCellS, Kd.isSca, flat, TYB]
    exact ⟨fun h => .inl ⟨rfl, h, rfl⟩, fun h cap junk hj => .inr ⟨1, cap, junk, rfl, by simp [hget_cons], by omega, hj, by simpa using h⟩⟩
theorem sSourcesOf_ok (R : List Int) (hR : R.length = 24) : FreshP Try.prog 33 [.arr R] [] (soF R) ((soF R).length / 3) 3 90 false (.more [.bool (rackB R)]) := by
  have tkR : R.take 24 = R := List.take_of_length_le (by omega)
  unfold soF
  cases hr : rackB R
  · refine fresh_of_vc (X := ⟨Try.prog, tys, [(64, l2Rack_F)], [(81, l5Sources_F)], true, true, 0, [], []⟩) fn_33 ⟨tys_ok, (.cons l2Rack_T .nil), (.cons l5Sources_T .nil), mixed⟩ (n0 := 0) rfl (Nat.le_of_ble_eq_true rfl) (by simp [wfL, SV.wf]) (wfH_spec (by simp [wfH, SObj.wf])) (Nat.le_refl _) ?_
    simp -implicitDefEqProofs only [Try.f33, Option.getD_some, argS, l2Rack_F, l5Sources_F, hR, tkR, hr, freshK, Wrap.ap, ZB, Int.reduceToNat, Nat.reduceLT, Nat.reduceLeDiff, Int.reduceLE, Int.reduceLT, Nat.reduceEqDiff, Nat.reduceSub, SB, SV.known, packR, ne_eq, reduceCtorEq, Nat.reduceEqDiff, ↓reduceIte, if_true, if_false, eq_self, Nat.reduceAdd, Nat.reduceMul, Nat.reduceSub, forall_const, oneCellS, Kd.isSca, flat, TYB]
    exact .inr ⟨1, 0, [], rfl, by simp [hget_cons], by omega, rfl, by simp⟩
  · refine fresh_of_vc (X := ⟨Try.prog, tys, [(64, l2Rack_F)], [(81, l5Sources_F)], true, true, 0, [], []⟩) fn_33 ⟨tys_ok, (.cons l2Rack_T .nil), (.cons l5Sources_T .nil), mixed⟩ (n0 := 0) rfl (Nat.le_of_ble_eq_true rfl) (by simp [wfL, SV.wf]) (wfH_spec (by simp [wfH, SObj.wf])) (Nat.le_refl _) ?_
    simp -implicitDefEqProofs only [Try.f33, Option.getD_some, argS, l2Rack_F, l5Sources_F, hR, tkR, hr, freshK, Wrap.ap, ZB, Int.reduceToNat, Nat.reduceLT, Nat.reduceLeDiff, Int.reduceLE, Int.reduceLT, Nat.reduceEqDiff, Nat.reduceSub, SB, SV.known, packR, ne_eq, reduceCtorEq, Nat.reduceEqDiff, ↓reduceIte, if_true, if_false, eq_self, Nat.reduceAdd, Nat.reduceMul, Nat.reduceSub, forall_const, oneCellS, Kd.isSca, flat, TYB]
    exact fun cap junk hj => .inr ⟨1, cap, junk, rfl, by simp [hget_cons], by omega, hj, by simp⟩
def SourcesOf_F : List SV → Heap → Nat → Nat → K1 → Prop
  | [.arr R], H, n, _, κ => (R.length = 24) ∧ freshK (.more [.bool (rackB R)]) (soF R) ((soF R).length / 3) 3 90 (true) H n κ
  | _, _, _, _, _ => False
--@tbl SourcesOf = impl.SourcesOf
theorem SourcesOf_T : ∀ args H n m κ, SourcesOf_F args H n m κ → GenOK Try.prog 34 args H n m κ := by
  intro args H n m κ h
  unfold SourcesOf_F at h
  split at h
  · exact gen_of_fresh (SourcesOf_ok _ h.1) (fun k o hk => by cases hk) h.2
  · exact h.elim
def sSourcesOf_F : List SV → Heap → Nat → Nat → K1 → Prop
  | [.arr R], H, n, _, κ => (R.length = 24) ∧ freshK (.more [.bool (rackB R)]) (soF R) ((soF R).length / 3) 3 90 (false) H n κ
  | _, _, _, _, _ => False
--@tbl sSourcesOf = spec.SourcesOf
theorem sSourcesOf_T : ∀ args H n m κ, sSourcesOf_F args H n m κ → GenOK Try.prog 33 args H n m κ := by
  intro args H n m κ h
  unfold sSourcesOf_F at h
  split at h
  · exact gen_of_fresh (sSourcesOf_ok _ h.1) (fun k o hk => by cases hk) h.2
  · exact h.elim
theorem lawSourcesOf (R : List Int) (hR : R.length = 24) (_ : ∀ x ∈ R, In64 x) : PureH Try.prog 9 [.arr R] [] (.bool true) := by
  have tkR : R.take 24 = R := List.take_of_length_le (by omega)
  obtain ⟨m, hm, hm36⟩ := soF_three R
  have e2 : (soF R).length / 3 = m := by omega
  refine pure_of_vc (X := ⟨Try.prog, tys, [(16, toRack_F), (35, eqS3_F), (37, held3_F)], [(34, SourcesOf_F), (33, sSourcesOf_F), (36, mark3_F)], true, true, 0, [], []⟩) fn_9 ⟨tys_ok, (.cons toRack_T (.cons eqS3_T (.cons held3_T .nil))), (.cons SourcesOf_T (.cons sSourcesOf_T (.cons mark3_T .nil))), mixed⟩ (n0 := 0) (Nat.le_of_ble_eq_true rfl) (by simp [wfL, SV.wf]) (wfH_spec (by simp [wfH, SObj.wf])) (Nat.le_refl _) (fun _ => by simp [SV.wf, wfL]) ?_
  simp -implicitDefEqProofs only [Try.f9, Option.getD_some, argS, toRack_F, eqS3_F, held3_F, SourcesOf_F, sSourcesOf_F, mark3_F, hR, tkR, e2, freshK, Wrap.ap, ZB, Int.reduceToNat, Nat.reduceLT, Nat.reduceLeDiff, Int.reduceLE, Int.reduceLT, Nat.reduceEqDiff, Nat.reduceSub, SB, SV.known, packR, ne_eq, reduceCtorEq, Nat.reduceEqDiff, ↓reduceIte, if_true, if_false, eq_self, Nat.reduceAdd, Nat.reduceMul, Nat.reduceSub, forall_const, oneCellS, Kd.isSca, flat, TYB]
  exact lawS3' hm (by omega)
end Go.Proofs.Ytaenmmebnifioaa
