/- Walks: PoursBy. -/
import Derived.Test.YtaenmmebnifioaaRulC
import Derived.Test.YtaenmmebnifioaaSl
set_option maxRecDepth 100000
set_option linter.unusedSimpArgs false
set_option linter.unusedVariables false
namespace Go.Proofs.Ytaenmmebnifioaa
open Go Go.RowKit
def pbL (R D : List Int) (u : Int) : List Int := if forB R D = true ∧ ruF u = true then GL (pbB R D u) 36 else []
theorem pbL_even (R D : List Int) (u : Int) : ∃ k, (pbL R D u).length = k * 2 ∧ k ≤ 36 := by
  unfold pbL
  split
  · exact GL_even _ 36
  · exact ⟨0, rfl, by omega⟩
theorem PoursBy_ok (R D : List Int) (u : Int) (hR : R.length = 24) (hD : D.length = 6) : FreshP Try.prog 18 [.arr R, .arr D, .int u] [] (pbL R D u) ((pbL R D u).length / 2) 2 51 true (.more [.bool (forB R D && ruF u)]) := by
  have tkR : R.take 24 = R := List.take_of_length_le (by omega)
  have tkD : D.take 6 = D := List.take_of_length_le (by omega)
  unfold pbL
  cases hf : forB R D <;> cases hu : ruF u
  case true.true =>
    refine fresh_of_vc (X := ⟨Try.prog, tys, [(61, isFor_F), (62, isRule_F)], [(63, poursBy_F)], true, true, 0, [], []⟩) fn_18 ⟨tys_ok, (.cons isFor_T (.cons isRule_T .nil)), (.cons poursBy_T .nil), mixed⟩ (n0 := 0) rfl (Nat.le_of_ble_eq_true rfl) (by simp [wfL, SV.wf]) (wfH_spec (by simp [wfH, SObj.wf])) (Nat.le_refl _) ?_
    simp -implicitDefEqProofs only [Try.f18, Option.getD_some, argS, isFor_F, isRule_F, poursBy_F, hR, hD, tkR, tkD, hf, hu, freshK, Wrap.ap, ZB, Int.reduceToNat, Nat.reduceLT, Nat.reduceLeDiff, Int.reduceLE, Int.reduceLT, Nat.reduceEqDiff, Nat.reduceSub, SB, SV.known, packR, ne_eq, reduceCtorEq, Nat.reduceEqDiff, ↓reduceIte, if_true, if_false, eq_self, Nat.reduceAdd, Nat.reduceMul, Nat.reduceSub, forall_const, oneCellS, Kd.isSca, flat, TYB]
    exact ⟨fun h => .inl ⟨rfl, h, rfl⟩, fun h cap junk hj => .inr ⟨2, cap, junk, rfl, by simp [hget_cons], by omega, hj, by simpa using h⟩⟩
  all_goals
    refine fresh_of_vc (X := ⟨Try.prog, tys, [(61, isFor_F), (62, isRule_F)], [(63, poursBy_F)], true, true, 0, [], []⟩) fn_18 ⟨tys_ok, (.cons isFor_T (.cons isRule_T .nil)), (.cons poursBy_T .nil), mixed⟩ (n0 := 0) rfl (Nat.le_of_ble_eq_true rfl) (by simp [wfL, SV.wf]) (wfH_spec (by simp [wfH, SObj.wf])) (Nat.le_refl _) ?_
    simp -implicitDefEqProofs only [Try.f18, Option.getD_some, argS, isFor_F, isRule_F, poursBy_F, hR, hD, tkR, tkD, hf, hu, freshK, Wrap.ap, ZB, Int.reduceToNat, Nat.reduceLT, Nat.reduceLeDiff, Int.reduceLE, Int.reduceLT, Nat.reduceEqDiff, Nat.reduceSub, SB, SV.known, packR, ne_eq, reduceCtorEq, Nat.reduceEqDiff, ↓reduceIte, if_true, if_false, eq_self, Nat.reduceAdd, Nat.reduceMul, Nat.reduceSub, forall_const, oneCellS, Kd.isSca, flat, TYB]
    exact .inl ⟨rfl, rfl, rfl⟩
theorem sPoursBy_ok (R D : List Int) (u : Int) (hR : R.length = 24) (hD : D.length = 6) : FreshP Try.prog 15 [.arr R, .arr D, .int u] [] (pbL R D u) ((pbL R D u).length / 2) 2 51 false (.more [.bool (forB R D && ruF u)]) := by
  have tkR : R.take 24 = R := List.take_of_length_le (by omega)
  have tkD : D.take 6 = D := List.take_of_length_le (by omega)
  unfold pbL
  cases hf : forB R D <;> cases hu : ruF u
  case true.true =>
    refine fresh_of_vc (X := ⟨Try.prog, tys, [(57, l8Fits2_F), (58, l8Rule_F)], [(59, l8Pours_F)], true, true, 0, [], []⟩) fn_15 ⟨tys_ok, (.cons l8Fits2_T (.cons l8Rule_T .nil)), (.cons l8Pours_T .nil), mixed⟩ (n0 := 0) rfl (Nat.le_of_ble_eq_true rfl) (by simp [wfL, SV.wf]) (wfH_spec (by simp [wfH, SObj.wf])) (Nat.le_refl _) ?_
    simp -implicitDefEqProofs only [Try.f15, Option.getD_some, argS, l8Fits2_F, l8Rule_F, l8Pours_F, hR, hD, tkR, tkD, hf, hu, freshK, Wrap.ap, ZB, Int.reduceToNat, Nat.reduceLT, Nat.reduceLeDiff, Int.reduceLE, Int.reduceLT, Nat.reduceEqDiff, Nat.reduceSub, SB, SV.known, packR, ne_eq, reduceCtorEq, Nat.reduceEqDiff, ↓reduceIte, if_true, if_false, eq_self, Nat.reduceAdd, Nat.reduceMul, Nat.reduceSub, forall_const, oneCellS, Kd.isSca, flat, TYB]
    exact fun cap junk hj => .inr ⟨2, cap, junk, rfl, by simp [hget_cons], by omega, hj, by simp⟩
  all_goals
    refine fresh_of_vc (X := ⟨Try.prog, tys, [(57, l8Fits2_F), (58, l8Rule_F)], [(59, l8Pours_F)], true, true, 0, [], []⟩) fn_15 ⟨tys_ok, (.cons l8Fits2_T (.cons l8Rule_T .nil)), (.cons l8Pours_T .nil), mixed⟩ (n0 := 0) rfl (Nat.le_of_ble_eq_true rfl) (by simp [wfL, SV.wf]) (wfH_spec (by simp [wfH, SObj.wf])) (Nat.le_refl _) ?_
    simp -implicitDefEqProofs only [Try.f15, Option.getD_some, argS, l8Fits2_F, l8Rule_F, l8Pours_F, hR, hD, tkR, tkD, hf, hu, freshK, Wrap.ap, ZB, Int.reduceToNat, Nat.reduceLT, Nat.reduceLeDiff, Int.reduceLE, Int.reduceLT, Nat.reduceEqDiff, Nat.reduceSub, SB, SV.known, packR, ne_eq, reduceCtorEq, Nat.reduceEqDiff, ↓reduceIte, if_true, if_false, eq_self, Nat.reduceAdd, Nat.reduceMul, Nat.reduceSub, forall_const, oneCellS, Kd.isSca, flat, TYB]
    exact .inr ⟨2, 0, [], by simp [Wrap.ap], by simp [hget_cons], by omega, by simp, by simp⟩
def PoursBy_F : List SV → Heap → Nat → Nat → K1 → Prop
  | [.arr R, .arr D, .int u], H, n, _, κ => (R.length = 24 ∧ D.length = 6) ∧ freshK (.more [.bool (forB R D && ruF u)]) (pbL R D u) ((pbL R D u).length / 2) 2 51 (true) H n κ
  | _, _, _, _, _ => False
--@tbl PoursBy = impl.PoursBy
theorem PoursBy_T : ∀ args H n m κ, PoursBy_F args H n m κ → GenOK Try.prog 18 args H n m κ := by
  intro args H n m κ h
  unfold PoursBy_F at h
  split at h
  · exact gen_of_fresh (PoursBy_ok _ _ _ h.1.1 h.1.2) (fun k o hk => by cases hk) h.2
  · exact h.elim
def sPoursBy_F : List SV → Heap → Nat → Nat → K1 → Prop
  | [.arr R, .arr D, .int u], H, n, _, κ => (R.length = 24 ∧ D.length = 6) ∧ freshK (.more [.bool (forB R D && ruF u)]) (pbL R D u) ((pbL R D u).length / 2) 2 51 (false) H n κ
  | _, _, _, _, _ => False
--@tbl sPoursBy = spec.PoursBy
theorem sPoursBy_T : ∀ args H n m κ, sPoursBy_F args H n m κ → GenOK Try.prog 15 args H n m κ := by
  intro args H n m κ h
  unfold sPoursBy_F at h
  split at h
  · exact gen_of_fresh (sPoursBy_ok _ _ _ h.1.1 h.1.2) (fun k o hk => by cases hk) h.2
  · exact h.elim
theorem lawPoursBy (R D : List Int) (u : Int) (hR : R.length = 24) (_ : ∀ x ∈ R, In64 x) (hD : D.length = 6) (_ : ∀ x ∈ D, In64 x) (_ : In64 u) : PureH Try.prog 3 [.arr R, .arr D, .int u] [] (.bool true) := by
  have tkR : R.take 24 = R := List.take_of_length_le (by omega)
  have tkD : D.take 6 = D := List.take_of_length_le (by omega)
  obtain ⟨m, hm, hm36⟩ := pbL_even R D u
  have e2 : (pbL R D u).length / 2 = m := by omega
  refine pure_of_vc (X := ⟨Try.prog, tys, [(16, toRack_F), (17, toIntA6_F), (19, eqS2_F), (21, held2_F)], [(18, PoursBy_F), (15, sPoursBy_F), (20, mark2_F)], true, true, 0, [18, 15], []⟩) (show FnOK Try.prog 3 Try.f3 (Try.f3.body.getD .skip) [18, 15] [] from ⟨Try.func3, rfl, by kernel_rfl, by kernel_rfl⟩) ⟨tys_ok, (.cons toRack_T (.cons toIntA6_T (.cons eqS2_T (.cons held2_T .nil)))), (.cons PoursBy_T (.cons sPoursBy_T (.cons mark2_T .nil))), mixed⟩ (n0 := 0) (Nat.le_of_ble_eq_true rfl) (by simp [wfL, SV.wf]) (wfH_spec (by simp [wfH, SObj.wf])) (Nat.le_refl _) (fun _ => by simp [SV.wf, wfL]) ?_
  simp -implicitDefEqProofs only [Try.f3, Option.getD_some, argS, toRack_F, toIntA6_F, eqS2_F, held2_F, PoursBy_F, sPoursBy_F, mark2_F, hR, hD, tkR, tkD, e2, freshK, Wrap.ap, ZB, Int.reduceToNat, Nat.reduceLT, Nat.reduceLeDiff, Int.reduceLE, Int.reduceLT, Nat.reduceEqDiff, Nat.reduceSub, SB, SV.known, packR, ne_eq, reduceCtorEq, Nat.reduceEqDiff, ↓reduceIte, if_true, if_false, eq_self, Nat.reduceAdd, Nat.reduceMul, Nat.reduceSub, forall_const, oneCellS, Kd.isSca, flat, TYB]
  exact lawS2' hm (by omega)
end Go.Proofs.Ytaenmmebnifioaa
