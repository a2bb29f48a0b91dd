/- Walks: pours as the outside sees them. -/
import Derived.Test.YtnlbljikbonioaaP
import Derived.Test.YtnlbljikbonioaaG
set_option maxRecDepth 100000
set_option linter.unusedSimpArgs false
set_option linter.unusedVariables false
namespace Go.Proofs.Ytnlbljikbonioaa
open Go Go.RowKit
def pourB (R : List Int) (i j : Int) : Bool := rackB R && plF i && plF j && canF R i j
def pourT (R : List Int) (i j : Int) : List Int := if pourB R i j = true then pourF R i.toNat j.toNat else List.replicate 24 0
def pourM (R : List Int) (i j : Int) : Int := if pourB R i j = true then pmN R i.toNat j.toNat else 0
theorem pourF_len {R : List Int} (hR : R.length = 24) (a b : Nat) : (pourF R a b).length = 24 := by unfold pourF; rw [pmR_len, hR]
theorem pourT_len {R : List Int} (hR : R.length = 24) (i j : Int) : (pourT R i j).length = 24 := by
  unfold pourT
  split
  · exact pourF_len hR _ _
  · rfl
--@tbl Pour = impl.Pour
--@tbl sPour = spec.Pour
theorem Pour_ok (R : List Int) (i j : Int) (hR : R.length = 24) : PureH Try.prog 8 [.arr R, .int i, .int j] [] (.tup [.arr (pourT R i j), .int (pourM R i j), .bool (pourB R i j)]) := by
  have tkR : R.take 24 = R := List.take_of_length_le (by omega)
  have r2 : List.replicate 2 (0 : Int) = [0, 0] := rfl
  have r24 : List.take 24 (List.replicate 24 (0 : Int)) = List.replicate 24 0 := rfl
  unfold pourT pourM pourB
  cases hr : rackB R <;> cases hi : plF i <;> cases hj : plF j
  case true.true.true =>
    have bi := pl_bd hi
    have bj := pl_bd hj
    have pl := pourF_len hR i.toNat j.toNat
    have tkP : (pourF R i.toNat j.toNat).take 24 = pourF R i.toNat j.toNat := List.take_of_length_le (by omega)
    cases hc : canF R i j
    all_goals
      refine pure_of_vc (X := ⟨Try.prog, tys, [(56, isAt_F), (57, canPour_F), (58, pour_F)], [], true, true, 0, [], []⟩) fn_8 ⟨tys_ok, (.cons isAt_T (.cons canPour_T (.cons pour_T .nil))), .nil, mixed⟩ (n0 := 0) (Nat.le_of_ble_eq_true rfl) (by simp [wfL, SV.wf]) (wfH_spec (by simp [wfH, SObj.wf])) (Nat.le_refl _) (fun _ => by simp [SV.wf, wfL]) ?_
      simp -implicitDefEqProofs only [Try.f8, Option.getD_some, argS, isAt_F, canPour_F, pour_F, hR, tkR, hr, hi, hj, hc, pl, tkP, r24, r2, List.set_cons_zero, List.set_cons_succ, List.drop_zero, List.all_cons, List.all_nil, ZB, Int.reduceToNat, Nat.reduceLT, Nat.reduceLeDiff, Int.reduceLE, Int.reduceLT, Nat.reduceEqDiff, Nat.reduceSub, SB, SV.known, packR, ne_eq, reduceCtorEq, Nat.reduceEqDiff, ↓reduceIte, if_true, if_false, eq_self, Nat.reduceAdd, Nat.reduceMul, Nat.reduceSub, forall_const, oneCellS, litOne, flat1, Kd.isSca, flat, TYB]
    all_goals
      (try (and_intros <;> try (first | omega | (unfold In64; omega) | trivial | assumption)))
  all_goals
    refine pure_of_vc (X := ⟨Try.prog, tys, [(56, isAt_F), (57, canPour_F), (58, pour_F)], [], true, true, 0, [], []⟩) fn_8 ⟨tys_ok, (.cons isAt_T (.cons canPour_T (.cons pour_T .nil))), .nil, mixed⟩ (n0 := 0) (Nat.le_of_ble_eq_true rfl) (by simp [wfL, SV.wf]) (wfH_spec (by simp [wfH, SObj.wf])) (Nat.le_refl _) (fun _ => by simp [SV.wf, wfL]) ?_
    simp -implicitDefEqProofs only [Try.f8, Option.getD_some, argS, isAt_F, canPour_F, pour_F, hR, tkR, hr, hi, hj, r24, r2, List.set_cons_zero, List.set_cons_succ, List.drop_zero, List.all_cons, List.all_nil, ZB, Int.reduceToNat, Nat.reduceLT, Nat.reduceLeDiff, Int.reduceLE, Int.reduceLT, Nat.reduceEqDiff, Nat.reduceSub, SB, SV.known, packR, ne_eq, reduceCtorEq, Nat.reduceEqDiff, ↓reduceIte, if_true, if_false, eq_self, Nat.reduceAdd, Nat.reduceMul, Nat.reduceSub, forall_const, oneCellS, litOne, flat1, Kd.isSca, flat, TYB]
theorem sPour_ok (R : List Int) (i j : Int) (hR : R.length = 24) : PureH Try.prog 9 [.arr R, .int i, .int j] [] (.tup [.arr (pourT R i j), .int (pourM R i j), .bool (pourB R i j)]) := by
  have tkR : R.take 24 = R := List.take_of_length_le (by omega)
  have r24 : List.take 24 (List.replicate 24 (0 : Int)) = List.replicate 24 0 := rfl
  unfold pourT pourM pourB
  cases hr : rackB R <;> cases hi : plF i <;> cases hj : plF j
  case true.true.true =>
    have bi := pl_bd hi
    have bj := pl_bd hj
    have pl := pourF_len hR i.toNat j.toNat
    have tkP : (pourF R i.toNat j.toNat).take 24 = pourF R i.toNat j.toNat := List.take_of_length_le (by omega)
    cases hc : canF R i j
    all_goals
      refine pure_of_vc (X := ⟨Try.prog, tys, [(59, l2Rack_F), (60, l2Place_F), (61, l2Can_F), (62, l2Pour_F)], [], true, true, 0, [], []⟩) fn_9 ⟨tys_ok, (.cons l2Rack_T (.cons l2Place_T (.cons l2Can_T (.cons l2Pour_T .nil)))), .nil, mixed⟩ (n0 := 0) (Nat.le_of_ble_eq_true rfl) (by simp [wfL, SV.wf]) (wfH_spec (by simp [wfH, SObj.wf])) (Nat.le_refl _) (fun _ => by simp [SV.wf, wfL]) ?_
      simp -implicitDefEqProofs only [Try.f9, Option.getD_some, argS, l2Rack_F, l2Place_F, l2Can_F, l2Pour_F, hR, tkR, hr, hi, hj, hc, pl, tkP, r24, ZB, Int.reduceToNat, Nat.reduceLT, Nat.reduceLeDiff, Int.reduceLE, Int.reduceLT, Nat.reduceEqDiff, Nat.reduceSub, SB, SV.known, packR, ne_eq, reduceCtorEq, Nat.reduceEqDiff, ↓reduceIte, if_true, if_false, eq_self, Nat.reduceAdd, Nat.reduceMul, Nat.reduceSub, forall_const, oneCellS, litOne, flat1, Kd.isSca, flat, TYB]
    all_goals
      (try (and_intros <;> try (first | omega | (unfold In64; omega) | trivial | assumption)))
  all_goals
    refine pure_of_vc (X := ⟨Try.prog, tys, [(59, l2Rack_F), (60, l2Place_F), (61, l2Can_F), (62, l2Pour_F)], [], true, true, 0, [], []⟩) fn_9 ⟨tys_ok, (.cons l2Rack_T (.cons l2Place_T (.cons l2Can_T (.cons l2Pour_T .nil)))), .nil, mixed⟩ (n0 := 0) (Nat.le_of_ble_eq_true rfl) (by simp [wfL, SV.wf]) (wfH_spec (by simp [wfH, SObj.wf])) (Nat.le_refl _) (fun _ => by simp [SV.wf, wfL]) ?_
    simp -implicitDefEqProofs only [Try.f9, Option.getD_some, argS, l2Rack_F, l2Place_F, l2Can_F, l2Pour_F, hR, tkR, hr, hi, hj, r24, ZB, Int.reduceToNat, Nat.reduceLT, Nat.reduceLeDiff, Int.reduceLE, Int.reduceLT, Nat.reduceEqDiff, Nat.reduceSub, SB, SV.known, packR, ne_eq, reduceCtorEq, Nat.reduceEqDiff, ↓reduceIte, if_true, if_false, eq_self, Nat.reduceAdd, Nat.reduceMul, Nat.reduceSub, forall_const, oneCellS, litOne, flat1, Kd.isSca, flat, TYB]
def Pour_F : List SV → Heap → Option (Prop × SV)
  | [.arr R, .int i, .int j], _ => some (R.length = 24, .tup [.arr (pourT R i j), .int (pourM R i j), .bool (pourB R i j)])
  | _, _ => none
theorem Pour_T : ∀ args H p v, Pour_F args H = some (p, v) → p → PureH Try.prog 8 args H v := by
  intro args H p v h hp
  unfold Pour_F at h
  split at h
  · cases h; exact (Pour_ok _ _ _ hp).any _
  · cases h
def sPour_F : List SV → Heap → Option (Prop × SV)
  | [.arr R, .int i, .int j], _ => some (R.length = 24, .tup [.arr (pourT R i j), .int (pourM R i j), .bool (pourB R i j)])
  | _, _ => none
theorem sPour_T : ∀ args H p v, sPour_F args H = some (p, v) → p → PureH Try.prog 9 args H v := by
  intro args H p v h hp
  unfold sPour_F at h
  split at h
  · cases h; exact (sPour_ok _ _ _ hp).any _
  · cases h
end Go.Proofs.Ytnlbljikbonioaa
