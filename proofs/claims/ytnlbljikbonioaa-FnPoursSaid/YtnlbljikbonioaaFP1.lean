/- Walks: what the law of pours asks for. -/
import Derived.Test.YtnlbljikbonioaaPour
import Derived.Test.YtnlbljikbonioaaUPours
import Derived.Test.YtnlbljikbonioaaSort
import Derived.Test.YtnlbljikbonioaaView
set_option maxRecDepth 100000
set_option linter.unusedSimpArgs false
set_option linter.unusedVariables false
namespace Go.Proofs.Ytnlbljikbonioaa
open Go Go.RowKit
def cpO (R : List Int) (i j : Int) : Bool := rackB R && plF i && plF j && !decide (i = j)
def cpC (R : List Int) (i j : Int) : Bool := cpO R i j && canF R i j
--@tbl CanPour = impl.CanPour
--@tbl sCanPour = spec.CanPour
theorem CanPour_ok (R : List Int) (i j : Int) (hR : R.length = 24) : PureH Try.prog 10 [.arr R, .int i, .int j] [] (.tup [.bool (cpC R i j), .bool (cpO R i j)]) := by
  have tkR : R.take 24 = R := List.take_of_length_le (by omega)
  have r2 : List.replicate 2 (0 : Int) = [0, 0] := rfl
  unfold cpC cpO
  cases hr : rackB R <;> cases hi : plF i <;> cases hj : plF j
  case true.true.true =>
    have bi := pl_bd hi
    have bj := pl_bd hj
    by_cases hij : i = j
    all_goals
      refine pure_of_vc (X := ⟨Try.prog, tys, [(56, isAt_F), (57, canPour_F)], [], true, true, 0, [], []⟩) fn_10 ⟨tys_ok, (.cons isAt_T (.cons canPour_T .nil)), .nil, mixed⟩ (n0 := 0) (Nat.le_of_ble_eq_true rfl) (by simp [wfL, SV.wf]) (wfH_spec (by simp [wfH, SObj.wf])) (Nat.le_refl _) (fun _ => by simp [SV.wf, wfL]) ?_
      simp -implicitDefEqProofs only [Try.f10, Option.getD_some, argS, isAt_F, canPour_F, hR, tkR, hr, hi, hj, hij, r2, List.set_cons_zero, List.set_cons_succ, List.drop_zero, List.all_cons, List.all_nil, ZB, Int.reduceToNat, Nat.reduceLT, Nat.reduceLeDiff, Int.reduceLE, Int.reduceLT, Nat.reduceEqDiff, Nat.reduceSub, SB, SV.known, packR, ne_eq, reduceCtorEq, Nat.reduceEqDiff, ↓reduceIte, if_true, if_false, eq_self, Nat.reduceAdd, Nat.reduceMul, Nat.reduceSub, forall_const, oneCellS, litOne, flat1, Kd.isSca, flat, TYB]
    all_goals
      (try (and_intros <;> try (first | omega | (unfold In64; omega) | trivial | assumption)))
  all_goals
    refine pure_of_vc (X := ⟨Try.prog, tys, [(56, isAt_F), (57, canPour_F)], [], true, true, 0, [], []⟩) fn_10 ⟨tys_ok, (.cons isAt_T (.cons canPour_T .nil)), .nil, mixed⟩ (n0 := 0) (Nat.le_of_ble_eq_true rfl) (by simp [wfL, SV.wf]) (wfH_spec (by simp [wfH, SObj.wf])) (Nat.le_refl _) (fun _ => by simp [SV.wf, wfL]) ?_
    simp -implicitDefEqProofs only [Try.f10, Option.getD_some, argS, isAt_F, canPour_F, hR, tkR, hr, hi, hj, r2, List.set_cons_zero, List.set_cons_succ, List.drop_zero, List.all_cons, List.all_nil, ZB, Int.reduceToNat, Nat.reduceLT, Nat.reduceLeDiff, Int.reduceLE, Int.reduceLT, Nat.reduceEqDiff, Nat.reduceSub, SB, SV.known, packR, ne_eq, reduceCtorEq, Nat.reduceEqDiff, ↓reduceIte, if_true, if_false, eq_self, Nat.reduceAdd, Nat.reduceMul, Nat.reduceSub, forall_const, oneCellS, litOne, flat1, Kd.isSca, flat, TYB]
theorem sCanPour_ok (R : List Int) (i j : Int) (hR : R.length = 24) : PureH Try.prog 11 [.arr R, .int i, .int j] [] (.tup [.bool (cpC R i j), .bool (cpO R i j)]) := by
  have tkR : R.take 24 = R := List.take_of_length_le (by omega)
  unfold cpC cpO
  cases hr : rackB R <;> cases hi : plF i <;> cases hj : plF j
  case true.true.true =>
    have bi := pl_bd hi
    have bj := pl_bd hj
    by_cases hij : i = j
    all_goals
      refine pure_of_vc (X := ⟨Try.prog, tys, [(59, l2Rack_F), (60, l2Place_F), (61, l2Can_F)], [], true, true, 0, [], []⟩) fn_11 ⟨tys_ok, (.cons l2Rack_T (.cons l2Place_T (.cons l2Can_T .nil))), .nil, mixed⟩ (n0 := 0) (Nat.le_of_ble_eq_true rfl) (by simp [wfL, SV.wf]) (wfH_spec (by simp [wfH, SObj.wf])) (Nat.le_refl _) (fun _ => by simp [SV.wf, wfL]) ?_
      simp -implicitDefEqProofs only [Try.f11, Option.getD_some, argS, l2Rack_F, l2Place_F, l2Can_F, hR, tkR, hr, hi, hj, hij, ZB, Int.reduceToNat, Nat.reduceLT, Nat.reduceLeDiff, Int.reduceLE, Int.reduceLT, Nat.reduceEqDiff, Nat.reduceSub, SB, SV.known, packR, ne_eq, reduceCtorEq, Nat.reduceEqDiff, ↓reduceIte, if_true, if_false, eq_self, Nat.reduceAdd, Nat.reduceMul, Nat.reduceSub, forall_const, oneCellS, litOne, flat1, Kd.isSca, flat, TYB]
    all_goals
      (try (and_intros <;> try (first | omega | (unfold In64; omega) | trivial | assumption)))
  all_goals
    refine pure_of_vc (X := ⟨Try.prog, tys, [(59, l2Rack_F), (60, l2Place_F), (61, l2Can_F)], [], true, true, 0, [], []⟩) fn_11 ⟨tys_ok, (.cons l2Rack_T (.cons l2Place_T (.cons l2Can_T .nil))), .nil, mixed⟩ (n0 := 0) (Nat.le_of_ble_eq_true rfl) (by simp [wfL, SV.wf]) (wfH_spec (by simp [wfH, SObj.wf])) (Nat.le_refl _) (fun _ => by simp [SV.wf, wfL]) ?_
    simp -implicitDefEqProofs only [Try.f11, Option.getD_some, argS, l2Rack_F, l2Place_F, l2Can_F, hR, tkR, hr, hi, hj, ZB, Int.reduceToNat, Nat.reduceLT, Nat.reduceLeDiff, Int.reduceLE, Int.reduceLT, Nat.reduceEqDiff, Nat.reduceSub, SB, SV.known, packR, ne_eq, reduceCtorEq, Nat.reduceEqDiff, ↓reduceIte, if_true, if_false, eq_self, Nat.reduceAdd, Nat.reduceMul, Nat.reduceSub, forall_const, oneCellS, litOne, flat1, Kd.isSca, flat, TYB]
def CanPour_F : List SV → Heap → Option (Prop × SV)
  | [.arr R, .int i, .int j], _ => some (R.length = 24, .tup [.bool (cpC R i j), .bool (cpO R i j)])
  | _, _ => none
theorem CanPour_T : ∀ args H p v, CanPour_F args H = some (p, v) → p → PureH Try.prog 10 args H v := by
  intro args H p v h hp
  unfold CanPour_F at h
  split at h
  · cases h; exact (CanPour_ok _ _ _ hp).any _
  · cases h
def sCanPour_F : List SV → Heap → Option (Prop × SV)
  | [.arr R, .int i, .int j], _ => some (R.length = 24, .tup [.bool (cpC R i j), .bool (cpO R i j)])
  | _, _ => none
theorem sCanPour_T : ∀ args H p v, sCanPour_F args H = some (p, v) → p → PureH Try.prog 11 args H v := by
  intro args H p v h hp
  unfold sCanPour_F at h
  split at h
  · cases h; exact (sCanPour_ok _ _ _ hp).any _
  · cases h
--@tbl IsSorted = impl.IsSorted
--@tbl sIsSorted = spec.IsSorted
theorem IsSorted_ok (R : List Int) (hR : R.length = 24) : PureH Try.prog 19 [.arr R] [] (.tup [.bool (rackB R && sortB R), .bool (rackB R)]) := by
  have tkR : R.take 24 = R := List.take_of_length_le (by omega)
  cases hr : rackB R
  all_goals
    refine pure_of_vc (X := ⟨Try.prog, tys, [(14, IsRack_F), (69, isSorted_F)], [], true, true, 0, [], []⟩) fn_19 ⟨tys_ok, (.cons IsRack_T (.cons isSorted_T .nil)), .nil, mixed⟩ (n0 := 0) (Nat.le_of_ble_eq_true rfl) (by simp [wfL, SV.wf]) (wfH_spec (by simp [wfH, SObj.wf])) (Nat.le_refl _) (fun _ => by simp [SV.wf, wfL]) ?_
    simp -implicitDefEqProofs only [Try.f19, Option.getD_some, argS, IsRack_F, isSorted_F, hR, tkR, hr, ZB, Int.reduceToNat, Nat.reduceLT, Nat.reduceLeDiff, Int.reduceLE, Int.reduceLT, Nat.reduceEqDiff, Nat.reduceSub, SB, SV.known, packR, ne_eq, reduceCtorEq, Nat.reduceEqDiff, ↓reduceIte, if_true, if_false, eq_self, Nat.reduceAdd, Nat.reduceMul, Nat.reduceSub, forall_const, oneCellS, litOne, flat1, Kd.isSca, flat, TYB]
theorem sIsSorted_ok (R : List Int) (hR : R.length = 24) : PureH Try.prog 20 [.arr R] [] (.tup [.bool (rackB R && sortB R), .bool (rackB R)]) := by
  have tkR : R.take 24 = R := List.take_of_length_le (by omega)
  cases hr : rackB R
  all_goals
    refine pure_of_vc (X := ⟨Try.prog, tys, [(59, l2Rack_F), (70, l2Sorted_F)], [], true, true, 0, [], []⟩) fn_20 ⟨tys_ok, (.cons l2Rack_T (.cons l2Sorted_T .nil)), .nil, mixed⟩ (n0 := 0) (Nat.le_of_ble_eq_true rfl) (by simp [wfL, SV.wf]) (wfH_spec (by simp [wfH, SObj.wf])) (Nat.le_refl _) (fun _ => by simp [SV.wf, wfL]) ?_
    simp -implicitDefEqProofs only [Try.f20, Option.getD_some, argS, l2Rack_F, l2Sorted_F, hR, tkR, hr, ZB, Int.reduceToNat, Nat.reduceLT, Nat.reduceLeDiff, Int.reduceLE, Int.reduceLT, Nat.reduceEqDiff, Nat.reduceSub, SB, SV.known, packR, ne_eq, reduceCtorEq, Nat.reduceEqDiff, ↓reduceIte, if_true, if_false, eq_self, Nat.reduceAdd, Nat.reduceMul, Nat.reduceSub, forall_const, oneCellS, litOne, flat1, Kd.isSca, flat, TYB]
def IsSorted_F : List SV → Heap → Option (Prop × SV)
  | [.arr R], _ => some (R.length = 24, .tup [.bool (rackB R && sortB R), .bool (rackB R)])
  | _, _ => none
theorem IsSorted_T : ∀ args H p v, IsSorted_F args H = some (p, v) → p → PureH Try.prog 19 args H v := by
  intro args H p v h hp
  unfold IsSorted_F at h
  split at h
  · cases h; exact (IsSorted_ok _ hp).any _
  · cases h
def sIsSorted_F : List SV → Heap → Option (Prop × SV)
  | [.arr R], _ => some (R.length = 24, .tup [.bool (rackB R && sortB R), .bool (rackB R)])
  | _, _ => none
theorem sIsSorted_T : ∀ args H p v, sIsSorted_F args H = some (p, v) → p → PureH Try.prog 20 args H v := by
  intro args H p v h hp
  unfold sIsSorted_F at h
  split at h
  · cases h; exact (sIsSorted_ok _ hp).any _
  · cases h
def ccF (R : List Int) : List Int := if rackB R = true then cntL R else List.replicate 6 0
--@tbl CountColors = impl.CountColors
--@tbl sCountColors = spec.CountColors
theorem CountColors_ok (R : List Int) (hR : R.length = 24) : PureH Try.prog 21 [.arr R] [] (.tup [.arr (ccF R), .bool (rackB R)]) := by
  have tkR : R.take 24 = R := List.take_of_length_le (by omega)
  have tkc : (cntL R).take 6 = cntL R := List.take_of_length_le (by rw [cntL_len]; omega)
  have lc := cntL_len R
  have r6 : List.take 6 (List.replicate 6 (0 : Int)) = List.replicate 6 0 := rfl
  unfold ccF
  cases hr : rackB R
  all_goals
    refine pure_of_vc (X := ⟨Try.prog, tys, [(14, IsRack_F), (71, countColors_F)], [], true, true, 0, [], []⟩) fn_21 ⟨tys_ok, (.cons IsRack_T (.cons countColors_T .nil)), .nil, mixed⟩ (n0 := 0) (Nat.le_of_ble_eq_true rfl) (by simp [wfL, SV.wf]) (wfH_spec (by simp [wfH, SObj.wf])) (Nat.le_refl _) (fun _ => by simp [SV.wf, wfL]) ?_
    simp -implicitDefEqProofs only [Try.f21, Option.getD_some, argS, IsRack_F, countColors_F, hR, tkR, hr, tkc, lc, r6, ZB, Int.reduceToNat, Nat.reduceLT, Nat.reduceLeDiff, Int.reduceLE, Int.reduceLT, Nat.reduceEqDiff, Nat.reduceSub, SB, SV.known, packR, ne_eq, reduceCtorEq, Nat.reduceEqDiff, ↓reduceIte, if_true, if_false, eq_self, Nat.reduceAdd, Nat.reduceMul, Nat.reduceSub, forall_const, oneCellS, litOne, flat1, Kd.isSca, flat, TYB]
theorem sCountColors_ok (R : List Int) (hR : R.length = 24) : PureH Try.prog 22 [.arr R] [] (.tup [.arr (ccF R), .bool (rackB R)]) := by
  have tkR : R.take 24 = R := List.take_of_length_le (by omega)
  have tkc : (cntL R).take 6 = cntL R := List.take_of_length_le (by rw [cntL_len]; omega)
  have lc := cntL_len R
  have r6 : List.take 6 (List.replicate 6 (0 : Int)) = List.replicate 6 0 := rfl
  unfold ccF
  cases hr : rackB R
  all_goals
    refine pure_of_vc (X := ⟨Try.prog, tys, [(59, l2Rack_F), (72, l2Counts_F)], [], true, true, 0, [], []⟩) fn_22 ⟨tys_ok, (.cons l2Rack_T (.cons l2Counts_T .nil)), .nil, mixed⟩ (n0 := 0) (Nat.le_of_ble_eq_true rfl) (by simp [wfL, SV.wf]) (wfH_spec (by simp [wfH, SObj.wf])) (Nat.le_refl _) (fun _ => by simp [SV.wf, wfL]) ?_
    simp -implicitDefEqProofs only [Try.f22, Option.getD_some, argS, l2Rack_F, l2Counts_F, hR, tkR, hr, tkc, lc, r6, ZB, Int.reduceToNat, Nat.reduceLT, Nat.reduceLeDiff, Int.reduceLE, Int.reduceLT, Nat.reduceEqDiff, Nat.reduceSub, SB, SV.known, packR, ne_eq, reduceCtorEq, Nat.reduceEqDiff, ↓reduceIte, if_true, if_false, eq_self, Nat.reduceAdd, Nat.reduceMul, Nat.reduceSub, forall_const, oneCellS, litOne, flat1, Kd.isSca, flat, TYB]
def CountColors_F : List SV → Heap → Option (Prop × SV)
  | [.arr R], _ => some (R.length = 24, .tup [.arr (ccF R), .bool (rackB R)])
  | _, _ => none
theorem CountColors_T : ∀ args H p v, CountColors_F args H = some (p, v) → p → PureH Try.prog 21 args H v := by
  intro args H p v h hp
  unfold CountColors_F at h
  split at h
  · cases h; exact (CountColors_ok _ hp).any _
  · cases h
def sCountColors_F : List SV → Heap → Option (Prop × SV)
  | [.arr R], _ => some (R.length = 24, .tup [.arr (ccF R), .bool (rackB R)])
  | _, _ => none
theorem sCountColors_T : ∀ args H p v, sCountColors_F args H = some (p, v) → p → PureH Try.prog 22 args H v := by
  intro args H p v h hp
  unfold sCountColors_F at h
  split at h
  · cases h; exact (sCountColors_ok _ hp).any _
  · cases h
def poF (R : List Int) : List Int := if rackB R = true then PL R 36 else []
theorem poF_even (R : List Int) : ∃ k, (poF R).length = k * 2 ∧ k ≤ 36 := by
  unfold poF
  split
  · exact PL_even R 36
  · exact ⟨0, rfl, by omega⟩
--@tbl PoursOf = impl.PoursOf
--@tbl sPoursOf = spec.PoursOf
theorem PoursOf_ok (R : List Int) (hR : R.length = 24) : FreshP Try.prog 12 [.arr R] [] (poF R) ((poF R).length / 2) 2 44 (decide (rackB R = false ∨ PL R 36 = [])) (.more [.bool (rackB R)]) := by
  have tkR : R.take 24 = R := List.take_of_length_le (by omega)
  unfold poF
  cases hr : rackB R
  · refine fresh_of_vc (X := ⟨Try.prog, tys, [(14, IsRack_F)], [(63, pours_F)], true, true, 0, [], []⟩) fn_12 ⟨tys_ok, (.cons IsRack_T .nil), (.cons pours_T .nil), mixed⟩ (n0 := 0) rfl (Nat.le_of_ble_eq_true rfl) (by simp [wfL, SV.wf]) (wfH_spec (by simp [wfH, SObj.wf])) (Nat.le_refl _) ?_
    simp -implicitDefEqProofs only [Try.f12, Option.getD_some, argS, IsRack_F, pours_F, hR, tkR, hr, freshK, Wrap.ap, ZB, Int.reduceToNat, Nat.reduceLT, Nat.reduceLeDiff, Int.reduceLE, Int.reduceLT, Nat.reduceEqDiff, Nat.reduceSub, SB, SV.known, packR, ne_eq, reduceCtorEq, Nat.reduceEqDiff, ↓reduceIte, if_true, if_false, eq_self, Nat.reduceAdd, Nat.reduceMul, Nat.reduceSub, forall_const, oneCellS, litOne, flat1, Kd.isSca, flat, TYB]
    exact .inl ⟨by simp, rfl, rfl⟩
  · refine fresh_of_vc (X := ⟨Try.prog, tys, [(14, IsRack_F)], [(63, pours_F)], true, true, 0, [], []⟩) fn_12 ⟨tys_ok, (.cons IsRack_T .nil), (.cons pours_T .nil), mixed⟩ (n0 := 0) rfl (Nat.le_of_ble_eq_true rfl) (by simp [wfL, SV.wf]) (wfH_spec (by simp [wfH, SObj.wf])) (Nat.le_refl _) ?_
    simp -implicitDefEqProofs only [Try.f12, Option.getD_some, argS, IsRack_F, pours_F, hR, tkR, hr, freshK, Wrap.ap, ZB, Int.reduceToNat, Nat.reduceLT, Nat.reduceLeDiff, Int.reduceLE, Int.reduceLT, Nat.reduceEqDiff, Nat.reduceSub, SB, SV.known, packR, ne_eq, reduceCtorEq, Nat.reduceEqDiff, ↓reduceIte, if_true, if_false, eq_self, Nat.reduceAdd, Nat.reduceMul, Nat.reduceSub, forall_const, oneCellS, litOne, flat1, Kd.isSca, flat, TYB]
    exact ⟨fun h1 => .inl ⟨by simp [h1], h1, rfl⟩, fun h cap junk hj => .inr ⟨1, cap, junk, rfl, by simp [hget_cons], by omega, hj, by simpa using h⟩⟩
theorem sPoursOf_ok (R : List Int) (hR : R.length = 24) : FreshP Try.prog 13 [.arr R] [] (poF R) ((poF R).length / 2) 2 44 false (.more [.bool (rackB R)]) := by
  have tkR : R.take 24 = R := List.take_of_length_le (by omega)
  unfold poF
  cases hr : rackB R
  · refine fresh_of_vc (X := ⟨Try.prog, tys, [(59, l2Rack_F)], [(64, l2Pours_F)], true, true, 0, [], []⟩) fn_13 ⟨tys_ok, (.cons l2Rack_T .nil), (.cons l2Pours_T .nil), mixed⟩ (n0 := 0) rfl (Nat.le_of_ble_eq_true rfl) (by simp [wfL, SV.wf]) (wfH_spec (by simp [wfH, SObj.wf])) (Nat.le_refl _) ?_
    simp -implicitDefEqProofs only [Try.f13, Option.getD_some, argS, l2Rack_F, l2Pours_F, hR, tkR, hr, freshK, Wrap.ap, ZB, Int.reduceToNat, Nat.reduceLT, Nat.reduceLeDiff, Int.reduceLE, Int.reduceLT, Nat.reduceEqDiff, Nat.reduceSub, SB, SV.known, packR, ne_eq, reduceCtorEq, Nat.reduceEqDiff, ↓reduceIte, if_true, if_false, eq_self, Nat.reduceAdd, Nat.reduceMul, Nat.reduceSub, forall_const, oneCellS, litOne, flat1, Kd.isSca, flat, TYB]
    exact .inr ⟨1, 0, [], rfl, by simp [hget_cons], by omega, rfl, by simp⟩
  · refine fresh_of_vc (X := ⟨Try.prog, tys, [(59, l2Rack_F)], [(64, l2Pours_F)], true, true, 0, [], []⟩) fn_13 ⟨tys_ok, (.cons l2Rack_T .nil), (.cons l2Pours_T .nil), mixed⟩ (n0 := 0) rfl (Nat.le_of_ble_eq_true rfl) (by simp [wfL, SV.wf]) (wfH_spec (by simp [wfH, SObj.wf])) (Nat.le_refl _) ?_
    simp -implicitDefEqProofs only [Try.f13, Option.getD_some, argS, l2Rack_F, l2Pours_F, hR, tkR, hr, freshK, Wrap.ap, ZB, Int.reduceToNat, Nat.reduceLT, Nat.reduceLeDiff, Int.reduceLE, Int.reduceLT, Nat.reduceEqDiff, Nat.reduceSub, SB, SV.known, packR, ne_eq, reduceCtorEq, Nat.reduceEqDiff, ↓reduceIte, if_true, if_false, eq_self, Nat.reduceAdd, Nat.reduceMul, Nat.reduceSub, forall_const, oneCellS, litOne, flat1, Kd.isSca, flat, TYB]
    exact fun cap junk hj => .inr ⟨1, cap, junk, rfl, by simp [hget_cons], by omega, hj, by simp⟩
def PoursOf_F : List SV → Heap → Nat → Nat → K1 → Prop
  | [.arr R], H, n, _, κ => R.length = 24 ∧ freshK (.more [.bool (rackB R)]) (poF R) ((poF R).length / 2) 2 44 (decide (rackB R = false ∨ PL R 36 = [])) H n κ
  | _, _, _, _, _ => False
theorem PoursOf_T : ∀ args H n m κ, PoursOf_F args H n m κ → GenOK Try.prog 12 args H n m κ := by
  intro args H n m κ h
  unfold PoursOf_F at h
  split at h
  · exact gen_of_fresh (PoursOf_ok _ h.1) (fun k o hk => by cases hk) h.2
  · exact h.elim
def sPoursOf_F : List SV → Heap → Nat → Nat → K1 → Prop
  | [.arr R], H, n, _, κ => R.length = 24 ∧ freshK (.more [.bool (rackB R)]) (poF R) ((poF R).length / 2) 2 44 false H n κ
  | _, _, _, _, _ => False
theorem sPoursOf_T : ∀ args H n m κ, sPoursOf_F args H n m κ → GenOK Try.prog 13 args H n m κ := by
  intro args H n m κ h
  unfold sPoursOf_F at h
  split at h
  · exact gen_of_fresh (sPoursOf_ok _ h.1) (fun k o hk => by cases hk) h.2
  · exact h.elim
def loF (R : List Int) (i : Int) : Int := if (rackB R && plF i) = true then (layN (tubeAt R i.toNat) : Int) else 0
--@tbl LayersOf = impl.LayersOf
theorem LayersOf_ok (R : List Int) (i : Int) (hR : R.length = 24) : PureH Try.prog 25 [.arr R, .int i] [] (.tup [.int (loF R i), .bool (rackB R && plF i)]) := by
  have tkR : R.take 24 = R := List.take_of_length_le (by omega)
  have r1 : List.replicate 1 (0 : Int) = [0] := rfl
  unfold loF
  cases hr : rackB R <;> cases hi : plF i
  case true.true =>
    have bi := pl_bd hi
    have eT : List.take 4 (List.drop (i.toNat * 4) R) = tubeAt R i.toNat := rfl
    have hl := tubeAt_len hR (show i.toNat < 6 by omega)
    have b1 : i < 6 := by omega
    have b2 : i.toNat * 4 ≤ 20 := by omega
    have b0 := bi.1
    refine pure_of_vc (X := ⟨Try.prog, tys, [(56, isAt_F), (73, layers_F)], [], true, true, 0, [], []⟩) fn_25 ⟨tys_ok, (.cons isAt_T (.cons layers_T .nil)), .nil, mixed⟩ (n0 := 0) (Nat.le_of_ble_eq_true rfl) (by simp [wfL, SV.wf]) (wfH_spec (by simp [wfH, SObj.wf])) (Nat.le_refl _) (fun _ => by simp [SV.wf, wfL]) ?_
    simp -implicitDefEqProofs only [Try.f25, Option.getD_some, argS, isAt_F, layers_F, hR, tkR, hr, hi, eT, hl, b0, b1, b2, r1, List.set_cons_zero, List.set_cons_succ, List.drop_zero, List.all_cons, List.all_nil, ZB, Int.reduceToNat, Nat.reduceLT, Nat.reduceLeDiff, Int.reduceLE, Int.reduceLT, Nat.reduceEqDiff, Nat.reduceSub, SB, SV.known, packR, ne_eq, reduceCtorEq, Nat.reduceEqDiff, ↓reduceIte, if_true, if_false, eq_self, Nat.reduceAdd, Nat.reduceMul, Nat.reduceSub, forall_const, oneCellS, litOne, flat1, Kd.isSca, flat, TYB]
  all_goals
    refine pure_of_vc (X := ⟨Try.prog, tys, [(56, isAt_F), (73, layers_F)], [], true, true, 0, [], []⟩) fn_25 ⟨tys_ok, (.cons isAt_T (.cons layers_T .nil)), .nil, mixed⟩ (n0 := 0) (Nat.le_of_ble_eq_true rfl) (by simp [wfL, SV.wf]) (wfH_spec (by simp [wfH, SObj.wf])) (Nat.le_refl _) (fun _ => by simp [SV.wf, wfL]) ?_
    simp -implicitDefEqProofs only [Try.f25, Option.getD_some, argS, isAt_F, layers_F, hR, tkR, hr, hi, r1, List.set_cons_zero, List.set_cons_succ, List.drop_zero, List.all_cons, List.all_nil, ZB, Int.reduceToNat, Nat.reduceLT, Nat.reduceLeDiff, Int.reduceLE, Int.reduceLT, Nat.reduceEqDiff, Nat.reduceSub, SB, SV.known, packR, ne_eq, reduceCtorEq, Nat.reduceEqDiff, ↓reduceIte, if_true, if_false, eq_self, Nat.reduceAdd, Nat.reduceMul, Nat.reduceSub, forall_const, oneCellS, litOne, flat1, Kd.isSca, flat, TYB]
def tpO (R : List Int) (i : Int) : Bool := rackB R && plF i && !decide (layN (tubeAt R i.toNat) = 0)
--@tbl TopOf = impl.TopOf
theorem TopOf_ok (R : List Int) (i : Int) (hR : R.length = 24) : PureH Try.prog 24 [.arr R, .int i] [] (.tup [.int (if tpO R i = true then (topF (tubeAt R i.toNat)).1 else 0), .int (if tpO R i = true then (topF (tubeAt R i.toNat)).2 else 0), .bool (tpO R i)]) := by
  have tkR : R.take 24 = R := List.take_of_length_le (by omega)
  have r1 : List.replicate 1 (0 : Int) = [0] := rfl
  unfold tpO
  cases hr : rackB R <;> cases hi : plF i
  case true.true =>
    have bi := pl_bd hi
    have eT : List.take 4 (List.drop (i.toNat * 4) R) = tubeAt R i.toNat := rfl
    have hl := tubeAt_len hR (show i.toNat < 6 by omega)
    have b1 : i < 6 := by omega
    have b2 : i.toNat * 4 ≤ 20 := by omega
    have b0 := bi.1
    by_cases h0 : layN (tubeAt R i.toNat) = 0
    · have h1 : ((layN (tubeAt R i.toNat) : Nat) : Int) = 0 := by omega
      refine pure_of_vc (X := ⟨Try.prog, tys, [(56, isAt_F), (73, layers_F), (74, top_F)], [], true, true, 0, [], []⟩) fn_24 ⟨tys_ok, (.cons isAt_T (.cons layers_T (.cons top_T .nil))), .nil, mixed⟩ (n0 := 0) (Nat.le_of_ble_eq_true rfl) (by simp [wfL, SV.wf]) (wfH_spec (by simp [wfH, SObj.wf])) (Nat.le_refl _) (fun _ => by simp [SV.wf, wfL]) ?_
      simp -implicitDefEqProofs only [Try.f24, Option.getD_some, argS, isAt_F, layers_F, top_F, hR, tkR, hr, hi, eT, hl, b0, b1, b2, h0, h1, r1, List.set_cons_zero, List.set_cons_succ, List.drop_zero, List.all_cons, List.all_nil, ZB, Int.reduceToNat, Nat.reduceLT, Nat.reduceLeDiff, Int.reduceLE, Int.reduceLT, Nat.reduceEqDiff, Nat.reduceSub, SB, SV.known, packR, ne_eq, reduceCtorEq, Nat.reduceEqDiff, ↓reduceIte, if_true, if_false, eq_self, Nat.reduceAdd, Nat.reduceMul, Nat.reduceSub, forall_const, oneCellS, litOne, flat1, Kd.isSca, flat, TYB]
    · have h1 : ¬ ((layN (tubeAt R i.toNat) : Nat) : Int) = 0 := by omega
      refine pure_of_vc (X := ⟨Try.prog, tys, [(56, isAt_F), (73, layers_F), (74, top_F)], [], true, true, 0, [], []⟩) fn_24 ⟨tys_ok, (.cons isAt_T (.cons layers_T (.cons top_T .nil))), .nil, mixed⟩ (n0 := 0) (Nat.le_of_ble_eq_true rfl) (by simp [wfL, SV.wf]) (wfH_spec (by simp [wfH, SObj.wf])) (Nat.le_refl _) (fun _ => by simp [SV.wf, wfL]) ?_
      simp -implicitDefEqProofs only [Try.f24, Option.getD_some, argS, isAt_F, layers_F, top_F, hR, tkR, hr, hi, eT, hl, b0, b1, b2, h0, h1, r1, List.set_cons_zero, List.set_cons_succ, List.drop_zero, List.all_cons, List.all_nil, ZB, Int.reduceToNat, Nat.reduceLT, Nat.reduceLeDiff, Int.reduceLE, Int.reduceLT, Nat.reduceEqDiff, Nat.reduceSub, SB, SV.known, packR, ne_eq, reduceCtorEq, Nat.reduceEqDiff, ↓reduceIte, if_true, if_false, eq_self, Nat.reduceAdd, Nat.reduceMul, Nat.reduceSub, forall_const, oneCellS, litOne, flat1, Kd.isSca, flat, TYB]
  all_goals
    refine pure_of_vc (X := ⟨Try.prog, tys, [(56, isAt_F), (73, layers_F), (74, top_F)], [], true, true, 0, [], []⟩) fn_24 ⟨tys_ok, (.cons isAt_T (.cons layers_T (.cons top_T .nil))), .nil, mixed⟩ (n0 := 0) (Nat.le_of_ble_eq_true rfl) (by simp [wfL, SV.wf]) (wfH_spec (by simp [wfH, SObj.wf])) (Nat.le_refl _) (fun _ => by simp [SV.wf, wfL]) ?_
    simp -implicitDefEqProofs only [Try.f24, Option.getD_some, argS, isAt_F, layers_F, top_F, hR, tkR, hr, hi, r1, List.set_cons_zero, List.set_cons_succ, List.drop_zero, List.all_cons, List.all_nil, ZB, Int.reduceToNat, Nat.reduceLT, Nat.reduceLeDiff, Int.reduceLE, Int.reduceLT, Nat.reduceEqDiff, Nat.reduceSub, SB, SV.known, packR, ne_eq, reduceCtorEq, Nat.reduceEqDiff, ↓reduceIte, if_true, if_false, eq_self, Nat.reduceAdd, Nat.reduceMul, Nat.reduceSub, forall_const, oneCellS, litOne, flat1, Kd.isSca, flat, TYB]
def LayersOf_F : List SV → Heap → Option (Prop × SV)
  | [.arr R, .int i], _ => some (R.length = 24, .tup [.int (loF R i), .bool (rackB R && plF i)])
  | _, _ => none
theorem LayersOf_T : ∀ args H p v, LayersOf_F args H = some (p, v) → p → PureH Try.prog 25 args H v := by
  intro args H p v h hp
  unfold LayersOf_F at h
  split at h
  · cases h; exact (LayersOf_ok _ _ hp).any _
  · cases h
def TopOf_F : List SV → Heap → Option (Prop × SV)
  | [.arr R, .int i], _ => some (R.length = 24, .tup [.int (if tpO R i = true then (topF (tubeAt R i.toNat)).1 else 0), .int (if tpO R i = true then (topF (tubeAt R i.toNat)).2 else 0), .bool (tpO R i)])
  | _, _ => none
theorem TopOf_T : ∀ args H p v, TopOf_F args H = some (p, v) → p → PureH Try.prog 24 args H v := by
  intro args H p v h hp
  unfold TopOf_F at h
  split at h
  · cases h; exact (TopOf_ok _ _ hp).any _
  · cases h
end Go.Proofs.Ytnlbljikbonioaa
