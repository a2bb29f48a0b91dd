/- Walks: what the outside sees of pours by rules. -/
import Derived.Test.YtneoccmigccbeaaRule
set_option maxRecDepth 100000
set_option linter.unusedSimpArgs false
set_option linter.unusedVariables false
namespace Go.Proofs.Ytneoccmigccbeaa
open Go Go.RowKit
def poursBy_F : List SV → Heap → Nat → Nat → K1 → Prop
  | [.arr R, .arr D, .int u], H, n, _, κ => (R.length = 24 ∧ D.length = 6 ∧ forB R D = true) ∧ freshK .one (GL (pbB R D u) 36) ((GL (pbB R D u) 36).length / 2) 2 95 true H n κ
  | _, _, _, _, _ => False
--@tbl poursBy = impl.poursBy
theorem poursBy_T : ∀ args H n m κ, poursBy_F args H n m κ → GenOK Try.prog 81 args H n m κ := by
  intro args H n m κ h
  unfold poursBy_F at h
  split at h
  · exact gen_of_fresh (poursBy_ok _ _ _ h.1.1 h.1.2.1 h.1.2.2) (fun k o hk => by cases hk) h.2
  · exact h.elim
def l8Pours_F : List SV → Heap → Nat → Nat → K1 → Prop
  | [.arr R, .arr D, .int u], H, n, _, κ => (R.length = 24 ∧ D.length = 6 ∧ forB R D = true ∧ ruF u = true) ∧ freshK .one (GL (pbB R D u) 36) ((GL (pbB R D u) 36).length / 2) 2 95 false H n κ
  | _, _, _, _, _ => False
--@tbl l8Pours = spec.l8Pours
theorem l8Pours_T : ∀ args H n m κ, l8Pours_F args H n m κ → GenOK Try.prog 79 args H n m κ := by
  intro args H n m κ h
  unfold l8Pours_F at h
  split at h
  · exact gen_of_fresh (l8Pours_ok _ _ _ h.1.1 h.1.2.1 h.1.2.2.1 h.1.2.2.2) (fun k o hk => by cases hk) h.2
  · exact h.elim
def pbyB (R D : List Int) (u i j : Int) : Bool := forB R D && ruF u && plF i && plF j && !decide (movF R D u i j = 0)
def pbyT (R D : List Int) (u i j : Int) : List Int := if pbyB R D u i j = true then mvR R i.toNat j.toNat (movF R D u i j).toNat else List.replicate 24 0
def pbyN (R D : List Int) (u i j : Int) : Int := if pbyB R D u i j = true then movF R D u i j else 0
theorem pbyT_len {R : List Int} (hR : R.length = 24) (D : List Int) (u i j : Int) : (pbyT R D u i j).length = 24 := by
  unfold pbyT
  split
  · rw [mvR_len, hR]
  · rfl
--@tbl PourBy = impl.PourBy
--@tbl sPourBy = spec.PourBy
theorem PourBy_ok (R D : List Int) (u i j : Int) (hR : R.length = 24) (hD : D.length = 6) : PureH Try.prog 51 [.arr R, .arr D, .int u, .int i, .int j] [] (.tup [.arr (pbyT R D u i j), .int (pbyN R D u i j), .bool (pbyB R D u i j)]) := by
  have tkR : R.take 24 = R := List.take_of_length_le (by omega)
  have tkD : D.take 6 = D := List.take_of_length_le (by omega)
  have r24 : List.take 24 (List.replicate 24 (0 : Int)) = List.replicate 24 0 := rfl
  unfold pbyT pbyN pbyB
  cases hf : forB R D <;> cases hu : ruF u <;> cases hi : plF i <;> cases hj : plF j
  case true.true.true.true =>
    have bi := pl_bd hi
    have bj := pl_bd hj
    have mb := movF_bd (u := u) hR hD hf bi bj
    have hr := (forB_facts hD hf).1
    by_cases hm : movF R D u i j = 0
    · refine pure_of_vc (X := ⟨Try.prog, tys, [(80, isFor_F), (102, isRule_F), (103, isPlace_F), (104, movedBy_F), (105, move_F)], [], true, true, 0, false⟩) fn_51 ⟨tys_ok, (.cons isFor_T (.cons isRule_T (.cons isPlace_T (.cons movedBy_T (.cons move_T .nil))))), .nil, mixed⟩ (n0 := 0) (Nat.le_of_ble_eq_true rfl) (by simp [wfL, SV.wf]) (wfH_spec (by simp [wfH, SObj.wf])) (Nat.le_refl _) (fun _ => by simp [SV.wf, wfL]) ?_
      simp -implicitDefEqProofs only [Try.f51, Option.getD_some, argS, isFor_F, isRule_F, isPlace_F, movedBy_F, move_F, hR, hD, tkR, tkD, r24, hf, hu, hi, hj, hm, ZB, Int.reduceToNat, Nat.reduceLT, Nat.reduceLeDiff, Int.reduceLE, Int.reduceLT, Nat.reduceEqDiff, Nat.reduceSub, SB, SV.known, packR, ne_eq, reduceCtorEq, Nat.reduceEqDiff, ↓reduceIte, if_true, if_false, eq_self, Nat.reduceAdd, Nat.reduceMul, Nat.reduceSub, forall_const, oneCellS, Kd.isSca, flat, TYB]
      (try (and_intros <;> try (first | omega | (unfold In64; omega) | trivial | assumption)))
    · have ml := (mvR_len R i.toNat j.toNat (movF R D u i j).toNat).trans hR
      have tkM : (mvR R i.toNat j.toNat (movF R D u i j).toNat).take 24 = mvR R i.toNat j.toNat (movF R D u i j).toNat := List.take_of_length_le (by omega)
      have m2 := mb.2.resolve_left hm
      refine pure_of_vc (X := ⟨Try.prog, tys, [(80, isFor_F), (102, isRule_F), (103, isPlace_F), (104, movedBy_F), (105, move_F)], [], true, true, 0, false⟩) fn_51 ⟨tys_ok, (.cons isFor_T (.cons isRule_T (.cons isPlace_T (.cons movedBy_T (.cons move_T .nil))))), .nil, mixed⟩ (n0 := 0) (Nat.le_of_ble_eq_true rfl) (by simp [wfL, SV.wf]) (wfH_spec (by simp [wfH, SObj.wf])) (Nat.le_refl _) (fun _ => by simp [SV.wf, wfL]) ?_
      simp -implicitDefEqProofs only [Try.f51, Option.getD_some, argS, isFor_F, isRule_F, isPlace_F, movedBy_F, move_F, hR, hD, tkR, tkD, r24, hf, hu, hi, hj, hm, hr, ml, tkM, ZB, Int.reduceToNat, Nat.reduceLT, Nat.reduceLeDiff, Int.reduceLE, Int.reduceLT, Nat.reduceEqDiff, Nat.reduceSub, SB, SV.known, packR, ne_eq, reduceCtorEq, Nat.reduceEqDiff, ↓reduceIte, if_true, if_false, eq_self, Nat.reduceAdd, Nat.reduceMul, Nat.reduceSub, forall_const, oneCellS, Kd.isSca, flat, TYB]
      (try (and_intros <;> try (first | omega | (unfold In64; omega) | trivial | assumption)))
      all_goals (first | exact m2.1 | skip)
  all_goals
    refine pure_of_vc (X := ⟨Try.prog, tys, [(80, isFor_F), (102, isRule_F), (103, isPlace_F)], [], true, true, 0, false⟩) fn_51 ⟨tys_ok, (.cons isFor_T (.cons isRule_T (.cons isPlace_T .nil))), .nil, mixed⟩ (n0 := 0) (Nat.le_of_ble_eq_true rfl) (by simp [wfL, SV.wf]) (wfH_spec (by simp [wfH, SObj.wf])) (Nat.le_refl _) (fun _ => by simp [SV.wf, wfL]) ?_
    simp -implicitDefEqProofs only [Try.f51, Option.getD_some, argS, isFor_F, isRule_F, isPlace_F, hR, hD, tkR, tkD, r24, hf, hu, hi, hj, ZB, Int.reduceToNat, Nat.reduceLT, Nat.reduceLeDiff, Int.reduceLE, Int.reduceLT, Nat.reduceEqDiff, Nat.reduceSub, SB, SV.known, packR, ne_eq, reduceCtorEq, Nat.reduceEqDiff, ↓reduceIte, if_true, if_false, eq_self, Nat.reduceAdd, Nat.reduceMul, Nat.reduceSub, forall_const, oneCellS, Kd.isSca, flat, TYB]
theorem sPourBy_ok (R D : List Int) (u i j : Int) (hR : R.length = 24) (hD : D.length = 6) : PureH Try.prog 50 [.arr R, .arr D, .int u, .int i, .int j] [] (.tup [.arr (pbyT R D u i j), .int (pbyN R D u i j), .bool (pbyB R D u i j)]) := by
  have tkR : R.take 24 = R := List.take_of_length_le (by omega)
  have tkD : D.take 6 = D := List.take_of_length_le (by omega)
  have r24 : List.take 24 (List.replicate 24 (0 : Int)) = List.replicate 24 0 := rfl
  unfold pbyT pbyN pbyB
  cases hf : forB R D <;> cases hu : ruF u <;> cases hi : plF i <;> cases hj : plF j
  case true.true.true.true =>
    have bi := pl_bd hi
    have bj := pl_bd hj
    have mb := movF_bd (u := u) hR hD hf bi bj
    have hr := (forB_facts hD hf).1
    by_cases hm : movF R D u i j = 0
    · refine pure_of_vc (X := ⟨Try.prog, tys, [(78, l8Fits2_F), (98, l8Rule_F), (99, l2Place_F), (100, l8Moves_F), (101, l8Move_F)], [], true, true, 0, false⟩) fn_50 ⟨tys_ok, (.cons l8Fits2_T (.cons l8Rule_T (.cons l2Place_T (.cons l8Moves_T (.cons l8Move_T .nil))))), .nil, mixed⟩ (n0 := 0) (Nat.le_of_ble_eq_true rfl) (by simp [wfL, SV.wf]) (wfH_spec (by simp [wfH, SObj.wf])) (Nat.le_refl _) (fun _ => by simp [SV.wf, wfL]) ?_
      simp -implicitDefEqProofs only [Try.f50, Option.getD_some, argS, l8Fits2_F, l8Rule_F, l2Place_F, l8Moves_F, l8Move_F, hR, hD, tkR, tkD, r24, hf, hu, hi, hj, hm, ZB, Int.reduceToNat, Nat.reduceLT, Nat.reduceLeDiff, Int.reduceLE, Int.reduceLT, Nat.reduceEqDiff, Nat.reduceSub, SB, SV.known, packR, ne_eq, reduceCtorEq, Nat.reduceEqDiff, ↓reduceIte, if_true, if_false, eq_self, Nat.reduceAdd, Nat.reduceMul, Nat.reduceSub, forall_const, oneCellS, Kd.isSca, flat, TYB]
      (try (and_intros <;> try (first | omega | (unfold In64; omega) | trivial | assumption)))
    · have ml := (mvR_len R i.toNat j.toNat (movF R D u i j).toNat).trans hR
      have tkM : (mvR R i.toNat j.toNat (movF R D u i j).toNat).take 24 = mvR R i.toNat j.toNat (movF R D u i j).toNat := List.take_of_length_le (by omega)
      have m2 := mb.2.resolve_left hm
      refine pure_of_vc (X := ⟨Try.prog, tys, [(78, l8Fits2_F), (98, l8Rule_F), (99, l2Place_F), (100, l8Moves_F), (101, l8Move_F)], [], true, true, 0, false⟩) fn_50 ⟨tys_ok, (.cons l8Fits2_T (.cons l8Rule_T (.cons l2Place_T (.cons l8Moves_T (.cons l8Move_T .nil))))), .nil, mixed⟩ (n0 := 0) (Nat.le_of_ble_eq_true rfl) (by simp [wfL, SV.wf]) (wfH_spec (by simp [wfH, SObj.wf])) (Nat.le_refl _) (fun _ => by simp [SV.wf, wfL]) ?_
      simp -implicitDefEqProofs only [Try.f50, Option.getD_some, argS, l8Fits2_F, l8Rule_F, l2Place_F, l8Moves_F, l8Move_F, hR, hD, tkR, tkD, r24, hf, hu, hi, hj, hm, hr, ml, tkM, ZB, Int.reduceToNat, Nat.reduceLT, Nat.reduceLeDiff, Int.reduceLE, Int.reduceLT, Nat.reduceEqDiff, Nat.reduceSub, SB, SV.known, packR, ne_eq, reduceCtorEq, Nat.reduceEqDiff, ↓reduceIte, if_true, if_false, eq_self, Nat.reduceAdd, Nat.reduceMul, Nat.reduceSub, forall_const, oneCellS, Kd.isSca, flat, TYB]
      (try (and_intros <;> try (first | omega | (unfold In64; omega) | trivial | assumption)))
      all_goals (first | exact m2.1 | skip)
  all_goals
    refine pure_of_vc (X := ⟨Try.prog, tys, [(78, l8Fits2_F), (98, l8Rule_F), (99, l2Place_F)], [], true, true, 0, false⟩) fn_50 ⟨tys_ok, (.cons l8Fits2_T (.cons l8Rule_T (.cons l2Place_T .nil))), .nil, mixed⟩ (n0 := 0) (Nat.le_of_ble_eq_true rfl) (by simp [wfL, SV.wf]) (wfH_spec (by simp [wfH, SObj.wf])) (Nat.le_refl _) (fun _ => by simp [SV.wf, wfL]) ?_
    simp -implicitDefEqProofs only [Try.f50, Option.getD_some, argS, l8Fits2_F, l8Rule_F, l2Place_F, hR, hD, tkR, tkD, r24, hf, hu, hi, hj, ZB, Int.reduceToNat, Nat.reduceLT, Nat.reduceLeDiff, Int.reduceLE, Int.reduceLT, Nat.reduceEqDiff, Nat.reduceSub, SB, SV.known, packR, ne_eq, reduceCtorEq, Nat.reduceEqDiff, ↓reduceIte, if_true, if_false, eq_self, Nat.reduceAdd, Nat.reduceMul, Nat.reduceSub, forall_const, oneCellS, Kd.isSca, flat, TYB]
def PourBy_F : List SV → Heap → Option (Prop × SV)
  | [.arr R, .arr D, .int u, .int i, .int j], _ => some (R.length = 24 ∧ D.length = 6, .tup [.arr (pbyT R D u i j), .int (pbyN R D u i j), .bool (pbyB R D u i j)])
  | _, _ => none
theorem PourBy_T : ∀ args H p v, PourBy_F args H = some (p, v) → p → PureH Try.prog 51 args H v := by
  intro args H p v h hp
  unfold PourBy_F at h
  split at h
  · cases h; exact (PourBy_ok _ _ _ _ _ hp.1 hp.2).any _
  · cases h
def sPourBy_F : List SV → Heap → Option (Prop × SV)
  | [.arr R, .arr D, .int u, .int i, .int j], _ => some (R.length = 24 ∧ D.length = 6, .tup [.arr (pbyT R D u i j), .int (pbyN R D u i j), .bool (pbyB R D u i j)])
  | _, _ => none
theorem sPourBy_T : ∀ args H p v, sPourBy_F args H = some (p, v) → p → PureH Try.prog 50 args H v := by
  intro args H p v h hp
  unfold sPourBy_F at h
  split at h
  · cases h; exact (sPourBy_ok _ _ _ _ _ hp.1 hp.2).any _
  · cases h
theorem lawPourBy (R D : List Int) (u i j : Int) (hR : R.length = 24) (_ : ∀ x ∈ R, In64 x) (hD : D.length = 6) (_ : ∀ x ∈ D, In64 x) (_ : In64 u) (_ : In64 i) (_ : In64 j) : PureH Try.prog 14 [.arr R, .arr D, .int u, .int i, .int j] [] (.bool true) := by
  have tkR : R.take 24 = R := List.take_of_length_le (by omega)
  have tkD : D.take 6 = D := List.take_of_length_le (by omega)
  have hl := pbyT_len hR D u i j
  have tk1 : (pbyT R D u i j).take 24 = pbyT R D u i j := List.take_of_length_le (by omega)
  refine pure_of_vc (X := ⟨Try.prog, tys, [(16, toRack_F), (35, toIntA6_F), (51, PourBy_F), (50, sPourBy_F), (28, eqRack_F)], [], true, true, 0, false⟩) fn_14 ⟨tys_ok, (.cons toRack_T (.cons toIntA6_T (.cons PourBy_T (.cons sPourBy_T (.cons eqRack_T .nil))))), .nil, mixed⟩ (n0 := 0) (Nat.le_of_ble_eq_true rfl) (by simp [wfL, SV.wf]) (wfH_spec (by simp [wfH, SObj.wf])) (Nat.le_refl _) (fun _ => by simp [SV.wf, wfL]) ?_
  simp -implicitDefEqProofs only [Try.f14, Option.getD_some, argS, toRack_F, toIntA6_F, PourBy_F, sPourBy_F, eqRack_F, hR, hD, tkR, tkD, hl, tk1, ZB, Int.reduceToNat, Nat.reduceLT, Nat.reduceLeDiff, Int.reduceLE, Int.reduceLT, Nat.reduceEqDiff, Nat.reduceSub, SB, SV.known, packR, ne_eq, reduceCtorEq, Nat.reduceEqDiff, ↓reduceIte, if_true, if_false, eq_self, Nat.reduceAdd, Nat.reduceMul, Nat.reduceSub, forall_const, oneCellS, Kd.isSca, flat, TYB]
--@tbl DropsFor = impl.DropsFor
--@tbl sDropsFor = spec.DropsFor
theorem DropsFor_ok (R D : List Int) (i j : Int) (hR : R.length = 24) (hD : D.length = 6) : PureH Try.prog 36 [.arr R, .arr D, .int i, .int j] [] (.tup [.int (pbyN R D 1 i j), .bool (pbyB R D 1 i j)]) := by
  have tkR : R.take 24 = R := List.take_of_length_le (by omega)
  have tkD : D.take 6 = D := List.take_of_length_le (by omega)
  have hl := pbyT_len hR D 1 i j
  refine pure_of_vc (X := ⟨Try.prog, tys, [(51, PourBy_F)], [], true, true, 0, false⟩) fn_36 ⟨tys_ok, (.cons PourBy_T .nil), .nil, mixed⟩ (n0 := 0) (Nat.le_of_ble_eq_true rfl) (by simp [wfL, SV.wf]) (wfH_spec (by simp [wfH, SObj.wf])) (Nat.le_refl _) (fun _ => by simp [SV.wf, wfL]) ?_
  simp -implicitDefEqProofs only [Try.f36, Option.getD_some, argS, PourBy_F, hR, hD, tkR, tkD, hl, ZB, Int.reduceToNat, Nat.reduceLT, Nat.reduceLeDiff, Int.reduceLE, Int.reduceLT, Nat.reduceEqDiff, Nat.reduceSub, SB, SV.known, packR, ne_eq, reduceCtorEq, Nat.reduceEqDiff, ↓reduceIte, if_true, if_false, eq_self, Nat.reduceAdd, Nat.reduceMul, Nat.reduceSub, forall_const, oneCellS, Kd.isSca, flat, TYB]
theorem sDropsFor_ok (R D : List Int) (i j : Int) (hR : R.length = 24) (hD : D.length = 6) : PureH Try.prog 34 [.arr R, .arr D, .int i, .int j] [] (.tup [.int (pbyN R D 1 i j), .bool (pbyB R D 1 i j)]) := by
  have tkR : R.take 24 = R := List.take_of_length_le (by omega)
  have tkD : D.take 6 = D := List.take_of_length_le (by omega)
  have hl := pbyT_len hR D 1 i j
  refine pure_of_vc (X := ⟨Try.prog, tys, [(50, sPourBy_F)], [], true, true, 0, false⟩) fn_34 ⟨tys_ok, (.cons sPourBy_T .nil), .nil, mixed⟩ (n0 := 0) (Nat.le_of_ble_eq_true rfl) (by simp [wfL, SV.wf]) (wfH_spec (by simp [wfH, SObj.wf])) (Nat.le_refl _) (fun _ => by simp [SV.wf, wfL]) ?_
  simp -implicitDefEqProofs only [Try.f34, Option.getD_some, argS, sPourBy_F, hR, hD, tkR, tkD, hl, ZB, Int.reduceToNat, Nat.reduceLT, Nat.reduceLeDiff, Int.reduceLE, Int.reduceLT, Nat.reduceEqDiff, Nat.reduceSub, SB, SV.known, packR, ne_eq, reduceCtorEq, Nat.reduceEqDiff, ↓reduceIte, if_true, if_false, eq_self, Nat.reduceAdd, Nat.reduceMul, Nat.reduceSub, forall_const, oneCellS, Kd.isSca, flat, TYB]
def DropsFor_F : List SV → Heap → Option (Prop × SV)
  | [.arr R, .arr D, .int i, .int j], _ => some (R.length = 24 ∧ D.length = 6, .tup [.int (pbyN R D 1 i j), .bool (pbyB R D 1 i j)])
  | _, _ => none
theorem DropsFor_T : ∀ args H p v, DropsFor_F args H = some (p, v) → p → PureH Try.prog 36 args H v := by
  intro args H p v h hp
  unfold DropsFor_F at h
  split at h
  · cases h; exact (DropsFor_ok _ _ _ _ hp.1 hp.2).any _
  · cases h
def sDropsFor_F : List SV → Heap → Option (Prop × SV)
  | [.arr R, .arr D, .int i, .int j], _ => some (R.length = 24 ∧ D.length = 6, .tup [.int (pbyN R D 1 i j), .bool (pbyB R D 1 i j)])
  | _, _ => none
theorem sDropsFor_T : ∀ args H p v, sDropsFor_F args H = some (p, v) → p → PureH Try.prog 34 args H v := by
  intro args H p v h hp
  unfold sDropsFor_F at h
  split at h
  · cases h; exact (sDropsFor_ok _ _ _ _ hp.1 hp.2).any _
  · cases h
theorem lawDropsFor (R D : List Int) (i j : Int) (hR : R.length = 24) (_ : ∀ x ∈ R, In64 x) (hD : D.length = 6) (_ : ∀ x ∈ D, In64 x) (_ : In64 i) (_ : In64 j) : PureH Try.prog 9 [.arr R, .arr D, .int i, .int j] [] (.bool true) := by
  have tkR : R.take 24 = R := List.take_of_length_le (by omega)
  have tkD : D.take 6 = D := List.take_of_length_le (by omega)
  refine pure_of_vc (X := ⟨Try.prog, tys, [(16, toRack_F), (35, toIntA6_F), (36, DropsFor_F), (34, sDropsFor_F)], [], true, true, 0, false⟩) fn_9 ⟨tys_ok, (.cons toRack_T (.cons toIntA6_T (.cons DropsFor_T (.cons sDropsFor_T .nil)))), .nil, mixed⟩ (n0 := 0) (Nat.le_of_ble_eq_true rfl) (by simp [wfL, SV.wf]) (wfH_spec (by simp [wfH, SObj.wf])) (Nat.le_refl _) (fun _ => by simp [SV.wf, wfL]) ?_
  simp -implicitDefEqProofs only [Try.f9, Option.getD_some, argS, toRack_F, toIntA6_F, DropsFor_F, sDropsFor_F, hR, hD, tkR, tkD, ZB, Int.reduceToNat, Nat.reduceLT, Nat.reduceLeDiff, Int.reduceLE, Int.reduceLT, Nat.reduceEqDiff, Nat.reduceSub, SB, SV.known, packR, ne_eq, reduceCtorEq, Nat.reduceEqDiff, ↓reduceIte, if_true, if_false, eq_self, Nat.reduceAdd, Nat.reduceMul, Nat.reduceSub, forall_const, oneCellS, Kd.isSca, flat, TYB]
/-! CountRules. -/
def crlK (R D : List Int) (k : Nat) : List Int := (List.range 5).map fun c => if 1 ≤ c ∧ c ≤ k then (((GL (pbB R D c) 36).length / 2 : Nat) : Int) else 0
theorem crlK_len (R D : List Int) (k : Nat) : (crlK R D k).length = 5 := by simp [crlK]
theorem crlK_zero (R D : List Int) : crlK R D 0 = List.replicate 5 0 := by
  simp only [crlK]
  apply List.ext_getElem (by simp)
  intro k h1 h2
  simp only [List.getElem_map, List.getElem_range, List.getElem_replicate]
  rw [if_neg (by omega)]
theorem crlK_step (R D : List Int) (k : Nat) (hk : k < 4) : (crlK R D k).set (k + 1) (((GL (pbB R D ((k + 1 : Nat) : Int)) 36).length / 2 : Nat) : Int) = crlK R D (k + 1) := by
  apply List.ext_getElem (by simp [crlK])
  intro c h1 h2
  simp only [crlK, List.getElem_set, List.getElem_map, List.getElem_range]
  by_cases hc : k + 1 = c
  · subst hc; rw [if_pos rfl, if_pos (by omega)]
  · rw [if_neg hc]
    by_cases h3 : 1 ≤ c ∧ c ≤ k
    · rw [if_pos h3, if_pos (by omega)]
    · rw [if_neg h3, if_neg (by omega)]
def crlF (R D : List Int) : List Int := if forB R D = true then crlK R D 4 else List.replicate 5 0
theorem crlF_len (R D : List Int) : (crlF R D).length = 5 := by
  unfold crlF
  split
  · exact crlK_len _ _ _
  · rfl
--@tbl CountRules = impl.CountRules
--@tbl sCountRules = spec.CountRules
theorem CountRules_ok (R D : List Int) (hR : R.length = 24) (hD : D.length = 6) : PureH Try.prog 38 [.arr R, .arr D] [] (.tup [.arr (crlF R D), .bool (forB R D)]) := by
  have tkR : R.take 24 = R := List.take_of_length_le (by omega)
  have tkD : D.take 6 = D := List.take_of_length_le (by omega)
  have r5 : List.take 5 (List.replicate 5 (0 : Int)) = List.replicate 5 0 := rfl
  unfold crlF
  cases hf : forB R D
  · refine pure_of_vc (X := ⟨Try.prog, tys, [(80, isFor_F)], [(81, poursBy_F)], true, true, 0, false⟩) fn_38 ⟨tys_ok, (.cons isFor_T .nil), (.cons poursBy_T .nil), mixed⟩ (n0 := 0) (Nat.le_of_ble_eq_true rfl) (by simp [wfL, SV.wf]) (wfH_spec (by simp [wfH, SObj.wf])) (Nat.le_refl _) (fun _ => by simp [SV.wf, wfL]) ?_
    simp -implicitDefEqProofs only [Try.f38, Option.getD_some, argS, isFor_F, poursBy_F, hR, hD, tkR, tkD, r5, hf, ZB, Int.reduceToNat, Nat.reduceLT, Nat.reduceLeDiff, Int.reduceLE, Int.reduceLT, Nat.reduceEqDiff, Nat.reduceSub, SB, SV.known, packR, ne_eq, reduceCtorEq, Nat.reduceEqDiff, ↓reduceIte, if_true, if_false, eq_self, Nat.reduceAdd, Nat.reduceMul, Nat.reduceSub, forall_const, oneCellS, Kd.isSca, flat, TYB]
  · refine pure_of_vc (X := ⟨Try.prog, tys, [(80, isFor_F)], [(81, poursBy_F)], true, true, 0, false⟩) fn_38 ⟨tys_ok, (.cons isFor_T .nil), (.cons poursBy_T .nil), mixed⟩ (n0 := 0) (Nat.le_of_ble_eq_true rfl) (by simp [wfL, SV.wf]) (wfH_spec (by simp [wfH, SObj.wf])) (Nat.le_refl _) (fun _ => by simp [SV.wf, wfL]) ?_
    simp -implicitDefEqProofs only [Try.f38, Option.getD_some, argS, isFor_F, poursBy_F, hR, hD, tkR, tkD, r5, hf, ZB, Int.reduceToNat, Nat.reduceLT, Nat.reduceLeDiff, Int.reduceLE, Int.reduceLT, Nat.reduceEqDiff, Nat.reduceSub, SB, SV.known, packR, ne_eq, reduceCtorEq, Nat.reduceEqDiff, ↓reduceIte, if_true, if_false, eq_self, Nat.reduceAdd, Nat.reduceMul, Nat.reduceSub, forall_const, oneCellS, Kd.isSca, flat, TYB]
    refine loop_intro (fun k : Nat => [(7, .int ((k + 1 : Nat) : Int)), (6, .ptr 3 0), (4, .ptr 2 0), (2, .ptr 0 0), (3, .ptr 1 0)]) (fun k => [(3, .ints (crlK R D k) 56), (2, .ints (List.replicate 5 0) 56), (1, .ints D 31), (0, .ints R 28)]) 4 (fun k => k ≤ 4) (fun k => 4 - k) ?_ ?_
    · refine ⟨0, ?_, Sub.mk_id ?_ ?_ ?_ ?_ ?_⟩
      all_goals (try (simp only [crlK_zero, LB, subS, subH, wfS, wfH, SV.ren, renL, SObj.ren, SV.wf, SObj.wf, wfL, SV.known, Nat.reduceEqDiff, ↓reduceIte, if_true, if_false, eq_self, Nat.reduceAdd, Nat.reduceLT, Nat.reduceLeDiff, implies_true, reduceCtorEq, forall_const]; done))
      all_goals (try (simp only [crlK_zero, LB, subS, subH, wfS, wfH, SV.ren, renL, SObj.ren, SV.wf, SObj.wf, wfL, SV.known, Nat.reduceEqDiff, ↓reduceIte, if_true, if_false, eq_self, Nat.reduceAdd, Nat.reduceLT, Nat.reduceLeDiff, implies_true, reduceCtorEq, forall_const]; simp; done))
      all_goals (try (simp only [crlK_zero, LB, subS, subH, wfS, wfH, SV.ren, renL, SObj.ren, SV.wf, SObj.wf, wfL, SV.known, Nat.reduceEqDiff, ↓reduceIte, if_true, if_false, eq_self, Nat.reduceAdd, Nat.reduceLT, Nat.reduceLeDiff, implies_true, reduceCtorEq, forall_const]; (and_intros <;> (first | omega | rfl | (simp; done) | (simp; omega))); done))
      all_goals (try dsimp only)
      all_goals (and_intros <;> try (first | omega | (unfold In64; omega) | trivial | assumption))
    · intro k hk
      have cl := crlK_len R D k
      by_cases hlt : k < 4
      · have hkl : ((k + 1 : Nat) : Int) ≤ 4 := by omega
        have es := crlK_step R D k hlt
        obtain ⟨n, hn, hn36⟩ := GL_even (pbB R D ((k + 1 : Nat) : Int)) 36
        skip
        simp -implicitDefEqProofs only [lk_normal, poursBy_F, freshK, Wrap.ap, hkl, hR, hD, tkR, tkD, hf, cl, es, ZB, Int.reduceToNat, Nat.reduceLT, Nat.reduceLeDiff, Int.reduceLE, Int.reduceLT, Nat.reduceEqDiff, Nat.reduceSub, SB, SV.known, packR, ne_eq, reduceCtorEq, Nat.reduceEqDiff, ↓reduceIte, if_true, if_false, eq_self, Nat.reduceAdd, Nat.reduceMul, Nat.reduceSub, forall_const, oneCellS, Kd.isSca, flat, TYB]
        refine ⟨fun h0 => ?_, fun h0 cap junk hj => ?_⟩
        · have es0 : (crlK R D k).set (k + 1) 0 = crlK R D (k + 1) := by rw [← es, h0]; rfl
          (try (and_intros <;> try (first | omega | (unfold In64; omega) | trivial | assumption)))
          refine ⟨k + 1, ?_, ?_, Sub.mk_id ?_ ?_ ?_ ?_ ?_⟩
          all_goals (try (simp only [es0, LB, subS, subH, wfS, wfH, SV.ren, renL, SObj.ren, SV.wf, SObj.wf, wfL, SV.known, Nat.reduceEqDiff, ↓reduceIte, if_true, if_false, eq_self, Nat.reduceAdd, Nat.reduceLT, Nat.reduceLeDiff, implies_true, reduceCtorEq, forall_const]; done))
          all_goals (try (simp only [es0, LB, subS, subH, wfS, wfH, SV.ren, renL, SObj.ren, SV.wf, SObj.wf, wfL, SV.known, Nat.reduceEqDiff, ↓reduceIte, if_true, if_false, eq_self, Nat.reduceAdd, Nat.reduceLT, Nat.reduceLeDiff, implies_true, reduceCtorEq, forall_const]; simp; done))
          all_goals (try (simp only [es0, LB, subS, subH, wfS, wfH, SV.ren, renL, SObj.ren, SV.wf, SObj.wf, wfL, SV.known, Nat.reduceEqDiff, ↓reduceIte, if_true, if_false, eq_self, Nat.reduceAdd, Nat.reduceLT, Nat.reduceLeDiff, implies_true, reduceCtorEq, forall_const]; (and_intros <;> (first | omega | rfl | (simp; done) | (simp; omega))); done))
          all_goals (try dsimp only)
          all_goals (and_intros <;> try (first | omega | (unfold In64; omega) | trivial | assumption))
        · (try (and_intros <;> try (first | omega | (unfold In64; omega) | trivial | assumption)))
          refine ⟨k + 1, ?_, ?_, Sub.mk_id ?_ ?_ ?_ ?_ ?_⟩
          all_goals (try (simp only [es, LB, subS, subH, wfS, wfH, SV.ren, renL, SObj.ren, SV.wf, SObj.wf, wfL, SV.known, Nat.reduceEqDiff, ↓reduceIte, if_true, if_false, eq_self, Nat.reduceAdd, Nat.reduceLT, Nat.reduceLeDiff, implies_true, reduceCtorEq, forall_const]; done))
          all_goals (try (simp only [es, LB, subS, subH, wfS, wfH, SV.ren, renL, SObj.ren, SV.wf, SObj.wf, wfL, SV.known, Nat.reduceEqDiff, ↓reduceIte, if_true, if_false, eq_self, Nat.reduceAdd, Nat.reduceLT, Nat.reduceLeDiff, implies_true, reduceCtorEq, forall_const]; simp; done))
          all_goals (try (simp only [es, LB, subS, subH, wfS, wfH, SV.ren, renL, SObj.ren, SV.wf, SObj.wf, wfL, SV.known, Nat.reduceEqDiff, ↓reduceIte, if_true, if_false, eq_self, Nat.reduceAdd, Nat.reduceLT, Nat.reduceLeDiff, implies_true, reduceCtorEq, forall_const]; (and_intros <;> (first | omega | rfl | (simp; done) | (simp; omega))); done))
          all_goals (try dsimp only)
          all_goals (and_intros <;> try (first | omega | (unfold In64; omega) | trivial | assumption))
      · have hkl : ¬ ((k + 1 : Nat) : Int) ≤ 4 := by omega
        obtain rfl : k = 4 := by omega
        have tk5 : (crlK R D 4).take 5 = crlK R D 4 := List.take_of_length_le (by omega)
        simp -implicitDefEqProofs only [lk_normal, hkl, cl, tk5, ZB, Int.reduceToNat, Nat.reduceLT, Nat.reduceLeDiff, Int.reduceLE, Int.reduceLT, Nat.reduceEqDiff, Nat.reduceSub, SB, SV.known, packR, ne_eq, reduceCtorEq, Nat.reduceEqDiff, ↓reduceIte, if_true, if_false, eq_self, Nat.reduceAdd, Nat.reduceMul, Nat.reduceSub, forall_const, oneCellS, Kd.isSca, flat, TYB]
        (try (and_intros <;> try (first | omega | (unfold In64; omega) | trivial | assumption)))
theorem sCountRules_ok (R D : List Int) (hR : R.length = 24) (hD : D.length = 6) : PureH Try.prog 37 [.arr R, .arr D] [] (.tup [.arr (crlF R D), .bool (forB R D)]) := by
  have tkR : R.take 24 = R := List.take_of_length_le (by omega)
  have tkD : D.take 6 = D := List.take_of_length_le (by omega)
  have r5 : List.take 5 (List.replicate 5 (0 : Int)) = List.replicate 5 0 := rfl
  unfold crlF
  cases hf : forB R D
  · refine pure_of_vc (X := ⟨Try.prog, tys, [(78, l8Fits2_F)], [(79, l8Pours_F)], true, true, 0, false⟩) fn_37 ⟨tys_ok, (.cons l8Fits2_T .nil), (.cons l8Pours_T .nil), mixed⟩ (n0 := 0) (Nat.le_of_ble_eq_true rfl) (by simp [wfL, SV.wf]) (wfH_spec (by simp [wfH, SObj.wf])) (Nat.le_refl _) (fun _ => by simp [SV.wf, wfL]) ?_
    simp -implicitDefEqProofs only [Try.f37, Option.getD_some, argS, l8Fits2_F, l8Pours_F, hR, hD, tkR, tkD, r5, hf, ZB, Int.reduceToNat, Nat.reduceLT, Nat.reduceLeDiff, Int.reduceLE, Int.reduceLT, Nat.reduceEqDiff, Nat.reduceSub, SB, SV.known, packR, ne_eq, reduceCtorEq, Nat.reduceEqDiff, ↓reduceIte, if_true, if_false, eq_self, Nat.reduceAdd, Nat.reduceMul, Nat.reduceSub, forall_const, oneCellS, Kd.isSca, flat, TYB]
  · refine pure_of_vc (X := ⟨Try.prog, tys, [(78, l8Fits2_F)], [(79, l8Pours_F)], true, true, 0, false⟩) fn_37 ⟨tys_ok, (.cons l8Fits2_T .nil), (.cons l8Pours_T .nil), mixed⟩ (n0 := 0) (Nat.le_of_ble_eq_true rfl) (by simp [wfL, SV.wf]) (wfH_spec (by simp [wfH, SObj.wf])) (Nat.le_refl _) (fun _ => by simp [SV.wf, wfL]) ?_
    simp -implicitDefEqProofs only [Try.f37, Option.getD_some, argS, l8Fits2_F, l8Pours_F, hR, hD, tkR, tkD, r5, hf, ZB, Int.reduceToNat, Nat.reduceLT, Nat.reduceLeDiff, Int.reduceLE, Int.reduceLT, Nat.reduceEqDiff, Nat.reduceSub, SB, SV.known, packR, ne_eq, reduceCtorEq, Nat.reduceEqDiff, ↓reduceIte, if_true, if_false, eq_self, Nat.reduceAdd, Nat.reduceMul, Nat.reduceSub, forall_const, oneCellS, Kd.isSca, flat, TYB]
    refine loop_intro (fun k : Nat => [(7, .int ((k + 1 : Nat) : Int)), (6, .ptr 3 0), (4, .ptr 2 0), (2, .ptr 0 0), (3, .ptr 1 0)]) (fun k => [(3, .ints (crlK R D k) 56), (2, .ints (List.replicate 5 0) 56), (1, .ints D 31), (0, .ints R 28)]) 4 (fun k => k ≤ 4) (fun k => 4 - k) ?_ ?_
    · refine ⟨0, ?_, Sub.mk_id ?_ ?_ ?_ ?_ ?_⟩
      all_goals (try (simp only [crlK_zero, LB, subS, subH, wfS, wfH, SV.ren, renL, SObj.ren, SV.wf, SObj.wf, wfL, SV.known, Nat.reduceEqDiff, ↓reduceIte, if_true, if_false, eq_self, Nat.reduceAdd, Nat.reduceLT, Nat.reduceLeDiff, implies_true, reduceCtorEq, forall_const]; done))
      all_goals (try (simp only [crlK_zero, LB, subS, subH, wfS, wfH, SV.ren, renL, SObj.ren, SV.wf, SObj.wf, wfL, SV.known, Nat.reduceEqDiff, ↓reduceIte, if_true, if_false, eq_self, Nat.reduceAdd, Nat.reduceLT, Nat.reduceLeDiff, implies_true, reduceCtorEq, forall_const]; simp; done))
      all_goals (try (simp only [crlK_zero, LB, subS, subH, wfS, wfH, SV.ren, renL, SObj.ren, SV.wf, SObj.wf, wfL, SV.known, Nat.reduceEqDiff, ↓reduceIte, if_true, if_false, eq_self, Nat.reduceAdd, Nat.reduceLT, Nat.reduceLeDiff, implies_true, reduceCtorEq, forall_const]; (and_intros <;> (first | omega | rfl | (simp; done) | (simp; omega))); done))
      all_goals (try dsimp only)
      all_goals (and_intros <;> try (first | omega | (unfold In64; omega) | trivial | assumption))
    · intro k hk
      have cl := crlK_len R D k
      by_cases hlt : k < 4
      · have hkl : ((k + 1 : Nat) : Int) ≤ 4 := by omega
        have es := crlK_step R D k hlt
        obtain ⟨n, hn, hn36⟩ := GL_even (pbB R D ((k + 1 : Nat) : Int)) 36
        have hu : ruF ((k + 1 : Nat) : Int) = true := by simp only [ruF, decide_eq_true_eq]; omega
        simp -implicitDefEqProofs only [lk_normal, l8Pours_F, freshK, Wrap.ap, hkl, hR, hD, tkR, tkD, hf, cl, es, hu, ZB, Int.reduceToNat, Nat.reduceLT, Nat.reduceLeDiff, Int.reduceLE, Int.reduceLT, Nat.reduceEqDiff, Nat.reduceSub, SB, SV.known, packR, ne_eq, reduceCtorEq, Nat.reduceEqDiff, ↓reduceIte, if_true, if_false, eq_self, Nat.reduceAdd, Nat.reduceMul, Nat.reduceSub, forall_const, oneCellS, Kd.isSca, flat, TYB]
        intro cap junk hj
        (try (and_intros <;> try (first | omega | (unfold In64; omega) | trivial | assumption)))
        refine ⟨k + 1, ?_, ?_, Sub.mk_id ?_ ?_ ?_ ?_ ?_⟩
        all_goals (try (simp only [es, LB, subS, subH, wfS, wfH, SV.ren, renL, SObj.ren, SV.wf, SObj.wf, wfL, SV.known, Nat.reduceEqDiff, ↓reduceIte, if_true, if_false, eq_self, Nat.reduceAdd, Nat.reduceLT, Nat.reduceLeDiff, implies_true, reduceCtorEq, forall_const]; done))
        all_goals (try (simp only [es, LB, subS, subH, wfS, wfH, SV.ren, renL, SObj.ren, SV.wf, SObj.wf, wfL, SV.known, Nat.reduceEqDiff, ↓reduceIte, if_true, if_false, eq_self, Nat.reduceAdd, Nat.reduceLT, Nat.reduceLeDiff, implies_true, reduceCtorEq, forall_const]; simp; done))
        all_goals (try (simp only [es, LB, subS, subH, wfS, wfH, SV.ren, renL, SObj.ren, SV.wf, SObj.wf, wfL, SV.known, Nat.reduceEqDiff, ↓reduceIte, if_true, if_false, eq_self, Nat.reduceAdd, Nat.reduceLT, Nat.reduceLeDiff, implies_true, reduceCtorEq, forall_const]; (and_intros <;> (first | omega | rfl | (simp; done) | (simp; omega))); done))
        all_goals (try dsimp only)
        all_goals (and_intros <;> try (first | omega | (unfold In64; omega) | trivial | assumption))
      · have hkl : ¬ ((k + 1 : Nat) : Int) ≤ 4 := by omega
        obtain rfl : k = 4 := by omega
        have tk5 : (crlK R D 4).take 5 = crlK R D 4 := List.take_of_length_le (by omega)
        simp -implicitDefEqProofs only [lk_normal, hkl, cl, tk5, ZB, Int.reduceToNat, Nat.reduceLT, Nat.reduceLeDiff, Int.reduceLE, Int.reduceLT, Nat.reduceEqDiff, Nat.reduceSub, SB, SV.known, packR, ne_eq, reduceCtorEq, Nat.reduceEqDiff, ↓reduceIte, if_true, if_false, eq_self, Nat.reduceAdd, Nat.reduceMul, Nat.reduceSub, forall_const, oneCellS, Kd.isSca, flat, TYB]
        (try (and_intros <;> try (first | omega | (unfold In64; omega) | trivial | assumption)))
def CountRules_F : List SV → Heap → Option (Prop × SV)
  | [.arr R, .arr D], _ => some (R.length = 24 ∧ D.length = 6, .tup [.arr (crlF R D), .bool (forB R D)])
  | _, _ => none
theorem CountRules_T : ∀ args H p v, CountRules_F args H = some (p, v) → p → PureH Try.prog 38 args H v := by
  intro args H p v h hp
  unfold CountRules_F at h
  split at h
  · cases h; exact (CountRules_ok _ _ hp.1 hp.2).any _
  · cases h
def sCountRules_F : List SV → Heap → Option (Prop × SV)
  | [.arr R, .arr D], _ => some (R.length = 24 ∧ D.length = 6, .tup [.arr (crlF R D), .bool (forB R D)])
  | _, _ => none
theorem sCountRules_T : ∀ args H p v, sCountRules_F args H = some (p, v) → p → PureH Try.prog 37 args H v := by
  intro args H p v h hp
  unfold sCountRules_F at h
  split at h
  · cases h; exact (sCountRules_ok _ _ hp.1 hp.2).any _
  · cases h
theorem lawCountRules (R D : List Int) (hR : R.length = 24) (_ : ∀ x ∈ R, In64 x) (hD : D.length = 6) (_ : ∀ x ∈ D, In64 x) : PureH Try.prog 10 [.arr R, .arr D] [] (.bool true) := by
  have tkR : R.take 24 = R := List.take_of_length_le (by omega)
  have tkD : D.take 6 = D := List.take_of_length_le (by omega)
  have hl := crlF_len R D
  have tk1 : (crlF R D).take 5 = crlF R D := List.take_of_length_le (by omega)
  refine pure_of_vc (X := ⟨Try.prog, tys, [(16, toRack_F), (35, toIntA6_F), (38, CountRules_F), (37, sCountRules_F), (39, eqIntA5_F)], [], true, true, 0, false⟩) fn_10 ⟨tys_ok, (.cons toRack_T (.cons toIntA6_T (.cons CountRules_T (.cons sCountRules_T (.cons eqIntA5_T .nil))))), .nil, mixed⟩ (n0 := 0) (Nat.le_of_ble_eq_true rfl) (by simp [wfL, SV.wf]) (wfH_spec (by simp [wfH, SObj.wf])) (Nat.le_refl _) (fun _ => by simp [SV.wf, wfL]) ?_
  simp -implicitDefEqProofs only [Try.f10, Option.getD_some, argS, toRack_F, toIntA6_F, CountRules_F, sCountRules_F, eqIntA5_F, hR, hD, tkR, tkD, hl, tk1, ZB, Int.reduceToNat, Nat.reduceLT, Nat.reduceLeDiff, Int.reduceLE, Int.reduceLT, Nat.reduceEqDiff, Nat.reduceSub, SB, SV.known, packR, ne_eq, reduceCtorEq, Nat.reduceEqDiff, ↓reduceIte, if_true, if_false, eq_self, Nat.reduceAdd, Nat.reduceMul, Nat.reduceSub, forall_const, oneCellS, Kd.isSca, flat, TYB]
end Go.Proofs.Ytneoccmigccbeaa
