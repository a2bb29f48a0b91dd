/- Walks: what the outside sees of pours by rules. -/
import Derived.Test.YtaenmmebnifioaaRule
set_option maxRecDepth 100000
set_option linter.unusedSimpArgs false
set_option linter.unusedVariables false
namespace Go.Proofs.Ytaenmmebnifioaa
open Go Go.RowKit
def poursBy_F : List SV → Heap → Nat → Nat → K1 → Prop
  | [.arr R, .arr D, .int u], H, n, _, κ => (R.length = 24 ∧ D.length = 6 ∧ forB R D = true) ∧ freshK .one (GL (pbB R D u) 36) ((GL (pbB R D u) 36).length / 2) 2 51 true H n κ
  | _, _, _, _, _ => False
--@tbl poursBy = impl.poursBy
theorem poursBy_T : ∀ args H n m κ, poursBy_F args H n m κ → GenOK Try.prog 63 args H n m κ := by
  intro args H n m κ h
  unfold poursBy_F at h
  split at h
  · exact gen_of_fresh (poursBy_ok _ _ _ h.1.1 h.1.2.1 h.1.2.2) (fun k o hk => by cases hk) h.2
  · exact h.elim
def l8Pours_F : List SV → Heap → Nat → Nat → K1 → Prop
  | [.arr R, .arr D, .int u], H, n, _, κ => (R.length = 24 ∧ D.length = 6 ∧ forB R D = true ∧ ruF u = true) ∧ freshK .one (GL (pbB R D u) 36) ((GL (pbB R D u) 36).length / 2) 2 51 false H n κ
  | _, _, _, _, _ => False
--@tbl l8Pours = spec.l8Pours
theorem l8Pours_T : ∀ args H n m κ, l8Pours_F args H n m κ → GenOK Try.prog 59 args H n m κ := by
  intro args H n m κ h
  unfold l8Pours_F at h
  split at h
  · exact gen_of_fresh (l8Pours_ok _ _ _ h.1.1 h.1.2.1 h.1.2.2.1 h.1.2.2.2) (fun k o hk => by cases hk) h.2
  · exact h.elim
def pbyB (R D : List Int) (u i j : Int) : Bool := forB R D && ruF u && plF i && plF j && !decide (movF R D u i j = 0)
def pbyT (R D : List Int) (u i j : Int) : List Int := if pbyB R D u i j = true then mvR R i.toNat j.toNat (movF R D u i j).toNat else List.replicate 24 0
def pbyN (R D : List Int) (u i j : Int) : Int := if pbyB R D u i j = true then movF R D u i j else 0
theorem pbyT_len {R : List Int} (hR : R.length = 24) (D : List Int) (u i j : Int) : (pbyT R D u i j).length = 24 := by
  unfold pbyT
  split
  · rw [mvR_len, hR]
  · rfl
--@tbl PourBy = impl.PourBy
--@tbl sPourBy = spec.PourBy
theorem PourBy_ok (R D : List Int) (u i j : Int) (hR : R.length = 24) (hD : D.length = 6) : PureH Try.prog 73 [.arr R, .arr D, .int u, .int i, .int j] [] (.tup [.arr (pbyT R D u i j), .int (pbyN R D u i j), .bool (pbyB R D u i j)]) := by
  have tkR : R.take 24 = R := List.take_of_length_le (by omega)
  have tkD : D.take 6 = D := List.take_of_length_le (by omega)
  have r24 : List.take 24 (List.replicate 24 (0 : Int)) = List.replicate 24 0 := rfl
  unfold pbyT pbyN pbyB
  cases hf : forB R D <;> cases hu : ruF u <;> cases hi : plF i <;> cases hj : plF j
  case true.true.true.true =>
    have bi := pl_bd hi
    have bj := pl_bd hj
    have mb := movF_bd (u := u) hR hD hf bi bj
    have hr := (forB_facts hD hf).1
    by_cases hm : movF R D u i j = 0
    · refine pure_of_vc (X := ⟨Try.prog, tys, [(61, isFor_F), (62, isRule_F), (121, isPlace_F), (77, movedBy_F), (122, move_F)], [], true, true, 0, [], []⟩) fn_73 ⟨tys_ok, (.cons isFor_T (.cons isRule_T (.cons isPlace_T (.cons movedBy_T (.cons move_T .nil))))), .nil, mixed⟩ (n0 := 0) (Nat.le_of_ble_eq_true rfl) (by simp [wfL, SV.wf]) (wfH_spec (by simp [wfH, SObj.wf])) (Nat.le_refl _) (fun _ => by simp [SV.wf, wfL]) ?_
      simp -implicitDefEqProofs only [Try.f73, Option.getD_some, argS, isFor_F, isRule_F, isPlace_F, movedBy_F, move_F, hR, hD, tkR, tkD, r24, hf, hu, hi, hj, hm, ZB, Int.reduceToNat, Nat.reduceLT, Nat.reduceLeDiff, Int.reduceLE, Int.reduceLT, Nat.reduceEqDiff, Nat.reduceSub, SB, SV.known, packR, ne_eq, reduceCtorEq, Nat.reduceEqDiff, ↓reduceIte, if_true, if_false, eq_self, Nat.reduceAdd, Nat.reduceMul, Nat.reduceSub, forall_const, oneCellS, Kd.isSca, flat, TYB]
      (try (and_intros <;> try (first | omega | (unfold In64; omega) | trivial | assumption)))
    · have ml := (mvR_len R i.toNat j.toNat (movF R D u i j).toNat).trans hR
      have tkM : (mvR R i.toNat j.toNat (movF R D u i j).toNat).take 24 = mvR R i.toNat j.toNat (movF R D u i j).toNat := List.take_of_length_le (by omega)
      have m2 := mb.2.resolve_left hm
      refine pure_of_vc (X := ⟨Try.prog, tys, [(61, isFor_F), (62, isRule_F), (121, isPlace_F), (77, movedBy_F), (122, move_F)], [], true, true, 0, [], []⟩) fn_73 ⟨tys_ok, (.cons isFor_T (.cons isRule_T (.cons isPlace_T (.cons movedBy_T (.cons move_T .nil))))), .nil, mixed⟩ (n0 := 0) (Nat.le_of_ble_eq_true rfl) (by simp [wfL, SV.wf]) (wfH_spec (by simp [wfH, SObj.wf])) (Nat.le_refl _) (fun _ => by simp [SV.wf, wfL]) ?_
      simp -implicitDefEqProofs only [Try.f73, Option.getD_some, argS, isFor_F, isRule_F, isPlace_F, movedBy_F, move_F, hR, hD, tkR, tkD, r24, hf, hu, hi, hj, hm, hr, ml, tkM, ZB, Int.reduceToNat, Nat.reduceLT, Nat.reduceLeDiff, Int.reduceLE, Int.reduceLT, Nat.reduceEqDiff, Nat.reduceSub, SB, SV.known, packR, ne_eq, reduceCtorEq, Nat.reduceEqDiff, ↓reduceIte, if_true, if_false, eq_self, Nat.reduceAdd, Nat.reduceMul, Nat.reduceSub, forall_const, oneCellS, Kd.isSca, flat, TYB]
      (try (and_intros <;> try (first | omega | (unfold In64; omega) | trivial | assumption)))
      all_goals (first | exact m2.1 | skip)
  all_goals
    refine pure_of_vc (X := ⟨Try.prog, tys, [(61, isFor_F), (62, isRule_F), (121, isPlace_F)], [], true, true, 0, [], []⟩) fn_73 ⟨tys_ok, (.cons isFor_T (.cons isRule_T (.cons isPlace_T .nil))), .nil, mixed⟩ (n0 := 0) (Nat.le_of_ble_eq_true rfl) (by simp [wfL, SV.wf]) (wfH_spec (by simp [wfH, SObj.wf])) (Nat.le_refl _) (fun _ => by simp [SV.wf, wfL]) ?_
    simp -implicitDefEqProofs only [Try.f73, Option.getD_some, argS, isFor_F, isRule_F, isPlace_F, hR, hD, tkR, tkD, r24, hf, hu, hi, hj, ZB, Int.reduceToNat, Nat.reduceLT, Nat.reduceLeDiff, Int.reduceLE, Int.reduceLT, Nat.reduceEqDiff, Nat.reduceSub, SB, SV.known, packR, ne_eq, reduceCtorEq, Nat.reduceEqDiff, ↓reduceIte, if_true, if_false, eq_self, Nat.reduceAdd, Nat.reduceMul, Nat.reduceSub, forall_const, oneCellS, Kd.isSca, flat, TYB]
theorem sPourBy_ok (R D : List Int) (u i j : Int) (hR : R.length = 24) (hD : D.length = 6) : PureH Try.prog 72 [.arr R, .arr D, .int u, .int i, .int j] [] (.tup [.arr (pbyT R D u i j), .int (pbyN R D u i j), .bool (pbyB R D u i j)]) := by
  have tkR : R.take 24 = R := List.take_of_length_le (by omega)
  have tkD : D.take 6 = D := List.take_of_length_le (by omega)
  have r24 : List.take 24 (List.replicate 24 (0 : Int)) = List.replicate 24 0 := rfl
  unfold pbyT pbyN pbyB
  cases hf : forB R D <;> cases hu : ruF u <;> cases hi : plF i <;> cases hj : plF j
  case true.true.true.true =>
    have bi := pl_bd hi
    have bj := pl_bd hj
    have mb := movF_bd (u := u) hR hD hf bi bj
    have hr := (forB_facts hD hf).1
    by_cases hm : movF R D u i j = 0
    · refine pure_of_vc (X := ⟨Try.prog, tys, [(57, l8Fits2_F), (58, l8Rule_F), (119, l2Place_F), (75, l8Moves_F), (120, l8Move_F)], [], true, true, 0, [], []⟩) fn_72 ⟨tys_ok, (.cons l8Fits2_T (.cons l8Rule_T (.cons l2Place_T (.cons l8Moves_T (.cons l8Move_T .nil))))), .nil, mixed⟩ (n0 := 0) (Nat.le_of_ble_eq_true rfl) (by simp [wfL, SV.wf]) (wfH_spec (by simp [wfH, SObj.wf])) (Nat.le_refl _) (fun _ => by simp [SV.wf, wfL]) ?_
      simp -implicitDefEqProofs only [Try.f72, Option.getD_some, argS, l8Fits2_F, l8Rule_F, l2Place_F, l8Moves_F, l8Move_F, hR, hD, tkR, tkD, r24, hf, hu, hi, hj, hm, ZB, Int.reduceToNat, Nat.reduceLT, Nat.reduceLeDiff, Int.reduceLE, Int.reduceLT, Nat.reduceEqDiff, Nat.reduceSub, SB, SV.known, packR, ne_eq, reduceCtorEq, Nat.reduceEqDiff, ↓reduceIte, if_true, if_false, eq_self, Nat.reduceAdd, Nat.reduceMul, Nat.reduceSub, forall_const, oneCellS, Kd.isSca, flat, TYB]
      (try (and_intros <;> try (first | omega | (unfold In64; omega) | trivial | assumption)))
    · have ml := (mvR_len R i.toNat j.toNat (movF R D u i j).toNat).trans hR
      have tkM : (mvR R i.toNat j.toNat (movF R D u i j).toNat).take 24 = mvR R i.toNat j.toNat (movF R D u i j).toNat := List.take_of_length_le (by omega)
      have m2 := mb.2.resolve_left hm
      refine pure_of_vc (X := ⟨Try.prog, tys, [(57, l8Fits2_F), (58, l8Rule_F), (119, l2Place_F), (75, l8Moves_F), (120, l8Move_F)], [], true, true, 0, [], []⟩) fn_72 ⟨tys_ok, (.cons l8Fits2_T (.cons l8Rule_T (.cons l2Place_T (.cons l8Moves_T (.cons l8Move_T .nil))))), .nil, mixed⟩ (n0 := 0) (Nat.le_of_ble_eq_true rfl) (by simp [wfL, SV.wf]) (wfH_spec (by simp [wfH, SObj.wf])) (Nat.le_refl _) (fun _ => by simp [SV.wf, wfL]) ?_
      simp -implicitDefEqProofs only [Try.f72, Option.getD_some, argS, l8Fits2_F, l8Rule_F, l2Place_F, l8Moves_F, l8Move_F, hR, hD, tkR, tkD, r24, hf, hu, hi, hj, hm, hr, ml, tkM, ZB, Int.reduceToNat, Nat.reduceLT, Nat.reduceLeDiff, Int.reduceLE, Int.reduceLT, Nat.reduceEqDiff, Nat.reduceSub, SB, SV.known, packR, ne_eq, reduceCtorEq, Nat.reduceEqDiff, ↓reduceIte, if_true, if_false, eq_self, Nat.reduceAdd, Nat.reduceMul, Nat.reduceSub, forall_const, oneCellS, Kd.isSca, flat, TYB]
      (try (and_intros <;> try (first | omega | (unfold In64; omega) | trivial | assumption)))
      all_goals (first | exact m2.1 | skip)
  all_goals
    refine pure_of_vc (X := ⟨Try.prog, tys, [(57, l8Fits2_F), (58, l8Rule_F), (119, l2Place_F)], [], true, true, 0, [], []⟩) fn_72 ⟨tys_ok, (.cons l8Fits2_T (.cons l8Rule_T (.cons l2Place_T .nil))), .nil, mixed⟩ (n0 := 0) (Nat.le_of_ble_eq_true rfl) (by simp [wfL, SV.wf]) (wfH_spec (by simp [wfH, SObj.wf])) (Nat.le_refl _) (fun _ => by simp [SV.wf, wfL]) ?_
    simp -implicitDefEqProofs only [Try.f72, Option.getD_some, argS, l8Fits2_F, l8Rule_F, l2Place_F, hR, hD, tkR, tkD, r24, hf, hu, hi, hj, ZB, Int.reduceToNat, Nat.reduceLT, Nat.reduceLeDiff, Int.reduceLE, Int.reduceLT, Nat.reduceEqDiff, Nat.reduceSub, SB, SV.known, packR, ne_eq, reduceCtorEq, Nat.reduceEqDiff, ↓reduceIte, if_true, if_false, eq_self, Nat.reduceAdd, Nat.reduceMul, Nat.reduceSub, forall_const, oneCellS, Kd.isSca, flat, TYB]
def PourBy_F : List SV → Heap → Option (Prop × SV)
  | [.arr R, .arr D, .int u, .int i, .int j], _ => some (R.length = 24 ∧ D.length = 6, .tup [.arr (pbyT R D u i j), .int (pbyN R D u i j), .bool (pbyB R D u i j)])
  | _, _ => none
theorem PourBy_T : ∀ args H p v, PourBy_F args H = some (p, v) → p → PureH Try.prog 73 args H v := by
  intro args H p v h hp
  unfold PourBy_F at h
  split at h
  · cases h; exact (PourBy_ok _ _ _ _ _ hp.1 hp.2).any _
  · cases h
def sPourBy_F : List SV → Heap → Option (Prop × SV)
  | [.arr R, .arr D, .int u, .int i, .int j], _ => some (R.length = 24 ∧ D.length = 6, .tup [.arr (pbyT R D u i j), .int (pbyN R D u i j), .bool (pbyB R D u i j)])
  | _, _ => none
theorem sPourBy_T : ∀ args H p v, sPourBy_F args H = some (p, v) → p → PureH Try.prog 72 args H v := by
  intro args H p v h hp
  unfold sPourBy_F at h
  split at h
  · cases h; exact (sPourBy_ok _ _ _ _ _ hp.1 hp.2).any _
  · cases h
--@tbl DropsFor = impl.DropsFor
--@tbl sDropsFor = spec.DropsFor
/-! CountRules. -/
def crlK (R D : List Int) (k : Nat) : List Int := (List.range 5).map fun c => if 1 ≤ c ∧ c ≤ k then (((GL (pbB R D c) 36).length / 2 : Nat) : Int) else 0
theorem crlK_len (R D : List Int) (k : Nat) : (crlK R D k).length = 5 := by simp [crlK]
theorem crlK_zero (R D : List Int) : crlK R D 0 = List.replicate 5 0 := by
  simp only [crlK]
  apply List.ext_getElem (by simp)
  intro k h1 h2
  simp only [List.getElem_map, List.getElem_range, List.getElem_replicate]
  rw [if_neg (by omega)]
theorem crlK_step (R D : List Int) (k : Nat) (hk : k < 4) : (crlK R D k).set (k + 1) (((GL (pbB R D ((k + 1 : Nat) : Int)) 36).length / 2 : Nat) : Int) = crlK R D (k + 1) := by
  apply List.ext_getElem (by simp [crlK])
  intro c h1 h2
  simp only [crlK, List.getElem_set, List.getElem_map, List.getElem_range]
  by_cases hc : k + 1 = c
  · subst hc; rw [if_pos rfl, if_pos (by omega)]
  · rw [if_neg hc]
    by_cases h3 : 1 ≤ c ∧ c ≤ k
    · rw [if_pos h3, if_pos (by omega)]
    · rw [if_neg h3, if_neg (by omega)]
def crlF (R D : List Int) : List Int := if forB R D = true then crlK R D 4 else List.replicate 5 0
theorem crlF_len (R D : List Int) : (crlF R D).length = 5 := by
  unfold crlF
  split
  · exact crlK_len _ _ _
  · rfl
--@tbl CountRules = impl.CountRules
--@tbl sCountRules = spec.CountRules
end Go.Proofs.Ytaenmmebnifioaa
