/- Walks: pours back. -/
import Derived.Test.YtdnechlmkbchaaaBnd
import Derived.Test.YtdnechlmkbchaaaEqR
set_option maxRecDepth 100000
set_option linter.unusedSimpArgs false
set_option linter.unusedVariables false
namespace Go.Proofs.Ytdnechlmkbchaaa
open Go Go.RowKit
/-- May so many layers be poured back? -/
def bk1 (R : List Int) (i j m : Int) : Bool := plF i && plF j && !decide (i = j) && decide (1 ≤ m ∧ m ≤ min (topF (tubeAt R j.toNat)).2 (4 - (layN (tubeAt R i.toNat) : Int)))
def bkR (R : List Int) (i j m : Int) : List Int := pmR R j.toNat i.toNat m.toNat
def bk2 (R : List Int) (i j m : Int) : Bool := bk1 R i j m && canF (bkR R i j m) i j
def bkB (R : List Int) (i j m : Int) : Bool := bk2 R i j m && decide (pourF (bkR R i j m) i.toNat j.toNat = R) && decide (pmN (bkR R i j m) i.toNat j.toNat = m)
theorem bkR_len {R : List Int} (hR : R.length = 24) (i j m : Int) : (bkR R i j m).length = 24 := by unfold bkR; rw [pmR_len, hR]
theorem bk1_facts {R : List Int} {i j m : Int} (hR : R.length = 24) (h : bk1 R i j m = true) : (0 ≤ i ∧ i ≤ 5) ∧ (0 ≤ j ∧ j ≤ 5) ∧ i ≠ j ∧ 1 ≤ m ∧ m ≤ (topF (tubeAt R j.toNat)).2 ∧ m ≤ 4 - (layN (tubeAt R i.toNat) : Int) ∧ m.toNat ≤ layN (tubeAt R j.toNat) ∧ m.toNat + layN (tubeAt R i.toNat) ≤ 4 ∧ m ≤ 4 := by
  simp only [bk1, Bool.and_eq_true, Bool.not_eq_true', decide_eq_false_iff_not, decide_eq_true_eq] at h
  have bi := pl_bd h.1.1.1
  have bj := pl_bd h.1.1.2
  have lj := tubeAt_len hR (i := j.toNat) (by omega)
  have tl := topF_le _ lj
  have := lay_le _ lj
  refine ⟨bi, bj, h.1.2, h.2.1, by omega, by omega, by omega, by omega, by omega⟩
theorem bk_rack {R : List Int} {i j m : Int} (hR : R.length = 24) (hr : rackB R = true) (h : bk1 R i j m = true) : rackB (bkR R i j m) = true := by
  obtain ⟨bi, bj, hij, h1, h2, h3, h4, h5, _⟩ := bk1_facts hR h
  exact pm_rack hR hr (by omega) (by omega) (by omega) h4 h5
--@tbl back = impl.back
theorem back_ok (R s : List Int) (hR : R.length = 24) (hs : s.length = 3) (hr : rackB R = true) : PureH Try.prog 106 [.arr R, .arr s] [] (.tup [.arr (if bk2 R (s.getD 0 0) (s.getD 1 0) (s.getD 2 0) = true then bkR R (s.getD 0 0) (s.getD 1 0) (s.getD 2 0) else List.replicate 24 0), .bool (bkB R (s.getD 0 0) (s.getD 1 0) (s.getD 2 0))]) := by
  have tkR : R.take 24 = R := List.take_of_length_le (by omega)
  have tks : s.take 3 = s := List.take_of_length_le (by omega)
  generalize hi0 : s.getD 0 0 = i
  generalize hj0 : s.getD 1 0 = j
  generalize hm0 : s.getD 2 0 = m
  have r24 : List.take 24 (List.replicate 24 (0 : Int)) = List.replicate 24 0 := rfl
  cases h1 : bk1 R i j m
  · have e : bk2 R i j m = false := by simp [bk2, h1]
    have e2 : bkB R i j m = false := by simp [bkB, e]
    rw [e, e2]
    cases hi : plF i <;> cases hj : plF j
    case true.true =>
      have bi := pl_bd hi
      have bj := pl_bd hj
      have ei : List.take 4 (List.drop (i.toNat * 4) R) = tubeAt R i.toNat := rfl
      have ej : List.take 4 (List.drop (j.toNat * 4) R) = tubeAt R j.toNat := rfl
      have li := tubeAt_len hR (i := i.toNat) (by omega)
      have lj := tubeAt_len hR (i := j.toNat) (by omega)
      have hh : i = j ∨ ¬ (1 ≤ m ∧ m ≤ min (topF (tubeAt R j.toNat)).2 (4 - (layN (tubeAt R i.toNat) : Int))) := by
        simp only [bk1, hi, hj, Bool.and_self, Bool.true_and, Bool.and_eq_false_iff, Bool.not_eq_false', decide_eq_true_eq, decide_eq_false_iff_not] at h1
        exact h1
      by_cases hij : i = j
      · subst hij
        refine pure_of_vc (X := ⟨Try.prog, tys, [(134, isPlace_F), (98, layers_F), (97, top_F), (58, within_F), (126, canPour_F), (53, pour_F)], [], true, true, 0, [], [(17, .holes [4])]⟩) fn_106 ⟨tys_ok, (.cons isPlace_T (.cons layers_T (.cons top_T (.cons within_T (.cons canPour_T (.cons pour_T .nil)))))), .nil, mixed⟩ (n0 := 0) (Nat.le_of_ble_eq_true rfl) (by simp [wfL, SV.wf]) (wfH_spec (by simp [wfH, SObj.wf])) (Nat.le_refl _) (fun _ => by simp [SV.wf, wfL]) ?_
        simp -implicitDefEqProofs only [Try.f106, Option.getD_some, argS, isPlace_F, layers_F, top_F, within_F, canPour_F, pour_F, hR, hs, tkR, tks, hi0, hj0, hm0, hi, r24, ei, li, ZB, Int.reduceToNat, Nat.reduceLT, Nat.reduceLeDiff, Int.reduceLE, Int.reduceLT, Nat.reduceEqDiff, Nat.reduceSub, SB, SV.known, packR, ne_eq, reduceCtorEq, Nat.reduceEqDiff, ↓reduceIte, if_true, if_false, eq_self, Nat.reduceAdd, Nat.reduceMul, Nat.reduceSub, forall_const, oneCellS, Kd.isSca, flat, TYB]
      · have hw : decide (1 ≤ m ∧ m ≤ min (topF (tubeAt R j.toNat)).2 (4 - (layN (tubeAt R i.toNat) : Int))) = false := by simp only [decide_eq_false_iff_not]; exact hh.resolve_left hij
        have la := lay_le _ li
        refine pure_of_vc (X := ⟨Try.prog, tys, [(134, isPlace_F), (98, layers_F), (97, top_F), (58, within_F), (126, canPour_F), (53, pour_F)], [], true, true, 0, [], [(17, .holes [4])]⟩) fn_106 ⟨tys_ok, (.cons isPlace_T (.cons layers_T (.cons top_T (.cons within_T (.cons canPour_T (.cons pour_T .nil)))))), .nil, mixed⟩ (n0 := 0) (Nat.le_of_ble_eq_true rfl) (by simp [wfL, SV.wf]) (wfH_spec (by simp [wfH, SObj.wf])) (Nat.le_refl _) (fun _ => by simp [SV.wf, wfL]) ?_
        simp -implicitDefEqProofs only [Try.f106, Option.getD_some, argS, isPlace_F, layers_F, top_F, within_F, canPour_F, pour_F, hR, hs, tkR, tks, hi0, hj0, hm0, hi, hj, r24, ei, ej, li, lj, hij, hw, ZB, Int.reduceToNat, Nat.reduceLT, Nat.reduceLeDiff, Int.reduceLE, Int.reduceLT, Nat.reduceEqDiff, Nat.reduceSub, SB, SV.known, packR, ne_eq, reduceCtorEq, Nat.reduceEqDiff, ↓reduceIte, if_true, if_false, eq_self, Nat.reduceAdd, Nat.reduceMul, Nat.reduceSub, forall_const, oneCellS, Kd.isSca, flat, TYB]
        (try (and_intros <;> try (first | omega | (unfold In64; omega) | trivial | assumption)))
    all_goals
      refine pure_of_vc (X := ⟨Try.prog, tys, [(134, isPlace_F), (98, layers_F), (97, top_F), (58, within_F), (126, canPour_F), (53, pour_F)], [], true, true, 0, [], [(17, .holes [4])]⟩) fn_106 ⟨tys_ok, (.cons isPlace_T (.cons layers_T (.cons top_T (.cons within_T (.cons canPour_T (.cons pour_T .nil)))))), .nil, mixed⟩ (n0 := 0) (Nat.le_of_ble_eq_true rfl) (by simp [wfL, SV.wf]) (wfH_spec (by simp [wfH, SObj.wf])) (Nat.le_refl _) (fun _ => by simp [SV.wf, wfL]) ?_
      simp -implicitDefEqProofs only [Try.f106, Option.getD_some, argS, isPlace_F, layers_F, top_F, within_F, canPour_F, pour_F, hR, hs, tkR, tks, hi0, hj0, hm0, hi, hj, r24, ZB, Int.reduceToNat, Nat.reduceLT, Nat.reduceLeDiff, Int.reduceLE, Int.reduceLT, Nat.reduceEqDiff, Nat.reduceSub, SB, SV.known, packR, ne_eq, reduceCtorEq, Nat.reduceEqDiff, ↓reduceIte, if_true, if_false, eq_self, Nat.reduceAdd, Nat.reduceMul, Nat.reduceSub, forall_const, oneCellS, Kd.isSca, flat, TYB]
  · obtain ⟨bi, bj, hij, g1, g2, g3, g4, g5, g6⟩ := bk1_facts hR h1
    have hi : plF i = true := by simp [plF, bi]
    have hj : plF j = true := by simp [plF, bj]
    have ei : List.take 4 (List.drop (i.toNat * 4) R) = tubeAt R i.toNat := rfl
    have ej : List.take 4 (List.drop (j.toNat * 4) R) = tubeAt R j.toNat := rfl
    have li := tubeAt_len hR (i := i.toNat) (by omega)
    have lj := tubeAt_len hR (i := j.toNat) (by omega)
    have hw : decide (1 ≤ m ∧ m ≤ min (topF (tubeAt R j.toNat)).2 (4 - (layN (tubeAt R i.toNat) : Int))) = true := by simp only [decide_eq_true_eq]; omega
    refine pure_of_vc (X := ⟨Try.prog, tys, [(134, isPlace_F), (98, layers_F), (97, top_F), (58, within_F), (126, canPour_F), (53, pour_F)], [], true, true, 0, [], [(17, .holes [4])]⟩) fn_106 ⟨tys_ok, (.cons isPlace_T (.cons layers_T (.cons top_T (.cons within_T (.cons canPour_T (.cons pour_T .nil)))))), .nil, mixed⟩ (n0 := 0) (Nat.le_of_ble_eq_true rfl) (by simp [wfL, SV.wf]) (wfH_spec (by simp [wfH, SObj.wf])) (Nat.le_refl _) (fun _ => by simp [SV.wf, wfL]) ?_
    simp -implicitDefEqProofs only [Try.f106, Option.getD_some, argS, isPlace_F, layers_F, top_F, within_F, canPour_F, pour_F, hR, hs, tkR, tks, hi0, hj0, hm0, hi, hj, r24, ei, ej, li, lj, hij, hw, ZB, Int.reduceToNat, Nat.reduceLT, Nat.reduceLeDiff, Int.reduceLE, Int.reduceLT, Nat.reduceEqDiff, Nat.reduceSub, SB, SV.known, packR, ne_eq, reduceCtorEq, Nat.reduceEqDiff, ↓reduceIte, if_true, if_false, eq_self, Nat.reduceAdd, Nat.reduceMul, Nat.reduceSub, forall_const, oneCellS, Kd.isSca, flat, TYB]
    have la := lay_le _ li
    have lb := lay_le _ lj
    (try (and_intros <;> try (first | omega | (unfold In64; omega) | trivial | assumption)))
    have bl := fun k => pmR_len R j.toNat i.toNat k
    refine loop_intro (fun k : Nat => [(65, .int k), (64, .int m), (10, .ptr 3 0), (2, .ptr 0 0), (3, .ptr 1 0), (4, .ptr 2 0), (8, .int (topF (tubeAt R j.toNat)).1), (6, .int (layN (tubeAt R i.toNat))), (7, .int (layN (tubeAt R j.toNat)))]) (fun k => [(3, .ints (pmR R j.toNat i.toNat k) 29), (2, .ints (List.replicate 24 0) 29), (1, .ints s 108), (0, .ints R 29)]) 4 (fun k => (k : Int) ≤ m) (fun k => m.toNat - k) ?_ ?_
    · refine ⟨0, ?_, Sub.mk_id ?_ ?_ ?_ ?_ ?_⟩
      all_goals (try (simp only [pmR, LB, subS, subH, wfS, wfH, SV.ren, renL, SObj.ren, SV.wf, SObj.wf, wfL, SV.known, Nat.reduceEqDiff, ↓reduceIte, if_true, if_false, eq_self, Nat.reduceAdd, Nat.reduceLT, Nat.reduceLeDiff, implies_true, reduceCtorEq, forall_const]; done))
      all_goals (try (simp only [pmR, LB, subS, subH, wfS, wfH, SV.ren, renL, SObj.ren, SV.wf, SObj.wf, wfL, SV.known, Nat.reduceEqDiff, ↓reduceIte, if_true, if_false, eq_self, Nat.reduceAdd, Nat.reduceLT, Nat.reduceLeDiff, implies_true, reduceCtorEq, forall_const]; simp; done))
      all_goals (try (simp only [pmR, LB, subS, subH, wfS, wfH, SV.ren, renL, SObj.ren, SV.wf, SObj.wf, wfL, SV.known, Nat.reduceEqDiff, ↓reduceIte, if_true, if_false, eq_self, Nat.reduceAdd, Nat.reduceLT, Nat.reduceLeDiff, implies_true, reduceCtorEq, forall_const]; (and_intros <;> (first | omega | rfl | (simp; done) | (simp; omega))); done))
      all_goals (try dsimp only)
      all_goals (and_intros <;> try (first | omega | (unfold In64; omega) | trivial | assumption))
    · intro k hk
      have blk := (bl k).trans hR
      by_cases hlt : (k : Int) < m
      · have e1 : ((layN (tubeAt R j.toNat) : Int) - 1 - k).toNat = layN (tubeAt R j.toNat) - 1 - k := by omega
        have e2 : ((layN (tubeAt R i.toNat) : Int) + k).toNat = layN (tubeAt R i.toNat) + k := by omega
        have es : pmR R j.toNat i.toNat (k + 1) = ((pmR R j.toNat i.toNat k).set (j.toNat * 4 + (layN (tubeAt R j.toNat) - 1 - k)) 0).set (i.toNat * 4 + (layN (tubeAt R i.toNat) + k)) (topF (tubeAt R j.toNat)).1 := rfl
        simp -implicitDefEqProofs only [lk_normal, hlt, hR, hs, hi0, hj0, hm0, blk, e1, e2, ZB, Int.reduceToNat, Nat.reduceLT, Nat.reduceLeDiff, Int.reduceLE, Int.reduceLT, Nat.reduceEqDiff, Nat.reduceSub, SB, SV.known, packR, ne_eq, reduceCtorEq, Nat.reduceEqDiff, ↓reduceIte, if_true, if_false, eq_self, Nat.reduceAdd, Nat.reduceMul, Nat.reduceSub, forall_const, oneCellS, Kd.isSca, flat, TYB]
        (try (and_intros <;> try (first | omega | (unfold In64; omega) | trivial | assumption)))
        refine ⟨k + 1, ?_, ?_, Sub.mk_id ?_ ?_ ?_ ?_ ?_⟩
        all_goals (try (simp only [es, LB, subS, subH, wfS, wfH, SV.ren, renL, SObj.ren, SV.wf, SObj.wf, wfL, SV.known, Nat.reduceEqDiff, ↓reduceIte, if_true, if_false, eq_self, Nat.reduceAdd, Nat.reduceLT, Nat.reduceLeDiff, implies_true, reduceCtorEq, forall_const]; done))
        all_goals (try (simp only [es, LB, subS, subH, wfS, wfH, SV.ren, renL, SObj.ren, SV.wf, SObj.wf, wfL, SV.known, Nat.reduceEqDiff, ↓reduceIte, if_true, if_false, eq_self, Nat.reduceAdd, Nat.reduceLT, Nat.reduceLeDiff, implies_true, reduceCtorEq, forall_const]; simp; done))
        all_goals (try (simp only [es, LB, subS, subH, wfS, wfH, SV.ren, renL, SObj.ren, SV.wf, SObj.wf, wfL, SV.known, Nat.reduceEqDiff, ↓reduceIte, if_true, if_false, eq_self, Nat.reduceAdd, Nat.reduceLT, Nat.reduceLeDiff, implies_true, reduceCtorEq, forall_const]; (and_intros <;> (first | omega | rfl | (simp; done) | (simp; omega))); done))
        all_goals (try dsimp only)
        all_goals (and_intros <;> try (first | omega | (unfold In64; omega) | trivial | assumption))
      · have hke : k = m.toNat := by omega
        subst hke
        have eb : pmR R j.toNat i.toNat m.toNat = bkR R i j m := rfl
        have bR := bkR_len hR i j m
        have tkB : (bkR R i j m).take 24 = bkR R i j m := List.take_of_length_le (by omega)
        have pl := pourF_len bR i.toNat j.toNat
        have tkP : (pourF (bkR R i j m) i.toNat j.toNat).take 24 = pourF (bkR R i j m) i.toNat j.toNat := List.take_of_length_le (by omega)
        rw [eb]
        cases hc : canF (bkR R i j m) i j
        · have e : bk2 R i j m = false := by simp [bk2, hc]
          have e2 : bkB R i j m = false := by simp [bkB, e]
          rw [e, e2]
          simp -implicitDefEqProofs only [lk_normal, canPour_F, pour_F, hlt, hR, hs, hi0, hj0, hm0, bR, tkB, hc, r24, ZB, Int.reduceToNat, Nat.reduceLT, Nat.reduceLeDiff, Int.reduceLE, Int.reduceLT, Nat.reduceEqDiff, Nat.reduceSub, SB, SV.known, packR, ne_eq, reduceCtorEq, Nat.reduceEqDiff, ↓reduceIte, if_true, if_false, eq_self, Nat.reduceAdd, Nat.reduceMul, Nat.reduceSub, forall_const, oneCellS, Kd.isSca, flat, TYB]
          (try (and_intros <;> try (first | omega | (unfold In64; omega) | trivial | assumption)))
        · have e : bk2 R i j m = true := by simp [bk2, hc, h1]
          rw [e]
          have e2 : bkB R i j m = (decide (pourF (bkR R i j m) i.toNat j.toNat = R) && decide (pmN (bkR R i j m) i.toNat j.toNat = m)) := by simp [bkB, e]
          rw [e2]
          have eqr := eqI_rack
          simp -implicitDefEqProofs only [lk_normal, canPour_F, pour_F, hlt, hR, hs, hi0, hj0, hm0, bR, tkB, tkR, pl, tkP, hc, r24, eqr, ZB, Int.reduceToNat, Nat.reduceLT, Nat.reduceLeDiff, Int.reduceLE, Int.reduceLT, Nat.reduceEqDiff, Nat.reduceSub, SB, SV.known, packR, ne_eq, reduceCtorEq, Nat.reduceEqDiff, ↓reduceIte, if_true, if_false, eq_self, Nat.reduceAdd, Nat.reduceMul, Nat.reduceSub, forall_const, oneCellS, Kd.isSca, flat, TYB]
          (try (and_intros <;> try (first | omega | (unfold In64; omega) | trivial | assumption)))
          all_goals (intro h; simp [h])
def back_F : List SV → Heap → Option (Prop × SV)
  | [.arr R, .arr s], _ => some (R.length = 24 ∧ s.length = 3 ∧ rackB R = true, .tup [.arr (if bk2 R (s.getD 0 0) (s.getD 1 0) (s.getD 2 0) = true then bkR R (s.getD 0 0) (s.getD 1 0) (s.getD 2 0) else List.replicate 24 0), .bool (bkB R (s.getD 0 0) (s.getD 1 0) (s.getD 2 0))])
  | _, _ => none
theorem back_T : ∀ args H p v, back_F args H = some (p, v) → p → PureH Try.prog 106 args H v := by
  intro args H p v h hp
  unfold back_F at h
  split at h
  · cases h; exact (back_ok _ _ hp.1 hp.2.1 hp.2.2).any _
  · cases h
--@tbl l5Back = spec.l5Back
def bkT (R : List Int) (i j m : Int) : List Int := if bkB R i j m = true then bkR R i j m else List.replicate 24 0
theorem bkT_len {R : List Int} (hR : R.length = 24) (i j m : Int) : (bkT R i j m).length = 24 := by
  unfold bkT
  split
  · exact bkR_len hR i j m
  · rfl
theorem l5Back_ok (R s : List Int) (hR : R.length = 24) (hs : s.length = 3) (hr : rackB R = true) : PureH Try.prog 103 [.arr R, .arr s] [] (.tup [.arr (bkT R (s.getD 0 0) (s.getD 1 0) (s.getD 2 0)), .bool (bkB R (s.getD 0 0) (s.getD 1 0) (s.getD 2 0))]) := by
  have tkR : R.take 24 = R := List.take_of_length_le (by omega)
  have tks : s.take 3 = s := List.take_of_length_le (by omega)
  unfold bkT
  generalize hi0 : s.getD 0 0 = i
  generalize hj0 : s.getD 1 0 = j
  generalize hm0 : s.getD 2 0 = m
  have r24 : List.take 24 (List.replicate 24 (0 : Int)) = List.replicate 24 0 := rfl
  cases h1 : bk1 R i j m
  · have e : bk2 R i j m = false := by simp [bk2, h1]
    have e2 : bkB R i j m = false := by simp [bkB, e]
    rw [e2]
    cases hi : plF i <;> cases hj : plF j
    case true.true =>
      have bi := pl_bd hi
      have bj := pl_bd hj
      have ei : List.take 4 (List.drop (i.toNat * 4) R) = tubeAt R i.toNat := rfl
      have ej : List.take 4 (List.drop (j.toNat * 4) R) = tubeAt R j.toNat := rfl
      have li := tubeAt_len hR (i := i.toNat) (by omega)
      have lj := tubeAt_len hR (i := j.toNat) (by omega)
      have ti := tubeAt_ok hr (i := i.toNat) (by omega)
      have tj := tubeAt_ok hr (i := j.toNat) (by omega)
      have pi := posC_lay _ li ti
      have pj := posC_lay _ lj tj
      have hh : i = j ∨ ¬ (1 ≤ m ∧ m ≤ min (topF (tubeAt R j.toNat)).2 (4 - (layN (tubeAt R i.toNat) : Int))) := by
        simp only [bk1, hi, hj, Bool.and_self, Bool.true_and, Bool.and_eq_false_iff, Bool.not_eq_false', decide_eq_true_eq, decide_eq_false_iff_not] at h1
        exact h1
      by_cases hij : i = j
      · subst hij
        refine pure_of_vc (X := ⟨Try.prog, tys, [(132, l2Place_F), (87, l2Top_F), (88, l2Many_F), (56, l1In_F), (89, l1Least_F)], [], true, true, 0, [], []⟩) fn_103 ⟨tys_ok, (.cons l2Place_T (.cons l2Top_T (.cons l2Many_T (.cons l1In_T (.cons l1Least_T .nil))))), .nil, mixed⟩ (n0 := 0) (Nat.le_of_ble_eq_true rfl) (by simp [wfL, SV.wf]) (wfH_spec (by simp [wfH, SObj.wf])) (Nat.le_refl _) (fun _ => by simp [SV.wf, wfL]) ?_
        simp -implicitDefEqProofs only [Try.f103, Option.getD_some, argS, l2Place_F, l2Top_F, l2Many_F, l1In_F, l1Least_F, hR, hs, tkR, tks, hi0, hj0, hm0, hi, r24, ei, li, ti, pi, ZB, Int.reduceToNat, Nat.reduceLT, Nat.reduceLeDiff, Int.reduceLE, Int.reduceLT, Nat.reduceEqDiff, Nat.reduceSub, SB, SV.known, packR, ne_eq, reduceCtorEq, Nat.reduceEqDiff, ↓reduceIte, if_true, if_false, eq_self, Nat.reduceAdd, Nat.reduceMul, Nat.reduceSub, forall_const, oneCellS, Kd.isSca, flat, TYB]
      · have hw : decide (1 ≤ m ∧ m ≤ min (topF (tubeAt R j.toNat)).2 (4 - (layN (tubeAt R i.toNat) : Int))) = false := by simp only [decide_eq_false_iff_not]; exact hh.resolve_left hij
        have la := lay_le _ li
        refine pure_of_vc (X := ⟨Try.prog, tys, [(132, l2Place_F), (87, l2Top_F), (88, l2Many_F), (56, l1In_F), (89, l1Least_F)], [], true, true, 0, [], []⟩) fn_103 ⟨tys_ok, (.cons l2Place_T (.cons l2Top_T (.cons l2Many_T (.cons l1In_T (.cons l1Least_T .nil))))), .nil, mixed⟩ (n0 := 0) (Nat.le_of_ble_eq_true rfl) (by simp [wfL, SV.wf]) (wfH_spec (by simp [wfH, SObj.wf])) (Nat.le_refl _) (fun _ => by simp [SV.wf, wfL]) ?_
        simp -implicitDefEqProofs only [Try.f103, Option.getD_some, argS, l2Place_F, l2Top_F, l2Many_F, l1In_F, l1Least_F, hR, hs, tkR, tks, hi0, hj0, hm0, hi, hj, r24, ei, ej, li, lj, ti, tj, pi, pj, hij, hw, ZB, Int.reduceToNat, Nat.reduceLT, Nat.reduceLeDiff, Int.reduceLE, Int.reduceLT, Nat.reduceEqDiff, Nat.reduceSub, SB, SV.known, packR, ne_eq, reduceCtorEq, Nat.reduceEqDiff, ↓reduceIte, if_true, if_false, eq_self, Nat.reduceAdd, Nat.reduceMul, Nat.reduceSub, forall_const, oneCellS, Kd.isSca, flat, TYB]
        (try (and_intros <;> try (first | omega | (unfold In64; omega) | trivial | assumption)))
    all_goals
      refine pure_of_vc (X := ⟨Try.prog, tys, [(132, l2Place_F), (87, l2Top_F), (88, l2Many_F), (56, l1In_F), (89, l1Least_F)], [], true, true, 0, [], []⟩) fn_103 ⟨tys_ok, (.cons l2Place_T (.cons l2Top_T (.cons l2Many_T (.cons l1In_T (.cons l1Least_T .nil))))), .nil, mixed⟩ (n0 := 0) (Nat.le_of_ble_eq_true rfl) (by simp [wfL, SV.wf]) (wfH_spec (by simp [wfH, SObj.wf])) (Nat.le_refl _) (fun _ => by simp [SV.wf, wfL]) ?_
      simp -implicitDefEqProofs only [Try.f103, Option.getD_some, argS, l2Place_F, l2Top_F, l2Many_F, l1In_F, l1Least_F, hR, hs, tkR, tks, hi0, hj0, hm0, hi, hj, r24, ZB, Int.reduceToNat, Nat.reduceLT, Nat.reduceLeDiff, Int.reduceLE, Int.reduceLT, Nat.reduceEqDiff, Nat.reduceSub, SB, SV.known, packR, ne_eq, reduceCtorEq, Nat.reduceEqDiff, ↓reduceIte, if_true, if_false, eq_self, Nat.reduceAdd, Nat.reduceMul, Nat.reduceSub, forall_const, oneCellS, Kd.isSca, flat, TYB]
  · obtain ⟨bi, bj, hij, g1, g2, g3, g4, g5, g6⟩ := bk1_facts hR h1
    have hi : plF i = true := by simp [plF, bi]
    have hj : plF j = true := by simp [plF, bj]
    have ei : List.take 4 (List.drop (i.toNat * 4) R) = tubeAt R i.toNat := rfl
    have ej : List.take 4 (List.drop (j.toNat * 4) R) = tubeAt R j.toNat := rfl
    have li := tubeAt_len hR (i := i.toNat) (by omega)
    have lj := tubeAt_len hR (i := j.toNat) (by omega)
    have ti := tubeAt_ok hr (i := i.toNat) (by omega)
    have tj := tubeAt_ok hr (i := j.toNat) (by omega)
    have pi := posC_lay _ li ti
    have pj := posC_lay _ lj tj
    have hw : decide (1 ≤ m ∧ m ≤ min (topF (tubeAt R j.toNat)).2 (4 - (layN (tubeAt R i.toNat) : Int))) = true := by simp only [decide_eq_true_eq]; omega
    refine pure_of_vc (X := ⟨Try.prog, tys, [(132, l2Place_F), (87, l2Top_F), (88, l2Many_F), (56, l1In_F), (89, l1Least_F), (119, l2Can_F), (48, l2Pour_F)], [], true, true, 0, [], []⟩) fn_103 ⟨tys_ok, (.cons l2Place_T (.cons l2Top_T (.cons l2Many_T (.cons l1In_T (.cons l1Least_T (.cons l2Can_T (.cons l2Pour_T .nil))))))), .nil, mixed⟩ (n0 := 0) (Nat.le_of_ble_eq_true rfl) (by simp [wfL, SV.wf]) (wfH_spec (by simp [wfH, SObj.wf])) (Nat.le_refl _) (fun _ => by simp [SV.wf, wfL]) ?_
    simp -implicitDefEqProofs only [Try.f103, Option.getD_some, argS, l2Place_F, l2Top_F, l2Many_F, l1In_F, l1Least_F, l2Can_F, l2Pour_F, hR, hs, tkR, tks, hi0, hj0, hm0, hi, hj, r24, ei, ej, li, lj, ti, tj, pi, pj, hij, hw, ZB, Int.reduceToNat, Nat.reduceLT, Nat.reduceLeDiff, Int.reduceLE, Int.reduceLT, Nat.reduceEqDiff, Nat.reduceSub, SB, SV.known, packR, ne_eq, reduceCtorEq, Nat.reduceEqDiff, ↓reduceIte, if_true, if_false, eq_self, Nat.reduceAdd, Nat.reduceMul, Nat.reduceSub, forall_const, oneCellS, Kd.isSca, flat, TYB]
    have la := lay_le _ li
    have lb := lay_le _ lj
    (try (and_intros <;> try (first | omega | (unfold In64; omega) | trivial | assumption)))
    have bl := fun k => pmR_len R j.toNat i.toNat k
    refine loop_intro (fun k : Nat => [(11, .int k), (10, .ptr 3 0), (2, .ptr 0 0), (3, .ptr 1 0), (4, .ptr 2 0), (6, .int (topF (tubeAt R j.toNat)).1), (8, .int (layN (tubeAt R i.toNat))), (9, .int (layN (tubeAt R j.toNat)))]) (fun k => [(3, .ints (pmR R j.toNat i.toNat k) 29), (2, .ints (List.replicate 24 0) 29), (1, .ints s 108), (0, .ints R 29)]) 4 (fun k => (k : Int) ≤ m) (fun k => m.toNat - k) ?_ ?_
    · refine ⟨0, ?_, Sub.mk_id ?_ ?_ ?_ ?_ ?_⟩
      all_goals (try (simp only [pmR, LB, subS, subH, wfS, wfH, SV.ren, renL, SObj.ren, SV.wf, SObj.wf, wfL, SV.known, Nat.reduceEqDiff, ↓reduceIte, if_true, if_false, eq_self, Nat.reduceAdd, Nat.reduceLT, Nat.reduceLeDiff, implies_true, reduceCtorEq, forall_const]; done))
      all_goals (try (simp only [pmR, LB, subS, subH, wfS, wfH, SV.ren, renL, SObj.ren, SV.wf, SObj.wf, wfL, SV.known, Nat.reduceEqDiff, ↓reduceIte, if_true, if_false, eq_self, Nat.reduceAdd, Nat.reduceLT, Nat.reduceLeDiff, implies_true, reduceCtorEq, forall_const]; simp; done))
      all_goals (try (simp only [pmR, LB, subS, subH, wfS, wfH, SV.ren, renL, SObj.ren, SV.wf, SObj.wf, wfL, SV.known, Nat.reduceEqDiff, ↓reduceIte, if_true, if_false, eq_self, Nat.reduceAdd, Nat.reduceLT, Nat.reduceLeDiff, implies_true, reduceCtorEq, forall_const]; (and_intros <;> (first | omega | rfl | (simp; done) | (simp; omega))); done))
      all_goals (try dsimp only)
      all_goals (and_intros <;> try (first | omega | (unfold In64; omega) | trivial | assumption))
    · intro k hk
      have blk := (bl k).trans hR
      by_cases hlt : (k : Int) < m
      · have e1 : ((layN (tubeAt R j.toNat) : Int) - 1 - k).toNat = layN (tubeAt R j.toNat) - 1 - k := by omega
        have e2 : ((layN (tubeAt R i.toNat) : Int) + k).toNat = layN (tubeAt R i.toNat) + k := by omega
        have es : pmR R j.toNat i.toNat (k + 1) = ((pmR R j.toNat i.toNat k).set (j.toNat * 4 + (layN (tubeAt R j.toNat) - 1 - k)) 0).set (i.toNat * 4 + (layN (tubeAt R i.toNat) + k)) (topF (tubeAt R j.toNat)).1 := rfl
        simp -implicitDefEqProofs only [lk_normal, hlt, hR, hs, hi0, hj0, hm0, blk, e1, e2, ZB, Int.reduceToNat, Nat.reduceLT, Nat.reduceLeDiff, Int.reduceLE, Int.reduceLT, Nat.reduceEqDiff, Nat.reduceSub, SB, SV.known, packR, ne_eq, reduceCtorEq, Nat.reduceEqDiff, ↓reduceIte, if_true, if_false, eq_self, Nat.reduceAdd, Nat.reduceMul, Nat.reduceSub, forall_const, oneCellS, Kd.isSca, flat, TYB]
        (try (and_intros <;> try (first | omega | (unfold In64; omega) | trivial | assumption)))
        refine ⟨k + 1, ?_, ?_, Sub.mk_id ?_ ?_ ?_ ?_ ?_⟩
        all_goals (try (simp only [es, LB, subS, subH, wfS, wfH, SV.ren, renL, SObj.ren, SV.wf, SObj.wf, wfL, SV.known, Nat.reduceEqDiff, ↓reduceIte, if_true, if_false, eq_self, Nat.reduceAdd, Nat.reduceLT, Nat.reduceLeDiff, implies_true, reduceCtorEq, forall_const]; done))
        all_goals (try (simp only [es, LB, subS, subH, wfS, wfH, SV.ren, renL, SObj.ren, SV.wf, SObj.wf, wfL, SV.known, Nat.reduceEqDiff, ↓reduceIte, if_true, if_false, eq_self, Nat.reduceAdd, Nat.reduceLT, Nat.reduceLeDiff, implies_true, reduceCtorEq, forall_const]; simp; done))
        all_goals (try (simp only [es, LB, subS, subH, wfS, wfH, SV.ren, renL, SObj.ren, SV.wf, SObj.wf, wfL, SV.known, Nat.reduceEqDiff, ↓reduceIte, if_true, if_false, eq_self, Nat.reduceAdd, Nat.reduceLT, Nat.reduceLeDiff, implies_true, reduceCtorEq, forall_const]; (and_intros <;> (first | omega | rfl | (simp; done) | (simp; omega))); done))
        all_goals (try dsimp only)
        all_goals (and_intros <;> try (first | omega | (unfold In64; omega) | trivial | assumption))
      · have hke : k = m.toNat := by omega
        subst hke
        have eb : pmR R j.toNat i.toNat m.toNat = bkR R i j m := rfl
        have bR := bkR_len hR i j m
        have tkB : (bkR R i j m).take 24 = bkR R i j m := List.take_of_length_le (by omega)
        have pl := pourF_len bR i.toNat j.toNat
        have tkP : (pourF (bkR R i j m) i.toNat j.toNat).take 24 = pourF (bkR R i j m) i.toNat j.toNat := List.take_of_length_le (by omega)
        rw [eb]
        have brk := bk_rack hR hr h1
        cases hc : canF (bkR R i j m) i j
        · have e : bk2 R i j m = false := by simp [bk2, hc]
          have e2 : bkB R i j m = false := by simp [bkB, e]
          rw [e2]
          simp -implicitDefEqProofs only [lk_normal, l2Can_F, l2Pour_F, hlt, hR, hs, hi0, hj0, hm0, bR, brk, tkB, hc, r24, ZB, Int.reduceToNat, Nat.reduceLT, Nat.reduceLeDiff, Int.reduceLE, Int.reduceLT, Nat.reduceEqDiff, Nat.reduceSub, SB, SV.known, packR, ne_eq, reduceCtorEq, Nat.reduceEqDiff, ↓reduceIte, if_true, if_false, eq_self, Nat.reduceAdd, Nat.reduceMul, Nat.reduceSub, forall_const, oneCellS, Kd.isSca, flat, TYB]
          (try (and_intros <;> try (first | omega | (unfold In64; omega) | trivial | assumption)))
        · have e : bk2 R i j m = true := by simp [bk2, hc, h1]
          have e2 : bkB R i j m = (decide (pourF (bkR R i j m) i.toNat j.toNat = R) && decide (pmN (bkR R i j m) i.toNat j.toNat = m)) := by simp [bkB, e]
          rw [e2]
          have eqr := eqI_rack
          simp -implicitDefEqProofs only [lk_normal, l2Can_F, l2Pour_F, hlt, hR, hs, hi0, hj0, hm0, bR, brk, tkB, tkR, pl, tkP, hc, r24, eqr, ZB, Int.reduceToNat, Nat.reduceLT, Nat.reduceLeDiff, Int.reduceLE, Int.reduceLT, Nat.reduceEqDiff, Nat.reduceSub, SB, SV.known, packR, ne_eq, reduceCtorEq, Nat.reduceEqDiff, ↓reduceIte, if_true, if_false, eq_self, Nat.reduceAdd, Nat.reduceMul, Nat.reduceSub, forall_const, oneCellS, Kd.isSca, flat, TYB]
          (try (and_intros <;> try (first | omega | (unfold In64; omega) | trivial | assumption)))
          all_goals (intro h; first | (refine ⟨fun h2 => ?_, fun h2 => ?_⟩ <;> (simp [h, h2]; done)) | (simp [h]; done))
def l5Back_F : List SV → Heap → Option (Prop × SV)
  | [.arr R, .arr s], _ => some (R.length = 24 ∧ s.length = 3 ∧ rackB R = true, .tup [.arr (bkT R (s.getD 0 0) (s.getD 1 0) (s.getD 2 0)), .bool (bkB R (s.getD 0 0) (s.getD 1 0) (s.getD 2 0))])
  | _, _ => none
theorem l5Back_T : ∀ args H p v, l5Back_F args H = some (p, v) → p → PureH Try.prog 103 args H v := by
  intro args H p v h hp
  unfold l5Back_F at h
  split at h
  · cases h; exact (l5Back_ok _ _ hp.1 hp.2.1 hp.2.2).any _
  · cases h
--@tbl PourBack = impl.PourBack
--@tbl sPourBack = spec.PourBack
def pbkT (R s : List Int) : List Int := if rackB R = true then bkT R (s.getD 0 0) (s.getD 1 0) (s.getD 2 0) else List.replicate 24 0
def pbkB (R s : List Int) : Bool := rackB R && bkB R (s.getD 0 0) (s.getD 1 0) (s.getD 2 0)
theorem pbkT_len {R : List Int} (hR : R.length = 24) (s : List Int) : (pbkT R s).length = 24 := by
  unfold pbkT
  split
  · exact bkT_len hR _ _ _
  · rfl
theorem bk_21 {R : List Int} {i j m : Int} (h : bkB R i j m = true) : bk2 R i j m = true := by
  simp only [bkB, Bool.and_eq_true] at h
  exact h.1.1
end Go.Proofs.Ytdnechlmkbchaaa
