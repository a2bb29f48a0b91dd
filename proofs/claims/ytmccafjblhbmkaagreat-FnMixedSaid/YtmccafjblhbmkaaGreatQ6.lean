/- Texts of this claim, joined (Back, Src, Sl, Bef, Put, SlR, Rb, DelR, RbL, CFB, Del3, Sl3, Arg, Rule, RulC, Com, Good, GPath, Path, Backs, BTo, UPours, Sort, View, FP1). -/
import Derived.Test.YtmccafjblhbmkaaGreatQ1
import Derived.Test.YtmccafjblhbmkaaGreatQ2
import Derived.Test.YtmccafjblhbmkaaGreatQ3
import Derived.Test.YtmccafjblhbmkaaGreatQ4
import Derived.Test.YtmccafjblhbmkaaGreatQ5
import Derived.Shelf.SlSortCmp.NoneTotal
set_option maxRecDepth 100000
set_option linter.unusedSimpArgs false
set_option linter.unusedVariables false
namespace Go.Proofs.YtmccafjblhbmkaaGreat
open Go Go.RowKit
/-- May so many layers be poured back? -/
def bk1 (R : List Int) (i j m : Int) : Bool := plF i && plF j && !decide (i = j) && decide (1 ≤ m ∧ m ≤ min (topF (tubeAt R j.toNat)).2 (4 - (layN (tubeAt R i.toNat) : Int)))
def bkR (R : List Int) (i j m : Int) : List Int := pmR R j.toNat i.toNat m.toNat
def bk2 (R : List Int) (i j m : Int) : Bool := bk1 R i j m && canF (bkR R i j m) i j
def bkB (R : List Int) (i j m : Int) : Bool := bk2 R i j m && decide (pourF (bkR R i j m) i.toNat j.toNat = R) && decide (pmN (bkR R i j m) i.toNat j.toNat = m)
theorem bkR_len {R : List Int} (hR : R.length = 24) (i j m : Int) : (bkR R i j m).length = 24 := by unfold bkR; rw [pmR_len, hR]
theorem bk1_facts {R : List Int} {i j m : Int} (hR : R.length = 24) (h : bk1 R i j m = true) : (0 ≤ i ∧ i ≤ 5) ∧ (0 ≤ j ∧ j ≤ 5) ∧ i ≠ j ∧ 1 ≤ m ∧ m ≤ (topF (tubeAt R j.toNat)).2 ∧ m ≤ 4 - (layN (tubeAt R i.toNat) : Int) ∧ m.toNat ≤ layN (tubeAt R j.toNat) ∧ m.toNat + layN (tubeAt R i.toNat) ≤ 4 ∧ m ≤ 4 := by
  simp only [bk1, Bool.and_eq_true, Bool.not_eq_true', decide_eq_false_iff_not, decide_eq_true_eq] at h
  have bi := pl_bd h.1.1.1
  have bj := pl_bd h.1.1.2
  have lj := tubeAt_len hR (i := j.toNat) (by omega)
  have tl := topF_le _ lj
  have := lay_le _ lj
  refine ⟨bi, bj, h.1.2, h.2.1, by omega, by omega, by omega, by omega, by omega⟩
theorem bk_rack {R : List Int} {i j m : Int} (hR : R.length = 24) (hr : rackB R = true) (h : bk1 R i j m = true) : rackB (bkR R i j m) = true := by
  obtain ⟨bi, bj, hij, h1, h2, h3, h4, h5, _⟩ := bk1_facts hR h
  exact pm_rack hR hr (by omega) (by omega) (by omega) h4 h5
--@tbl back = impl.back
theorem back_ok (R s : List Int) (hR : R.length = 24) (hs : s.length = 3) (hr : rackB R = true) : PureH Tryz.prog 87 [.arr R, .arr s] [] (.tup [.arr (if bk2 R (s.getD 0 0) (s.getD 1 0) (s.getD 2 0) = true then bkR R (s.getD 0 0) (s.getD 1 0) (s.getD 2 0) else List.replicate 24 0), .bool (bkB R (s.getD 0 0) (s.getD 1 0) (s.getD 2 0))]) := by
  have tkR : R.take 24 = R := List.take_of_length_le (by omega)
  have tks : s.take 3 = s := List.take_of_length_le (by omega)
  generalize hi0 : s.getD 0 0 = i
  generalize hj0 : s.getD 1 0 = j
  generalize hm0 : s.getD 2 0 = m
  have r24 : List.take 24 (List.replicate 24 (0 : Int)) = List.replicate 24 0 := rfl
  cases h1 : bk1 R i j m
  · have e : bk2 R i j m = false := by simp [bk2, h1]
    have e2 : bkB R i j m = false := by simp [bkB, e]
    rw [e, e2]
    cases hi : plF i <;> cases hj : plF j
    case true.true =>
      have bi := pl_bd hi
      have bj := pl_bd hj
      have ei : List.take 4 (List.drop (i.toNat * 4) R) = tubeAt R i.toNat := rfl
      have ej : List.take 4 (List.drop (j.toNat * 4) R) = tubeAt R j.toNat := rfl
      have li := tubeAt_len hR (i := i.toNat) (by omega)
      have lj := tubeAt_len hR (i := j.toNat) (by omega)
      have hh : i = j ∨ ¬ (1 ≤ m ∧ m ≤ min (topF (tubeAt R j.toNat)).2 (4 - (layN (tubeAt R i.toNat) : Int))) := by
        simp only [bk1, hi, hj, Bool.and_self, Bool.true_and, Bool.and_eq_false_iff, Bool.not_eq_false', decide_eq_true_eq, decide_eq_false_iff_not] at h1
        exact h1
      by_cases hij : i = j
      · subst hij
        refine pure_of_vc (X := ⟨Tryz.prog, tys, [(131, isPlace_F), (135, layers_F), (136, top_F), (69, within_F), (100, canPour_F), (101, pour_F)], [], true, true, 0, [], [(17, .holes [4])]⟩) fn_87 ⟨tys_ok, (.cons isPlace_T (.cons layers_T (.cons top_T (.cons within_T (.cons canPour_T (.cons pour_T .nil)))))), .nil, mixed⟩ (n0 := 0) (Nat.le_of_ble_eq_true rfl) (by simp [wfL, SV.wf]) (wfH_spec (by simp [wfH, SObj.wf])) (Nat.le_refl _) (fun _ => by simp [SV.wf, wfL]) ?_
        simp -implicitDefEqProofs only [Tryz.f87, Option.getD_some, argS, isPlace_F, layers_F, top_F, within_F, canPour_F, pour_F, hR, hs, tkR, tks, hi0, hj0, hm0, hi, r24, ei, li, ZB, Int.reduceToNat, Nat.reduceLT, Nat.reduceLeDiff, Int.reduceLE, Int.reduceLT, Nat.reduceEqDiff, Nat.reduceSub, SB, SV.known, packR, ne_eq, reduceCtorEq, Nat.reduceEqDiff, ↓reduceIte, if_true, if_false, eq_self, Nat.reduceAdd, Nat.reduceMul, Nat.reduceSub, forall_const, oneCellS, litOne, flat1, Kd.isSca, flat, TYB]
      · have hw : decide (1 ≤ m ∧ m ≤ min (topF (tubeAt R j.toNat)).2 (4 - (layN (tubeAt R i.toNat) : Int))) = false := by simp only [decide_eq_false_iff_not]; exact hh.resolve_left hij
        have la := lay_le _ li
        refine pure_of_vc (X := ⟨Tryz.prog, tys, [(131, isPlace_F), (135, layers_F), (136, top_F), (69, within_F), (100, canPour_F), (101, pour_F)], [], true, true, 0, [], [(17, .holes [4])]⟩) fn_87 ⟨tys_ok, (.cons isPlace_T (.cons layers_T (.cons top_T (.cons within_T (.cons canPour_T (.cons pour_T .nil)))))), .nil, mixed⟩ (n0 := 0) (Nat.le_of_ble_eq_true rfl) (by simp [wfL, SV.wf]) (wfH_spec (by simp [wfH, SObj.wf])) (Nat.le_refl _) (fun _ => by simp [SV.wf, wfL]) ?_
        simp -implicitDefEqProofs only [Tryz.f87, Option.getD_some, argS, isPlace_F, layers_F, top_F, within_F, canPour_F, pour_F, hR, hs, tkR, tks, hi0, hj0, hm0, hi, hj, r24, ei, ej, li, lj, hij, hw, ZB, Int.reduceToNat, Nat.reduceLT, Nat.reduceLeDiff, Int.reduceLE, Int.reduceLT, Nat.reduceEqDiff, Nat.reduceSub, SB, SV.known, packR, ne_eq, reduceCtorEq, Nat.reduceEqDiff, ↓reduceIte, if_true, if_false, eq_self, Nat.reduceAdd, Nat.reduceMul, Nat.reduceSub, forall_const, oneCellS, litOne, flat1, Kd.isSca, flat, TYB]
        (try (and_intros <;> try (first | omega | (unfold In64; omega) | trivial | assumption)))
    all_goals
      refine pure_of_vc (X := ⟨Tryz.prog, tys, [(131, isPlace_F), (135, layers_F), (136, top_F), (69, within_F), (100, canPour_F), (101, pour_F)], [], true, true, 0, [], [(17, .holes [4])]⟩) fn_87 ⟨tys_ok, (.cons isPlace_T (.cons layers_T (.cons top_T (.cons within_T (.cons canPour_T (.cons pour_T .nil)))))), .nil, mixed⟩ (n0 := 0) (Nat.le_of_ble_eq_true rfl) (by simp [wfL, SV.wf]) (wfH_spec (by simp [wfH, SObj.wf])) (Nat.le_refl _) (fun _ => by simp [SV.wf, wfL]) ?_
      simp -implicitDefEqProofs only [Tryz.f87, Option.getD_some, argS, isPlace_F, layers_F, top_F, within_F, canPour_F, pour_F, hR, hs, tkR, tks, hi0, hj0, hm0, hi, hj, r24, ZB, Int.reduceToNat, Nat.reduceLT, Nat.reduceLeDiff, Int.reduceLE, Int.reduceLT, Nat.reduceEqDiff, Nat.reduceSub, SB, SV.known, packR, ne_eq, reduceCtorEq, Nat.reduceEqDiff, ↓reduceIte, if_true, if_false, eq_self, Nat.reduceAdd, Nat.reduceMul, Nat.reduceSub, forall_const, oneCellS, litOne, flat1, Kd.isSca, flat, TYB]
  · obtain ⟨bi, bj, hij, g1, g2, g3, g4, g5, g6⟩ := bk1_facts hR h1
    have hi : plF i = true := by simp [plF, bi]
    have hj : plF j = true := by simp [plF, bj]
    have ei : List.take 4 (List.drop (i.toNat * 4) R) = tubeAt R i.toNat := rfl
    have ej : List.take 4 (List.drop (j.toNat * 4) R) = tubeAt R j.toNat := rfl
    have li := tubeAt_len hR (i := i.toNat) (by omega)
    have lj := tubeAt_len hR (i := j.toNat) (by omega)
    have hw : decide (1 ≤ m ∧ m ≤ min (topF (tubeAt R j.toNat)).2 (4 - (layN (tubeAt R i.toNat) : Int))) = true := by simp only [decide_eq_true_eq]; omega
    refine pure_of_vc (X := ⟨Tryz.prog, tys, [(131, isPlace_F), (135, layers_F), (136, top_F), (69, within_F), (100, canPour_F), (101, pour_F)], [], true, true, 0, [], [(17, .holes [4])]⟩) fn_87 ⟨tys_ok, (.cons isPlace_T (.cons layers_T (.cons top_T (.cons within_T (.cons canPour_T (.cons pour_T .nil)))))), .nil, mixed⟩ (n0 := 0) (Nat.le_of_ble_eq_true rfl) (by simp [wfL, SV.wf]) (wfH_spec (by simp [wfH, SObj.wf])) (Nat.le_refl _) (fun _ => by simp [SV.wf, wfL]) ?_
    simp -implicitDefEqProofs only [Tryz.f87, Option.getD_some, argS, isPlace_F, layers_F, top_F, within_F, canPour_F, pour_F, hR, hs, tkR, tks, hi0, hj0, hm0, hi, hj, r24, ei, ej, li, lj, hij, hw, ZB, Int.reduceToNat, Nat.reduceLT, Nat.reduceLeDiff, Int.reduceLE, Int.reduceLT, Nat.reduceEqDiff, Nat.reduceSub, SB, SV.known, packR, ne_eq, reduceCtorEq, Nat.reduceEqDiff, ↓reduceIte, if_true, if_false, eq_self, Nat.reduceAdd, Nat.reduceMul, Nat.reduceSub, forall_const, oneCellS, litOne, flat1, Kd.isSca, flat, TYB]
    have la := lay_le _ li
    have lb := lay_le _ lj
    (try (and_intros <;> try (first | omega | (unfold In64; omega) | trivial | assumption)))
    have bl := fun k => pmR_len R j.toNat i.toNat k
    refine loop_intro (fun k : Nat => [(65, .int k), (64, .int m), (10, .ptr 3 0), (2, .ptr 0 0), (3, .ptr 1 0), (4, .ptr 2 0), (8, .int (topF (tubeAt R j.toNat)).1), (6, .int (layN (tubeAt R i.toNat))), (7, .int (layN (tubeAt R j.toNat)))]) (fun k => [(3, .ints (pmR R j.toNat i.toNat k) 27), (2, .ints (List.replicate 24 0) 27), (1, .ints s 48), (0, .ints R 27)]) 4 (fun k => (k : Int) ≤ m) (fun k => m.toNat - k) ?_ ?_
    · refine ⟨0, ?_, Sub.mk_id ?_ ?_ ?_ ?_ ?_⟩
      all_goals (try (simp only [pmR, LB, subS, subH, wfS, wfH, SV.ren, renL, SObj.ren, SV.wf, SObj.wf, wfL, SV.known, Nat.reduceEqDiff, ↓reduceIte, if_true, if_false, eq_self, Nat.reduceAdd, Nat.reduceLT, Nat.reduceLeDiff, implies_true, reduceCtorEq, forall_const]; done))
      all_goals (try (simp only [pmR, LB, subS, subH, wfS, wfH, SV.ren, renL, SObj.ren, SV.wf, SObj.wf, wfL, SV.known, Nat.reduceEqDiff, ↓reduceIte, if_true, if_false, eq_self, Nat.reduceAdd, Nat.reduceLT, Nat.reduceLeDiff, implies_true, reduceCtorEq, forall_const]; simp; done))
      all_goals (try (simp only [pmR, LB, subS, subH, wfS, wfH, SV.ren, renL, SObj.ren, SV.wf, SObj.wf, wfL, SV.known, Nat.reduceEqDiff, ↓reduceIte, if_true, if_false, eq_self, Nat.reduceAdd, Nat.reduceLT, Nat.reduceLeDiff, implies_true, reduceCtorEq, forall_const]; (and_intros <;> (first | omega | rfl | (simp; done) | (simp; omega))); done))
      all_goals (try dsimp only)
      all_goals (and_intros <;> try (first | omega | (unfold In64; omega) | trivial | assumption))
    · intro k hk
      have blk := (bl k).trans hR
      by_cases hlt : (k : Int) < m
      · have e1 : ((layN (tubeAt R j.toNat) : Int) - 1 - k).toNat = layN (tubeAt R j.toNat) - 1 - k := by omega
        have e2 : ((layN (tubeAt R i.toNat) : Int) + k).toNat = layN (tubeAt R i.toNat) + k := by omega
        have es : pmR R j.toNat i.toNat (k + 1) = ((pmR R j.toNat i.toNat k).set (j.toNat * 4 + (layN (tubeAt R j.toNat) - 1 - k)) 0).set (i.toNat * 4 + (layN (tubeAt R i.toNat) + k)) (topF (tubeAt R j.toNat)).1 := rfl
        simp -implicitDefEqProofs only [lk_normal, hlt, hR, hs, hi0, hj0, hm0, blk, e1, e2, ZB, Int.reduceToNat, Nat.reduceLT, Nat.reduceLeDiff, Int.reduceLE, Int.reduceLT, Nat.reduceEqDiff, Nat.reduceSub, SB, SV.known, packR, ne_eq, reduceCtorEq, Nat.reduceEqDiff, ↓reduceIte, if_true, if_false, eq_self, Nat.reduceAdd, Nat.reduceMul, Nat.reduceSub, forall_const, oneCellS, litOne, flat1, Kd.isSca, flat, TYB]
        (try (and_intros <;> try (first | omega | (unfold In64; omega) | trivial | assumption)))
        refine ⟨k + 1, ?_, ?_, Sub.mk_id ?_ ?_ ?_ ?_ ?_⟩
        all_goals (try (simp only [es, LB, subS, subH, wfS, wfH, SV.ren, renL, SObj.ren, SV.wf, SObj.wf, wfL, SV.known, Nat.reduceEqDiff, ↓reduceIte, if_true, if_false, eq_self, Nat.reduceAdd, Nat.reduceLT, Nat.reduceLeDiff, implies_true, reduceCtorEq, forall_const]; done))
        all_goals (try (simp only [es, LB, subS, subH, wfS, wfH, SV.ren, renL, SObj.ren, SV.wf, SObj.wf, wfL, SV.known, Nat.reduceEqDiff, ↓reduceIte, if_true, if_false, eq_self, Nat.reduceAdd, Nat.reduceLT, Nat.reduceLeDiff, implies_true, reduceCtorEq, forall_const]; simp; done))
        all_goals (try (simp only [es, LB, subS, subH, wfS, wfH, SV.ren, renL, SObj.ren, SV.wf, SObj.wf, wfL, SV.known, Nat.reduceEqDiff, ↓reduceIte, if_true, if_false, eq_self, Nat.reduceAdd, Nat.reduceLT, Nat.reduceLeDiff, implies_true, reduceCtorEq, forall_const]; (and_intros <;> (first | omega | rfl | (simp; done) | (simp; omega))); done))
        all_goals (try dsimp only)
        all_goals (and_intros <;> try (first | omega | (unfold In64; omega) | trivial | assumption))
      · have hke : k = m.toNat := by omega
        subst hke
        have eb : pmR R j.toNat i.toNat m.toNat = bkR R i j m := rfl
        have bR := bkR_len hR i j m
        have tkB : (bkR R i j m).take 24 = bkR R i j m := List.take_of_length_le (by omega)
        have pl := pourF_len bR i.toNat j.toNat
        have tkP : (pourF (bkR R i j m) i.toNat j.toNat).take 24 = pourF (bkR R i j m) i.toNat j.toNat := List.take_of_length_le (by omega)
        rw [eb]
        cases hc : canF (bkR R i j m) i j
        · have e : bk2 R i j m = false := by simp [bk2, hc]
          have e2 : bkB R i j m = false := by simp [bkB, e]
          rw [e, e2]
          simp -implicitDefEqProofs only [lk_normal, canPour_F, pour_F, hlt, hR, hs, hi0, hj0, hm0, bR, tkB, hc, r24, ZB, Int.reduceToNat, Nat.reduceLT, Nat.reduceLeDiff, Int.reduceLE, Int.reduceLT, Nat.reduceEqDiff, Nat.reduceSub, SB, SV.known, packR, ne_eq, reduceCtorEq, Nat.reduceEqDiff, ↓reduceIte, if_true, if_false, eq_self, Nat.reduceAdd, Nat.reduceMul, Nat.reduceSub, forall_const, oneCellS, litOne, flat1, Kd.isSca, flat, TYB]
          (try (and_intros <;> try (first | omega | (unfold In64; omega) | trivial | assumption)))
        · have e : bk2 R i j m = true := by simp [bk2, hc, h1]
          rw [e]
          have e2 : bkB R i j m = (decide (pourF (bkR R i j m) i.toNat j.toNat = R) && decide (pmN (bkR R i j m) i.toNat j.toNat = m)) := by simp [bkB, e]
          rw [e2]
          have eqr := eqI_rack
          simp -implicitDefEqProofs only [lk_normal, canPour_F, pour_F, hlt, hR, hs, hi0, hj0, hm0, bR, tkB, tkR, pl, tkP, hc, r24, eqr, ZB, Int.reduceToNat, Nat.reduceLT, Nat.reduceLeDiff, Int.reduceLE, Int.reduceLT, Nat.reduceEqDiff, Nat.reduceSub, SB, SV.known, packR, ne_eq, reduceCtorEq, Nat.reduceEqDiff, ↓reduceIte, if_true, if_false, eq_self, Nat.reduceAdd, Nat.reduceMul, Nat.reduceSub, forall_const, oneCellS, litOne, flat1, Kd.isSca, flat, TYB]
          (try (and_intros <;> try (first | omega | (unfold In64; omega) | trivial | assumption)))
          all_goals (intro h; simp [h])
def back_F : List SV → Heap → Option (Prop × SV)
  | [.arr R, .arr s], _ => some (R.length = 24 ∧ s.length = 3 ∧ rackB R = true, .tup [.arr (if bk2 R (s.getD 0 0) (s.getD 1 0) (s.getD 2 0) = true then bkR R (s.getD 0 0) (s.getD 1 0) (s.getD 2 0) else List.replicate 24 0), .bool (bkB R (s.getD 0 0) (s.getD 1 0) (s.getD 2 0))])
  | _, _ => none
theorem back_T : ∀ args H p v, back_F args H = some (p, v) → p → PureH Tryz.prog 87 args H v := by
  intro args H p v h hp
  unfold back_F at h
  split at h
  · cases h; exact (back_ok _ _ hp.1 hp.2.1 hp.2.2).any _
  · cases h
--@tbl l5Back = spec.l5Back
def bkT (R : List Int) (i j m : Int) : List Int := if bkB R i j m = true then bkR R i j m else List.replicate 24 0
theorem bkT_len {R : List Int} (hR : R.length = 24) (i j m : Int) : (bkT R i j m).length = 24 := by
  unfold bkT
  split
  · exact bkR_len hR i j m
  · rfl
theorem l5Back_ok (R s : List Int) (hR : R.length = 24) (hs : s.length = 3) (hr : rackB R = true) : PureH Tryz.prog 88 [.arr R, .arr s] [] (.tup [.arr (bkT R (s.getD 0 0) (s.getD 1 0) (s.getD 2 0)), .bool (bkB R (s.getD 0 0) (s.getD 1 0) (s.getD 2 0))]) := by
  have tkR : R.take 24 = R := List.take_of_length_le (by omega)
  have tks : s.take 3 = s := List.take_of_length_le (by omega)
  unfold bkT
  generalize hi0 : s.getD 0 0 = i
  generalize hj0 : s.getD 1 0 = j
  generalize hm0 : s.getD 2 0 = m
  have r24 : List.take 24 (List.replicate 24 (0 : Int)) = List.replicate 24 0 := rfl
  cases h1 : bk1 R i j m
  · have e : bk2 R i j m = false := by simp [bk2, h1]
    have e2 : bkB R i j m = false := by simp [bkB, e]
    rw [e2]
    cases hi : plF i <;> cases hj : plF j
    case true.true =>
      have bi := pl_bd hi
      have bj := pl_bd hj
      have ei : List.take 4 (List.drop (i.toNat * 4) R) = tubeAt R i.toNat := rfl
      have ej : List.take 4 (List.drop (j.toNat * 4) R) = tubeAt R j.toNat := rfl
      have li := tubeAt_len hR (i := i.toNat) (by omega)
      have lj := tubeAt_len hR (i := j.toNat) (by omega)
      have ti := tubeAt_ok hr (i := i.toNat) (by omega)
      have tj := tubeAt_ok hr (i := j.toNat) (by omega)
      have pi := posC_lay _ li ti
      have pj := posC_lay _ lj tj
      have hh : i = j ∨ ¬ (1 ≤ m ∧ m ≤ min (topF (tubeAt R j.toNat)).2 (4 - (layN (tubeAt R i.toNat) : Int))) := by
        simp only [bk1, hi, hj, Bool.and_self, Bool.true_and, Bool.and_eq_false_iff, Bool.not_eq_false', decide_eq_true_eq, decide_eq_false_iff_not] at h1
        exact h1
      by_cases hij : i = j
      · subst hij
        refine pure_of_vc (X := ⟨Tryz.prog, tys, [(109, l2Place_F), (127, l2Top_F), (128, l2Many_F), (72, l1In_F), (129, l1Least_F)], [], true, true, 0, [], []⟩) fn_88 ⟨tys_ok, (.cons l2Place_T (.cons l2Top_T (.cons l2Many_T (.cons l1In_T (.cons l1Least_T .nil))))), .nil, mixed⟩ (n0 := 0) (Nat.le_of_ble_eq_true rfl) (by simp [wfL, SV.wf]) (wfH_spec (by simp [wfH, SObj.wf])) (Nat.le_refl _) (fun _ => by simp [SV.wf, wfL]) ?_
        simp -implicitDefEqProofs only [Tryz.f88, Option.getD_some, argS, l2Place_F, l2Top_F, l2Many_F, l1In_F, l1Least_F, hR, hs, tkR, tks, hi0, hj0, hm0, hi, r24, ei, li, ti, pi, ZB, Int.reduceToNat, Nat.reduceLT, Nat.reduceLeDiff, Int.reduceLE, Int.reduceLT, Nat.reduceEqDiff, Nat.reduceSub, SB, SV.known, packR, ne_eq, reduceCtorEq, Nat.reduceEqDiff, ↓reduceIte, if_true, if_false, eq_self, Nat.reduceAdd, Nat.reduceMul, Nat.reduceSub, forall_const, oneCellS, litOne, flat1, Kd.isSca, flat, TYB]
      · have hw : decide (1 ≤ m ∧ m ≤ min (topF (tubeAt R j.toNat)).2 (4 - (layN (tubeAt R i.toNat) : Int))) = false := by simp only [decide_eq_false_iff_not]; exact hh.resolve_left hij
        have la := lay_le _ li
        refine pure_of_vc (X := ⟨Tryz.prog, tys, [(109, l2Place_F), (127, l2Top_F), (128, l2Many_F), (72, l1In_F), (129, l1Least_F)], [], true, true, 0, [], []⟩) fn_88 ⟨tys_ok, (.cons l2Place_T (.cons l2Top_T (.cons l2Many_T (.cons l1In_T (.cons l1Least_T .nil))))), .nil, mixed⟩ (n0 := 0) (Nat.le_of_ble_eq_true rfl) (by simp [wfL, SV.wf]) (wfH_spec (by simp [wfH, SObj.wf])) (Nat.le_refl _) (fun _ => by simp [SV.wf, wfL]) ?_
        simp -implicitDefEqProofs only [Tryz.f88, Option.getD_some, argS, l2Place_F, l2Top_F, l2Many_F, l1In_F, l1Least_F, hR, hs, tkR, tks, hi0, hj0, hm0, hi, hj, r24, ei, ej, li, lj, ti, tj, pi, pj, hij, hw, ZB, Int.reduceToNat, Nat.reduceLT, Nat.reduceLeDiff, Int.reduceLE, Int.reduceLT, Nat.reduceEqDiff, Nat.reduceSub, SB, SV.known, packR, ne_eq, reduceCtorEq, Nat.reduceEqDiff, ↓reduceIte, if_true, if_false, eq_self, Nat.reduceAdd, Nat.reduceMul, Nat.reduceSub, forall_const, oneCellS, litOne, flat1, Kd.isSca, flat, TYB]
        (try (and_intros <;> try (first | omega | (unfold In64; omega) | trivial | assumption)))
    all_goals
      refine pure_of_vc (X := ⟨Tryz.prog, tys, [(109, l2Place_F), (127, l2Top_F), (128, l2Many_F), (72, l1In_F), (129, l1Least_F)], [], true, true, 0, [], []⟩) fn_88 ⟨tys_ok, (.cons l2Place_T (.cons l2Top_T (.cons l2Many_T (.cons l1In_T (.cons l1Least_T .nil))))), .nil, mixed⟩ (n0 := 0) (Nat.le_of_ble_eq_true rfl) (by simp [wfL, SV.wf]) (wfH_spec (by simp [wfH, SObj.wf])) (Nat.le_refl _) (fun _ => by simp [SV.wf, wfL]) ?_
      simp -implicitDefEqProofs only [Tryz.f88, Option.getD_some, argS, l2Place_F, l2Top_F, l2Many_F, l1In_F, l1Least_F, hR, hs, tkR, tks, hi0, hj0, hm0, hi, hj, r24, ZB, Int.reduceToNat, Nat.reduceLT, Nat.reduceLeDiff, Int.reduceLE, Int.reduceLT, Nat.reduceEqDiff, Nat.reduceSub, SB, SV.known, packR, ne_eq, reduceCtorEq, Nat.reduceEqDiff, ↓reduceIte, if_true, if_false, eq_self, Nat.reduceAdd, Nat.reduceMul, Nat.reduceSub, forall_const, oneCellS, litOne, flat1, Kd.isSca, flat, TYB]
  · obtain ⟨bi, bj, hij, g1, g2, g3, g4, g5, g6⟩ := bk1_facts hR h1
    have hi : plF i = true := by simp [plF, bi]
    have hj : plF j = true := by simp [plF, bj]
    have ei : List.take 4 (List.drop (i.toNat * 4) R) = tubeAt R i.toNat := rfl
    have ej : List.take 4 (List.drop (j.toNat * 4) R) = tubeAt R j.toNat := rfl
    have li := tubeAt_len hR (i := i.toNat) (by omega)
    have lj := tubeAt_len hR (i := j.toNat) (by omega)
    have ti := tubeAt_ok hr (i := i.toNat) (by omega)
    have tj := tubeAt_ok hr (i := j.toNat) (by omega)
    have pi := posC_lay _ li ti
    have pj := posC_lay _ lj tj
    have hw : decide (1 ≤ m ∧ m ≤ min (topF (tubeAt R j.toNat)).2 (4 - (layN (tubeAt R i.toNat) : Int))) = true := by simp only [decide_eq_true_eq]; omega
    refine pure_of_vc (X := ⟨Tryz.prog, tys, [(109, l2Place_F), (127, l2Top_F), (128, l2Many_F), (72, l1In_F), (129, l1Least_F), (110, l2Can_F), (77, l2Pour_F)], [], true, true, 0, [], []⟩) fn_88 ⟨tys_ok, (.cons l2Place_T (.cons l2Top_T (.cons l2Many_T (.cons l1In_T (.cons l1Least_T (.cons l2Can_T (.cons l2Pour_T .nil))))))), .nil, mixed⟩ (n0 := 0) (Nat.le_of_ble_eq_true rfl) (by simp [wfL, SV.wf]) (wfH_spec (by simp [wfH, SObj.wf])) (Nat.le_refl _) (fun _ => by simp [SV.wf, wfL]) ?_
    simp -implicitDefEqProofs only [Tryz.f88, Option.getD_some, argS, l2Place_F, l2Top_F, l2Many_F, l1In_F, l1Least_F, l2Can_F, l2Pour_F, hR, hs, tkR, tks, hi0, hj0, hm0, hi, hj, r24, ei, ej, li, lj, ti, tj, pi, pj, hij, hw, ZB, Int.reduceToNat, Nat.reduceLT, Nat.reduceLeDiff, Int.reduceLE, Int.reduceLT, Nat.reduceEqDiff, Nat.reduceSub, SB, SV.known, packR, ne_eq, reduceCtorEq, Nat.reduceEqDiff, ↓reduceIte, if_true, if_false, eq_self, Nat.reduceAdd, Nat.reduceMul, Nat.reduceSub, forall_const, oneCellS, litOne, flat1, Kd.isSca, flat, TYB]
    have la := lay_le _ li
    have lb := lay_le _ lj
    (try (and_intros <;> try (first | omega | (unfold In64; omega) | trivial | assumption)))
    have bl := fun k => pmR_len R j.toNat i.toNat k
    refine loop_intro (fun k : Nat => [(11, .int k), (10, .ptr 3 0), (2, .ptr 0 0), (3, .ptr 1 0), (4, .ptr 2 0), (6, .int (topF (tubeAt R j.toNat)).1), (8, .int (layN (tubeAt R i.toNat))), (9, .int (layN (tubeAt R j.toNat)))]) (fun k => [(3, .ints (pmR R j.toNat i.toNat k) 27), (2, .ints (List.replicate 24 0) 27), (1, .ints s 48), (0, .ints R 27)]) 4 (fun k => (k : Int) ≤ m) (fun k => m.toNat - k) ?_ ?_
    · refine ⟨0, ?_, Sub.mk_id ?_ ?_ ?_ ?_ ?_⟩
      all_goals (try (simp only [pmR, LB, subS, subH, wfS, wfH, SV.ren, renL, SObj.ren, SV.wf, SObj.wf, wfL, SV.known, Nat.reduceEqDiff, ↓reduceIte, if_true, if_false, eq_self, Nat.reduceAdd, Nat.reduceLT, Nat.reduceLeDiff, implies_true, reduceCtorEq, forall_const]; done))
      all_goals (try (simp only [pmR, LB, subS, subH, wfS, wfH, SV.ren, renL, SObj.ren, SV.wf, SObj.wf, wfL, SV.known, Nat.reduceEqDiff, ↓reduceIte, if_true, if_false, eq_self, Nat.reduceAdd, Nat.reduceLT, Nat.reduceLeDiff, implies_true, reduceCtorEq, forall_const]; simp; done))
      all_goals (try (simp only [pmR, LB, subS, subH, wfS, wfH, SV.ren, renL, SObj.ren, SV.wf, SObj.wf, wfL, SV.known, Nat.reduceEqDiff, ↓reduceIte, if_true, if_false, eq_self, Nat.reduceAdd, Nat.reduceLT, Nat.reduceLeDiff, implies_true, reduceCtorEq, forall_const]; (and_intros <;> (first | omega | rfl | (simp; done) | (simp; omega))); done))
      all_goals (try dsimp only)
      all_goals (and_intros <;> try (first | omega | (unfold In64; omega) | trivial | assumption))
    · intro k hk
      have blk := (bl k).trans hR
      by_cases hlt : (k : Int) < m
      · have e1 : ((layN (tubeAt R j.toNat) : Int) - 1 - k).toNat = layN (tubeAt R j.toNat) - 1 - k := by omega
        have e2 : ((layN (tubeAt R i.toNat) : Int) + k).toNat = layN (tubeAt R i.toNat) + k := by omega
        have es : pmR R j.toNat i.toNat (k + 1) = ((pmR R j.toNat i.toNat k).set (j.toNat * 4 + (layN (tubeAt R j.toNat) - 1 - k)) 0).set (i.toNat * 4 + (layN (tubeAt R i.toNat) + k)) (topF (tubeAt R j.toNat)).1 := rfl
        simp -implicitDefEqProofs only [lk_normal, hlt, hR, hs, hi0, hj0, hm0, blk, e1, e2, ZB, Int.reduceToNat, Nat.reduceLT, Nat.reduceLeDiff, Int.reduceLE, Int.reduceLT, Nat.reduceEqDiff, Nat.reduceSub, SB, SV.known, packR, ne_eq, reduceCtorEq, Nat.reduceEqDiff, ↓reduceIte, if_true, if_false, eq_self, Nat.reduceAdd, Nat.reduceMul, Nat.reduceSub, forall_const, oneCellS, litOne, flat1, Kd.isSca, flat, TYB]
        (try (and_intros <;> try (first | omega | (unfold In64; omega) | trivial | assumption)))
        refine ⟨k + 1, ?_, ?_, Sub.mk_id ?_ ?_ ?_ ?_ ?_⟩
        all_goals (try (simp only [es, LB, subS, subH, wfS, wfH, SV.ren, renL, SObj.ren, SV.wf, SObj.wf, wfL, SV.known, Nat.reduceEqDiff, ↓reduceIte, if_true, if_false, eq_self, Nat.reduceAdd, Nat.reduceLT, Nat.reduceLeDiff, implies_true, reduceCtorEq, forall_const]; done))
        all_goals (try (simp only [es, LB, subS, subH, wfS, wfH, SV.ren, renL, SObj.ren, SV.wf, SObj.wf, wfL, SV.known, Nat.reduceEqDiff, ↓reduceIte, if_true, if_false, eq_self, Nat.reduceAdd, Nat.reduceLT, Nat.reduceLeDiff, implies_true, reduceCtorEq, forall_const]; simp; done))
        all_goals (try (simp only [es, LB, subS, subH, wfS, wfH, SV.ren, renL, SObj.ren, SV.wf, SObj.wf, wfL, SV.known, Nat.reduceEqDiff, ↓reduceIte, if_true, if_false, eq_self, Nat.reduceAdd, Nat.reduceLT, Nat.reduceLeDiff, implies_true, reduceCtorEq, forall_const]; (and_intros <;> (first | omega | rfl | (simp; done) | (simp; omega))); done))
        all_goals (try dsimp only)
        all_goals (and_intros <;> try (first | omega | (unfold In64; omega) | trivial | assumption))
      · have hke : k = m.toNat := by omega
        subst hke
        have eb : pmR R j.toNat i.toNat m.toNat = bkR R i j m := rfl
        have bR := bkR_len hR i j m
        have tkB : (bkR R i j m).take 24 = bkR R i j m := List.take_of_length_le (by omega)
        have pl := pourF_len bR i.toNat j.toNat
        have tkP : (pourF (bkR R i j m) i.toNat j.toNat).take 24 = pourF (bkR R i j m) i.toNat j.toNat := List.take_of_length_le (by omega)
        rw [eb]
        have brk := bk_rack hR hr h1
        cases hc : canF (bkR R i j m) i j
        · have e : bk2 R i j m = false := by simp [bk2, hc]
          have e2 : bkB R i j m = false := by simp [bkB, e]
          rw [e2]
          simp -implicitDefEqProofs only [lk_normal, l2Can_F, l2Pour_F, hlt, hR, hs, hi0, hj0, hm0, bR, brk, tkB, hc, r24, ZB, Int.reduceToNat, Nat.reduceLT, Nat.reduceLeDiff, Int.reduceLE, Int.reduceLT, Nat.reduceEqDiff, Nat.reduceSub, SB, SV.known, packR, ne_eq, reduceCtorEq, Nat.reduceEqDiff, ↓reduceIte, if_true, if_false, eq_self, Nat.reduceAdd, Nat.reduceMul, Nat.reduceSub, forall_const, oneCellS, litOne, flat1, Kd.isSca, flat, TYB]
          (try (and_intros <;> try (first | omega | (unfold In64; omega) | trivial | assumption)))
        · have e : bk2 R i j m = true := by simp [bk2, hc, h1]
          have e2 : bkB R i j m = (decide (pourF (bkR R i j m) i.toNat j.toNat = R) && decide (pmN (bkR R i j m) i.toNat j.toNat = m)) := by simp [bkB, e]
          rw [e2]
          have eqr := eqI_rack
          simp -implicitDefEqProofs only [lk_normal, l2Can_F, l2Pour_F, hlt, hR, hs, hi0, hj0, hm0, bR, brk, tkB, tkR, pl, tkP, hc, r24, eqr, ZB, Int.reduceToNat, Nat.reduceLT, Nat.reduceLeDiff, Int.reduceLE, Int.reduceLT, Nat.reduceEqDiff, Nat.reduceSub, SB, SV.known, packR, ne_eq, reduceCtorEq, Nat.reduceEqDiff, ↓reduceIte, if_true, if_false, eq_self, Nat.reduceAdd, Nat.reduceMul, Nat.reduceSub, forall_const, oneCellS, litOne, flat1, Kd.isSca, flat, TYB]
          (try (and_intros <;> try (first | omega | (unfold In64; omega) | trivial | assumption)))
          all_goals (intro h; first | (refine ⟨fun h2 => ?_, fun h2 => ?_⟩ <;> (simp [h, h2]; done)) | (simp [h]; done))
def l5Back_F : List SV → Heap → Option (Prop × SV)
  | [.arr R, .arr s], _ => some (R.length = 24 ∧ s.length = 3 ∧ rackB R = true, .tup [.arr (bkT R (s.getD 0 0) (s.getD 1 0) (s.getD 2 0)), .bool (bkB R (s.getD 0 0) (s.getD 1 0) (s.getD 2 0))])
  | _, _ => none
theorem l5Back_T : ∀ args H p v, l5Back_F args H = some (p, v) → p → PureH Tryz.prog 88 args H v := by
  intro args H p v h hp
  unfold l5Back_F at h
  split at h
  · cases h; exact (l5Back_ok _ _ hp.1 hp.2.1 hp.2.2).any _
  · cases h
--@tbl PourBack = impl.PourBack
--@tbl sPourBack = spec.PourBack
def pbkT (R s : List Int) : List Int := if rackB R = true then bkT R (s.getD 0 0) (s.getD 1 0) (s.getD 2 0) else List.replicate 24 0
def pbkB (R s : List Int) : Bool := rackB R && bkB R (s.getD 0 0) (s.getD 1 0) (s.getD 2 0)
theorem pbkT_len {R : List Int} (hR : R.length = 24) (s : List Int) : (pbkT R s).length = 24 := by
  unfold pbkT
  split
  · exact bkT_len hR _ _ _
  · rfl
theorem bk_21 {R : List Int} {i j m : Int} (h : bkB R i j m = true) : bk2 R i j m = true := by
  simp only [bkB, Bool.and_eq_true] at h
  exact h.1.1
theorem PourBack_ok (R s : List Int) (hR : R.length = 24) (hs : s.length = 3) : PureH Tryz.prog 23 [.arr R, .arr s] [] (.tup [.arr (pbkT R s), .bool (pbkB R s)]) := by
  have tkR : R.take 24 = R := List.take_of_length_le (by omega)
  have tks : s.take 3 = s := List.take_of_length_le (by omega)
  have r24 : List.take 24 (List.replicate 24 (0 : Int)) = List.replicate 24 0 := rfl
  unfold pbkT pbkB bkT
  cases hr : rackB R
  · refine pure_of_vc (X := ⟨Tryz.prog, tys, [(62, IsRack_F), (87, back_F)], [], true, true, 0, [], []⟩) fn_23 ⟨tys_ok, (.cons IsRack_T (.cons back_T .nil)), .nil, mixed⟩ (n0 := 0) (Nat.le_of_ble_eq_true rfl) (by simp [wfL, SV.wf]) (wfH_spec (by simp [wfH, SObj.wf])) (Nat.le_refl _) (fun _ => by simp [SV.wf, wfL]) ?_
    simp -implicitDefEqProofs only [Tryz.f23, Option.getD_some, argS, IsRack_F, back_F, hR, hs, tkR, tks, hr, r24, ZB, Int.reduceToNat, Nat.reduceLT, Nat.reduceLeDiff, Int.reduceLE, Int.reduceLT, Nat.reduceEqDiff, Nat.reduceSub, SB, SV.known, packR, ne_eq, reduceCtorEq, Nat.reduceEqDiff, ↓reduceIte, if_true, if_false, eq_self, Nat.reduceAdd, Nat.reduceMul, Nat.reduceSub, forall_const, oneCellS, litOne, flat1, Kd.isSca, flat, TYB]
  · have bR := bkR_len hR (s.getD 0 0) (s.getD 1 0) (s.getD 2 0)
    have tkB : (bkR R (s.getD 0 0) (s.getD 1 0) (s.getD 2 0)).take 24 = bkR R (s.getD 0 0) (s.getD 1 0) (s.getD 2 0) := List.take_of_length_le (by omega)
    cases hb : bkB R (s.getD 0 0) (s.getD 1 0) (s.getD 2 0)
    · cases h2 : bk2 R (s.getD 0 0) (s.getD 1 0) (s.getD 2 0)
      all_goals
        refine pure_of_vc (X := ⟨Tryz.prog, tys, [(62, IsRack_F), (87, back_F)], [], true, true, 0, [], []⟩) fn_23 ⟨tys_ok, (.cons IsRack_T (.cons back_T .nil)), .nil, mixed⟩ (n0 := 0) (Nat.le_of_ble_eq_true rfl) (by simp [wfL, SV.wf]) (wfH_spec (by simp [wfH, SObj.wf])) (Nat.le_refl _) (fun _ => by simp [SV.wf, wfL]) ?_
        simp -implicitDefEqProofs only [Tryz.f23, Option.getD_some, argS, IsRack_F, back_F, hR, hs, tkR, tks, hr, hb, h2, r24, bR, tkB, ZB, Int.reduceToNat, Nat.reduceLT, Nat.reduceLeDiff, Int.reduceLE, Int.reduceLT, Nat.reduceEqDiff, Nat.reduceSub, SB, SV.known, packR, ne_eq, reduceCtorEq, Nat.reduceEqDiff, ↓reduceIte, if_true, if_false, eq_self, Nat.reduceAdd, Nat.reduceMul, Nat.reduceSub, forall_const, oneCellS, litOne, flat1, Kd.isSca, flat, TYB]
    · have h2 := bk_21 hb
      refine pure_of_vc (X := ⟨Tryz.prog, tys, [(62, IsRack_F), (87, back_F)], [], true, true, 0, [], []⟩) fn_23 ⟨tys_ok, (.cons IsRack_T (.cons back_T .nil)), .nil, mixed⟩ (n0 := 0) (Nat.le_of_ble_eq_true rfl) (by simp [wfL, SV.wf]) (wfH_spec (by simp [wfH, SObj.wf])) (Nat.le_refl _) (fun _ => by simp [SV.wf, wfL]) ?_
      simp -implicitDefEqProofs only [Tryz.f23, Option.getD_some, argS, IsRack_F, back_F, hR, hs, tkR, tks, hr, hb, h2, r24, bR, tkB, ZB, Int.reduceToNat, Nat.reduceLT, Nat.reduceLeDiff, Int.reduceLE, Int.reduceLT, Nat.reduceEqDiff, Nat.reduceSub, SB, SV.known, packR, ne_eq, reduceCtorEq, Nat.reduceEqDiff, ↓reduceIte, if_true, if_false, eq_self, Nat.reduceAdd, Nat.reduceMul, Nat.reduceSub, forall_const, oneCellS, litOne, flat1, Kd.isSca, flat, TYB]
theorem sPourBack_ok (R s : List Int) (hR : R.length = 24) (hs : s.length = 3) : PureH Tryz.prog 24 [.arr R, .arr s] [] (.tup [.arr (pbkT R s), .bool (pbkB R s)]) := by
  have tkR : R.take 24 = R := List.take_of_length_le (by omega)
  have tks : s.take 3 = s := List.take_of_length_le (by omega)
  have r24 : List.take 24 (List.replicate 24 (0 : Int)) = List.replicate 24 0 := rfl
  have bT := bkT_len hR (s.getD 0 0) (s.getD 1 0) (s.getD 2 0)
  have tkT : (bkT R (s.getD 0 0) (s.getD 1 0) (s.getD 2 0)).take 24 = bkT R (s.getD 0 0) (s.getD 1 0) (s.getD 2 0) := List.take_of_length_le (by omega)
  unfold pbkT pbkB
  cases hr : rackB R
  all_goals
    refine pure_of_vc (X := ⟨Tryz.prog, tys, [(64, l2Rack_F), (88, l5Back_F)], [], true, true, 0, [], []⟩) fn_24 ⟨tys_ok, (.cons l2Rack_T (.cons l5Back_T .nil)), .nil, mixed⟩ (n0 := 0) (Nat.le_of_ble_eq_true rfl) (by simp [wfL, SV.wf]) (wfH_spec (by simp [wfH, SObj.wf])) (Nat.le_refl _) (fun _ => by simp [SV.wf, wfL]) ?_
    simp -implicitDefEqProofs only [Tryz.f24, Option.getD_some, argS, l2Rack_F, l5Back_F, hR, hs, tkR, tks, hr, r24, bT, tkT, ZB, Int.reduceToNat, Nat.reduceLT, Nat.reduceLeDiff, Int.reduceLE, Int.reduceLT, Nat.reduceEqDiff, Nat.reduceSub, SB, SV.known, packR, ne_eq, reduceCtorEq, Nat.reduceEqDiff, ↓reduceIte, if_true, if_false, eq_self, Nat.reduceAdd, Nat.reduceMul, Nat.reduceSub, forall_const, oneCellS, litOne, flat1, Kd.isSca, flat, TYB]
def PourBack_F : List SV → Heap → Option (Prop × SV)
  | [.arr R, .arr s], _ => some (R.length = 24 ∧ s.length = 3, .tup [.arr (pbkT R s), .bool (pbkB R s)])
  | _, _ => none
theorem PourBack_T : ∀ args H p v, PourBack_F args H = some (p, v) → p → PureH Tryz.prog 23 args H v := by
  intro args H p v h hp
  unfold PourBack_F at h
  split at h
  · cases h; exact (PourBack_ok _ _ hp.1 hp.2).any _
  · cases h
def sPourBack_F : List SV → Heap → Option (Prop × SV)
  | [.arr R, .arr s], _ => some (R.length = 24 ∧ s.length = 3, .tup [.arr (pbkT R s), .bool (pbkB R s)])
  | _, _ => none
theorem sPourBack_T : ∀ args H p v, sPourBack_F args H = some (p, v) → p → PureH Tryz.prog 24 args H v := by
  intro args H p v h hp
  unfold sPourBack_F at h
  split at h
  · cases h; exact (sPourBack_ok _ _ hp.1 hp.2).any _
  · cases h
end Go.Proofs.YtmccafjblhbmkaaGreat
set_option maxRecDepth 100000
set_option linter.unusedSimpArgs false
set_option linter.unusedVariables false
namespace Go.Proofs.YtmccafjblhbmkaaGreat
open Go Go.RowKit
def srK (R : List Int) (q : Nat) : List Int := if bkB R ((q / 24 : Nat) : Int) ((q / 4 % 6 : Nat) : Int) ((q % 4 + 1 : Nat) : Int) = true then [((q / 24 : Nat) : Int), ((q / 4 % 6 : Nat) : Int), ((q % 4 + 1 : Nat) : Int)] else []
def SrL (R : List Int) (m : Nat) : List Int := (List.range m).flatMap (srK R)
theorem SrL_zero (R : List Int) : SrL R 0 = [] := rfl
theorem SrL_succ (R : List Int) (m : Nat) : SrL R (m + 1) = SrL R m ++ srK R m := by simp [SrL, List.range_succ]
theorem SrL_at (R : List Int) (i j k : Nat) (hj : j < 6) (hk : k < 4) : SrL R ((i * 6 + j) * 4 + k + 1) = SrL R ((i * 6 + j) * 4 + k) ++ if bkB R i j ((k + 1 : Nat) : Int) = true then [(i : Int), (j : Int), ((k + 1 : Nat) : Int)] else [] := by
  rw [SrL_succ]
  have e1 : ((i * 6 + j) * 4 + k) / 24 = i := by omega
  have e2 : ((i * 6 + j) * 4 + k) / 4 % 6 = j := by omega
  have e3 : ((i * 6 + j) * 4 + k) % 4 = k := by omega
  simp only [srK, e1, e2, e3]
theorem SrL_three (R : List Int) : ∀ m, ∃ n, (SrL R m).length = n * 3 ∧ n ≤ m
  | 0 => ⟨0, rfl, by omega⟩
  | m + 1 => by
    obtain ⟨n, h1, h2⟩ := SrL_three R m
    rw [SrL_succ, List.length_append, h1]
    unfold srK
    split
    · exact ⟨n + 1, by simp; omega, by omega⟩
    · exact ⟨n, by simp, by omega⟩
theorem SrL_trip (R : List Int) : ∀ m, ∀ i, i * 3 + 3 ≤ (SrL R m).length → ∃ a b c : Int, bkB R a b c = true ∧ ((SrL R m).drop (i * 3)).take 3 = [a, b, c]
  | 0, i, h => by simp [SrL_zero] at h
  | m + 1, i, h => by
    obtain ⟨n, hn, _⟩ := SrL_three R m
    rw [SrL_succ, List.length_append, hn] at h
    by_cases hi : i * 3 + 3 ≤ n * 3
    · obtain ⟨a, b, c, h1, h2⟩ := SrL_trip R m i (by omega)
      refine ⟨a, b, c, h1, ?_⟩
      rw [SrL_succ, List.drop_append_of_le_length (by omega), List.take_append_of_le_length (by rw [List.length_drop]; omega)]
      exact h2
    · unfold srK at h
      split at h
      · rename_i hc
        simp at h
        have : i = n := by omega
        subst this
        refine ⟨_, _, _, hc, ?_⟩
        rw [SrL_succ, List.drop_left' hn]
        unfold srK
        rw [if_pos hc]; rfl
      · simp at h; omega
--@tbl isPossible = impl.isPossible
theorem isPossible_ok (R s : List Int) (hR : R.length = 24) (hs : s.length = 3) (hr : rackB R = true) : PureH Tryz.prog 137 [.arr R, .arr s] [] (.bool (bkB R (s.getD 0 0) (s.getD 1 0) (s.getD 2 0))) := by
  have tkR : R.take 24 = R := List.take_of_length_le (by omega)
  have tks : s.take 3 = s := List.take_of_length_le (by omega)
  have bR := bkR_len hR (s.getD 0 0) (s.getD 1 0) (s.getD 2 0)
  cases h2 : bk2 R (s.getD 0 0) (s.getD 1 0) (s.getD 2 0)
  all_goals
    refine pure_of_vc (X := ⟨Tryz.prog, tys, [(87, back_F)], [], true, true, 0, [], []⟩) fn_137 ⟨tys_ok, (.cons back_T .nil), .nil, mixed⟩ (n0 := 0) (Nat.le_of_ble_eq_true rfl) (by simp [wfL, SV.wf]) (wfH_spec (by simp [wfH, SObj.wf])) (Nat.le_refl _) (fun _ => by simp [SV.wf, wfL]) ?_
    simp -implicitDefEqProofs only [Tryz.f137, Option.getD_some, argS, back_F, hR, hs, tkR, tks, hr, h2, bR, ZB, Int.reduceToNat, Nat.reduceLT, Nat.reduceLeDiff, Int.reduceLE, Int.reduceLT, Nat.reduceEqDiff, Nat.reduceSub, SB, SV.known, packR, ne_eq, reduceCtorEq, Nat.reduceEqDiff, ↓reduceIte, if_true, if_false, eq_self, Nat.reduceAdd, Nat.reduceMul, Nat.reduceSub, forall_const, oneCellS, litOne, flat1, Kd.isSca, flat, TYB]
def isPossible_F : List SV → Heap → Option (Prop × SV)
  | [.arr R, .arr s], _ => some (R.length = 24 ∧ s.length = 3 ∧ rackB R = true, .bool (bkB R (s.getD 0 0) (s.getD 1 0) (s.getD 2 0)))
  | _, _ => none
theorem isPossible_T : ∀ args H p v, isPossible_F args H = some (p, v) → p → PureH Tryz.prog 137 args H v := by
  intro args H p v h hp
  unfold isPossible_F at h
  split at h
  · cases h; exact (isPossible_ok _ _ hp.1 hp.2.1 hp.2.2).any _
  · cases h
theorem l5Sources_ok (R : List Int) (hR : R.length = 24) (hr : rackB R = true) : FreshP Tryz.prog 90 [.arr R] [] (SrL R 144) ((SrL R 144).length / 3) 3 48 false .one := by
  have tkR : R.take 24 = R := List.take_of_length_le (by omega)
  refine fresh_of_vc (X := ⟨Tryz.prog, tys, [(88, l5Back_F)], [], true, true, 0, [], []⟩) fn_90 ⟨tys_ok, (.cons l5Back_T .nil), .nil, mixed⟩ (n0 := 0) rfl (Nat.le_of_ble_eq_true rfl) (by simp [wfL, SV.wf]) (wfH_spec (by simp [wfH, SObj.wf])) (Nat.le_refl _) ?_
  simp -implicitDefEqProofs only [Tryz.f90, Option.getD_some, argS, l5Back_F, hR, hr, tkR, ZB, Int.reduceToNat, Nat.reduceLT, Nat.reduceLeDiff, Int.reduceLE, Int.reduceLT, Nat.reduceEqDiff, Nat.reduceSub, SB, SV.known, packR, ne_eq, reduceCtorEq, Nat.reduceEqDiff, ↓reduceIte, if_true, if_false, eq_self, Nat.reduceAdd, Nat.reduceMul, Nat.reduceSub, forall_const, oneCellS, litOne, flat1, Kd.isSca, flat, TYB]
  refine loop_intro (fun s : Nat × Nat × Nat × List Int => [(4, .int s.1), (3, .slice 1 0 s.2.1 s.2.2.1), (1, .ptr 0 0)]) (fun s => [(1, .ints (SrL R (s.1 * 6 * 4) ++ s.2.2.2) 48), (0, .ints R 27)]) 2
    (fun s => s.1 ≤ 6 ∧ (SrL R (s.1 * 6 * 4)).length = s.2.1 * 3 ∧ s.2.1 ≤ s.1 * 24 ∧ s.2.2.2.length + s.2.1 * 3 = s.2.2.1 * 3) (fun s => 6 - s.1) ?_ ?_
  · refine ⟨(0, 0, 0, []), ⟨by omega, by simp [SrL_zero], by simp, by simp⟩, Sub.mk_id ?_ ?_ ?_ ?_ ?_⟩
    all_goals simp only [Nat.zero_mul, SrL_zero, List.append_nil, LB, subS, subH, wfS, wfH, SV.ren, renL, SObj.ren, SV.wf, SObj.wf, wfL, SV.known, Nat.reduceEqDiff, ↓reduceIte, if_true, if_false, eq_self, Nat.reduceAdd, Nat.reduceLT, Nat.reduceLeDiff, implies_true, reduceCtorEq, forall_const]
    all_goals (try simp)
  · rintro ⟨i, n, cap, junk⟩ ⟨hi, hL, hn, hj⟩
    simp only at hi hL hn hj
    by_cases hlt : i < 6
    · have hil : (i : Int) < 6 := by omega
      simp -implicitDefEqProofs only [lk_normal, hil, ZB, Int.reduceToNat, Nat.reduceLT, Nat.reduceLeDiff, Int.reduceLE, Int.reduceLT, Nat.reduceEqDiff, Nat.reduceSub, SB, SV.known, packR, ne_eq, reduceCtorEq, Nat.reduceEqDiff, ↓reduceIte, if_true, if_false, eq_self, Nat.reduceAdd, Nat.reduceMul, Nat.reduceSub, forall_const, oneCellS, litOne, flat1, Kd.isSca, flat, TYB]
      refine loop_intro (fun s : Nat × Nat × Nat × List Int => [(4, .int i), (5, .int s.1), (3, .slice 1 0 s.2.1 s.2.2.1), (1, .ptr 0 0)]) (fun s => [(1, .ints (SrL R ((i * 6 + s.1) * 4) ++ s.2.2.2) 48), (0, .ints R 27)]) 2
        (fun s => s.1 ≤ 6 ∧ (SrL R ((i * 6 + s.1) * 4)).length = s.2.1 * 3 ∧ s.2.1 ≤ i * 24 + s.1 * 4 ∧ s.2.2.2.length + s.2.1 * 3 = s.2.2.1 * 3) (fun s => 6 - s.1) ?_ ?_
      · refine ⟨(0, n, cap, junk), ⟨by simp, by simpa using hL, by simpa using hn, by simpa using hj⟩, Sub.mk_id ?_ ?_ ?_ ?_ ?_⟩
        all_goals simp only [Nat.add_zero, LB, subS, subH, wfS, wfH, SV.ren, renL, SObj.ren, SV.wf, SObj.wf, wfL, SV.known, Nat.reduceEqDiff, ↓reduceIte, if_true, if_false, eq_self, Nat.reduceAdd, Nat.reduceLT, Nat.reduceLeDiff, implies_true, reduceCtorEq, forall_const]
        all_goals (try simp)
      · rintro ⟨j, n, cap, junk⟩ ⟨gj, gL, gn, gk⟩
        simp only at gj gL gn gk
        by_cases hjt : j < 6
        · have hjl : (j : Int) < 6 := by omega
          simp -implicitDefEqProofs only [lk_normal, hil, hjl, ZB, Int.reduceToNat, Nat.reduceLT, Nat.reduceLeDiff, Int.reduceLE, Int.reduceLT, Nat.reduceEqDiff, Nat.reduceSub, SB, SV.known, packR, ne_eq, reduceCtorEq, Nat.reduceEqDiff, ↓reduceIte, if_true, if_false, eq_self, Nat.reduceAdd, Nat.reduceMul, Nat.reduceSub, forall_const, oneCellS, litOne, flat1, Kd.isSca, flat, TYB]
          refine loop_intro (fun s : Nat × Nat × Nat × List Int => [(4, .int i), (5, .int j), (6, .int ((s.1 + 1 : Nat) : Int)), (3, .slice 1 0 s.2.1 s.2.2.1), (1, .ptr 0 0)]) (fun s => [(1, .ints (SrL R ((i * 6 + j) * 4 + s.1) ++ s.2.2.2) 48), (0, .ints R 27)]) 2
            (fun s => s.1 ≤ 4 ∧ (SrL R ((i * 6 + j) * 4 + s.1)).length = s.2.1 * 3 ∧ s.2.1 ≤ i * 24 + j * 4 + s.1 ∧ s.2.2.2.length + s.2.1 * 3 = s.2.2.1 * 3) (fun s => 4 - s.1) ?_ ?_
          · refine ⟨(0, n, cap, junk), ⟨by simp, by simpa using gL, by simpa using gn, by simpa using gk⟩, Sub.mk_id ?_ ?_ ?_ ?_ ?_⟩
            all_goals simp only [Nat.add_zero, LB, subS, subH, wfS, wfH, SV.ren, renL, SObj.ren, SV.wf, SObj.wf, wfL, SV.known, Nat.reduceEqDiff, ↓reduceIte, if_true, if_false, eq_self, Nat.reduceAdd, Nat.reduceLT, Nat.reduceLeDiff, implies_true, reduceCtorEq, forall_const]
            all_goals (try simp)
          · rintro ⟨k, n, cap, junk⟩ ⟨qk, qL, qn, qj⟩
            simp only at qk qL qn qj
            have tkL : (SrL R ((i * 6 + j) * 4 + k) ++ junk).take (n * 3) = SrL R ((i * 6 + j) * 4 + k) := List.take_left' qL
            have lenL : (SrL R ((i * 6 + j) * 4 + k) ++ junk).length = cap * 3 := by rw [List.length_append]; omega
            by_cases hkt : k < 4
            · have hkl : ((k + 1 : Nat) : Int) ≤ 4 := by omega
              have es := SrL_at R i j k hjt hkt
              have bT := bkT_len hR i j ((k + 1 : Nat) : Int)
              have g0 : List.getD [(i : Int), (j : Int), ((k + 1 : Nat) : Int)] 0 0 = i := rfl
              have g1 : List.getD [(i : Int), (j : Int), ((k + 1 : Nat) : Int)] 1 0 = j := rfl
              have g2 : List.getD [(i : Int), (j : Int), ((k + 1 : Nat) : Int)] 2 0 = ((k + 1 : Nat) : Int) := rfl
              cases hc : bkB R i j ((k + 1 : Nat) : Int) with
              | false =>
                rw [hc] at es
                simp only [Bool.false_eq_true, if_false, List.append_nil] at es
                simp -implicitDefEqProofs only [lk_normal, l5Back_F, hil, hjl, hkl, hR, hr, tkR, g0, g1, g2, bT, hc, tkL, lenL, ZB, Int.reduceToNat, Nat.reduceLT, Nat.reduceLeDiff, Int.reduceLE, Int.reduceLT, Nat.reduceEqDiff, Nat.reduceSub, SB, SV.known, packR, ne_eq, reduceCtorEq, Nat.reduceEqDiff, ↓reduceIte, if_true, if_false, eq_self, Nat.reduceAdd, Nat.reduceMul, Nat.reduceSub, forall_const, oneCellS, litOne, flat1, Kd.isSca, flat, TYB]
                (try (and_intros <;> try (first | omega | (unfold In64; omega) | trivial | assumption)))
                refine ⟨(k + 1, n, cap, junk), ?_, ?_, Sub.mk_id ?_ ?_ ?_ ?_ ?_⟩
                all_goals (try (simp only [es, ← Nat.add_assoc, LB, subS, subH, wfS, wfH, SV.ren, renL, SObj.ren, SV.wf, SObj.wf, wfL, SV.known, Nat.reduceEqDiff, ↓reduceIte, if_true, if_false, eq_self, Nat.reduceAdd, Nat.reduceLT, Nat.reduceLeDiff, implies_true, reduceCtorEq, forall_const]; done))
                all_goals (try (simp only [es, ← Nat.add_assoc, LB, subS, subH, wfS, wfH, SV.ren, renL, SObj.ren, SV.wf, SObj.wf, wfL, SV.known, Nat.reduceEqDiff, ↓reduceIte, if_true, if_false, eq_self, Nat.reduceAdd, Nat.reduceLT, Nat.reduceLeDiff, implies_true, reduceCtorEq, forall_const]; simp; done))
                all_goals (try (simp only [es, ← Nat.add_assoc, LB, subS, subH, wfS, wfH, SV.ren, renL, SObj.ren, SV.wf, SObj.wf, wfL, SV.known, Nat.reduceEqDiff, ↓reduceIte, if_true, if_false, eq_self, Nat.reduceAdd, Nat.reduceLT, Nat.reduceLeDiff, implies_true, reduceCtorEq, forall_const]; (and_intros <;> (first | omega | rfl | (simp; done) | (simp; omega))); done))
                all_goals (try dsimp only)
                all_goals (and_intros <;> try (first | omega | (unfold In64; omega) | trivial | assumption))
                all_goals (try (rw [← Nat.add_assoc, es]; exact qL))
              | true =>
                rw [hc] at es
                simp only [if_true] at es
                simp -implicitDefEqProofs only [lk_normal, l5Back_F, hil, hjl, hkl, hR, hr, tkR, g0, g1, g2, bT, hc, tkL, lenL, ZB, Int.reduceToNat, Nat.reduceLT, Nat.reduceLeDiff, Int.reduceLE, Int.reduceLT, Nat.reduceEqDiff, Nat.reduceSub, SB, SV.known, packR, ne_eq, reduceCtorEq, Nat.reduceEqDiff, ↓reduceIte, if_true, if_false, eq_self, Nat.reduceAdd, Nat.reduceMul, Nat.reduceSub, forall_const, oneCellS, litOne, flat1, Kd.isSca, flat, TYB]
                (try (and_intros <;> try (first | omega | (unfold In64; omega) | trivial | assumption)))
                intro junk' cap' hj'
                (try (and_intros <;> try (first | omega | (unfold In64; omega) | trivial | assumption)))
                refine ⟨(k + 1, n + 1, cap', junk'), ?_, ?_, Sub.mk_to 1 5 ?_ ?_ ?_ ?_ ?_ ?_ ?_⟩
                all_goals (try (simp only [es, ← Nat.add_assoc, LB, subS, subH, wfS, wfH, SV.ren, renL, SObj.ren, SV.wf, SObj.wf, wfL, SV.known, Nat.reduceEqDiff, ↓reduceIte, if_true, if_false, eq_self, Nat.reduceAdd, Nat.reduceLT, Nat.reduceLeDiff, implies_true, reduceCtorEq, forall_const]; done))
                all_goals (try (simp only [es, ← Nat.add_assoc, LB, subS, subH, wfS, wfH, SV.ren, renL, SObj.ren, SV.wf, SObj.wf, wfL, SV.known, Nat.reduceEqDiff, ↓reduceIte, if_true, if_false, eq_self, Nat.reduceAdd, Nat.reduceLT, Nat.reduceLeDiff, implies_true, reduceCtorEq, forall_const]; simp; done))
                all_goals (try (simp only [es, ← Nat.add_assoc, LB, subS, subH, wfS, wfH, SV.ren, renL, SObj.ren, SV.wf, SObj.wf, wfL, SV.known, Nat.reduceEqDiff, ↓reduceIte, if_true, if_false, eq_self, Nat.reduceAdd, Nat.reduceLT, Nat.reduceLeDiff, implies_true, reduceCtorEq, forall_const]; (and_intros <;> (first | omega | rfl | (simp; done) | (simp; omega))); done))
                all_goals (try dsimp only)
                all_goals (and_intros <;> try (first | omega | (unfold In64; omega) | trivial | assumption))
                all_goals (try (rw [← Nat.add_assoc, es, List.length_append, qL]; simp; omega))
            · have hkl : ¬ ((k + 1 : Nat) : Int) ≤ 4 := by omega
              obtain rfl : k = 4 := by omega
              have e4 : (i * 6 + (j + 1)) * 4 = (i * 6 + j) * 4 + 4 := by omega
              simp -implicitDefEqProofs only [lk_normal, hkl, ZB, Int.reduceToNat, Nat.reduceLT, Nat.reduceLeDiff, Int.reduceLE, Int.reduceLT, Nat.reduceEqDiff, Nat.reduceSub, SB, SV.known, packR, ne_eq, reduceCtorEq, Nat.reduceEqDiff, ↓reduceIte, if_true, if_false, eq_self, Nat.reduceAdd, Nat.reduceMul, Nat.reduceSub, forall_const, oneCellS, litOne, flat1, Kd.isSca, flat, TYB]
              (try (and_intros <;> try (first | omega | (unfold In64; omega) | trivial | assumption)))
              refine ⟨(j + 1, n, cap, junk), ?_, ?_, Sub.mk_id ?_ ?_ ?_ ?_ ?_⟩
              all_goals (try (simp only [e4, LB, subS, subH, wfS, wfH, SV.ren, renL, SObj.ren, SV.wf, SObj.wf, wfL, SV.known, Nat.reduceEqDiff, ↓reduceIte, if_true, if_false, eq_self, Nat.reduceAdd, Nat.reduceLT, Nat.reduceLeDiff, implies_true, reduceCtorEq, forall_const]; done))
              all_goals (try (simp only [e4, LB, subS, subH, wfS, wfH, SV.ren, renL, SObj.ren, SV.wf, SObj.wf, wfL, SV.known, Nat.reduceEqDiff, ↓reduceIte, if_true, if_false, eq_self, Nat.reduceAdd, Nat.reduceLT, Nat.reduceLeDiff, implies_true, reduceCtorEq, forall_const]; simp; done))
              all_goals (try (simp only [e4, LB, subS, subH, wfS, wfH, SV.ren, renL, SObj.ren, SV.wf, SObj.wf, wfL, SV.known, Nat.reduceEqDiff, ↓reduceIte, if_true, if_false, eq_self, Nat.reduceAdd, Nat.reduceLT, Nat.reduceLeDiff, implies_true, reduceCtorEq, forall_const]; (and_intros <;> (first | omega | rfl | (simp; done) | (simp; omega))); done))
              all_goals (try dsimp only)
              all_goals (and_intros <;> try (first | omega | (unfold In64; omega) | trivial | assumption))
              all_goals (try (rw [e4]; exact qL))
        · have hjl : ¬ (j : Int) < 6 := by omega
          obtain rfl : j = 6 := by omega
          have e6 : (i + 1) * 6 * 4 = (i * 6 + 6) * 4 := by omega
          simp -implicitDefEqProofs only [lk_normal, hjl, ZB, Int.reduceToNat, Nat.reduceLT, Nat.reduceLeDiff, Int.reduceLE, Int.reduceLT, Nat.reduceEqDiff, Nat.reduceSub, SB, SV.known, packR, ne_eq, reduceCtorEq, Nat.reduceEqDiff, ↓reduceIte, if_true, if_false, eq_self, Nat.reduceAdd, Nat.reduceMul, Nat.reduceSub, forall_const, oneCellS, litOne, flat1, Kd.isSca, flat, TYB]
          (try (and_intros <;> try (first | omega | (unfold In64; omega) | trivial | assumption)))
          refine ⟨(i + 1, n, cap, junk), ?_, ?_, Sub.mk_id ?_ ?_ ?_ ?_ ?_⟩
          all_goals (try (simp only [e6, LB, subS, subH, wfS, wfH, SV.ren, renL, SObj.ren, SV.wf, SObj.wf, wfL, SV.known, Nat.reduceEqDiff, ↓reduceIte, if_true, if_false, eq_self, Nat.reduceAdd, Nat.reduceLT, Nat.reduceLeDiff, implies_true, reduceCtorEq, forall_const]; done))
          all_goals (try (simp only [e6, LB, subS, subH, wfS, wfH, SV.ren, renL, SObj.ren, SV.wf, SObj.wf, wfL, SV.known, Nat.reduceEqDiff, ↓reduceIte, if_true, if_false, eq_self, Nat.reduceAdd, Nat.reduceLT, Nat.reduceLeDiff, implies_true, reduceCtorEq, forall_const]; simp; done))
          all_goals (try (simp only [e6, LB, subS, subH, wfS, wfH, SV.ren, renL, SObj.ren, SV.wf, SObj.wf, wfL, SV.known, Nat.reduceEqDiff, ↓reduceIte, if_true, if_false, eq_self, Nat.reduceAdd, Nat.reduceLT, Nat.reduceLeDiff, implies_true, reduceCtorEq, forall_const]; (and_intros <;> (first | omega | rfl | (simp; done) | (simp; omega))); done))
          all_goals (try dsimp only)
          all_goals (and_intros <;> try (first | omega | (unfold In64; omega) | trivial | assumption))
          all_goals (try (rw [e6]; exact gL))
    · have hil : ¬ (i : Int) < 6 := by omega
      obtain rfl : i = 6 := by omega
      have hL' : (SrL R 144).length = n * 3 := hL
      simp -implicitDefEqProofs only [lk_normal, hil, ZB, Int.reduceToNat, Nat.reduceLT, Nat.reduceLeDiff, Int.reduceLE, Int.reduceLT, Nat.reduceEqDiff, Nat.reduceSub, SB, SV.known, packR, ne_eq, reduceCtorEq, Nat.reduceEqDiff, ↓reduceIte, if_true, if_false, eq_self, Nat.reduceAdd, Nat.reduceMul, Nat.reduceSub, forall_const, oneCellS, litOne, flat1, Kd.isSca, flat, TYB]
      refine .inr ⟨1, cap, junk, ?_, ?_, by omega, ?_, by simp⟩
      · rw [hL']; simp [Wrap.ap]
      · simp [hget_cons]
      · omega

theorem sources_ok (R : List Int) (hR : R.length = 24) (hr : rackB R = true) : FreshP Tryz.prog 89 [.arr R] [] (SrL R 144) ((SrL R 144).length / 3) 3 48 true .one := by
  have tkR : R.take 24 = R := List.take_of_length_le (by omega)
  refine fresh_of_vc (X := ⟨Tryz.prog, tys, [(137, isPossible_F)], [], true, true, 0, [], []⟩) fn_89 ⟨tys_ok, (.cons isPossible_T .nil), .nil, mixed⟩ (n0 := 0) rfl (Nat.le_of_ble_eq_true rfl) (by simp [wfL, SV.wf]) (wfH_spec (by simp [wfH, SObj.wf])) (Nat.le_refl _) ?_
  simp -implicitDefEqProofs only [Tryz.f89, Option.getD_some, argS, isPossible_F, hR, hr, tkR, ZB, Int.reduceToNat, Nat.reduceLT, Nat.reduceLeDiff, Int.reduceLE, Int.reduceLT, Nat.reduceEqDiff, Nat.reduceSub, SB, SV.known, packR, ne_eq, reduceCtorEq, Nat.reduceEqDiff, ↓reduceIte, if_true, if_false, eq_self, Nat.reduceAdd, Nat.reduceMul, Nat.reduceSub, forall_const, oneCellS, litOne, flat1, Kd.isSca, flat, TYB]
  refine loop_intro (fun s : Nat × Nat × Nat × List Int => [(1, .ptr 0 0), (3, outV s.2.1 s.2.1 s.2.2.1), (8, .int s.1)]) (fun s => outH s.2.1 (SrL R (s.1 * 6 * 4) ++ s.2.2.2) 48 [(0, .ints R 27)]) 2
    (fun s => s.1 ≤ 6 ∧ (SrL R (s.1 * 6 * 4)).length = s.2.1 * 3 ∧ s.2.1 ≤ s.1 * 24 ∧ s.2.2.2.length + s.2.1 * 3 = s.2.2.1 * 3) (fun s => 6 - s.1) ?_ ?_
  · refine ⟨(0, 0, 0, []), ⟨by omega, by simp [SrL_zero], by simp, by simp⟩, Sub.mk_id ?_ ?_ ?_ ?_ ?_⟩
    all_goals simp only [outV_zero, outH_zero, LB, subS, subH, wfS, wfH, SV.ren, renL, SObj.ren, SV.wf, SObj.wf, wfL, SV.known, Nat.reduceEqDiff, ↓reduceIte, if_true, if_false, eq_self, Nat.reduceAdd, Nat.reduceLT, Nat.reduceLeDiff, implies_true, reduceCtorEq, forall_const]
    all_goals (try simp)
  · rintro ⟨i, n, cap, junk⟩ ⟨hi, hL, hn, hj⟩
    simp only at hi hL hn hj
    by_cases hlt : i < 6
    · have hil : (i : Int) < 6 := by omega
      simp -implicitDefEqProofs only [lk_normal, hil, ZB, Int.reduceToNat, Nat.reduceLT, Nat.reduceLeDiff, Int.reduceLE, Int.reduceLT, Nat.reduceEqDiff, Nat.reduceSub, SB, SV.known, packR, ne_eq, reduceCtorEq, Nat.reduceEqDiff, ↓reduceIte, if_true, if_false, eq_self, Nat.reduceAdd, Nat.reduceMul, Nat.reduceSub, forall_const, oneCellS, litOne, flat1, Kd.isSca, flat, TYB]
      refine loop_intro (fun s : Nat × Nat × Nat × List Int => [(1, .ptr 0 0), (3, outV s.2.1 s.2.1 s.2.2.1), (4, .int i), (8, .int i), (11, .int s.1)]) (fun s => outH s.2.1 (SrL R ((i * 6 + s.1) * 4) ++ s.2.2.2) 48 [(0, .ints R 27)]) 2
        (fun s => s.1 ≤ 6 ∧ (SrL R ((i * 6 + s.1) * 4)).length = s.2.1 * 3 ∧ s.2.1 ≤ i * 24 + s.1 * 4 ∧ s.2.2.2.length + s.2.1 * 3 = s.2.2.1 * 3) (fun s => 6 - s.1) ?_ ?_
      · refine ⟨(0, n, cap, junk), ⟨by simp, by simpa using hL, by simpa using hn, by simpa using hj⟩, ?_⟩
        cases n with
        | zero =>
          refine Sub.mk_id ?_ ?_ ?_ ?_ ?_
          all_goals simp only [outV_zero, outH_zero, LB, subS, subH, wfS, wfH, SV.ren, renL, SObj.ren, SV.wf, SObj.wf, wfL, SV.known, Nat.reduceEqDiff, ↓reduceIte, if_true, if_false, eq_self, Nat.reduceAdd, Nat.reduceLT, Nat.reduceLeDiff, implies_true, reduceCtorEq, forall_const]
          all_goals (try simp)
        | succ n =>
          refine Sub.mk_id ?_ ?_ ?_ ?_ ?_
          all_goals simp only [outV_succ, outH_succ, Nat.add_zero, LB, subS, subH, wfS, wfH, SV.ren, renL, SObj.ren, SV.wf, SObj.wf, wfL, SV.known, Nat.reduceEqDiff, ↓reduceIte, if_true, if_false, eq_self, Nat.reduceAdd, Nat.reduceLT, Nat.reduceLeDiff, implies_true, reduceCtorEq, forall_const]
          all_goals (try simp)
      · rintro ⟨j, n, cap, junk⟩ ⟨gj, gL, gn, gk⟩
        simp only at gj gL gn gk
        by_cases hjt : j < 6
        · have hjl : (j : Int) < 6 := by omega
          simp -implicitDefEqProofs only [lk_normal, hil, hjl, ZB, Int.reduceToNat, Nat.reduceLT, Nat.reduceLeDiff, Int.reduceLE, Int.reduceLT, Nat.reduceEqDiff, Nat.reduceSub, SB, SV.known, packR, ne_eq, reduceCtorEq, Nat.reduceEqDiff, ↓reduceIte, if_true, if_false, eq_self, Nat.reduceAdd, Nat.reduceMul, Nat.reduceSub, forall_const, oneCellS, litOne, flat1, Kd.isSca, flat, TYB]
          refine loop_intro (fun s : Nat × Nat × Nat × List Int => [(1, .ptr 0 0), (3, outV s.2.1 s.2.1 s.2.2.1), (4, .int i), (8, .int i), (5, .int j), (11, .int j), (6, .int ((s.1 + 1 : Nat) : Int))]) (fun s => outH s.2.1 (SrL R ((i * 6 + j) * 4 + s.1) ++ s.2.2.2) 48 [(0, .ints R 27)]) 2
            (fun s => s.1 ≤ 4 ∧ (SrL R ((i * 6 + j) * 4 + s.1)).length = s.2.1 * 3 ∧ s.2.1 ≤ i * 24 + j * 4 + s.1 ∧ s.2.2.2.length + s.2.1 * 3 = s.2.2.1 * 3) (fun s => 4 - s.1) ?_ ?_
          · refine ⟨(0, n, cap, junk), ⟨by simp, by simpa using gL, by simpa using gn, by simpa using gk⟩, ?_⟩
            cases n with
            | zero =>
              refine Sub.mk_id ?_ ?_ ?_ ?_ ?_
              all_goals simp only [outV_zero, outH_zero, LB, subS, subH, wfS, wfH, SV.ren, renL, SObj.ren, SV.wf, SObj.wf, wfL, SV.known, Nat.reduceEqDiff, ↓reduceIte, if_true, if_false, eq_self, Nat.reduceAdd, Nat.reduceLT, Nat.reduceLeDiff, implies_true, reduceCtorEq, forall_const]
              all_goals (try simp)
            | succ n =>
              refine Sub.mk_id ?_ ?_ ?_ ?_ ?_
              all_goals simp only [outV_succ, outH_succ, Nat.add_zero, LB, subS, subH, wfS, wfH, SV.ren, renL, SObj.ren, SV.wf, SObj.wf, wfL, SV.known, Nat.reduceEqDiff, ↓reduceIte, if_true, if_false, eq_self, Nat.reduceAdd, Nat.reduceLT, Nat.reduceLeDiff, implies_true, reduceCtorEq, forall_const]
              all_goals (try simp)
          · rintro ⟨k, n, cap, junk⟩ ⟨qk, qL, qn, qj⟩
            simp only at qk qL qn qj
            by_cases hkt : k < 4
            · have hkl : ((k + 1 : Nat) : Int) ≤ 4 := by omega
              have es := SrL_at R i j k hjt hkt
              have g0 : List.getD [(i : Int), (j : Int), ((k + 1 : Nat) : Int)] 0 0 = i := rfl
              have g1 : List.getD [(i : Int), (j : Int), ((k + 1 : Nat) : Int)] 1 0 = j := rfl
              have g2 : List.getD [(i : Int), (j : Int), ((k + 1 : Nat) : Int)] 2 0 = ((k + 1 : Nat) : Int) := rfl
              cases hc : bkB R i j ((k + 1 : Nat) : Int) with
              | false =>
                rw [hc] at es
                simp only [Bool.false_eq_true, if_false, List.append_nil] at es
                cases n with
                | zero =>
                  simp -implicitDefEqProofs only [lk_normal, isPossible_F, outV_zero, outH_zero, hil, hjl, hkl, hR, hr, tkR, g0, g1, g2, hc, ZB, Int.reduceToNat, Nat.reduceLT, Nat.reduceLeDiff, Int.reduceLE, Int.reduceLT, Nat.reduceEqDiff, Nat.reduceSub, SB, SV.known, packR, ne_eq, reduceCtorEq, Nat.reduceEqDiff, ↓reduceIte, if_true, if_false, eq_self, Nat.reduceAdd, Nat.reduceMul, Nat.reduceSub, forall_const, oneCellS, litOne, flat1, Kd.isSca, flat, TYB]
                  (try (and_intros <;> try (first | omega | (unfold In64; omega) | trivial | assumption)))
                  refine ⟨(k + 1, 0, cap, junk), ?_, ?_, Sub.mk_id ?_ ?_ ?_ ?_ ?_⟩
                  all_goals (try (simp only [outV_zero, outH_zero, es, ← Nat.add_assoc, LB, subS, subH, wfS, wfH, SV.ren, renL, SObj.ren, SV.wf, SObj.wf, wfL, SV.known, Nat.reduceEqDiff, ↓reduceIte, if_true, if_false, eq_self, Nat.reduceAdd, Nat.reduceLT, Nat.reduceLeDiff, implies_true, reduceCtorEq, forall_const]; done))
                  all_goals (try (simp only [outV_zero, outH_zero, es, ← Nat.add_assoc, LB, subS, subH, wfS, wfH, SV.ren, renL, SObj.ren, SV.wf, SObj.wf, wfL, SV.known, Nat.reduceEqDiff, ↓reduceIte, if_true, if_false, eq_self, Nat.reduceAdd, Nat.reduceLT, Nat.reduceLeDiff, implies_true, reduceCtorEq, forall_const]; simp; done))
                  all_goals (try (simp only [outV_zero, outH_zero, es, ← Nat.add_assoc, LB, subS, subH, wfS, wfH, SV.ren, renL, SObj.ren, SV.wf, SObj.wf, wfL, SV.known, Nat.reduceEqDiff, ↓reduceIte, if_true, if_false, eq_self, Nat.reduceAdd, Nat.reduceLT, Nat.reduceLeDiff, implies_true, reduceCtorEq, forall_const]; (and_intros <;> (first | omega | rfl | (simp; done) | (simp; omega))); done))
                  all_goals (try dsimp only)
                  all_goals (and_intros <;> try (first | omega | (unfold In64; omega) | trivial | assumption))
                  all_goals (try (rw [← Nat.add_assoc, es]; exact qL))
                | succ n =>
                  simp -implicitDefEqProofs only [lk_normal, isPossible_F, outV_succ, outH_succ, hil, hjl, hkl, hR, hr, tkR, g0, g1, g2, hc, ZB, Int.reduceToNat, Nat.reduceLT, Nat.reduceLeDiff, Int.reduceLE, Int.reduceLT, Nat.reduceEqDiff, Nat.reduceSub, SB, SV.known, packR, ne_eq, reduceCtorEq, Nat.reduceEqDiff, ↓reduceIte, if_true, if_false, eq_self, Nat.reduceAdd, Nat.reduceMul, Nat.reduceSub, forall_const, oneCellS, litOne, flat1, Kd.isSca, flat, TYB]
                  (try (and_intros <;> try (first | omega | (unfold In64; omega) | trivial | assumption)))
                  refine ⟨(k + 1, n + 1, cap, junk), ?_, ?_, Sub.mk_id ?_ ?_ ?_ ?_ ?_⟩
                  all_goals (try (simp only [outV_succ, outH_succ, es, ← Nat.add_assoc, LB, subS, subH, wfS, wfH, SV.ren, renL, SObj.ren, SV.wf, SObj.wf, wfL, SV.known, Nat.reduceEqDiff, ↓reduceIte, if_true, if_false, eq_self, Nat.reduceAdd, Nat.reduceLT, Nat.reduceLeDiff, implies_true, reduceCtorEq, forall_const]; done))
                  all_goals (try (simp only [outV_succ, outH_succ, es, ← Nat.add_assoc, LB, subS, subH, wfS, wfH, SV.ren, renL, SObj.ren, SV.wf, SObj.wf, wfL, SV.known, Nat.reduceEqDiff, ↓reduceIte, if_true, if_false, eq_self, Nat.reduceAdd, Nat.reduceLT, Nat.reduceLeDiff, implies_true, reduceCtorEq, forall_const]; simp; done))
                  all_goals (try (simp only [outV_succ, outH_succ, es, ← Nat.add_assoc, LB, subS, subH, wfS, wfH, SV.ren, renL, SObj.ren, SV.wf, SObj.wf, wfL, SV.known, Nat.reduceEqDiff, ↓reduceIte, if_true, if_false, eq_self, Nat.reduceAdd, Nat.reduceLT, Nat.reduceLeDiff, implies_true, reduceCtorEq, forall_const]; (and_intros <;> (first | omega | rfl | (simp; done) | (simp; omega))); done))
                  all_goals (try dsimp only)
                  all_goals (and_intros <;> try (first | omega | (unfold In64; omega) | trivial | assumption))
                  all_goals (try (rw [← Nat.add_assoc, es]; exact qL))
              | true =>
                rw [hc] at es
                simp only [if_true] at es
                cases n with
                | zero =>
                  have e0 : SrL R ((i * 6 + j) * 4 + k) = [] := List.length_eq_zero_iff.1 (by simpa using qL)
                  rw [e0, List.nil_append] at es
                  simp -implicitDefEqProofs only [lk_normal, isPossible_F, outV_zero, outH_zero, hil, hjl, hkl, hR, hr, tkR, g0, g1, g2, hc, ZB, Int.reduceToNat, Nat.reduceLT, Nat.reduceLeDiff, Int.reduceLE, Int.reduceLT, Nat.reduceEqDiff, Nat.reduceSub, SB, SV.known, packR, ne_eq, reduceCtorEq, Nat.reduceEqDiff, ↓reduceIte, if_true, if_false, eq_self, Nat.reduceAdd, Nat.reduceMul, Nat.reduceSub, forall_const, oneCellS, litOne, flat1, Kd.isSca, flat, TYB]
                  (try (and_intros <;> try (first | omega | (unfold In64; omega) | trivial | assumption)))
                  intro junk' cap' hj'
                  (try (and_intros <;> try (first | omega | (unfold In64; omega) | trivial | assumption)))
                  refine ⟨(k + 1, 1, cap', junk'), ?_, ?_, Sub.mk_to 1 4 ?_ ?_ ?_ ?_ ?_ ?_ ?_⟩
                  all_goals (try (simp only [outV_succ, outH_succ, es, ← Nat.add_assoc, LB, subS, subH, wfS, wfH, SV.ren, renL, SObj.ren, SV.wf, SObj.wf, wfL, SV.known, Nat.reduceEqDiff, ↓reduceIte, if_true, if_false, eq_self, Nat.reduceAdd, Nat.reduceLT, Nat.reduceLeDiff, implies_true, reduceCtorEq, forall_const]; done))
                  all_goals (try (simp only [outV_succ, outH_succ, es, ← Nat.add_assoc, LB, subS, subH, wfS, wfH, SV.ren, renL, SObj.ren, SV.wf, SObj.wf, wfL, SV.known, Nat.reduceEqDiff, ↓reduceIte, if_true, if_false, eq_self, Nat.reduceAdd, Nat.reduceLT, Nat.reduceLeDiff, implies_true, reduceCtorEq, forall_const]; simp; done))
                  all_goals (try (simp only [outV_succ, outH_succ, es, ← Nat.add_assoc, LB, subS, subH, wfS, wfH, SV.ren, renL, SObj.ren, SV.wf, SObj.wf, wfL, SV.known, Nat.reduceEqDiff, ↓reduceIte, if_true, if_false, eq_self, Nat.reduceAdd, Nat.reduceLT, Nat.reduceLeDiff, implies_true, reduceCtorEq, forall_const]; (and_intros <;> (first | omega | rfl | (simp; done) | (simp; omega))); done))
                  all_goals (try dsimp only)
                  all_goals (and_intros <;> try (first | omega | (unfold In64; omega) | trivial | assumption))
                  all_goals (try (rw [← Nat.add_assoc, es]; rfl))
                | succ n =>
                  have tkL : (SrL R ((i * 6 + j) * 4 + k) ++ junk).take ((n + 1) * 3) = SrL R ((i * 6 + j) * 4 + k) := List.take_left' qL
                  have lenL : (SrL R ((i * 6 + j) * 4 + k) ++ junk).length = cap * 3 := by rw [List.length_append]; omega
                  simp -implicitDefEqProofs only [lk_normal, isPossible_F, outV_succ, outH_succ, hil, hjl, hkl, hR, hr, tkR, g0, g1, g2, hc, tkL, lenL, ZB, Int.reduceToNat, Nat.reduceLT, Nat.reduceLeDiff, Int.reduceLE, Int.reduceLT, Nat.reduceEqDiff, Nat.reduceSub, SB, SV.known, packR, ne_eq, reduceCtorEq, Nat.reduceEqDiff, ↓reduceIte, if_true, if_false, eq_self, Nat.reduceAdd, Nat.reduceMul, Nat.reduceSub, forall_const, oneCellS, litOne, flat1, Kd.isSca, flat, TYB]
                  (try (and_intros <;> try (first | omega | (unfold In64; omega) | trivial | assumption)))
                  intro junk' cap' hj'
                  (try (and_intros <;> try (first | omega | (unfold In64; omega) | trivial | assumption)))
                  refine ⟨(k + 1, n + 1 + 1, cap', junk'), ?_, ?_, Sub.mk_to 1 4 ?_ ?_ ?_ ?_ ?_ ?_ ?_⟩
                  all_goals (try (simp only [outV_succ, outH_succ, es, ← Nat.add_assoc, LB, subS, subH, wfS, wfH, SV.ren, renL, SObj.ren, SV.wf, SObj.wf, wfL, SV.known, Nat.reduceEqDiff, ↓reduceIte, if_true, if_false, eq_self, Nat.reduceAdd, Nat.reduceLT, Nat.reduceLeDiff, implies_true, reduceCtorEq, forall_const]; done))
                  all_goals (try (simp only [outV_succ, outH_succ, es, ← Nat.add_assoc, LB, subS, subH, wfS, wfH, SV.ren, renL, SObj.ren, SV.wf, SObj.wf, wfL, SV.known, Nat.reduceEqDiff, ↓reduceIte, if_true, if_false, eq_self, Nat.reduceAdd, Nat.reduceLT, Nat.reduceLeDiff, implies_true, reduceCtorEq, forall_const]; simp; done))
                  all_goals (try (simp only [outV_succ, outH_succ, es, ← Nat.add_assoc, LB, subS, subH, wfS, wfH, SV.ren, renL, SObj.ren, SV.wf, SObj.wf, wfL, SV.known, Nat.reduceEqDiff, ↓reduceIte, if_true, if_false, eq_self, Nat.reduceAdd, Nat.reduceLT, Nat.reduceLeDiff, implies_true, reduceCtorEq, forall_const]; (and_intros <;> (first | omega | rfl | (simp; done) | (simp; omega))); done))
                  all_goals (try dsimp only)
                  all_goals (and_intros <;> try (first | omega | (unfold In64; omega) | trivial | assumption))
                  all_goals (try (rw [← Nat.add_assoc, es, List.length_append, qL]; simp; omega))
            · have hkl : ¬ ((k + 1 : Nat) : Int) ≤ 4 := by omega
              obtain rfl : k = 4 := by omega
              have e4 : (i * 6 + (j + 1)) * 4 = (i * 6 + j) * 4 + 4 := by omega
              cases n with
              | zero =>
                simp -implicitDefEqProofs only [lk_normal, outV_zero, outH_zero, hkl, ZB, Int.reduceToNat, Nat.reduceLT, Nat.reduceLeDiff, Int.reduceLE, Int.reduceLT, Nat.reduceEqDiff, Nat.reduceSub, SB, SV.known, packR, ne_eq, reduceCtorEq, Nat.reduceEqDiff, ↓reduceIte, if_true, if_false, eq_self, Nat.reduceAdd, Nat.reduceMul, Nat.reduceSub, forall_const, oneCellS, litOne, flat1, Kd.isSca, flat, TYB]
                (try (and_intros <;> try (first | omega | (unfold In64; omega) | trivial | assumption)))
                refine ⟨(j + 1, 0, cap, junk), ?_, ?_, Sub.mk_id ?_ ?_ ?_ ?_ ?_⟩
                all_goals (try (simp only [outV_zero, outH_zero, e4, LB, subS, subH, wfS, wfH, SV.ren, renL, SObj.ren, SV.wf, SObj.wf, wfL, SV.known, Nat.reduceEqDiff, ↓reduceIte, if_true, if_false, eq_self, Nat.reduceAdd, Nat.reduceLT, Nat.reduceLeDiff, implies_true, reduceCtorEq, forall_const]; done))
                all_goals (try (simp only [outV_zero, outH_zero, e4, LB, subS, subH, wfS, wfH, SV.ren, renL, SObj.ren, SV.wf, SObj.wf, wfL, SV.known, Nat.reduceEqDiff, ↓reduceIte, if_true, if_false, eq_self, Nat.reduceAdd, Nat.reduceLT, Nat.reduceLeDiff, implies_true, reduceCtorEq, forall_const]; simp; done))
                all_goals (try (simp only [outV_zero, outH_zero, e4, LB, subS, subH, wfS, wfH, SV.ren, renL, SObj.ren, SV.wf, SObj.wf, wfL, SV.known, Nat.reduceEqDiff, ↓reduceIte, if_true, if_false, eq_self, Nat.reduceAdd, Nat.reduceLT, Nat.reduceLeDiff, implies_true, reduceCtorEq, forall_const]; (and_intros <;> (first | omega | rfl | (simp; done) | (simp; omega))); done))
                all_goals (try dsimp only)
                all_goals (and_intros <;> try (first | omega | (unfold In64; omega) | trivial | assumption))
                all_goals (try (rw [e4]; exact qL))
              | succ n =>
                simp -implicitDefEqProofs only [lk_normal, outV_succ, outH_succ, hkl, ZB, Int.reduceToNat, Nat.reduceLT, Nat.reduceLeDiff, Int.reduceLE, Int.reduceLT, Nat.reduceEqDiff, Nat.reduceSub, SB, SV.known, packR, ne_eq, reduceCtorEq, Nat.reduceEqDiff, ↓reduceIte, if_true, if_false, eq_self, Nat.reduceAdd, Nat.reduceMul, Nat.reduceSub, forall_const, oneCellS, litOne, flat1, Kd.isSca, flat, TYB]
                (try (and_intros <;> try (first | omega | (unfold In64; omega) | trivial | assumption)))
                refine ⟨(j + 1, n + 1, cap, junk), ?_, ?_, Sub.mk_id ?_ ?_ ?_ ?_ ?_⟩
                all_goals (try (simp only [outV_succ, outH_succ, e4, LB, subS, subH, wfS, wfH, SV.ren, renL, SObj.ren, SV.wf, SObj.wf, wfL, SV.known, Nat.reduceEqDiff, ↓reduceIte, if_true, if_false, eq_self, Nat.reduceAdd, Nat.reduceLT, Nat.reduceLeDiff, implies_true, reduceCtorEq, forall_const]; done))
                all_goals (try (simp only [outV_succ, outH_succ, e4, LB, subS, subH, wfS, wfH, SV.ren, renL, SObj.ren, SV.wf, SObj.wf, wfL, SV.known, Nat.reduceEqDiff, ↓reduceIte, if_true, if_false, eq_self, Nat.reduceAdd, Nat.reduceLT, Nat.reduceLeDiff, implies_true, reduceCtorEq, forall_const]; simp; done))
                all_goals (try (simp only [outV_succ, outH_succ, e4, LB, subS, subH, wfS, wfH, SV.ren, renL, SObj.ren, SV.wf, SObj.wf, wfL, SV.known, Nat.reduceEqDiff, ↓reduceIte, if_true, if_false, eq_self, Nat.reduceAdd, Nat.reduceLT, Nat.reduceLeDiff, implies_true, reduceCtorEq, forall_const]; (and_intros <;> (first | omega | rfl | (simp; done) | (simp; omega))); done))
                all_goals (try dsimp only)
                all_goals (and_intros <;> try (first | omega | (unfold In64; omega) | trivial | assumption))
                all_goals (try (rw [e4]; exact qL))
        · have hjl : ¬ (j : Int) < 6 := by omega
          obtain rfl : j = 6 := by omega
          have e6 : (i + 1) * 6 * 4 = (i * 6 + 6) * 4 := by omega
          cases n with
          | zero =>
            simp -implicitDefEqProofs only [lk_normal, outV_zero, outH_zero, hjl, ZB, Int.reduceToNat, Nat.reduceLT, Nat.reduceLeDiff, Int.reduceLE, Int.reduceLT, Nat.reduceEqDiff, Nat.reduceSub, SB, SV.known, packR, ne_eq, reduceCtorEq, Nat.reduceEqDiff, ↓reduceIte, if_true, if_false, eq_self, Nat.reduceAdd, Nat.reduceMul, Nat.reduceSub, forall_const, oneCellS, litOne, flat1, Kd.isSca, flat, TYB]
            (try (and_intros <;> try (first | omega | (unfold In64; omega) | trivial | assumption)))
            refine ⟨(i + 1, 0, cap, junk), ?_, ?_, Sub.mk_id ?_ ?_ ?_ ?_ ?_⟩
            all_goals (try (simp only [outV_zero, outH_zero, e6, LB, subS, subH, wfS, wfH, SV.ren, renL, SObj.ren, SV.wf, SObj.wf, wfL, SV.known, Nat.reduceEqDiff, ↓reduceIte, if_true, if_false, eq_self, Nat.reduceAdd, Nat.reduceLT, Nat.reduceLeDiff, implies_true, reduceCtorEq, forall_const]; done))
            all_goals (try (simp only [outV_zero, outH_zero, e6, LB, subS, subH, wfS, wfH, SV.ren, renL, SObj.ren, SV.wf, SObj.wf, wfL, SV.known, Nat.reduceEqDiff, ↓reduceIte, if_true, if_false, eq_self, Nat.reduceAdd, Nat.reduceLT, Nat.reduceLeDiff, implies_true, reduceCtorEq, forall_const]; simp; done))
            all_goals (try (simp only [outV_zero, outH_zero, e6, LB, subS, subH, wfS, wfH, SV.ren, renL, SObj.ren, SV.wf, SObj.wf, wfL, SV.known, Nat.reduceEqDiff, ↓reduceIte, if_true, if_false, eq_self, Nat.reduceAdd, Nat.reduceLT, Nat.reduceLeDiff, implies_true, reduceCtorEq, forall_const]; (and_intros <;> (first | omega | rfl | (simp; done) | (simp; omega))); done))
            all_goals (try dsimp only)
            all_goals (and_intros <;> try (first | omega | (unfold In64; omega) | trivial | assumption))
            all_goals (try (rw [e6]; exact gL))
          | succ n =>
            simp -implicitDefEqProofs only [lk_normal, outV_succ, outH_succ, hjl, ZB, Int.reduceToNat, Nat.reduceLT, Nat.reduceLeDiff, Int.reduceLE, Int.reduceLT, Nat.reduceEqDiff, Nat.reduceSub, SB, SV.known, packR, ne_eq, reduceCtorEq, Nat.reduceEqDiff, ↓reduceIte, if_true, if_false, eq_self, Nat.reduceAdd, Nat.reduceMul, Nat.reduceSub, forall_const, oneCellS, litOne, flat1, Kd.isSca, flat, TYB]
            (try (and_intros <;> try (first | omega | (unfold In64; omega) | trivial | assumption)))
            refine ⟨(i + 1, n + 1, cap, junk), ?_, ?_, Sub.mk_id ?_ ?_ ?_ ?_ ?_⟩
            all_goals (try (simp only [outV_succ, outH_succ, e6, LB, subS, subH, wfS, wfH, SV.ren, renL, SObj.ren, SV.wf, SObj.wf, wfL, SV.known, Nat.reduceEqDiff, ↓reduceIte, if_true, if_false, eq_self, Nat.reduceAdd, Nat.reduceLT, Nat.reduceLeDiff, implies_true, reduceCtorEq, forall_const]; done))
            all_goals (try (simp only [outV_succ, outH_succ, e6, LB, subS, subH, wfS, wfH, SV.ren, renL, SObj.ren, SV.wf, SObj.wf, wfL, SV.known, Nat.reduceEqDiff, ↓reduceIte, if_true, if_false, eq_self, Nat.reduceAdd, Nat.reduceLT, Nat.reduceLeDiff, implies_true, reduceCtorEq, forall_const]; simp; done))
            all_goals (try (simp only [outV_succ, outH_succ, e6, LB, subS, subH, wfS, wfH, SV.ren, renL, SObj.ren, SV.wf, SObj.wf, wfL, SV.known, Nat.reduceEqDiff, ↓reduceIte, if_true, if_false, eq_self, Nat.reduceAdd, Nat.reduceLT, Nat.reduceLeDiff, implies_true, reduceCtorEq, forall_const]; (and_intros <;> (first | omega | rfl | (simp; done) | (simp; omega))); done))
            all_goals (try dsimp only)
            all_goals (and_intros <;> try (first | omega | (unfold In64; omega) | trivial | assumption))
            all_goals (try (rw [e6]; exact gL))
    · have hil : ¬ (i : Int) < 6 := by omega
      obtain rfl : i = 6 := by omega
      have hL' : (SrL R 144).length = n * 3 := hL
      have kn : ∀ a b c, (outV a b c).known = true := fun a b c => by cases a <;> rfl
      simp -implicitDefEqProofs only [lk_normal, hil, ZB, Int.reduceToNat, Nat.reduceLT, Nat.reduceLeDiff, Int.reduceLE, Int.reduceLT, Nat.reduceEqDiff, Nat.reduceSub, SB, SV.known, packR, ne_eq, reduceCtorEq, Nat.reduceEqDiff, ↓reduceIte, if_true, if_false, eq_self, Nat.reduceAdd, Nat.reduceMul, Nat.reduceSub, forall_const, oneCellS, litOne, flat1, Kd.isSca, flat, TYB]
      cases n with
      | zero =>
        refine ⟨rfl, .inl ⟨rfl, List.length_eq_zero_iff.1 (by simpa using hL'), rfl⟩⟩
      | succ n =>
        refine ⟨rfl, .inr ⟨1, cap, junk, ?_, ?_, by omega, ?_, ?_⟩⟩
        · rw [hL']; simp [Wrap.ap, outV_succ]
        · simp [hget_cons, outH_succ]
        · omega
        · intro _ h0
          rw [h0] at hL'
          simp at hL'
def sources_F : List SV → Heap → Nat → Nat → K1 → Prop
  | [.arr R], H, n, _, κ => (R.length = 24 ∧ rackB R = true) ∧ freshK .one (SrL R 144) ((SrL R 144).length / 3) 3 48 true H n κ
  | _, _, _, _, _ => False
--@tbl sources = impl.sources
theorem sources_T : ∀ args H n m κ, sources_F args H n m κ → GenOK Tryz.prog 89 args H n m κ := by
  intro args H n m κ h
  unfold sources_F at h
  split at h
  · exact gen_of_fresh (sources_ok _ h.1.1 h.1.2) (fun k o hk => by cases hk) h.2
  · exact h.elim
def l5Sources_F : List SV → Heap → Nat → Nat → K1 → Prop
  | [.arr R], H, n, _, κ => (R.length = 24 ∧ rackB R = true) ∧ freshK .one (SrL R 144) ((SrL R 144).length / 3) 3 48 false H n κ
  | _, _, _, _, _ => False
--@tbl l5Sources = spec.l5Sources
theorem l5Sources_T : ∀ args H n m κ, l5Sources_F args H n m κ → GenOK Tryz.prog 90 args H n m κ := by
  intro args H n m κ h
  unfold l5Sources_F at h
  split at h
  · exact gen_of_fresh (l5Sources_ok _ h.1.1 h.1.2) (fun k o hk => by cases hk) h.2
  · exact h.elim
end Go.Proofs.YtmccafjblhbmkaaGreat
set_option maxRecDepth 100000
set_option linter.unusedSimpArgs false
set_option linter.unusedVariables false
namespace Go.Proofs.YtmccafjblhbmkaaGreat
open Go Go.RowKit
--@tbl eqS2 = laws.eqIntA2S
/-! Marks. -/
theorem gen_of_pure {P : Program} {f : FuncId} {args : List SV} {H : Heap} {n m : Nat} {v : SV} {κ : K1} (h : PureH P f args H v) (hk : κ v H n) : GenOK P f args H n m κ :=
  ⟨h.ent, fun B M w hH hwH hwa hown hM => (h.call B w hH).mono fun e w' hh => ⟨v, H, n, B, hh.1, hk, Nat.le_refl _, h.wf n hwa hwH, hwH, fun _ _ => rfl, hH.of_below hh.2, hown, Kept.of_below hh.2⟩⟩
end Go.Proofs.YtmccafjblhbmkaaGreat
set_option maxRecDepth 100000
set_option linter.unusedSimpArgs false
set_option linter.unusedVariables false
namespace Go.Proofs.YtmccafjblhbmkaaGreat
open Go Go.RowKit
end Go.Proofs.YtmccafjblhbmkaaGreat
set_option maxRecDepth 100000
set_option linter.unusedSimpArgs false
set_option linter.unusedVariables false
namespace Go.Proofs.YtmccafjblhbmkaaGreat
open Go Go.RowKit
--@tbl l2Before = spec.l2Before
/-! A strictly sorted list that takes one more. -/
end Go.Proofs.YtmccafjblhbmkaaGreat
set_option maxRecDepth 100000
set_option linter.unusedSimpArgs false
set_option linter.unusedVariables false
namespace Go.Proofs.YtmccafjblhbmkaaGreat
open Go Go.RowKit
--@tbl eqSR = laws.eqRackS
/-! Marks: nothing in a rack can be marked. -/
--@tbl markR = laws.markRackS
--@tbl heldR = laws.heldRackS
end Go.Proofs.YtmccafjblhbmkaaGreat
set_option maxRecDepth 100000
set_option linter.unusedSimpArgs false
set_option linter.unusedVariables false
namespace Go.Proofs.YtmccafjblhbmkaaGreat
open Go Go.RowKit
/-! Racks sorted and compacted are racks put to their places one by one. -/
end Go.Proofs.YtmccafjblhbmkaaGreat
set_option maxRecDepth 100000
set_option linter.unusedSimpArgs false
set_option linter.unusedVariables false
namespace Go.Proofs.YtmccafjblhbmkaaGreat
open Go Go.RowKit
def chkR (L : List Int) (off len : Nat) : List (List Int) := (List.range len).map fun i => (L.drop (off + i * 24)).take 24
theorem chkR_len (L : List Int) (off len : Nat) : (chkR L off len).length = len := by simp [chkR]
theorem chkR_getD (L : List Int) (off len k : Nat) (h : k < len) : (chkR L off len).getD k [] = (L.drop (off + k * 24)).take 24 := by simp [chkR, List.getD, h]
theorem indexFuncR_ok (g : Nat) (caps : List SV) (H Hc : Heap) (pr : List Int → Bool) (n0 b : Nat) (L : List Int) (e len cap : Nat) (hb : hget H b = some (.ints L e)) (hl : len * 24 ≤ L.length) (hm : len ≤ 9223372036854775806)
    (Q : List Int → Prop) (hQ : ∀ i, i < len → Q ((L.drop (i * 24)).take 24)) (hc : ∀ x : List Int, Q x → PureH Tryz.prog g (.arr x :: caps) Hc (.bool (pr x))) (hE : Ext Hc H) (hw : wfL n0 caps) (hwH : hwf n0 H) :
    PureH Tryz.prog 142 [.slice b 0 len cap, .fn g caps] H (.int (idxG pr (chkR L 0 len))) := by
  have hE2 := chkR_len L 0 len
  have h00 : b < n0 := (hwH b _ hb).1
  refine pure_of_vc (X := ⟨Tryz.prog, tys, [(g, fun args H' => match args with | .arr x :: r => some (r = caps ∧ Ext Hc H' ∧ Q x, .bool (pr x)) | _ => none)], [], true, true, n0, [], []⟩) fn_142
    ⟨tys_ok, .cons (fun args H' p v h hp => ?_) .nil, .nil, mixed⟩ (n0 := n0) (Nat.le_of_ble_eq_true rfl) ⟨by simpa [SV.wf] using h00, by simpa [SV.wf] using hw, trivial⟩ hwH (Nat.le_refl _) (fun _ => trivial) ?_
  · split at h
    · cases h
      obtain ⟨rfl, hx1, hx⟩ := hp
      exact (hc _ hx).weaken hx1 (fun _ => trivial)
    · cases h
  simp -implicitDefEqProofs only [Tryz.f142, Option.getD_some, argS, hb, SB, SV.known, packR, ne_eq, reduceCtorEq, Nat.reduceEqDiff, ↓reduceIte, if_true, if_false, eq_self, Nat.reduceAdd, Nat.reduceMul, Nat.reduceSub, forall_const, oneCellS, litOne, flat1, Kd.isSca, flat, TYB]
  refine loop_intro (fun i : Nat => [(0, .slice b 0 len cap), (1, .fn g caps), (7, .int len), (8, .int i)]) (fun i => H) n0 (fun i => i ≤ len ∧ ∀ k, k < i → pr ((chkR L 0 len).getD k []) = false) (fun i => len - i) ?_ ?_
  · refine ⟨0, ⟨by omega, by simp⟩, Sub.same ?_ ?_ hwH (Nat.le_refl _)⟩
    · simp [subS, subH, wfS, wfH, SV.ren, renL, SObj.ren, SV.wf, SObj.wf, wfL, sget_cons, hget_cons, SV.known, renL_id]
    · simp [subS, subH, wfS, wfH, SV.ren, renL, SObj.ren, SV.wf, SObj.wf, wfL, sget_cons, hget_cons, hw, h00]
  · intro i hi
    obtain ⟨hi1, hi2⟩ := hi
    simp -implicitDefEqProofs only [lk_normal, hb, SB, SV.known, packR, ne_eq, reduceCtorEq, Nat.reduceEqDiff, ↓reduceIte, if_true, if_false, eq_self, Nat.reduceAdd, Nat.reduceMul, Nat.reduceSub, forall_const, oneCellS, litOne, flat1, Kd.isSca, flat, TYB]
    refine ⟨fun h => ?_, fun h => ?_⟩
    · have hlt : i < len := by omega
      have e1 : 0 + (i : Int).toNat * 24 = i * 24 := by simp
      have e2 : (L.drop (i * 24)).take 24 = (chkR L 0 len).getD i [] := by rw [chkR_getD L 0 len i hlt, Nat.zero_add]
      have e3 : Q ((chkR L 0 len).getD i []) := by rw [← e2]; exact hQ i hlt
      simp only [Int.toNat_natCast, Nat.zero_add, e2]
      refine ⟨by omega, by omega, by omega, ⟨hE, e3⟩, ?_⟩
      cases hp : pr ((chkR L 0 len).getD i []) with
      | true =>
        simp -implicitDefEqProofs only [SB, SV.known, packR, ne_eq, reduceCtorEq, Nat.reduceEqDiff, ↓reduceIte, if_true, if_false, eq_self, Nat.reduceAdd, Nat.reduceMul, Nat.reduceSub, forall_const, oneCellS, litOne, flat1, Kd.isSca, flat, TYB]
        rw [idxG_hit (by omega) hp hi2]
      | false =>
        simp -implicitDefEqProofs only [lk_normal, SB, SV.known, packR, ne_eq, reduceCtorEq, Nat.reduceEqDiff, ↓reduceIte, if_true, if_false, eq_self, Nat.reduceAdd, Nat.reduceMul, Nat.reduceSub, forall_const, oneCellS, litOne, flat1, Kd.isSca, flat, TYB]
        refine ⟨by unfold In64; omega, i + 1, ⟨by omega, fun k hk => ?_⟩, by omega, Sub.same ?_ ?_ hwH (Nat.le_refl _)⟩
        · by_cases hki : k = i
          · subst hki; exact hp
          · exact hi2 k (by omega)
        · simp [subS, subH, wfS, wfH, SV.ren, renL, SObj.ren, SV.wf, SObj.wf, wfL, sget_cons, hget_cons, SV.known, renL_id]
        · simp [subS, subH, wfS, wfH, SV.ren, renL, SObj.ren, SV.wf, SObj.wf, wfL, sget_cons, hget_cons, hw, h00]
    · obtain rfl : i = len := by omega
      rw [idxG_none (by rw [hE2]; exact hi2)]
end Go.Proofs.YtmccafjblhbmkaaGreat
set_option maxRecDepth 100000
set_option linter.unusedSimpArgs false
set_option linter.unusedVariables false
namespace Go.Proofs.YtmccafjblhbmkaaGreat
open Go Go.RowKit
/-! What is left of a law that compares lists of racks. -/
/-! Gardens before. -/
end Go.Proofs.YtmccafjblhbmkaaGreat
set_option maxRecDepth 100000
set_option linter.unusedSimpArgs false
set_option linter.unusedVariables false
namespace Go.Proofs.YtmccafjblhbmkaaGreat
open Go Go.RowKit
end Go.Proofs.YtmccafjblhbmkaaGreat
set_option maxRecDepth 100000
set_option linter.unusedSimpArgs false
set_option linter.unusedVariables false
namespace Go.Proofs.YtmccafjblhbmkaaGreat
open Go Go.RowKit
end Go.Proofs.YtmccafjblhbmkaaGreat
set_option maxRecDepth 100000
set_option linter.unusedSimpArgs false
set_option linter.unusedVariables false
namespace Go.Proofs.YtmccafjblhbmkaaGreat
open Go Go.RowKit
--@tbl eqSource = laws.eqSource
--@tbl eqS3 = laws.eqSourceS
/-! Marks. -/
--@tbl mark3 = laws.markSourceS
--@tbl held3 = laws.heldSourceS
end Go.Proofs.YtmccafjblhbmkaaGreat
set_option maxRecDepth 100000
set_option linter.unusedSimpArgs false
set_option linter.unusedVariables false
namespace Go.Proofs.YtmccafjblhbmkaaGreat
open Go Go.RowKit
--@tbl toIntA2 = laws.toIntA2
end Go.Proofs.YtmccafjblhbmkaaGreat
set_option maxRecDepth 100000
set_option linter.unusedSimpArgs false
set_option linter.unusedVariables false
namespace Go.Proofs.YtmccafjblhbmkaaGreat
open Go Go.RowKit
/-- Depths that a rack fits. -/
def forB (R D : List Int) : Bool := rackB R && D.all isDep && fitF R D
/-! Moved layers. -/
end Go.Proofs.YtmccafjblhbmkaaGreat
set_option maxRecDepth 100000
set_option linter.unusedSimpArgs false
set_option linter.unusedVariables false
namespace Go.Proofs.YtmccafjblhbmkaaGreat
open Go Go.RowKit
/-! CountRules. -/
end Go.Proofs.YtmccafjblhbmkaaGreat
set_option maxRecDepth 100000
set_option linter.unusedSimpArgs false
set_option linter.unusedVariables false
namespace Go.Proofs.YtmccafjblhbmkaaGreat
open Go Go.RowKit
theorem GL_pair' (c : Nat → Nat → Bool) (i : Nat) (junk : List Int) (h : i * 2 + 2 ≤ (GL c 36).length) : ∃ a b : Nat, a < 6 ∧ b < 6 ∧ c a b = true ∧ (((GL c 36) ++ junk).drop (i * 2)).take 2 = [(a : Int), (b : Int)] := by
  obtain ⟨a, b, h1, h2, h3, h4⟩ := GL_pair c 36 (by omega) i h
  refine ⟨a, b, h1, h2, h3, ?_⟩
  rw [List.drop_append_of_le_length (by omega), List.take_append_of_le_length (by rw [List.length_drop]; omega)]
  exact h4
/-! DeleteFunc with a closure over a rack and depths. -/
/-! The lists. -/
end Go.Proofs.YtmccafjblhbmkaaGreat
set_option maxRecDepth 100000
set_option linter.unusedSimpArgs false
set_option linter.unusedVariables false
namespace Go.Proofs.YtmccafjblhbmkaaGreat
open Go Go.RowKit
def goodF (R p : List Int) : Bool := decide (bndF (pourF R (p.getD 0 0).toNat (p.getD 1 0).toNat) < bndF R)
def qCan (R p : List Int) : Prop := rackB R = true ∧ okP p ∧ canF R (p.getD 0 0) (p.getD 1 0) = true
theorem qCan_of {R : List Int} (hr : rackB R = true) (i : Nat) (junk : List Int) (h : i * 2 + 2 ≤ (PL R 36).length) : qCan R (List.take 2 (List.drop (i * 2) (PL R 36 ++ junk))) := by
  obtain ⟨a, b, h1, h2, h3, h4⟩ := GL_pair' (fun i j => canF R i j) i junk h
  rw [PL_GL, h4]
  exact ⟨hr, ⟨rfl, by simp only [List.getD_cons_zero]; omega, by simp only [List.getD_cons_succ, List.getD_cons_zero]; omega⟩, h3⟩
theorem qCan_pair {R : List Int} (hr : rackB R = true) (i : Nat) (h : i * 2 + 2 ≤ (PL R 36).length) : canF R ((PL R 36).getD (i * 2) 0) ((PL R 36).getD (i * 2 + 1) 0) = true := by
  have h1 := (qCan_of hr i [] h).2.2
  rw [List.append_nil, take2_drop _ _ (by omega)] at h1
  exact h1
--@tbl isGood = impl.isGood
--@tbl gDel = slices.DeleteFunc[[][2]int,[2]int]
def gdL (R : List Int) : List Int := kept (fun p => goodF R p) (PL R 36) ((PL R 36).length / 2)
def undF (R p : List Int) : Bool := canF (pourF R (p.getD 0 0).toNat (p.getD 1 0).toNat) (p.getD 1 0) (p.getD 0 0) && decide (pourF (pourF R (p.getD 0 0).toNat (p.getD 1 0).toNat) (p.getD 1 0).toNat (p.getD 0 0).toNat = R)
--@tbl isUndone = impl.isUndone
theorem isUndone_ok (R : List Int) (i j : Int) (hR : R.length = 24) (hi : 0 ≤ i ∧ i ≤ 5) (hj : 0 ≤ j ∧ j ≤ 5) : PureH Tryz.prog 108 [.arr R, .int i, .int j] [] (.bool (undF R [i, j])) := by
  have tkR : R.take 24 = R := List.take_of_length_le (by omega)
  have pl' := pourF_len hR i.toNat j.toNat
  have tkP : (pourF R i.toNat j.toNat).take 24 = pourF R i.toNat j.toNat := List.take_of_length_le (by omega)
  have pl2 := pourF_len pl' j.toNat i.toNat
  have tk2 : (pourF (pourF R i.toNat j.toNat) j.toNat i.toNat).take 24 = pourF (pourF R i.toNat j.toNat) j.toNat i.toNat := List.take_of_length_le (by omega)
  have eqr := eqI_rack
  unfold undF
  simp only [List.getD_cons_zero, List.getD_cons_succ]
  cases hc : canF (pourF R i.toNat j.toNat) j i
  all_goals
    refine pure_of_vc (X := ⟨Tryz.prog, tys, [(101, pour_F), (100, canPour_F)], [], true, true, 0, [], []⟩) fn_108 ⟨tys_ok, (.cons pour_T (.cons canPour_T .nil)), .nil, mixed⟩ (n0 := 0) (Nat.le_of_ble_eq_true rfl) (by simp [wfL, SV.wf]) (wfH_spec (by simp [wfH, SObj.wf])) (Nat.le_refl _) (fun _ => by simp [SV.wf, wfL]) ?_
    simp -implicitDefEqProofs only [Tryz.f108, Option.getD_some, argS, pour_F, canPour_F, hR, tkR, pl', tkP, pl2, tk2, eqr, hc, ZB, Int.reduceToNat, Nat.reduceLT, Nat.reduceLeDiff, Int.reduceLE, Int.reduceLT, Nat.reduceEqDiff, Nat.reduceSub, SB, SV.known, packR, ne_eq, reduceCtorEq, Nat.reduceEqDiff, ↓reduceIte, if_true, if_false, eq_self, Nat.reduceAdd, Nat.reduceMul, Nat.reduceSub, forall_const, oneCellS, litOne, flat1, Kd.isSca, flat, TYB]
  all_goals
    (try (and_intros <;> try (first | omega | (unfold In64; omega) | trivial | assumption)))
def isUndone_F : List SV → Heap → Option (Prop × SV)
  | [.arr R, .int i, .int j], _ => some (R.length = 24 ∧ (0 ≤ i ∧ i ≤ 5) ∧ (0 ≤ j ∧ j ≤ 5), .bool (undF R [i, j]))
  | _, _ => none
theorem isUndone_T : ∀ args H p v, isUndone_F args H = some (p, v) → p → PureH Tryz.prog 108 args H v := by
  intro args H p v h hp
  unfold isUndone_F at h
  split at h
  · cases h; exact (isUndone_ok _ _ _ hp.1 hp.2.1 hp.2.2).any _
  · cases h
--@tbl l5Undone = spec.l5Undone
theorem l5Undone_ok (R : List Int) (i j : Int) (hR : R.length = 24) (hr : rackB R = true) (hi : 0 ≤ i ∧ i ≤ 5) (hj : 0 ≤ j ∧ j ≤ 5) (h : canF R i j = true) : PureH Tryz.prog 111 [.arr R, .int i, .int j] [] (.bool (undF R [i, j])) := by
  have tkR : R.take 24 = R := List.take_of_length_le (by omega)
  have pl' := pourF_len hR i.toNat j.toNat
  have tkP : (pourF R i.toNat j.toNat).take 24 = pourF R i.toNat j.toNat := List.take_of_length_le (by omega)
  have pl2 := pourF_len pl' j.toNat i.toNat
  have tk2 : (pourF (pourF R i.toNat j.toNat) j.toNat i.toNat).take 24 = pourF (pourF R i.toNat j.toNat) j.toNat i.toNat := List.take_of_length_le (by omega)
  have hr' := pour_rack hR hr hi hj h
  have eqr := eqI_rack
  unfold undF
  simp only [List.getD_cons_zero, List.getD_cons_succ]
  cases hc : canF (pourF R i.toNat j.toNat) j i
  all_goals
    refine pure_of_vc (X := ⟨Tryz.prog, tys, [(77, l2Pour_F), (110, l2Can_F)], [], true, true, 0, [], []⟩) fn_111 ⟨tys_ok, (.cons l2Pour_T (.cons l2Can_T .nil)), .nil, mixed⟩ (n0 := 0) (Nat.le_of_ble_eq_true rfl) (by simp [wfL, SV.wf]) (wfH_spec (by simp [wfH, SObj.wf])) (Nat.le_refl _) (fun _ => by simp [SV.wf, wfL]) ?_
    simp -implicitDefEqProofs only [Tryz.f111, Option.getD_some, argS, l2Pour_F, l2Can_F, hR, tkR, hr, hr', pl', tkP, pl2, tk2, eqr, hc, ZB, Int.reduceToNat, Nat.reduceLT, Nat.reduceLeDiff, Int.reduceLE, Int.reduceLT, Nat.reduceEqDiff, Nat.reduceSub, SB, SV.known, packR, ne_eq, reduceCtorEq, Nat.reduceEqDiff, ↓reduceIte, if_true, if_false, eq_self, Nat.reduceAdd, Nat.reduceMul, Nat.reduceSub, forall_const, oneCellS, litOne, flat1, Kd.isSca, flat, TYB]
  all_goals
    (try (and_intros <;> try (first | omega | (unfold In64; omega) | trivial | assumption)))
def l5Undone_F : List SV → Heap → Option (Prop × SV)
  | [.arr R, .int i, .int j], _ => some (R.length = 24 ∧ rackB R = true ∧ (0 ≤ i ∧ i ≤ 5) ∧ (0 ≤ j ∧ j ≤ 5) ∧ canF R i j = true, .bool (undF R [i, j]))
  | _, _ => none
theorem l5Undone_T : ∀ args H p v, l5Undone_F args H = some (p, v) → p → PureH Tryz.prog 111 args H v := by
  intro args H p v h hp
  unfold l5Undone_F at h
  split at h
  · cases h; exact (l5Undone_ok _ _ _ hp.1 hp.2.1 hp.2.2.1 hp.2.2.2.1 hp.2.2.2.2).any _
  · cases h
theorem und1_ok (R : List Int) (e : Nat) (p : List Int) (hR : R.length = 24) (hq : okP p) : PureH Tryz.prog 113 [.arr p, .ptr 0 0] [(0, .ints R e)] (.bool (!undF R p)) := by
  have tkR : R.take 24 = R := List.take_of_length_le (by omega)
  have tkp := okP_take hq
  obtain ⟨pl, b0, b1⟩ := hq
  have e2 : undF R [p.getD 0 0, p.getD 1 0] = undF R p := rfl
  refine pure_of_vc (X := ⟨Tryz.prog, tys, [(108, isUndone_F)], [], true, true, 1, [], []⟩) fn_113 ⟨tys_ok, (.cons isUndone_T .nil), .nil, mixed⟩ (n0 := 1) (Nat.le_of_ble_eq_true rfl) (by simp [wfL, SV.wf]) (wfH_spec (by simp [wfH, SObj.wf])) (Nat.le_refl _) (fun _ => by simp [SV.wf, wfL]) ?_
  simp -implicitDefEqProofs only [Tryz.f113, Option.getD_some, argS, isUndone_F, hR, tkR, tkp, pl, e2, ZB, Int.reduceToNat, Nat.reduceLT, Nat.reduceLeDiff, Int.reduceLE, Int.reduceLT, Nat.reduceEqDiff, Nat.reduceSub, SB, SV.known, packR, ne_eq, reduceCtorEq, Nat.reduceEqDiff, ↓reduceIte, if_true, if_false, eq_self, Nat.reduceAdd, Nat.reduceMul, Nat.reduceSub, forall_const, oneCellS, litOne, flat1, Kd.isSca, flat, TYB]
  exact ⟨b0, b1⟩
--@w
def unL (R : List Int) : List Int := kept (fun p => undF R p) (PL R 36) ((PL R 36).length / 2)
theorem unL_even (R : List Int) : ∃ k, (unL R).length = k * 2 ∧ k ≤ 36 := by
  obtain ⟨m, hm, hm36⟩ := PL_even R 36
  obtain ⟨k, hk, hkm⟩ := kept_even (fun p => undF R p) (PL R 36) m (by omega)
  have e2 : (PL R 36).length / 2 = m := by omega
  exact ⟨k, by unfold unL; rw [e2]; exact hk, by omega⟩
def uuDel_F := delR_F 113 (fun R p => !undF R p) (fun _ p => okP p)
--@tbl uuDel = slices.DeleteFunc[[][2]int,[2]int]
theorem uuDel_T : ∀ args H n m κ, uuDel_F args H n m κ → GenOK Tryz.prog 112 args H n m κ := delR_T _ _ _ (by decide) und1_ok
def upnF (R : List Int) : List Int := if rackB R = true then unL R else []
theorem upnF_even (R : List Int) : ∃ k, (upnF R).length = k * 2 ∧ k ≤ 36 := by
  unfold upnF
  split
  · exact unL_even R
  · exact ⟨0, rfl, by omega⟩
theorem UndonePours_ok (R : List Int) (hR : R.length = 24) : FreshP Tryz.prog 51 [.arr R] [] (upnF R) ((upnF R).length / 2) 2 65 (decide (rackB R = false ∨ PL R 36 = [])) (.more [.bool (rackB R)]) := by
  have tkR : R.take 24 = R := List.take_of_length_le (by omega)
  unfold upnF
  cases hr : rackB R
  · refine fresh_of_vc (X := ⟨Tryz.prog, tys, [(62, IsRack_F)], [(102, pours_F), (112, uuDel_F)], true, true, 0, [], []⟩) fn_51 ⟨tys_ok, (.cons IsRack_T .nil), (.cons pours_T (.cons uuDel_T .nil)), mixed⟩ (n0 := 0) rfl (Nat.le_of_ble_eq_true rfl) (by simp [wfL, SV.wf]) (wfH_spec (by simp [wfH, SObj.wf])) (Nat.le_refl _) ?_
    simp -implicitDefEqProofs only [Tryz.f51, Option.getD_some, argS, IsRack_F, pours_F, uuDel_F, hR, tkR, hr, freshK, Wrap.ap, uuDel_F, delR_F, Bool.not_not, ZB, Int.reduceToNat, Nat.reduceLT, Nat.reduceLeDiff, Int.reduceLE, Int.reduceLT, Nat.reduceEqDiff, Nat.reduceSub, SB, SV.known, packR, ne_eq, reduceCtorEq, Nat.reduceEqDiff, ↓reduceIte, if_true, if_false, eq_self, Nat.reduceAdd, Nat.reduceMul, Nat.reduceSub, forall_const, oneCellS, litOne, flat1, Kd.isSca, flat, TYB]
    exact .inl ⟨by simp, rfl, rfl⟩
  · refine fresh_of_vc (X := ⟨Tryz.prog, tys, [(62, IsRack_F)], [(102, pours_F), (112, uuDel_F)], true, true, 0, [], []⟩) fn_51 ⟨tys_ok, (.cons IsRack_T .nil), (.cons pours_T (.cons uuDel_T .nil)), mixed⟩ (n0 := 0) rfl (Nat.le_of_ble_eq_true rfl) (by simp [wfL, SV.wf]) (wfH_spec (by simp [wfH, SObj.wf])) (Nat.le_refl _) ?_
    simp -implicitDefEqProofs only [Tryz.f51, Option.getD_some, argS, IsRack_F, pours_F, uuDel_F, hR, tkR, hr, freshK, Wrap.ap, uuDel_F, delR_F, Bool.not_not, ZB, Int.reduceToNat, Nat.reduceLT, Nat.reduceLeDiff, Int.reduceLE, Int.reduceLT, Nat.reduceEqDiff, Nat.reduceSub, SB, SV.known, packR, ne_eq, reduceCtorEq, Nat.reduceEqDiff, ↓reduceIte, if_true, if_false, eq_self, Nat.reduceAdd, Nat.reduceMul, Nat.reduceSub, forall_const, oneCellS, litOne, flat1, Kd.isSca, flat, TYB]
    obtain ⟨m, hm, hm36⟩ := PL_even R 36
    have e2 : (PL R 36).length / 2 = m := by omega
    have uf : unL R = kept (fun p => undF R p) (PL R 36) m := by unfold unL; rw [e2]
    refine ⟨fun h0 => ?_, fun h0 cap junk hj => ?_⟩
    · refine .inl ⟨by simp [h0], ?_, rfl⟩
      rw [uf, show m = 0 by rw [h0] at hm; simp at hm; omega]; rfl
    · have ka := kept_app (fun p => undF R p) (PL R 36) junk m (by omega)
      obtain ⟨k, hk, hkm⟩ := kept_even (fun p => undF R p) (PL R 36) m (by omega)
      rw [e2, ka]
      refine ⟨by rw [List.length_append]; omega, by omega, by omega, fun i hi => ?_, .inr ⟨1, cap, List.replicate (m * 2 - (kept (fun p => undF R p) (PL R 36) m).length) 0 ++ List.drop (m * 2) (PL R 36 ++ junk), ?_, ?_, by omega, ?_, by simp [h0]⟩⟩
      · exact (qCan_of hr i junk (by omega)).2.1
      · rw [uf]; rfl
      · rw [uf, hget_cons, if_pos rfl, List.append_assoc]
      · rw [uf, List.length_append, List.length_replicate, List.length_drop, List.length_append]
        omega
theorem sUndonePours_ok (R : List Int) (hR : R.length = 24) : FreshP Tryz.prog 52 [.arr R] [] (upnF R) ((upnF R).length / 2) 2 65 false (.more [.bool (rackB R)]) := by
  have tkR : R.take 24 = R := List.take_of_length_le (by omega)
  unfold upnF
  cases hr : rackB R
  · refine fresh_of_vc (X := ⟨Tryz.prog, tys, [(64, l2Rack_F), (111, l5Undone_F)], [(97, l2Pours_F)], true, true, 0, [], []⟩) fn_52 ⟨tys_ok, (.cons l2Rack_T (.cons l5Undone_T .nil)), (.cons l2Pours_T .nil), mixed⟩ (n0 := 0) rfl (Nat.le_of_ble_eq_true rfl) (by simp [wfL, SV.wf]) (wfH_spec (by simp [wfH, SObj.wf])) (Nat.le_refl _) ?_
    simp -implicitDefEqProofs only [Tryz.f52, Option.getD_some, argS, l2Rack_F, l5Undone_F, l2Pours_F, hR, tkR, hr, freshK, Wrap.ap, ZB, Int.reduceToNat, Nat.reduceLT, Nat.reduceLeDiff, Int.reduceLE, Int.reduceLT, Nat.reduceEqDiff, Nat.reduceSub, SB, SV.known, packR, ne_eq, reduceCtorEq, Nat.reduceEqDiff, ↓reduceIte, if_true, if_false, eq_self, Nat.reduceAdd, Nat.reduceMul, Nat.reduceSub, forall_const, oneCellS, litOne, flat1, Kd.isSca, flat, TYB]
    exact .inr ⟨1, 0, [], by simp [Wrap.ap], by simp [hget_cons], by omega, by simp, by simp⟩
  obtain ⟨m, hm, hm36⟩ := PL_even R 36
  have e2 : (PL R 36).length / 2 = m := by omega
  have uf : unL R = kept (fun p => undF R p) (PL R 36) m := by unfold unL; rw [e2]
  refine fresh_of_vc (X := ⟨Tryz.prog, tys, [(64, l2Rack_F), (111, l5Undone_F)], [(97, l2Pours_F)], true, true, 0, [], []⟩) fn_52 ⟨tys_ok, (.cons l2Rack_T (.cons l5Undone_T .nil)), (.cons l2Pours_T .nil), mixed⟩ (n0 := 0) rfl (Nat.le_of_ble_eq_true rfl) (by simp [wfL, SV.wf]) (wfH_spec (by simp [wfH, SObj.wf])) (Nat.le_refl _) ?_
  simp -implicitDefEqProofs only [Tryz.f52, Option.getD_some, argS, l2Rack_F, l5Undone_F, l2Pours_F, hR, tkR, hr, e2, freshK, Wrap.ap, ZB, Int.reduceToNat, Nat.reduceLT, Nat.reduceLeDiff, Int.reduceLE, Int.reduceLT, Nat.reduceEqDiff, Nat.reduceSub, SB, SV.known, packR, ne_eq, reduceCtorEq, Nat.reduceEqDiff, ↓reduceIte, if_true, if_false, eq_self, Nat.reduceAdd, Nat.reduceMul, Nat.reduceSub, forall_const, oneCellS, litOne, flat1, Kd.isSca, flat, TYB]
  have hbd : Bd 0 5 (PL R 36) := PL_bd R 36 (by omega)
  rw [uf]
  have hcan := fun i h => qCan_pair (i := i) hr h
  generalize PL R 36 = P at *
  intro cap junk hj
  refine loop_intro (fun s : Nat × Nat × Nat × List Int => [(6, .int s.1), (5, .slice 2 0 m cap), (4, .slice 1 0 s.2.1 s.2.2.1), (1, .ptr 0 0)]) (fun s => [(1, .ints (kept (fun p => undF R p) P s.1 ++ s.2.2.2) 65), (2, .ints (P ++ junk) 65), (0, .ints R 27)]) 3
    (fun s => s.1 ≤ m ∧ (kept (fun p => undF R p) P s.1).length = s.2.1 * 2 ∧ s.2.1 ≤ s.1 ∧ s.2.2.2.length + s.2.1 * 2 = s.2.2.1 * 2) (fun s => m - s.1) ?_ ?_
  · refine ⟨(0, 0, 0, []), ?_, Sub.mk_id ?_ ?_ ?_ ?_ ?_⟩
    all_goals (try (simp only [kept_zero, List.append_nil, LB, subS, subH, wfS, wfH, SV.ren, renL, SObj.ren, SV.wf, SObj.wf, wfL, SV.known, Nat.reduceEqDiff, ↓reduceIte, if_true, if_false, eq_self, Nat.reduceAdd, Nat.reduceLT, Nat.reduceLeDiff, implies_true, reduceCtorEq, forall_const]; done))
    all_goals (try (simp only [kept_zero, List.append_nil, LB, subS, subH, wfS, wfH, SV.ren, renL, SObj.ren, SV.wf, SObj.wf, wfL, SV.known, Nat.reduceEqDiff, ↓reduceIte, if_true, if_false, eq_self, Nat.reduceAdd, Nat.reduceLT, Nat.reduceLeDiff, implies_true, reduceCtorEq, forall_const]; simp; done))
    all_goals (try (simp only [kept_zero, List.append_nil, LB, subS, subH, wfS, wfH, SV.ren, renL, SObj.ren, SV.wf, SObj.wf, wfL, SV.known, Nat.reduceEqDiff, ↓reduceIte, if_true, if_false, eq_self, Nat.reduceAdd, Nat.reduceLT, Nat.reduceLeDiff, implies_true, reduceCtorEq, forall_const]; (and_intros <;> (first | omega | rfl | (simp; done) | (simp; omega))); done))
    all_goals (try dsimp only)
    all_goals (and_intros <;> try (first | omega | (unfold In64; omega) | trivial | assumption))
    all_goals simp [kept_zero]
  · rintro ⟨i, n, capo, jo⟩ ⟨hi, hL, hni, hjo⟩
    simp only at hi hL hni hjo
    have lenL : (kept (fun p => undF R p) P i ++ jo).length = capo * 2 := by rw [List.length_append]; omega
    have tkL : (kept (fun p => undF R p) P i ++ jo).take (n * 2) = kept (fun p => undF R p) P i := List.take_left' hL
    have lenP : (P ++ junk).length = cap * 2 := by rw [List.length_append]; omega
    by_cases hlt : i < m
    · have hil : (i : Int) < m := by omega
      have g0 := getD_app P junk (i * 2) (by omega)
      have g1 := getD_app P junk (i * 2 + 1) (by omega)
      have bA : 0 ≤ P.getD (i * 2) 0 ∧ P.getD (i * 2) 0 ≤ 5 := hbd.getD (by omega)
      have bB : 0 ≤ P.getD (i * 2 + 1) 0 ∧ P.getD (i * 2 + 1) 0 ≤ 5 := hbd.getD (by omega)
      have eP : List.take 2 (List.drop (i * 2) (P ++ junk)) = [P.getD (i * 2) 0, P.getD (i * 2 + 1) 0] := by
        rw [take2_drop _ _ (by rw [List.length_append]; omega), g0, g1]
      have eQ : List.take 2 (List.drop (i * 2) P) = [P.getD (i * 2) 0, P.getD (i * 2 + 1) 0] := take2_drop _ _ (by omega)
      have es := kept_succ (fun p => undF R p) P i
      rw [eQ] at es
      have hcn := hcan i (by omega)
      cases hc : undF R [P.getD (i * 2) 0, P.getD (i * 2 + 1) 0] with
      | false =>
        rw [hc] at es
        simp only [Bool.false_eq_true, if_false, List.append_nil] at es
        simp -implicitDefEqProofs only [lk_normal, l5Undone_F, hil, hR, tkR, hr, g0, g1, eP, hc, lenP, lenL, tkL, ZB, Int.reduceToNat, Nat.reduceLT, Nat.reduceLeDiff, Int.reduceLE, Int.reduceLT, Nat.reduceEqDiff, Nat.reduceSub, SB, SV.known, packR, ne_eq, reduceCtorEq, Nat.reduceEqDiff, ↓reduceIte, if_true, if_false, eq_self, Nat.reduceAdd, Nat.reduceMul, Nat.reduceSub, forall_const, oneCellS, litOne, flat1, Kd.isSca, flat, TYB]
        (try (and_intros <;> try (first | omega | (unfold In64; omega) | trivial | assumption)))
        refine ⟨(i + 1, n, capo, jo), ?_, ?_, Sub.mk_id ?_ ?_ ?_ ?_ ?_⟩
        all_goals (try (simp only [es, LB, subS, subH, wfS, wfH, SV.ren, renL, SObj.ren, SV.wf, SObj.wf, wfL, SV.known, Nat.reduceEqDiff, ↓reduceIte, if_true, if_false, eq_self, Nat.reduceAdd, Nat.reduceLT, Nat.reduceLeDiff, implies_true, reduceCtorEq, forall_const]; done))
        all_goals (try (simp only [es, LB, subS, subH, wfS, wfH, SV.ren, renL, SObj.ren, SV.wf, SObj.wf, wfL, SV.known, Nat.reduceEqDiff, ↓reduceIte, if_true, if_false, eq_self, Nat.reduceAdd, Nat.reduceLT, Nat.reduceLeDiff, implies_true, reduceCtorEq, forall_const]; simp; done))
        all_goals (try (simp only [es, LB, subS, subH, wfS, wfH, SV.ren, renL, SObj.ren, SV.wf, SObj.wf, wfL, SV.known, Nat.reduceEqDiff, ↓reduceIte, if_true, if_false, eq_self, Nat.reduceAdd, Nat.reduceLT, Nat.reduceLeDiff, implies_true, reduceCtorEq, forall_const]; (and_intros <;> (first | omega | rfl | (simp; done) | (simp; omega))); done))
        all_goals (try dsimp only)
        all_goals (and_intros <;> try (first | omega | (unfold In64; omega) | trivial | assumption))
        all_goals (try (rw [es]; exact hL))
      | true =>
        rw [hc] at es
        simp only [if_true] at es
        simp -implicitDefEqProofs only [lk_normal, l5Undone_F, hil, hR, tkR, hr, g0, g1, eP, hc, lenP, lenL, tkL, ZB, Int.reduceToNat, Nat.reduceLT, Nat.reduceLeDiff, Int.reduceLE, Int.reduceLT, Nat.reduceEqDiff, Nat.reduceSub, SB, SV.known, packR, ne_eq, reduceCtorEq, Nat.reduceEqDiff, ↓reduceIte, if_true, if_false, eq_self, Nat.reduceAdd, Nat.reduceMul, Nat.reduceSub, forall_const, oneCellS, litOne, flat1, Kd.isSca, flat, TYB]
        (try (and_intros <;> try (first | omega | (unfold In64; omega) | trivial | assumption)))
        intro junk' cap' hj'
        (try (and_intros <;> try (first | omega | (unfold In64; omega) | trivial | assumption)))
        refine ⟨(i + 1, n + 1, cap', junk'), ?_, ?_, Sub.mk_to 1 4 ?_ ?_ ?_ ?_ ?_ ?_ ?_⟩
        all_goals (try (simp only [es, LB, subS, subH, wfS, wfH, SV.ren, renL, SObj.ren, SV.wf, SObj.wf, wfL, SV.known, Nat.reduceEqDiff, ↓reduceIte, if_true, if_false, eq_self, Nat.reduceAdd, Nat.reduceLT, Nat.reduceLeDiff, implies_true, reduceCtorEq, forall_const]; done))
        all_goals (try (simp only [es, LB, subS, subH, wfS, wfH, SV.ren, renL, SObj.ren, SV.wf, SObj.wf, wfL, SV.known, Nat.reduceEqDiff, ↓reduceIte, if_true, if_false, eq_self, Nat.reduceAdd, Nat.reduceLT, Nat.reduceLeDiff, implies_true, reduceCtorEq, forall_const]; simp; done))
        all_goals (try (simp only [es, LB, subS, subH, wfS, wfH, SV.ren, renL, SObj.ren, SV.wf, SObj.wf, wfL, SV.known, Nat.reduceEqDiff, ↓reduceIte, if_true, if_false, eq_self, Nat.reduceAdd, Nat.reduceLT, Nat.reduceLeDiff, implies_true, reduceCtorEq, forall_const]; (and_intros <;> (first | omega | rfl | (simp; done) | (simp; omega))); done))
        all_goals (try dsimp only)
        all_goals (and_intros <;> try (first | omega | (unfold In64; omega) | trivial | assumption))
        all_goals (try (rw [es, List.length_append, hL]; simp; omega))
    · have hil : ¬ (i : Int) < m := by omega
      obtain rfl : i = m := by omega
      simp -implicitDefEqProofs only [lk_normal, hil, lenP, lenL, tkL, ZB, Int.reduceToNat, Nat.reduceLT, Nat.reduceLeDiff, Int.reduceLE, Int.reduceLT, Nat.reduceEqDiff, Nat.reduceSub, SB, SV.known, packR, ne_eq, reduceCtorEq, Nat.reduceEqDiff, ↓reduceIte, if_true, if_false, eq_self, Nat.reduceAdd, Nat.reduceMul, Nat.reduceSub, forall_const, oneCellS, litOne, flat1, Kd.isSca, flat, TYB]
      refine .inr ⟨1, capo, jo, ?_, ?_, by omega, ?_, by simp⟩
      · rw [hL]; simp [Wrap.ap]
      · simp [hget_cons]
      · omega
def UndonePours_F : List SV → Heap → Nat → Nat → K1 → Prop
  | [.arr R], H, n, _, κ => (R.length = 24) ∧ freshK (.more [.bool (rackB R)]) (upnF R) ((upnF R).length / 2) 2 65 (decide (rackB R = false ∨ PL R 36 = [])) H n κ
  | _, _, _, _, _ => False
--@tbl UndonePours = impl.UndonePours
theorem UndonePours_T : ∀ args H n m κ, UndonePours_F args H n m κ → GenOK Tryz.prog 51 args H n m κ := by
  intro args H n m κ h
  unfold UndonePours_F at h
  split at h
  · exact gen_of_fresh (UndonePours_ok _ h.1) (fun k o hk => by cases hk) h.2
  · exact h.elim
def sUndonePours_F : List SV → Heap → Nat → Nat → K1 → Prop
  | [.arr R], H, n, _, κ => (R.length = 24) ∧ freshK (.more [.bool (rackB R)]) (upnF R) ((upnF R).length / 2) 2 65 (false) H n κ
  | _, _, _, _, _ => False
--@tbl sUndonePours = spec.UndonePours
theorem sUndonePours_T : ∀ args H n m κ, sUndonePours_F args H n m κ → GenOK Tryz.prog 52 args H n m κ := by
  intro args H n m κ h
  unfold sUndonePours_F at h
  split at h
  · exact gen_of_fresh (sUndonePours_ok _ h.1) (fun k o hk => by cases hk) h.2
  · exact h.elim
end Go.Proofs.YtmccafjblhbmkaaGreat
set_option maxRecDepth 100000
set_option linter.unusedSimpArgs false
set_option linter.unusedVariables false
namespace Go.Proofs.YtmccafjblhbmkaaGreat
open Go Go.RowKit
def stR (R : List Int) : List Int := if gdL R = [] then R else pourF R ((gdL R).getD 0 0).toNat ((gdL R).getD 1 0).toNat
def gpR (R : List Int) : Nat → List Int
  | 0 => R
  | n + 1 => stR (gpR R n)
def gpL (R : List Int) : Nat → List Int
  | 0 => []
  | n + 1 => gpL R n ++ (gdL (gpR R n)).take 2
attribute [local irreducible] gpR gpL gdL pourF bndF canF goodF
end Go.Proofs.YtmccafjblhbmkaaGreat
set_option maxRecDepth 100000
set_option linter.unusedSimpArgs false
set_option linter.unusedVariables false
namespace Go.Proofs.YtmccafjblhbmkaaGreat
open Go Go.RowKit
def cppB (R : List Int) (i j : Int) : Bool := plF i && plF j && canF R i j
theorem cppB_facts {R : List Int} {i j : Int} (h : cppB R i j = true) : (0 ≤ i ∧ i ≤ 5) ∧ (0 ≤ j ∧ j ≤ 5) ∧ canF R i j = true := by
  simp only [cppB, plF, Bool.and_eq_true, decide_eq_true_eq] at h
  exact ⟨h.1.1, h.1.2, h.2⟩
--@tbl canPourPath = impl.canPourPath
--@tbl l6Can = spec.l6Can
/-- A rack behind the first k pours of a list. -/
def paR (R L : List Int) : Nat → List Int
  | 0 => R
  | k + 1 => pourF (paR R L k) (L.getD (k * 2) 0).toNat (L.getD (k * 2 + 1) 0).toNat
theorem paR_zero (R L : List Int) : paR R L 0 = R := rfl
theorem paR_succ (R L : List Int) (k : Nat) : paR R L (k + 1) = pourF (paR R L k) (L.getD (k * 2) 0).toNat (L.getD (k * 2 + 1) 0).toNat := rfl
def paC (R L : List Int) (k : Nat) : Bool := cppB (paR R L k) (L.getD (k * 2) 0) (L.getD (k * 2 + 1) 0)
theorem paR_facts {R L : List Int} (hR : R.length = 24) (hr : rackB R = true) : ∀ k, (∀ i, i < k → paC R L i = true) → (paR R L k).length = 24 ∧ rackB (paR R L k) = true
  | 0, _ => ⟨hR, hr⟩
  | k + 1, h => by
    have ih := paR_facts hR hr k fun i hi => h i (by omega)
    have c := cppB_facts (h k (by omega))
    exact ⟨pourF_len ih.1 _ _, pour_rack ih.1 ih.2 c.1 c.2.1 c.2.2⟩
attribute [local irreducible] pourF bndF canF goodF cppB
end Go.Proofs.YtmccafjblhbmkaaGreat
set_option maxRecDepth 100000
set_option linter.unusedSimpArgs false
set_option linter.unusedVariables false
namespace Go.Proofs.YtmccafjblhbmkaaGreat
open Go Go.RowKit
/-- The first number from i on, below i + f, at which p fails; else i + f. -/
def firstN (p : Nat → Bool) : Nat → Nat → Nat
  | 0, i => i
  | f + 1, i => if p i = true then firstN p f (i + 1) else i
theorem firstN_skip (p : Nat → Bool) (f : Nat) : ∀ d i, (∀ q, i ≤ q → q < i + d → p q = true) → firstN p (d + f) i = firstN p f (i + d)
  | 0, i, _ => by rw [Nat.zero_add, Nat.add_zero]
  | d + 1, i, h => by
    rw [show d + 1 + f = (d + f) + 1 by omega]
    show (if p i = true then firstN p (d + f) (i + 1) else i) = _
    rw [if_pos (h i (by omega) (by omega)), firstN_skip p f d (i + 1) fun q h1 h2 => h q (by omega) (by omega), show i + 1 + d = i + (d + 1) by omega]
theorem firstN_at {p : Nat → Bool} {len i : Nat} (hi : i < len) (h : ∀ q, q < i → p q = true) (hn : p i = false) : firstN p len 0 = i := by
  have := firstN_skip p (len - i) i 0 fun q _ h2 => h q (by omega)
  rw [show i + (len - i) = len by omega, Nat.zero_add] at this
  rw [this, show len - i = (len - i - 1) + 1 by omega]
  show (if p i = true then firstN p (len - i - 1) (i + 1) else i) = _
  rw [hn]; rfl
theorem firstN_end {p : Nat → Bool} {len : Nat} (h : ∀ q, q < len → p q = true) : firstN p len 0 = len := by
  have := firstN_skip p 0 len 0 fun q _ h2 => h q (by omega)
  rw [Nat.add_zero, Nat.zero_add] at this
  exact this
theorem firstN_le (p : Nat → Bool) : ∀ f i, firstN p f i ≤ i + f
  | 0, i => by simp [firstN]
  | f + 1, i => by
    unfold firstN
    split
    · have := firstN_le p f (i + 1); omega
    · omega
theorem firstN_congr {p q : Nat → Bool} : ∀ f i, (∀ k, i ≤ k → k < i + f → p k = q k) → firstN p f i = firstN q f i
  | 0, i, _ => rfl
  | f + 1, i, h => by
    show (if p i = true then firstN p f (i + 1) else i) = if q i = true then firstN q f (i + 1) else i
    rw [h i (by omega) (by omega), firstN_congr f (i + 1) fun k h1 h2 => h k (by omega) (by omega)]
def pbS (R L : List Int) : Nat → List Int
  | 0 => R
  | k + 1 => bkR (pbS R L k) (L.getD (k * 3) 0) (L.getD (k * 3 + 1) 0) (L.getD (k * 3 + 2) 0)
theorem pbS_zero (R L : List Int) : pbS R L 0 = R := rfl
theorem pbS_succ (R L : List Int) (k : Nat) : pbS R L (k + 1) = bkR (pbS R L k) (L.getD (k * 3) 0) (L.getD (k * 3 + 1) 0) (L.getD (k * 3 + 2) 0) := rfl
def pbO (R L : List Int) (k : Nat) : Bool := bkB (pbS R L k) (L.getD (k * 3) 0) (L.getD (k * 3 + 1) 0) (L.getD (k * 3 + 2) 0)
theorem bkB_rack {R : List Int} {i j m : Int} (hR : R.length = 24) (hr : rackB R = true) (h : bkB R i j m = true) : rackB (bkR R i j m) = true := by
  have h2 := bk_21 h
  simp only [bk2, Bool.and_eq_true] at h2
  exact bk_rack hR hr h2.1
theorem pbS_facts {R L : List Int} (hR : R.length = 24) (hr : rackB R = true) : ∀ k, (∀ i, i < k → pbO R L i = true) → (pbS R L k).length = 24 ∧ rackB (pbS R L k) = true
  | 0, _ => ⟨hR, hr⟩
  | k + 1, h => by
    have ih := pbS_facts hR hr k fun i hi => h i (by omega)
    exact ⟨bkR_len ih.1 _ _ _, bkB_rack ih.1 ih.2 (h k (by omega))⟩
def pbsN (R L : List Int) (len : Nat) : Nat := firstN (pbO R L) len 0
def pbsT (R L : List Int) (len : Nat) : List SV := if rackB R = true then [.arr (pbS R L (pbsN R L len)), .int (pbsN R L len), .bool true] else [.arr (List.replicate 24 0), .int 0, .bool false]
theorem bkT_pos {R : List Int} {i j m : Int} (h : bkB R i j m = true) : bkT R i j m = bkR R i j m := by unfold bkT; rw [if_pos h]
theorem take3_drop (L : List Int) (a : Nat) (h : a + 3 ≤ L.length) : List.take 3 (List.drop a L) = [L.getD a 0, L.getD (a + 1) 0, L.getD (a + 2) 0] := by
  apply List.ext_getElem
  · simp; omega
  · intro i h1 h2
    simp at h2
    rcases (show i = 0 ∨ i = 1 ∨ i = 2 by omega) with rfl | rfl | rfl <;> simp [List.getD, List.getElem?_eq_getElem (show a < L.length by omega), List.getElem?_eq_getElem (show a + 1 < L.length by omega), List.getElem?_eq_getElem (show a + 2 < L.length by omega)]
attribute [local irreducible] bkR bkB bk2 bkT --@tbl PourBacks = impl.PourBacks
theorem PourBacks_ok (R L : List Int) (e len cap : Nat) (hR : R.length = 24) (hL : len * 3 ≤ L.length) (hl : len ≤ 1048576) : PureH Tryz.prog 54 [.arr R, .slice 0 0 len cap] [(0, .ints L e)] (.tup (pbsT R L len)) := by
  have tkR : R.take 24 = R := List.take_of_length_le (by omega)
  have r24 : List.take 24 (List.replicate 24 (0 : Int)) = List.replicate 24 0 := rfl
  unfold pbsT
  cases hr : rackB R
  · refine pure_of_vc (X := ⟨Tryz.prog, tys, [(62, IsRack_F), (87, back_F)], [], true, true, 1, [], []⟩) fn_54 ⟨tys_ok, (.cons IsRack_T (.cons back_T .nil)), .nil, mixed⟩ (n0 := 1) (Nat.le_of_ble_eq_true rfl) (by simp [wfL, SV.wf]) (wfH_spec (by simp [wfH, SObj.wf])) (Nat.le_refl _) (fun _ => by simp [SV.wf, wfL]) ?_
    simp -implicitDefEqProofs only [Tryz.f54, Option.getD_some, argS, IsRack_F, back_F, hR, tkR, hr, r24, ZB, Int.reduceToNat, Nat.reduceLT, Nat.reduceLeDiff, Int.reduceLE, Int.reduceLT, Nat.reduceEqDiff, Nat.reduceSub, SB, SV.known, packR, ne_eq, reduceCtorEq, Nat.reduceEqDiff, ↓reduceIte, if_true, if_false, eq_self, Nat.reduceAdd, Nat.reduceMul, Nat.reduceSub, forall_const, oneCellS, litOne, flat1, Kd.isSca, flat, TYB]
  · refine pure_of_vc (X := ⟨Tryz.prog, tys, [(62, IsRack_F), (87, back_F)], [], true, true, 1, [], []⟩) fn_54 ⟨tys_ok, (.cons IsRack_T (.cons back_T .nil)), .nil, mixed⟩ (n0 := 1) (Nat.le_of_ble_eq_true rfl) (by simp [wfL, SV.wf]) (wfH_spec (by simp [wfH, SObj.wf])) (Nat.le_refl _) (fun _ => by simp [SV.wf, wfL]) ?_
    simp -implicitDefEqProofs only [Tryz.f54, Option.getD_some, argS, IsRack_F, back_F, hR, tkR, hr, r24, ZB, Int.reduceToNat, Nat.reduceLT, Nat.reduceLeDiff, Int.reduceLE, Int.reduceLT, Nat.reduceEqDiff, Nat.reduceSub, SB, SV.known, packR, ne_eq, reduceCtorEq, Nat.reduceEqDiff, ↓reduceIte, if_true, if_false, eq_self, Nat.reduceAdd, Nat.reduceMul, Nat.reduceSub, forall_const, oneCellS, litOne, flat1, Kd.isSca, flat, TYB]
    refine loop_intro (fun i : Nat => [(17, .int i), (16, .int len), (15, .slice 0 0 len cap), (6, .bool false), (5, .int 0), (4, .ptr 2 0), (2, .ptr 1 0), (1, .slice 0 0 len cap)]) (fun i => [(2, .ints (List.replicate 24 0) 27), (1, .ints (pbS R L i) 27), (0, .ints L e)]) 3 (fun i => i ≤ len ∧ ∀ q, q < i → pbO R L q = true) (fun i => len - i) ?_ ?_
    · refine ⟨0, ?_, Sub.mk_id ?_ ?_ ?_ ?_ ?_⟩
      all_goals (try (simp only [pbS_zero, LB, subS, subH, wfS, wfH, SV.ren, renL, SObj.ren, SV.wf, SObj.wf, wfL, SV.known, Nat.reduceEqDiff, ↓reduceIte, if_true, if_false, eq_self, Nat.reduceAdd, Nat.reduceLT, Nat.reduceLeDiff, implies_true, reduceCtorEq, forall_const]; done))
      all_goals (try (simp only [pbS_zero, LB, subS, subH, wfS, wfH, SV.ren, renL, SObj.ren, SV.wf, SObj.wf, wfL, SV.known, Nat.reduceEqDiff, ↓reduceIte, if_true, if_false, eq_self, Nat.reduceAdd, Nat.reduceLT, Nat.reduceLeDiff, implies_true, reduceCtorEq, forall_const]; simp; done))
      all_goals (try (simp only [pbS_zero, LB, subS, subH, wfS, wfH, SV.ren, renL, SObj.ren, SV.wf, SObj.wf, wfL, SV.known, Nat.reduceEqDiff, ↓reduceIte, if_true, if_false, eq_self, Nat.reduceAdd, Nat.reduceLT, Nat.reduceLeDiff, implies_true, reduceCtorEq, forall_const]; (and_intros <;> (first | omega | rfl | (simp; done) | (simp; omega))); done))
      all_goals (try dsimp only)
      all_goals (and_intros <;> try (first | omega | (unfold In64; omega) | trivial | assumption))
    · rintro i ⟨hi, hall⟩
      obtain ⟨qR, qr⟩ := pbS_facts hR hr i hall
      have tkQ : (pbS R L i).take 24 = pbS R L i := List.take_of_length_le (by omega)
      have dQ : List.drop 24 (pbS R L i) = [] := List.drop_eq_nil_of_le (by omega)
      by_cases hlt : i < len
      · have hil : (i : Int) < len := by omega
        have eP : List.take 3 (List.drop (i * 3) L) = [L.getD (i * 3) 0, L.getD (i * 3 + 1) 0, L.getD (i * 3 + 2) 0] := take3_drop _ _ (by omega)
        have ec : pbO R L i = bkB (pbS R L i) (L.getD (i * 3) 0) (L.getD (i * 3 + 1) 0) (L.getD (i * 3 + 2) 0) := rfl
        have bl := bkR_len qR (L.getD (i * 3) 0) (L.getD (i * 3 + 1) 0) (L.getD (i * 3 + 2) 0)
        have bT := bkT_len qR (L.getD (i * 3) 0) (L.getD (i * 3 + 1) 0) (L.getD (i * 3 + 2) 0)
        have tkb : (bkR (pbS R L i) (L.getD (i * 3) 0) (L.getD (i * 3 + 1) 0) (L.getD (i * 3 + 2) 0)).take 24 = bkR (pbS R L i) (L.getD (i * 3) 0) (L.getD (i * 3 + 1) 0) (L.getD (i * 3 + 2) 0) := List.take_of_length_le (by omega)
        have tkt : (bkT (pbS R L i) (L.getD (i * 3) 0) (L.getD (i * 3 + 1) 0) (L.getD (i * 3 + 2) 0)).take 24 = bkT (pbS R L i) (L.getD (i * 3) 0) (L.getD (i * 3 + 1) 0) (L.getD (i * 3 + 2) 0) := List.take_of_length_le (by omega)
        cases hc : bkB (pbS R L i) (L.getD (i * 3) 0) (L.getD (i * 3 + 1) 0) (L.getD (i * 3 + 2) 0) with
        | false =>
          have hn : pbsN R L len = i := firstN_at hlt hall (by rw [ec, hc])
          cases h2 : bk2 (pbS R L i) (L.getD (i * 3) 0) (L.getD (i * 3 + 1) 0) (L.getD (i * 3 + 2) 0)
          all_goals simp -implicitDefEqProofs only [lk_normal, back_F, hil, eP, qR, qr, tkQ, dQ, hc, h2, hn, bl, bT, tkb, tkt, r24, List.getD_cons_zero, List.getD_cons_succ, ZB, Int.reduceToNat, Nat.reduceLT, Nat.reduceLeDiff, Int.reduceLE, Int.reduceLT, Nat.reduceEqDiff, Nat.reduceSub, SB, SV.known, packR, ne_eq, reduceCtorEq, Nat.reduceEqDiff, ↓reduceIte, if_true, if_false, eq_self, Nat.reduceAdd, Nat.reduceMul, Nat.reduceSub, forall_const, oneCellS, litOne, flat1, Kd.isSca, flat, TYB]
          all_goals exact ⟨by omega, by omega⟩
        | true =>
          have h2 := bk_21 hc
          have h3 := bkT_pos hc
          have hp : pbO R L i = true := by rw [ec, hc]
          simp -implicitDefEqProofs only [lk_normal, back_F, hil, eP, qR, qr, tkQ, dQ, hc, h2, h3, bl, tkb, List.getD_cons_zero, List.getD_cons_succ, ZB, Int.reduceToNat, Nat.reduceLT, Nat.reduceLeDiff, Int.reduceLE, Int.reduceLT, Nat.reduceEqDiff, Nat.reduceSub, SB, SV.known, packR, ne_eq, reduceCtorEq, Nat.reduceEqDiff, ↓reduceIte, if_true, if_false, eq_self, Nat.reduceAdd, Nat.reduceMul, Nat.reduceSub, forall_const, oneCellS, litOne, flat1, Kd.isSca, flat, TYB]
          (try (and_intros <;> try (first | omega | (unfold In64; omega) | trivial | assumption)))
          refine ⟨i + 1, ?_, ?_, Sub.mk_id ?_ ?_ ?_ ?_ ?_⟩
          all_goals (try (simp only [pbS_succ, LB, subS, subH, wfS, wfH, SV.ren, renL, SObj.ren, SV.wf, SObj.wf, wfL, SV.known, Nat.reduceEqDiff, ↓reduceIte, if_true, if_false, eq_self, Nat.reduceAdd, Nat.reduceLT, Nat.reduceLeDiff, implies_true, reduceCtorEq, forall_const]; done))
          all_goals (try (simp only [pbS_succ, LB, subS, subH, wfS, wfH, SV.ren, renL, SObj.ren, SV.wf, SObj.wf, wfL, SV.known, Nat.reduceEqDiff, ↓reduceIte, if_true, if_false, eq_self, Nat.reduceAdd, Nat.reduceLT, Nat.reduceLeDiff, implies_true, reduceCtorEq, forall_const]; simp; done))
          all_goals (try (simp only [pbS_succ, LB, subS, subH, wfS, wfH, SV.ren, renL, SObj.ren, SV.wf, SObj.wf, wfL, SV.known, Nat.reduceEqDiff, ↓reduceIte, if_true, if_false, eq_self, Nat.reduceAdd, Nat.reduceLT, Nat.reduceLeDiff, implies_true, reduceCtorEq, forall_const]; (and_intros <;> (first | omega | rfl | (simp; done) | (simp; omega))); done))
          all_goals (try dsimp only)
          all_goals (and_intros <;> try (first | omega | (unfold In64; omega) | trivial | assumption))
          all_goals (intro q hq; by_cases hqi : q = i)
          · subst hqi; exact hp
          · exact hall q (by omega)
      · have hil : ¬ (i : Int) < len := by omega
        obtain rfl : i = len := by omega
        have hn : pbsN R L i = i := firstN_end hall
        simp -implicitDefEqProofs only [lk_normal, hil, hn, qR, tkQ, ZB, Int.reduceToNat, Nat.reduceLT, Nat.reduceLeDiff, Int.reduceLE, Int.reduceLT, Nat.reduceEqDiff, Nat.reduceSub, SB, SV.known, packR, ne_eq, reduceCtorEq, Nat.reduceEqDiff, ↓reduceIte, if_true, if_false, eq_self, Nat.reduceAdd, Nat.reduceMul, Nat.reduceSub, forall_const, oneCellS, litOne, flat1, Kd.isSca, flat, TYB]
--@tbl sPourBacks = spec.PourBacks
theorem sPourBacks_ok (R L : List Int) (e len cap : Nat) (hR : R.length = 24) (hL : len * 3 ≤ L.length) (hl : len ≤ 1048576) : PureH Tryz.prog 55 [.arr R, .slice 0 0 len cap] [(0, .ints L e)] (.tup (pbsT R L len)) := by
  have tkR : R.take 24 = R := List.take_of_length_le (by omega)
  have r24 : List.take 24 (List.replicate 24 (0 : Int)) = List.replicate 24 0 := rfl
  unfold pbsT
  cases hr : rackB R
  · refine pure_of_vc (X := ⟨Tryz.prog, tys, [(64, l2Rack_F), (88, l5Back_F)], [], true, true, 1, [], []⟩) fn_55 ⟨tys_ok, (.cons l2Rack_T (.cons l5Back_T .nil)), .nil, mixed⟩ (n0 := 1) (Nat.le_of_ble_eq_true rfl) (by simp [wfL, SV.wf]) (wfH_spec (by simp [wfH, SObj.wf])) (Nat.le_refl _) (fun _ => by simp [SV.wf, wfL]) ?_
    simp -implicitDefEqProofs only [Tryz.f55, Option.getD_some, argS, l2Rack_F, l5Back_F, hR, tkR, hr, r24, ZB, Int.reduceToNat, Nat.reduceLT, Nat.reduceLeDiff, Int.reduceLE, Int.reduceLT, Nat.reduceEqDiff, Nat.reduceSub, SB, SV.known, packR, ne_eq, reduceCtorEq, Nat.reduceEqDiff, ↓reduceIte, if_true, if_false, eq_self, Nat.reduceAdd, Nat.reduceMul, Nat.reduceSub, forall_const, oneCellS, litOne, flat1, Kd.isSca, flat, TYB]
  · refine pure_of_vc (X := ⟨Tryz.prog, tys, [(64, l2Rack_F), (88, l5Back_F)], [], true, true, 1, [], []⟩) fn_55 ⟨tys_ok, (.cons l2Rack_T (.cons l5Back_T .nil)), .nil, mixed⟩ (n0 := 1) (Nat.le_of_ble_eq_true rfl) (by simp [wfL, SV.wf]) (wfH_spec (by simp [wfH, SObj.wf])) (Nat.le_refl _) (fun _ => by simp [SV.wf, wfL]) ?_
    simp -implicitDefEqProofs only [Tryz.f55, Option.getD_some, argS, l2Rack_F, l5Back_F, hR, tkR, hr, r24, ZB, Int.reduceToNat, Nat.reduceLT, Nat.reduceLeDiff, Int.reduceLE, Int.reduceLT, Nat.reduceEqDiff, Nat.reduceSub, SB, SV.known, packR, ne_eq, reduceCtorEq, Nat.reduceEqDiff, ↓reduceIte, if_true, if_false, eq_self, Nat.reduceAdd, Nat.reduceMul, Nat.reduceSub, forall_const, oneCellS, litOne, flat1, Kd.isSca, flat, TYB]
    refine loop_intro (fun i : Nat => [(7, .int i), (6, .bool false), (5, .int 0), (4, .ptr 2 0), (2, .ptr 1 0), (1, .slice 0 0 len cap)]) (fun i => [(2, .ints (List.replicate 24 0) 27), (1, .ints (pbS R L i) 27), (0, .ints L e)]) 3 (fun i => i ≤ len ∧ ∀ q, q < i → pbO R L q = true) (fun i => len - i) ?_ ?_
    · refine ⟨0, ?_, Sub.mk_id ?_ ?_ ?_ ?_ ?_⟩
      all_goals (try (simp only [pbS_zero, LB, subS, subH, wfS, wfH, SV.ren, renL, SObj.ren, SV.wf, SObj.wf, wfL, SV.known, Nat.reduceEqDiff, ↓reduceIte, if_true, if_false, eq_self, Nat.reduceAdd, Nat.reduceLT, Nat.reduceLeDiff, implies_true, reduceCtorEq, forall_const]; done))
      all_goals (try (simp only [pbS_zero, LB, subS, subH, wfS, wfH, SV.ren, renL, SObj.ren, SV.wf, SObj.wf, wfL, SV.known, Nat.reduceEqDiff, ↓reduceIte, if_true, if_false, eq_self, Nat.reduceAdd, Nat.reduceLT, Nat.reduceLeDiff, implies_true, reduceCtorEq, forall_const]; simp; done))
      all_goals (try (simp only [pbS_zero, LB, subS, subH, wfS, wfH, SV.ren, renL, SObj.ren, SV.wf, SObj.wf, wfL, SV.known, Nat.reduceEqDiff, ↓reduceIte, if_true, if_false, eq_self, Nat.reduceAdd, Nat.reduceLT, Nat.reduceLeDiff, implies_true, reduceCtorEq, forall_const]; (and_intros <;> (first | omega | rfl | (simp; done) | (simp; omega))); done))
      all_goals (try dsimp only)
      all_goals (and_intros <;> try (first | omega | (unfold In64; omega) | trivial | assumption))
    · rintro i ⟨hi, hall⟩
      obtain ⟨qR, qr⟩ := pbS_facts hR hr i hall
      have tkQ : (pbS R L i).take 24 = pbS R L i := List.take_of_length_le (by omega)
      have dQ : List.drop 24 (pbS R L i) = [] := List.drop_eq_nil_of_le (by omega)
      by_cases hlt : i < len
      · have hil : (i : Int) < len := by omega
        have eP : List.take 3 (List.drop (i * 3) L) = [L.getD (i * 3) 0, L.getD (i * 3 + 1) 0, L.getD (i * 3 + 2) 0] := take3_drop _ _ (by omega)
        have ec : pbO R L i = bkB (pbS R L i) (L.getD (i * 3) 0) (L.getD (i * 3 + 1) 0) (L.getD (i * 3 + 2) 0) := rfl
        have bl := bkR_len qR (L.getD (i * 3) 0) (L.getD (i * 3 + 1) 0) (L.getD (i * 3 + 2) 0)
        have bT := bkT_len qR (L.getD (i * 3) 0) (L.getD (i * 3 + 1) 0) (L.getD (i * 3 + 2) 0)
        have tkb : (bkR (pbS R L i) (L.getD (i * 3) 0) (L.getD (i * 3 + 1) 0) (L.getD (i * 3 + 2) 0)).take 24 = bkR (pbS R L i) (L.getD (i * 3) 0) (L.getD (i * 3 + 1) 0) (L.getD (i * 3 + 2) 0) := List.take_of_length_le (by omega)
        have tkt : (bkT (pbS R L i) (L.getD (i * 3) 0) (L.getD (i * 3 + 1) 0) (L.getD (i * 3 + 2) 0)).take 24 = bkT (pbS R L i) (L.getD (i * 3) 0) (L.getD (i * 3 + 1) 0) (L.getD (i * 3 + 2) 0) := List.take_of_length_le (by omega)
        cases hc : bkB (pbS R L i) (L.getD (i * 3) 0) (L.getD (i * 3 + 1) 0) (L.getD (i * 3 + 2) 0) with
        | false =>
          have hn : pbsN R L len = i := firstN_at hlt hall (by rw [ec, hc])
          cases h2 : bk2 (pbS R L i) (L.getD (i * 3) 0) (L.getD (i * 3 + 1) 0) (L.getD (i * 3 + 2) 0)
          all_goals simp -implicitDefEqProofs only [lk_normal, l5Back_F, hil, eP, qR, qr, tkQ, dQ, hc, h2, hn, bl, bT, tkb, tkt, r24, List.getD_cons_zero, List.getD_cons_succ, ZB, Int.reduceToNat, Nat.reduceLT, Nat.reduceLeDiff, Int.reduceLE, Int.reduceLT, Nat.reduceEqDiff, Nat.reduceSub, SB, SV.known, packR, ne_eq, reduceCtorEq, Nat.reduceEqDiff, ↓reduceIte, if_true, if_false, eq_self, Nat.reduceAdd, Nat.reduceMul, Nat.reduceSub, forall_const, oneCellS, litOne, flat1, Kd.isSca, flat, TYB]
          all_goals exact ⟨by omega, by omega⟩
        | true =>
          have h2 := bk_21 hc
          have h3 := bkT_pos hc
          have hp : pbO R L i = true := by rw [ec, hc]
          simp -implicitDefEqProofs only [lk_normal, l5Back_F, hil, eP, qR, qr, tkQ, dQ, hc, h2, h3, bl, tkb, List.getD_cons_zero, List.getD_cons_succ, ZB, Int.reduceToNat, Nat.reduceLT, Nat.reduceLeDiff, Int.reduceLE, Int.reduceLT, Nat.reduceEqDiff, Nat.reduceSub, SB, SV.known, packR, ne_eq, reduceCtorEq, Nat.reduceEqDiff, ↓reduceIte, if_true, if_false, eq_self, Nat.reduceAdd, Nat.reduceMul, Nat.reduceSub, forall_const, oneCellS, litOne, flat1, Kd.isSca, flat, TYB]
          (try (and_intros <;> try (first | omega | (unfold In64; omega) | trivial | assumption)))
          refine ⟨i + 1, ?_, ?_, Sub.mk_id ?_ ?_ ?_ ?_ ?_⟩
          all_goals (try (simp only [pbS_succ, LB, subS, subH, wfS, wfH, SV.ren, renL, SObj.ren, SV.wf, SObj.wf, wfL, SV.known, Nat.reduceEqDiff, ↓reduceIte, if_true, if_false, eq_self, Nat.reduceAdd, Nat.reduceLT, Nat.reduceLeDiff, implies_true, reduceCtorEq, forall_const]; done))
          all_goals (try (simp only [pbS_succ, LB, subS, subH, wfS, wfH, SV.ren, renL, SObj.ren, SV.wf, SObj.wf, wfL, SV.known, Nat.reduceEqDiff, ↓reduceIte, if_true, if_false, eq_self, Nat.reduceAdd, Nat.reduceLT, Nat.reduceLeDiff, implies_true, reduceCtorEq, forall_const]; simp; done))
          all_goals (try (simp only [pbS_succ, LB, subS, subH, wfS, wfH, SV.ren, renL, SObj.ren, SV.wf, SObj.wf, wfL, SV.known, Nat.reduceEqDiff, ↓reduceIte, if_true, if_false, eq_self, Nat.reduceAdd, Nat.reduceLT, Nat.reduceLeDiff, implies_true, reduceCtorEq, forall_const]; (and_intros <;> (first | omega | rfl | (simp; done) | (simp; omega))); done))
          all_goals (try dsimp only)
          all_goals (and_intros <;> try (first | omega | (unfold In64; omega) | trivial | assumption))
          all_goals (intro q hq; by_cases hqi : q = i)
          · subst hqi; exact hp
          · exact hall q (by omega)
      · have hil : ¬ (i : Int) < len := by omega
        obtain rfl : i = len := by omega
        have hn : pbsN R L i = i := firstN_end hall
        simp -implicitDefEqProofs only [lk_normal, hil, hn, qR, tkQ, ZB, Int.reduceToNat, Nat.reduceLT, Nat.reduceLeDiff, Int.reduceLE, Int.reduceLT, Nat.reduceEqDiff, Nat.reduceSub, SB, SV.known, packR, ne_eq, reduceCtorEq, Nat.reduceEqDiff, ↓reduceIte, if_true, if_false, eq_self, Nat.reduceAdd, Nat.reduceMul, Nat.reduceSub, forall_const, oneCellS, litOne, flat1, Kd.isSca, flat, TYB]
theorem pbS_app (R L J : List Int) : ∀ k, k * 3 ≤ L.length → pbS R (L ++ J) k = pbS R L k
  | 0, _ => rfl
  | k + 1, h => by rw [pbS_succ, pbS_succ, pbS_app R L J k (by omega), getD_app _ _ _ (by omega), getD_app _ _ _ (by omega), getD_app _ _ _ (by omega)]
theorem pbsT_app (R L J : List Int) (len : Nat) (h : len * 3 ≤ L.length) : pbsT R (L ++ J) len = pbsT R L len := by
  have hn : pbsN R (L ++ J) len = pbsN R L len := firstN_congr len 0 fun k _ hk => by
    unfold pbO
    rw [pbS_app R L J k (by omega), getD_app _ _ _ (by omega), getD_app _ _ _ (by omega), getD_app _ _ _ (by omega)]
  have hle : pbsN R L len ≤ 0 + len := firstN_le _ _ _
  unfold pbsT
  rw [hn, pbS_app R L J _ (by omega)]
def PourBacks_F : List SV → Heap → Option (Prop × SV)
  | [.arr R, .slice b 0 len _], H => match hget H b with
    | some (.ints L _) => some (R.length = 24 ∧ len * 3 ≤ L.length ∧ len ≤ 1048576, .tup (pbsT R (L.take (len * 3)) len))
    | _ => none
  | _, _ => none
theorem PourBacks_T : ∀ args H p v, PourBacks_F args H = some (p, v) → p → PureH Tryz.prog 54 args H v := by
  intro args H p v h hp
  unfold PourBacks_F at h
  split at h
  · split at h
    · rename_i L e hb
      cases h
      rw [← pbsT_app _ (L.take _) (L.drop _) _ (by rw [List.length_take]; omega), List.take_append_drop]
      exact one_block (PourBacks_ok _ L e _ _ hp.1 hp.2.1 hp.2.2) hb rfl (fun _ => by unfold pbsT; split <;> simp [SV.wf, wfL])
    · cases h
  · cases h
def sPourBacks_F : List SV → Heap → Option (Prop × SV)
  | [.arr R, .slice b 0 len _], H => match hget H b with
    | some (.ints L _) => some (R.length = 24 ∧ len * 3 ≤ L.length ∧ len ≤ 1048576, .tup (pbsT R (L.take (len * 3)) len))
    | _ => none
  | _, _ => none
theorem sPourBacks_T : ∀ args H p v, sPourBacks_F args H = some (p, v) → p → PureH Tryz.prog 55 args H v := by
  intro args H p v h hp
  unfold sPourBacks_F at h
  split at h
  · split at h
    · rename_i L e hb
      cases h
      rw [← pbsT_app _ (L.take _) (L.drop _) _ (by rw [List.length_take]; omega), List.take_append_drop]
      exact one_block (sPourBacks_ok _ L e _ _ hp.1 hp.2.1 hp.2.2) hb rfl (fun _ => by unfold pbsT; split <;> simp [SV.wf, wfL])
    · cases h
  · cases h
end Go.Proofs.YtmccafjblhbmkaaGreat
set_option maxRecDepth 100000
set_option linter.unusedSimpArgs false
set_option linter.unusedVariables false
namespace Go.Proofs.YtmccafjblhbmkaaGreat
open Go Go.RowKit
end Go.Proofs.YtmccafjblhbmkaaGreat
set_option maxRecDepth 100000
set_option linter.unusedSimpArgs false
set_option linter.unusedVariables false
namespace Go.Proofs.YtmccafjblhbmkaaGreat
open Go Go.RowKit
end Go.Proofs.YtmccafjblhbmkaaGreat
set_option maxRecDepth 100000
set_option linter.unusedSimpArgs false
set_option linter.unusedVariables false
namespace Go.Proofs.YtmccafjblhbmkaaGreat
open Go Go.RowKit
theorem runs_head (t : List Int) (ht : t.length = 4) (h : 0 < layN t) : (runsL t).getD 0 0 = t.getD 0 0 := by
  have key : ∀ i, 0 < i → i ≤ 4 → (RL t i).getD 0 0 = t.getD 0 0 ∧ 2 ≤ (RL t i).length := by
    intro i
    induction i with
    | zero => intro h; omega
    | succ i ih =>
      intro _ hi
      rw [RL_succ t i (by omega)]
      by_cases hi0 : i = 0
      · subst hi0
        rw [RL_zero]
        simp [stepR]
      · obtain ⟨h1, h2⟩ := ih (by omega) (by omega)
        unfold stepR
        split
        · refine ⟨?_, by simpa using h2⟩
          rw [getD_set' _ _ _ _ (by omega), if_neg (by omega), h1]
        · refine ⟨?_, by rw [List.length_append]; omega⟩
          rw [getD_app _ _ _ (by omega), h1]
  exact (key (layN t) h (lay_le t ht)).1
def rcN (R : List Int) (k : Nat) : Nat := (runsL (tubeAt R k)).length / 2
def rcC (R : List Int) (k : Nat) : Int := (runsL (tubeAt R k)).getD 0 0
def srtF (R : List Int) : Nat → Option (List Int)
  | 0 => some []
  | k + 1 => match srtF R k with
    | none => none
    | some s => if rcN R k = 0 then some s else if 1 < rcN R k ∨ rcC R k ∈ s then none else some (s ++ [rcC R k])
def sortB (R : List Int) : Bool := (srtF R 6).isSome
theorem srt_none {R : List Int} {k : Nat} (h : srtF R k = none) : ∀ j, srtF R (k + j) = none
  | 0 => h
  | j + 1 => by
    have := srt_none h j
    show srtF R (k + j + 1) = none
    simp only [srtF, this]
theorem sort_false {R : List Int} {k : Nat} (h : srtF R k = none) (hk : k ≤ 6) : sortB R = false := by
  have := srt_none h (6 - k)
  rw [show k + (6 - k) = 6 by omega] at this
  simp [sortB, this]
theorem srt_step {R : List Int} {k : Nat} {s : List Int} (h : srtF R k = some s) : srtF R (k + 1) = if rcN R k = 0 then some s else if 1 < rcN R k ∨ rcC R k ∈ s then none else some (s ++ [rcC R k]) := by
  simp only [srtF, h]
def seenL (s : List Int) : List Bool := (List.range 6).map fun c : Nat => decide ((c : Int) ∈ s)
theorem seenL_len (s : List Int) : (seenL s).length = 6 := by simp [seenL]
theorem seenL_nil : seenL [] = List.replicate 6 false := by simp [seenL, List.range, List.range.loop]
theorem seenL_getD (s : List Int) (c : Int) (h : 0 ≤ c ∧ c ≤ 5) : (seenL s).getD c.toNat false = decide (c ∈ s) := by
  have : ((c.toNat : Nat) : Int) = c := by omega
  simp [seenL, List.getD, show c.toNat < 6 by omega, this]
theorem seenL_set (s : List Int) (c : Int) (h : 0 ≤ c ∧ c ≤ 5) : (seenL s).set c.toNat true = seenL (s ++ [c]) := by
  apply List.ext_getElem (by simp [seenL])
  intro k h1 h2
  simp only [List.getElem_set, seenL, List.getElem_map, List.getElem_range]
  by_cases hk : c.toNat = k
  · rw [if_pos hk]
    have : (k : Int) = c := by omega
    simp [this]
  · rw [if_neg hk]
    have : ¬ (k : Int) = c := by omega
    simp [this]
theorem rc_facts {R : List Int} (hR : R.length = 24) (hr : rackB R = true) {k : Nat} (hk : k < 6) (h : 0 < rcN R k) : 0 ≤ rcC R k ∧ rcC R k ≤ 5 := by
  have hl := tubeAt_len hR hk
  have hb := tubeAt_ok hr hk
  have h0 : 0 < layN (tubeAt R k) := (runs_bottom _ hl hb).1.2 (by unfold crN; unfold rcN at h; omega)
  unfold rcC
  rw [runs_head _ hl h0]
  have := (tube_cells hl hb).1 0 h0
  omega
--@tbl isSorted = impl.isSorted
theorem isSorted_ok (R : List Int) (hR : R.length = 24) (hr : rackB R = true) : PureH Tryz.prog 114 [.arr R] [] (.bool (sortB R)) := by
  have tkR : R.take 24 = R := List.take_of_length_le (by omega)
  refine pure_of_vc (X := ⟨Tryz.prog, tys, [], [(147, runs_F)], true, true, 0, [], []⟩) fn_114 ⟨tys_ok, .nil, (.cons runs_T .nil), mixed⟩ (n0 := 0) (Nat.le_of_ble_eq_true rfl) (by simp [wfL, SV.wf]) (wfH_spec (by simp [wfH, SObj.wf])) (Nat.le_refl _) (fun _ => by simp [SV.wf, wfL]) ?_
  simp -implicitDefEqProofs only [Tryz.f114, Option.getD_some, argS, runs_F, hR, tkR, ZB, Int.reduceToNat, Nat.reduceLT, Nat.reduceLeDiff, Int.reduceLE, Int.reduceLT, Nat.reduceEqDiff, Nat.reduceSub, SB, SV.known, packR, ne_eq, reduceCtorEq, Nat.reduceEqDiff, ↓reduceIte, if_true, if_false, eq_self, Nat.reduceAdd, Nat.reduceMul, Nat.reduceSub, forall_const, oneCellS, litOne, flat1, Kd.isSca, flat, TYB]
  refine loop_intro (fun s : Nat × List Int => [(9, .int s.1), (8, .arr R), (3, .ptr 1 0), (2, .bool false), (1, .ptr 0 0)]) (fun s => [(1, .bls (seenL s.2) 152), (0, .ints R 27)]) 2 (fun s => s.1 ≤ 6 ∧ srtF R s.1 = some s.2) (fun s => 6 - s.1) ?_ ?_
  · refine ⟨(0, []), ⟨by omega, rfl⟩, Sub.mk_id ?_ ?_ ?_ ?_ ?_⟩
    all_goals simp only [seenL_nil, LB, subS, subH, wfS, wfH, SV.ren, renL, SObj.ren, SV.wf, SObj.wf, wfL, SV.known, Nat.reduceEqDiff, ↓reduceIte, if_true, if_false, eq_self, Nat.reduceAdd, Nat.reduceLT, Nat.reduceLeDiff, implies_true, reduceCtorEq, forall_const]
  · rintro ⟨i, s⟩ ⟨hi, hs⟩
    simp only at hi hs
    have eT : List.take 4 (List.drop (i * 4) R) = tubeAt R i := rfl
    have sl := seenL_len s
    by_cases hlt : i < 6
    · have hil : (i : Int) < 6 := by omega
      have hl := tubeAt_len hR hlt
      have tk4 : (tubeAt R i).take 4 = tubeAt R i := List.take_of_length_le (by omega)
      have es := srt_step hs
      have en : (runsL (tubeAt R i)).length / 2 = rcN R i := rfl
      obtain ⟨n, hn, hn4, _⟩ := runsL_even _ hl
      have ern : rcN R i = n := by unfold rcN; omega
      have gd : ∀ J : List Int, 0 < rcN R i → (runsL (tubeAt R i) ++ J).getD 0 0 = rcC R i := fun J h => getD_app _ _ _ (by omega)
      simp -implicitDefEqProofs only [lk_normal, runs_F, freshK, Wrap.ap, hil, hR, eT, hl, tk4, en, sl, ZB, Int.reduceToNat, Nat.reduceLT, Nat.reduceLeDiff, Int.reduceLE, Int.reduceLT, Nat.reduceEqDiff, Nat.reduceSub, SB, SV.known, packR, ne_eq, reduceCtorEq, Nat.reduceEqDiff, ↓reduceIte, if_true, if_false, eq_self, Nat.reduceAdd, Nat.reduceMul, Nat.reduceSub, forall_const, oneCellS, litOne, flat1, Kd.isSca, flat, TYB]
      refine ⟨by omega, fun h0 => ?_, fun h0 cap junk hj => ?_⟩
      · have hz : rcN R i = 0 := by rw [ern]; rw [h0] at hn; simp at hn; omega
        rw [if_pos hz] at es
        (try (and_intros <;> try (first | omega | (unfold In64; omega) | trivial | assumption)))
        refine ⟨(i + 1, s), ?_, ?_, Sub.mk_id ?_ ?_ ?_ ?_ ?_⟩
        all_goals (try (simp only [es, LB, subS, subH, wfS, wfH, SV.ren, renL, SObj.ren, SV.wf, SObj.wf, wfL, SV.known, Nat.reduceEqDiff, ↓reduceIte, if_true, if_false, eq_self, Nat.reduceAdd, Nat.reduceLT, Nat.reduceLeDiff, implies_true, reduceCtorEq, forall_const]; done))
        all_goals (try (simp only [es, LB, subS, subH, wfS, wfH, SV.ren, renL, SObj.ren, SV.wf, SObj.wf, wfL, SV.known, Nat.reduceEqDiff, ↓reduceIte, if_true, if_false, eq_self, Nat.reduceAdd, Nat.reduceLT, Nat.reduceLeDiff, implies_true, reduceCtorEq, forall_const]; simp; done))
        all_goals (try (simp only [es, LB, subS, subH, wfS, wfH, SV.ren, renL, SObj.ren, SV.wf, SObj.wf, wfL, SV.known, Nat.reduceEqDiff, ↓reduceIte, if_true, if_false, eq_self, Nat.reduceAdd, Nat.reduceLT, Nat.reduceLeDiff, implies_true, reduceCtorEq, forall_const]; (and_intros <;> (first | omega | rfl | (simp; done) | (simp; omega))); done))
        all_goals (try dsimp only)
        all_goals (and_intros <;> try (first | omega | (unfold In64; omega) | trivial | assumption))
        all_goals (try exact es)
      · have hp : 0 < rcN R i := by
          rcases Nat.eq_zero_or_pos n with hz | hz
          · exact absurd (List.length_eq_zero_iff.1 (by rw [hn, hz])) h0
          · omega
        rw [if_neg (by omega)] at es
        have rc := rc_facts hR hr hlt hp
        have g0 := gd junk hp
        have sg := seenL_getD s (rcC R i) rc
        have sw := seenL_set s (rcC R i) rc
        have lj : 0 < (runsL (tubeAt R i) ++ junk).length := by rw [List.length_append]; omega
        refine ⟨fun hz => absurd hz (by omega), fun _ => ⟨fun h1 => ?_, fun h1 => ?_⟩⟩
        · rw [if_pos (by omega)] at es
          rw [sort_false es (by omega)]
        · cases hd : decide (rcC R i ∈ s)
          · rw [if_neg (fun hx => hx.elim (fun h => by omega) (of_decide_eq_false hd))] at es
            simp -implicitDefEqProofs only [lk_normal, g0, sg, sw, hd, sl, lj, ZB, Int.reduceToNat, Nat.reduceLT, Nat.reduceLeDiff, Int.reduceLE, Int.reduceLT, Nat.reduceEqDiff, Nat.reduceSub, SB, SV.known, packR, ne_eq, reduceCtorEq, Nat.reduceEqDiff, ↓reduceIte, if_true, if_false, eq_self, Nat.reduceAdd, Nat.reduceMul, Nat.reduceSub, forall_const, oneCellS, litOne, flat1, Kd.isSca, flat, TYB]
            (try (and_intros <;> try (first | omega | (unfold In64; omega) | trivial | assumption)))
            refine ⟨(i + 1, s ++ [rcC R i]), ?_, ?_, Sub.mk_id ?_ ?_ ?_ ?_ ?_⟩
            all_goals (try (simp only [es, LB, subS, subH, wfS, wfH, SV.ren, renL, SObj.ren, SV.wf, SObj.wf, wfL, SV.known, Nat.reduceEqDiff, ↓reduceIte, if_true, if_false, eq_self, Nat.reduceAdd, Nat.reduceLT, Nat.reduceLeDiff, implies_true, reduceCtorEq, forall_const]; done))
            all_goals (try (simp only [es, LB, subS, subH, wfS, wfH, SV.ren, renL, SObj.ren, SV.wf, SObj.wf, wfL, SV.known, Nat.reduceEqDiff, ↓reduceIte, if_true, if_false, eq_self, Nat.reduceAdd, Nat.reduceLT, Nat.reduceLeDiff, implies_true, reduceCtorEq, forall_const]; simp; done))
            all_goals (try (simp only [es, LB, subS, subH, wfS, wfH, SV.ren, renL, SObj.ren, SV.wf, SObj.wf, wfL, SV.known, Nat.reduceEqDiff, ↓reduceIte, if_true, if_false, eq_self, Nat.reduceAdd, Nat.reduceLT, Nat.reduceLeDiff, implies_true, reduceCtorEq, forall_const]; (and_intros <;> (first | omega | rfl | (simp; done) | (simp; omega))); done))
            all_goals (try dsimp only)
            all_goals (and_intros <;> try (first | omega | (unfold In64; omega) | trivial | assumption))
          · rw [if_pos (.inr (of_decide_eq_true hd))] at es
            simp -implicitDefEqProofs only [lk_normal, g0, sg, sw, hd, sl, lj, ZB, Int.reduceToNat, Nat.reduceLT, Nat.reduceLeDiff, Int.reduceLE, Int.reduceLT, Nat.reduceEqDiff, Nat.reduceSub, SB, SV.known, packR, ne_eq, reduceCtorEq, Nat.reduceEqDiff, ↓reduceIte, if_true, if_false, eq_self, Nat.reduceAdd, Nat.reduceMul, Nat.reduceSub, forall_const, oneCellS, litOne, flat1, Kd.isSca, flat, TYB]
            rw [sort_false es (by omega)]
            (try (and_intros <;> try (first | omega | (unfold In64; omega) | trivial | assumption)))
    · have hil : ¬ (i : Int) < 6 := by omega
      obtain rfl : i = 6 := by omega
      simp -implicitDefEqProofs only [lk_normal, hil, ZB, Int.reduceToNat, Nat.reduceLT, Nat.reduceLeDiff, Int.reduceLE, Int.reduceLT, Nat.reduceEqDiff, Nat.reduceSub, SB, SV.known, packR, ne_eq, reduceCtorEq, Nat.reduceEqDiff, ↓reduceIte, if_true, if_false, eq_self, Nat.reduceAdd, Nat.reduceMul, Nat.reduceSub, forall_const, oneCellS, litOne, flat1, Kd.isSca, flat, TYB]
      simp [sortB, hs]
def isSorted_F : List SV → Heap → Option (Prop × SV)
  | [.arr R], _ => some (R.length = 24 ∧ rackB R = true, .bool (sortB R))
  | _, _ => none
theorem isSorted_T : ∀ args H p v, isSorted_F args H = some (p, v) → p → PureH Tryz.prog 114 args H v := by
  intro args H p v h hp
  unfold isSorted_F at h
  split at h
  · cases h; exact (isSorted_ok _ hp.1 hp.2).any _
  · cases h
--@tbl l1Has = spec.l1Has
/-! IsStuck. -/
end Go.Proofs.YtmccafjblhbmkaaGreat
set_option maxRecDepth 100000
set_option linter.unusedSimpArgs false
set_option linter.unusedVariables false
namespace Go.Proofs.YtmccafjblhbmkaaGreat
open Go Go.RowKit
/-! Colors counted. -/
--@tbl countColors = impl.countColors
--@tbl l2Counts = spec.l2Counts
theorem cnt_step {R : List Int} (hR : R.length = 24) (hr : rackB R = true) {i j : Nat} (hi : i < 6) (hj : j < 4) : cntL (R.take (i * 4 + (j + 1))) = incr (cntL (R.take (i * 4 + j))) (R.getD (i * 4 + j) 0).toNat ∧ (0 ≤ R.getD (i * 4 + j) 0 ∧ R.getD (i * 4 + j) 0 ≤ 5) ∧
    0 ≤ (cntL (R.take (i * 4 + j))).getD (R.getD (i * 4 + j) 0).toNat 0 ∧ (cntL (R.take (i * 4 + j))).getD (R.getD (i * 4 + j) 0).toNat 0 ≤ 24 := by
  have := cntL_take_succ R (i * 4 + j) (by omega)
  have rc := rack_cell hR hr (k := i * 4 + j) (by omega)
  have cb := cntL_bd (R.take (i * 4 + j)) (R.getD (i * 4 + j) 0).toNat
  have : (R.take (i * 4 + j)).length ≤ 24 := by rw [List.length_take]; omega
  refine ⟨by rw [← Nat.add_assoc]; assumption, rc, by omega, by omega⟩
theorem countColors_ok (R : List Int) (hR : R.length = 24) (hr : rackB R = true) : PureH Tryz.prog 82 [.arr R] [] (.arr (cntL R)) := by
  have tkR : R.take 24 = R := List.take_of_length_le (by omega)
  refine pure_of_vc (X := ⟨Tryz.prog, tys, [], [], true, true, 0, [], []⟩) fn_82 ⟨tys_ok, .nil, .nil, mixed⟩ (n0 := 0) (Nat.le_of_ble_eq_true rfl) (by simp [wfL, SV.wf]) (wfH_spec (by simp [wfH, SObj.wf])) (Nat.le_refl _) (fun _ => by simp [SV.wf, wfL]) ?_
  simp -implicitDefEqProofs only [Tryz.f82, Option.getD_some, argS, hR, tkR, ZB, Int.reduceToNat, Nat.reduceLT, Nat.reduceLeDiff, Int.reduceLE, Int.reduceLT, Nat.reduceEqDiff, Nat.reduceSub, SB, SV.known, packR, ne_eq, reduceCtorEq, Nat.reduceEqDiff, ↓reduceIte, if_true, if_false, eq_self, Nat.reduceAdd, Nat.reduceMul, Nat.reduceSub, forall_const, oneCellS, litOne, flat1, Kd.isSca, flat, TYB]
  refine loop_intro (fun i : Nat => [(10, .int i), (9, .arr R), (3, .ptr 2 0), (2, .ptr 1 0), (1, .ptr 0 0)]) (fun i => [(0, .ints R 27), (1, .ints (List.replicate 6 0) 40), (2, .ints (cntL (R.take (i * 4))) 40)]) 3 (fun i => i ≤ 6) (fun i => 6 - i) ?_ ?_
  · refine ⟨0, ?_, Sub.mk_id ?_ ?_ ?_ ?_ ?_⟩
    all_goals (try (simp only [List.take_zero, Nat.zero_mul, cntL_nil, LB, subS, subH, wfS, wfH, SV.ren, renL, SObj.ren, SV.wf, SObj.wf, wfL, SV.known, Nat.reduceEqDiff, ↓reduceIte, if_true, if_false, eq_self, Nat.reduceAdd, Nat.reduceLT, Nat.reduceLeDiff, implies_true, reduceCtorEq, forall_const]; done))
    all_goals (try (simp only [List.take_zero, Nat.zero_mul, cntL_nil, LB, subS, subH, wfS, wfH, SV.ren, renL, SObj.ren, SV.wf, SObj.wf, wfL, SV.known, Nat.reduceEqDiff, ↓reduceIte, if_true, if_false, eq_self, Nat.reduceAdd, Nat.reduceLT, Nat.reduceLeDiff, implies_true, reduceCtorEq, forall_const]; simp; done))
    all_goals (try (simp only [List.take_zero, Nat.zero_mul, cntL_nil, LB, subS, subH, wfS, wfH, SV.ren, renL, SObj.ren, SV.wf, SObj.wf, wfL, SV.known, Nat.reduceEqDiff, ↓reduceIte, if_true, if_false, eq_self, Nat.reduceAdd, Nat.reduceLT, Nat.reduceLeDiff, implies_true, reduceCtorEq, forall_const]; (and_intros <;> (first | omega | rfl | (simp; done) | (simp; omega))); done))
    all_goals (try dsimp only)
    all_goals (and_intros <;> try (first | omega | (unfold In64; omega) | trivial | assumption))
  · intro i hi
    have eT : List.take 4 (List.drop (i * 4) R) = tubeAt R i := rfl
    by_cases hlt : i < 6
    · have hil : (i : Int) < 6 := by omega
      have hl := tubeAt_len hR hlt
      have tk4 : (tubeAt R i).take 4 = tubeAt R i := List.take_of_length_le (by omega)
      simp -implicitDefEqProofs only [lk_normal, hil, hR, eT, hl, tk4, ZB, Int.reduceToNat, Nat.reduceLT, Nat.reduceLeDiff, Int.reduceLE, Int.reduceLT, Nat.reduceEqDiff, Nat.reduceSub, SB, SV.known, packR, ne_eq, reduceCtorEq, Nat.reduceEqDiff, ↓reduceIte, if_true, if_false, eq_self, Nat.reduceAdd, Nat.reduceMul, Nat.reduceSub, forall_const, oneCellS, litOne, flat1, Kd.isSca, flat, TYB]
      refine ⟨by omega, ?_⟩
      refine loop_intro (fun j : Nat => [(14, .int j), (13, .arr (tubeAt R i)), (10, .int i), (9, .arr R), (3, .ptr 2 0), (2, .ptr 1 0), (1, .ptr 0 0)]) (fun j => [(0, .ints R 27), (1, .ints (List.replicate 6 0) 40), (2, .ints (cntL (R.take (i * 4 + j))) 40)]) 3 (fun j => j ≤ 4) (fun j => 4 - j) ?_ ?_
      · refine ⟨0, ?_, Sub.mk_id ?_ ?_ ?_ ?_ ?_⟩
        all_goals (try (simp only [Nat.add_zero, LB, subS, subH, wfS, wfH, SV.ren, renL, SObj.ren, SV.wf, SObj.wf, wfL, SV.known, Nat.reduceEqDiff, ↓reduceIte, if_true, if_false, eq_self, Nat.reduceAdd, Nat.reduceLT, Nat.reduceLeDiff, implies_true, reduceCtorEq, forall_const]; done))
        all_goals (try (simp only [Nat.add_zero, LB, subS, subH, wfS, wfH, SV.ren, renL, SObj.ren, SV.wf, SObj.wf, wfL, SV.known, Nat.reduceEqDiff, ↓reduceIte, if_true, if_false, eq_self, Nat.reduceAdd, Nat.reduceLT, Nat.reduceLeDiff, implies_true, reduceCtorEq, forall_const]; simp; done))
        all_goals (try (simp only [Nat.add_zero, LB, subS, subH, wfS, wfH, SV.ren, renL, SObj.ren, SV.wf, SObj.wf, wfL, SV.known, Nat.reduceEqDiff, ↓reduceIte, if_true, if_false, eq_self, Nat.reduceAdd, Nat.reduceLT, Nat.reduceLeDiff, implies_true, reduceCtorEq, forall_const]; (and_intros <;> (first | omega | rfl | (simp; done) | (simp; omega))); done))
        all_goals (try dsimp only)
        all_goals (and_intros <;> try (first | omega | (unfold In64; omega) | trivial | assumption))
      · intro j hj
        by_cases hjt : j < 4
        · have hjl : (j : Int) < 4 := by omega
          have cs := cnt_step hR hr hlt hjt
          have cl := cntL_len (R.take (i * 4 + j))
          have eg : (tubeAt R i).getD j 0 = R.getD (i * 4 + j) 0 := tubeAt_getD R i j hjt
          simp -implicitDefEqProofs only [lk_normal, hil, hjl, hR, cl, hl, eg, ZB, Int.reduceToNat, Nat.reduceLT, Nat.reduceLeDiff, Int.reduceLE, Int.reduceLT, Nat.reduceEqDiff, Nat.reduceSub, SB, SV.known, packR, ne_eq, reduceCtorEq, Nat.reduceEqDiff, ↓reduceIte, if_true, if_false, eq_self, Nat.reduceAdd, Nat.reduceMul, Nat.reduceSub, forall_const, oneCellS, litOne, flat1, Kd.isSca, flat, TYB]
          (try (and_intros <;> try (first | omega | (unfold In64; omega) | trivial | assumption)))
          refine ⟨j + 1, ?_, ?_, Sub.mk_id ?_ ?_ ?_ ?_ ?_⟩
          all_goals (try (simp only [cs.1, incr, LB, subS, subH, wfS, wfH, SV.ren, renL, SObj.ren, SV.wf, SObj.wf, wfL, SV.known, Nat.reduceEqDiff, ↓reduceIte, if_true, if_false, eq_self, Nat.reduceAdd, Nat.reduceLT, Nat.reduceLeDiff, implies_true, reduceCtorEq, forall_const]; done))
          all_goals (try (simp only [cs.1, incr, LB, subS, subH, wfS, wfH, SV.ren, renL, SObj.ren, SV.wf, SObj.wf, wfL, SV.known, Nat.reduceEqDiff, ↓reduceIte, if_true, if_false, eq_self, Nat.reduceAdd, Nat.reduceLT, Nat.reduceLeDiff, implies_true, reduceCtorEq, forall_const]; simp; done))
          all_goals (try (simp only [cs.1, incr, LB, subS, subH, wfS, wfH, SV.ren, renL, SObj.ren, SV.wf, SObj.wf, wfL, SV.known, Nat.reduceEqDiff, ↓reduceIte, if_true, if_false, eq_self, Nat.reduceAdd, Nat.reduceLT, Nat.reduceLeDiff, implies_true, reduceCtorEq, forall_const]; (and_intros <;> (first | omega | rfl | (simp; done) | (simp; omega))); done))
          all_goals (try dsimp only)
          all_goals (and_intros <;> try (first | omega | (unfold In64; omega) | trivial | assumption))
        · have hjl : ¬ (j : Int) < 4 := by omega
          obtain rfl : j = 4 := by omega
          simp -implicitDefEqProofs only [lk_normal, hjl, ZB, Int.reduceToNat, Nat.reduceLT, Nat.reduceLeDiff, Int.reduceLE, Int.reduceLT, Nat.reduceEqDiff, Nat.reduceSub, SB, SV.known, packR, ne_eq, reduceCtorEq, Nat.reduceEqDiff, ↓reduceIte, if_true, if_false, eq_self, Nat.reduceAdd, Nat.reduceMul, Nat.reduceSub, forall_const, oneCellS, litOne, flat1, Kd.isSca, flat, TYB]
          (try (and_intros <;> try (first | omega | (unfold In64; omega) | trivial | assumption)))
          have e2 : (i + 1) * 4 = i * 4 + 4 := by omega
          refine ⟨i + 1, ?_, ?_, Sub.mk_id ?_ ?_ ?_ ?_ ?_⟩
          all_goals (try (simp only [e2, LB, subS, subH, wfS, wfH, SV.ren, renL, SObj.ren, SV.wf, SObj.wf, wfL, SV.known, Nat.reduceEqDiff, ↓reduceIte, if_true, if_false, eq_self, Nat.reduceAdd, Nat.reduceLT, Nat.reduceLeDiff, implies_true, reduceCtorEq, forall_const]; done))
          all_goals (try (simp only [e2, LB, subS, subH, wfS, wfH, SV.ren, renL, SObj.ren, SV.wf, SObj.wf, wfL, SV.known, Nat.reduceEqDiff, ↓reduceIte, if_true, if_false, eq_self, Nat.reduceAdd, Nat.reduceLT, Nat.reduceLeDiff, implies_true, reduceCtorEq, forall_const]; simp; done))
          all_goals (try (simp only [e2, LB, subS, subH, wfS, wfH, SV.ren, renL, SObj.ren, SV.wf, SObj.wf, wfL, SV.known, Nat.reduceEqDiff, ↓reduceIte, if_true, if_false, eq_self, Nat.reduceAdd, Nat.reduceLT, Nat.reduceLeDiff, implies_true, reduceCtorEq, forall_const]; (and_intros <;> (first | omega | rfl | (simp; done) | (simp; omega))); done))
          all_goals (try dsimp only)
          all_goals (and_intros <;> try (first | omega | (unfold In64; omega) | trivial | assumption))
    · have hil : ¬ (i : Int) < 6 := by omega
      obtain rfl : i = 6 := by omega
      have cl2 := cntL_len R
      have tkc : (cntL R).take 6 = cntL R := List.take_of_length_le (by omega)
      simp -implicitDefEqProofs only [lk_normal, hil, hR, tkR, cl2, tkc, ZB, Int.reduceToNat, Nat.reduceLT, Nat.reduceLeDiff, Int.reduceLE, Int.reduceLT, Nat.reduceEqDiff, Nat.reduceSub, SB, SV.known, packR, ne_eq, reduceCtorEq, Nat.reduceEqDiff, ↓reduceIte, if_true, if_false, eq_self, Nat.reduceAdd, Nat.reduceMul, Nat.reduceSub, forall_const, oneCellS, litOne, flat1, Kd.isSca, flat, TYB]
      (try (and_intros <;> try (first | omega | (unfold In64; omega) | trivial | assumption)))
def countColors_F : List SV → Heap → Option (Prop × SV)
  | [.arr R], _ => some (R.length = 24 ∧ rackB R = true, .arr (cntL R))
  | _, _ => none
theorem countColors_T : ∀ args H p v, countColors_F args H = some (p, v) → p → PureH Tryz.prog 82 args H v := by
  intro args H p v h hp
  unfold countColors_F at h
  split at h
  · cases h; exact (countColors_ok _ hp.1 hp.2).any _
  · cases h
/-! Views. -/
end Go.Proofs.YtmccafjblhbmkaaGreat
set_option maxRecDepth 100000
set_option linter.unusedSimpArgs false
set_option linter.unusedVariables false
namespace Go.Proofs.YtmccafjblhbmkaaGreat
open Go Go.RowKit
theorem IsSorted_ok (R : List Int) (hR : R.length = 24) : PureH Tryz.prog 57 [.arr R] [] (.tup [.bool (rackB R && sortB R), .bool (rackB R)]) := by
  have tkR : R.take 24 = R := List.take_of_length_le (by omega)
  cases hr : rackB R
  all_goals
    refine pure_of_vc (X := ⟨Tryz.prog, tys, [(62, IsRack_F), (114, isSorted_F)], [], true, true, 0, [], []⟩) fn_57 ⟨tys_ok, (.cons IsRack_T (.cons isSorted_T .nil)), .nil, mixed⟩ (n0 := 0) (Nat.le_of_ble_eq_true rfl) (by simp [wfL, SV.wf]) (wfH_spec (by simp [wfH, SObj.wf])) (Nat.le_refl _) (fun _ => by simp [SV.wf, wfL]) ?_
    simp -implicitDefEqProofs only [Tryz.f57, Option.getD_some, argS, IsRack_F, isSorted_F, hR, tkR, hr, ZB, Int.reduceToNat, Nat.reduceLT, Nat.reduceLeDiff, Int.reduceLE, Int.reduceLT, Nat.reduceEqDiff, Nat.reduceSub, SB, SV.known, packR, ne_eq, reduceCtorEq, Nat.reduceEqDiff, ↓reduceIte, if_true, if_false, eq_self, Nat.reduceAdd, Nat.reduceMul, Nat.reduceSub, forall_const, oneCellS, litOne, flat1, Kd.isSca, flat, TYB]
def IsSorted_F : List SV → Heap → Option (Prop × SV)
  | [.arr R], _ => some (R.length = 24, .tup [.bool (rackB R && sortB R), .bool (rackB R)])
  | _, _ => none
theorem IsSorted_T : ∀ args H p v, IsSorted_F args H = some (p, v) → p → PureH Tryz.prog 57 args H v := by
  intro args H p v h hp
  unfold IsSorted_F at h
  split at h
  · cases h; exact (IsSorted_ok _ hp).any _
  · cases h
def ccF (R : List Int) : List Int := if rackB R = true then cntL R else List.replicate 6 0
--@tbl CountColors = impl.CountColors
--@tbl sCountColors = spec.CountColors
theorem CountColors_ok (R : List Int) (hR : R.length = 24) : PureH Tryz.prog 19 [.arr R] [] (.tup [.arr (ccF R), .bool (rackB R)]) := by
  have tkR : R.take 24 = R := List.take_of_length_le (by omega)
  have tkc : (cntL R).take 6 = cntL R := List.take_of_length_le (by rw [cntL_len]; omega)
  have lc := cntL_len R
  have r6 : List.take 6 (List.replicate 6 (0 : Int)) = List.replicate 6 0 := rfl
  unfold ccF
  cases hr : rackB R
  all_goals
    refine pure_of_vc (X := ⟨Tryz.prog, tys, [(62, IsRack_F), (82, countColors_F)], [], true, true, 0, [], []⟩) fn_19 ⟨tys_ok, (.cons IsRack_T (.cons countColors_T .nil)), .nil, mixed⟩ (n0 := 0) (Nat.le_of_ble_eq_true rfl) (by simp [wfL, SV.wf]) (wfH_spec (by simp [wfH, SObj.wf])) (Nat.le_refl _) (fun _ => by simp [SV.wf, wfL]) ?_
    simp -implicitDefEqProofs only [Tryz.f19, Option.getD_some, argS, IsRack_F, countColors_F, hR, tkR, hr, tkc, lc, r6, ZB, Int.reduceToNat, Nat.reduceLT, Nat.reduceLeDiff, Int.reduceLE, Int.reduceLT, Nat.reduceEqDiff, Nat.reduceSub, SB, SV.known, packR, ne_eq, reduceCtorEq, Nat.reduceEqDiff, ↓reduceIte, if_true, if_false, eq_self, Nat.reduceAdd, Nat.reduceMul, Nat.reduceSub, forall_const, oneCellS, litOne, flat1, Kd.isSca, flat, TYB]
def CountColors_F : List SV → Heap → Option (Prop × SV)
  | [.arr R], _ => some (R.length = 24, .tup [.arr (ccF R), .bool (rackB R)])
  | _, _ => none
theorem CountColors_T : ∀ args H p v, CountColors_F args H = some (p, v) → p → PureH Tryz.prog 19 args H v := by
  intro args H p v h hp
  unfold CountColors_F at h
  split at h
  · cases h; exact (CountColors_ok _ hp).any _
  · cases h
end Go.Proofs.YtmccafjblhbmkaaGreat
