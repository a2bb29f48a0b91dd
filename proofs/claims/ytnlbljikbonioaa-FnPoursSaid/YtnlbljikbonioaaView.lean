/- Walks: views. -/
import Derived.Test.YtnlbljikbonioaaBnd
set_option maxRecDepth 100000
set_option linter.unusedSimpArgs false
set_option linter.unusedVariables false
namespace Go.Proofs.Ytnlbljikbonioaa
open Go Go.RowKit
/-! Colors counted. -/
--@tbl countColors = impl.countColors
--@tbl l2Counts = spec.l2Counts
theorem cnt_step {R : List Int} (hR : R.length = 24) (hr : rackB R = true) {i j : Nat} (hi : i < 6) (hj : j < 4) : cntL (R.take (i * 4 + (j + 1))) = incr (cntL (R.take (i * 4 + j))) (R.getD (i * 4 + j) 0).toNat ∧ (0 ≤ R.getD (i * 4 + j) 0 ∧ R.getD (i * 4 + j) 0 ≤ 5) ∧
    0 ≤ (cntL (R.take (i * 4 + j))).getD (R.getD (i * 4 + j) 0).toNat 0 ∧ (cntL (R.take (i * 4 + j))).getD (R.getD (i * 4 + j) 0).toNat 0 ≤ 24 := by
  have := cntL_take_succ R (i * 4 + j) (by omega)
  have rc := rack_cell hR hr (k := i * 4 + j) (by omega)
  have cb := cntL_bd (R.take (i * 4 + j)) (R.getD (i * 4 + j) 0).toNat
  have : (R.take (i * 4 + j)).length ≤ 24 := by rw [List.length_take]; omega
  refine ⟨by rw [← Nat.add_assoc]; assumption, rc, by omega, by omega⟩
theorem countColors_ok (R : List Int) (hR : R.length = 24) (hr : rackB R = true) : PureH Try.prog 71 [.arr R] [] (.arr (cntL R)) := by
  have tkR : R.take 24 = R := List.take_of_length_le (by omega)
  refine pure_of_vc (X := ⟨Try.prog, tys, [], [], true, true, 0, [], []⟩) fn_71 ⟨tys_ok, .nil, .nil, mixed⟩ (n0 := 0) (Nat.le_of_ble_eq_true rfl) (by simp [wfL, SV.wf]) (wfH_spec (by simp [wfH, SObj.wf])) (Nat.le_refl _) (fun _ => by simp [SV.wf, wfL]) ?_
  simp -implicitDefEqProofs only [Try.f71, Option.getD_some, argS, hR, tkR, ZB, Int.reduceToNat, Nat.reduceLT, Nat.reduceLeDiff, Int.reduceLE, Int.reduceLT, Nat.reduceEqDiff, Nat.reduceSub, SB, SV.known, packR, ne_eq, reduceCtorEq, Nat.reduceEqDiff, ↓reduceIte, if_true, if_false, eq_self, Nat.reduceAdd, Nat.reduceMul, Nat.reduceSub, forall_const, oneCellS, litOne, flat1, Kd.isSca, flat, TYB]
  refine loop_intro (fun i : Nat => [(10, .int i), (9, .arr R), (3, .ptr 2 0), (2, .ptr 1 0), (1, .ptr 0 0)]) (fun i => [(0, .ints R 27), (1, .ints (List.replicate 6 0) 40), (2, .ints (cntL (R.take (i * 4))) 40)]) 3 (fun i => i ≤ 6) (fun i => 6 - i) ?_ ?_
  · refine ⟨0, ?_, Sub.mk_id ?_ ?_ ?_ ?_ ?_⟩
    all_goals (try (simp only [List.take_zero, Nat.zero_mul, cntL_nil, LB, subS, subH, wfS, wfH, SV.ren, renL, SObj.ren, SV.wf, SObj.wf, wfL, SV.known, Nat.reduceEqDiff, ↓reduceIte, if_true, if_false, eq_self, Nat.reduceAdd, Nat.reduceLT, Nat.reduceLeDiff, implies_true, reduceCtorEq, forall_const]; done))
    all_goals (try (simp only [List.take_zero, Nat.zero_mul, cntL_nil, LB, subS, subH, wfS, wfH, SV.ren, renL, SObj.ren, SV.wf, SObj.wf, wfL, SV.known, Nat.reduceEqDiff, ↓reduceIte, if_true, if_false, eq_self, Nat.reduceAdd, Nat.reduceLT, Nat.reduceLeDiff, implies_true, reduceCtorEq, forall_const]; simp; done))
    all_goals (try (simp only [List.take_zero, Nat.zero_mul, cntL_nil, LB, subS, subH, wfS, wfH, SV.ren, renL, SObj.ren, SV.wf, SObj.wf, wfL, SV.known, Nat.reduceEqDiff, ↓reduceIte, if_true, if_false, eq_self, Nat.reduceAdd, Nat.reduceLT, Nat.reduceLeDiff, implies_true, reduceCtorEq, forall_const]; (and_intros <;> (first | omega | rfl | (simp; done) | (simp; omega))); done))
    all_goals (try dsimp only)
    all_goals (and_intros <;> try (first | omega | (unfold In64; omega) | trivial | assumption))
  · intro i hi
    have eT : List.take 4 (List.drop (i * 4) R) = tubeAt R i := rfl
    by_cases hlt : i < 6
    · have hil : (i : Int) < 6 := by omega
      have hl := tubeAt_len hR hlt
      have tk4 : (tubeAt R i).take 4 = tubeAt R i := List.take_of_length_le (by omega)
      simp -implicitDefEqProofs only [lk_normal, hil, hR, eT, hl, tk4, ZB, Int.reduceToNat, Nat.reduceLT, Nat.reduceLeDiff, Int.reduceLE, Int.reduceLT, Nat.reduceEqDiff, Nat.reduceSub, SB, SV.known, packR, ne_eq, reduceCtorEq, Nat.reduceEqDiff, ↓reduceIte, if_true, if_false, eq_self, Nat.reduceAdd, Nat.reduceMul, Nat.reduceSub, forall_const, oneCellS, litOne, flat1, Kd.isSca, flat, TYB]
      refine ⟨by omega, ?_⟩
      refine loop_intro (fun j : Nat => [(14, .int j), (13, .arr (tubeAt R i)), (10, .int i), (9, .arr R), (3, .ptr 2 0), (2, .ptr 1 0), (1, .ptr 0 0)]) (fun j => [(0, .ints R 27), (1, .ints (List.replicate 6 0) 40), (2, .ints (cntL (R.take (i * 4 + j))) 40)]) 3 (fun j => j ≤ 4) (fun j => 4 - j) ?_ ?_
      · refine ⟨0, ?_, Sub.mk_id ?_ ?_ ?_ ?_ ?_⟩
        all_goals (try (simp only [Nat.add_zero, LB, subS, subH, wfS, wfH, SV.ren, renL, SObj.ren, SV.wf, SObj.wf, wfL, SV.known, Nat.reduceEqDiff, ↓reduceIte, if_true, if_false, eq_self, Nat.reduceAdd, Nat.reduceLT, Nat.reduceLeDiff, implies_true, reduceCtorEq, forall_const]; done))
        all_goals (try (simp only [Nat.add_zero, LB, subS, subH, wfS, wfH, SV.ren, renL, SObj.ren, SV.wf, SObj.wf, wfL, SV.known, Nat.reduceEqDiff, ↓reduceIte, if_true, if_false, eq_self, Nat.reduceAdd, Nat.reduceLT, Nat.reduceLeDiff, implies_true, reduceCtorEq, forall_const]; simp; done))
        all_goals (try (simp only [Nat.add_zero, LB, subS, subH, wfS, wfH, SV.ren, renL, SObj.ren, SV.wf, SObj.wf, wfL, SV.known, Nat.reduceEqDiff, ↓reduceIte, if_true, if_false, eq_self, Nat.reduceAdd, Nat.reduceLT, Nat.reduceLeDiff, implies_true, reduceCtorEq, forall_const]; (and_intros <;> (first | omega | rfl | (simp; done) | (simp; omega))); done))
        all_goals (try dsimp only)
        all_goals (and_intros <;> try (first | omega | (unfold In64; omega) | trivial | assumption))
      · intro j hj
        by_cases hjt : j < 4
        · have hjl : (j : Int) < 4 := by omega
          have cs := cnt_step hR hr hlt hjt
          have cl := cntL_len (R.take (i * 4 + j))
          have eg : (tubeAt R i).getD j 0 = R.getD (i * 4 + j) 0 := tubeAt_getD R i j hjt
          simp -implicitDefEqProofs only [lk_normal, hil, hjl, hR, cl, hl, eg, ZB, Int.reduceToNat, Nat.reduceLT, Nat.reduceLeDiff, Int.reduceLE, Int.reduceLT, Nat.reduceEqDiff, Nat.reduceSub, SB, SV.known, packR, ne_eq, reduceCtorEq, Nat.reduceEqDiff, ↓reduceIte, if_true, if_false, eq_self, Nat.reduceAdd, Nat.reduceMul, Nat.reduceSub, forall_const, oneCellS, litOne, flat1, Kd.isSca, flat, TYB]
          (try (and_intros <;> try (first | omega | (unfold In64; omega) | trivial | assumption)))
          refine ⟨j + 1, ?_, ?_, Sub.mk_id ?_ ?_ ?_ ?_ ?_⟩
          all_goals (try (simp only [cs.1, incr, LB, subS, subH, wfS, wfH, SV.ren, renL, SObj.ren, SV.wf, SObj.wf, wfL, SV.known, Nat.reduceEqDiff, ↓reduceIte, if_true, if_false, eq_self, Nat.reduceAdd, Nat.reduceLT, Nat.reduceLeDiff, implies_true, reduceCtorEq, forall_const]; done))
          all_goals (try (simp only [cs.1, incr, LB, subS, subH, wfS, wfH, SV.ren, renL, SObj.ren, SV.wf, SObj.wf, wfL, SV.known, Nat.reduceEqDiff, ↓reduceIte, if_true, if_false, eq_self, Nat.reduceAdd, Nat.reduceLT, Nat.reduceLeDiff, implies_true, reduceCtorEq, forall_const]; simp; done))
          all_goals (try (simp only [cs.1, incr, LB, subS, subH, wfS, wfH, SV.ren, renL, SObj.ren, SV.wf, SObj.wf, wfL, SV.known, Nat.reduceEqDiff, ↓reduceIte, if_true, if_false, eq_self, Nat.reduceAdd, Nat.reduceLT, Nat.reduceLeDiff, implies_true, reduceCtorEq, forall_const]; (and_intros <;> (first | omega | rfl | (simp; done) | (simp; omega))); done))
          all_goals (try dsimp only)
          all_goals (and_intros <;> try (first | omega | (unfold In64; omega) | trivial | assumption))
        · have hjl : ¬ (j : Int) < 4 := by omega
          obtain rfl : j = 4 := by omega
          simp -implicitDefEqProofs only [lk_normal, hjl, ZB, Int.reduceToNat, Nat.reduceLT, Nat.reduceLeDiff, Int.reduceLE, Int.reduceLT, Nat.reduceEqDiff, Nat.reduceSub, SB, SV.known, packR, ne_eq, reduceCtorEq, Nat.reduceEqDiff, ↓reduceIte, if_true, if_false, eq_self, Nat.reduceAdd, Nat.reduceMul, Nat.reduceSub, forall_const, oneCellS, litOne, flat1, Kd.isSca, flat, TYB]
          (try (and_intros <;> try (first | omega | (unfold In64; omega) | trivial | assumption)))
          have e2 : (i + 1) * 4 = i * 4 + 4 := by omega
          refine ⟨i + 1, ?_, ?_, Sub.mk_id ?_ ?_ ?_ ?_ ?_⟩
          all_goals (try (simp only [e2, LB, subS, subH, wfS, wfH, SV.ren, renL, SObj.ren, SV.wf, SObj.wf, wfL, SV.known, Nat.reduceEqDiff, ↓reduceIte, if_true, if_false, eq_self, Nat.reduceAdd, Nat.reduceLT, Nat.reduceLeDiff, implies_true, reduceCtorEq, forall_const]; done))
          all_goals (try (simp only [e2, LB, subS, subH, wfS, wfH, SV.ren, renL, SObj.ren, SV.wf, SObj.wf, wfL, SV.known, Nat.reduceEqDiff, ↓reduceIte, if_true, if_false, eq_self, Nat.reduceAdd, Nat.reduceLT, Nat.reduceLeDiff, implies_true, reduceCtorEq, forall_const]; simp; done))
          all_goals (try (simp only [e2, LB, subS, subH, wfS, wfH, SV.ren, renL, SObj.ren, SV.wf, SObj.wf, wfL, SV.known, Nat.reduceEqDiff, ↓reduceIte, if_true, if_false, eq_self, Nat.reduceAdd, Nat.reduceLT, Nat.reduceLeDiff, implies_true, reduceCtorEq, forall_const]; (and_intros <;> (first | omega | rfl | (simp; done) | (simp; omega))); done))
          all_goals (try dsimp only)
          all_goals (and_intros <;> try (first | omega | (unfold In64; omega) | trivial | assumption))
    · have hil : ¬ (i : Int) < 6 := by omega
      obtain rfl : i = 6 := by omega
      have cl2 := cntL_len R
      have tkc : (cntL R).take 6 = cntL R := List.take_of_length_le (by omega)
      simp -implicitDefEqProofs only [lk_normal, hil, hR, tkR, cl2, tkc, ZB, Int.reduceToNat, Nat.reduceLT, Nat.reduceLeDiff, Int.reduceLE, Int.reduceLT, Nat.reduceEqDiff, Nat.reduceSub, SB, SV.known, packR, ne_eq, reduceCtorEq, Nat.reduceEqDiff, ↓reduceIte, if_true, if_false, eq_self, Nat.reduceAdd, Nat.reduceMul, Nat.reduceSub, forall_const, oneCellS, litOne, flat1, Kd.isSca, flat, TYB]
      (try (and_intros <;> try (first | omega | (unfold In64; omega) | trivial | assumption)))
def countColors_F : List SV → Heap → Option (Prop × SV)
  | [.arr R], _ => some (R.length = 24 ∧ rackB R = true, .arr (cntL R))
  | _, _ => none
theorem countColors_T : ∀ args H p v, countColors_F args H = some (p, v) → p → PureH Try.prog 71 args H v := by
  intro args H p v h hp
  unfold countColors_F at h
  split at h
  · cases h; exact (countColors_ok _ hp.1 hp.2).any _
  · cases h
theorem l2Counts_ok (R : List Int) (hR : R.length = 24) (hr : rackB R = true) : PureH Try.prog 72 [.arr R] [] (.arr (cntL R)) := by
  have tkR : R.take 24 = R := List.take_of_length_le (by omega)
  refine pure_of_vc (X := ⟨Try.prog, tys, [], [], true, true, 0, [], []⟩) fn_72 ⟨tys_ok, .nil, .nil, mixed⟩ (n0 := 0) (Nat.le_of_ble_eq_true rfl) (by simp [wfL, SV.wf]) (wfH_spec (by simp [wfH, SObj.wf])) (Nat.le_refl _) (fun _ => by simp [SV.wf, wfL]) ?_
  simp -implicitDefEqProofs only [Try.f72, Option.getD_some, argS, hR, tkR, ZB, Int.reduceToNat, Nat.reduceLT, Nat.reduceLeDiff, Int.reduceLE, Int.reduceLT, Nat.reduceEqDiff, Nat.reduceSub, SB, SV.known, packR, ne_eq, reduceCtorEq, Nat.reduceEqDiff, ↓reduceIte, if_true, if_false, eq_self, Nat.reduceAdd, Nat.reduceMul, Nat.reduceSub, forall_const, oneCellS, litOne, flat1, Kd.isSca, flat, TYB]
  refine loop_intro (fun i : Nat => [(4, .int i), (3, .ptr 2 0), (2, .ptr 1 0), (1, .ptr 0 0)]) (fun i => [(0, .ints R 27), (1, .ints (List.replicate 6 0) 40), (2, .ints (cntL (R.take (i * 4))) 40)]) 3 (fun i => i ≤ 6) (fun i => 6 - i) ?_ ?_
  · refine ⟨0, ?_, Sub.mk_id ?_ ?_ ?_ ?_ ?_⟩
    all_goals (try (simp only [List.take_zero, Nat.zero_mul, cntL_nil, LB, subS, subH, wfS, wfH, SV.ren, renL, SObj.ren, SV.wf, SObj.wf, wfL, SV.known, Nat.reduceEqDiff, ↓reduceIte, if_true, if_false, eq_self, Nat.reduceAdd, Nat.reduceLT, Nat.reduceLeDiff, implies_true, reduceCtorEq, forall_const]; done))
    all_goals (try (simp only [List.take_zero, Nat.zero_mul, cntL_nil, LB, subS, subH, wfS, wfH, SV.ren, renL, SObj.ren, SV.wf, SObj.wf, wfL, SV.known, Nat.reduceEqDiff, ↓reduceIte, if_true, if_false, eq_self, Nat.reduceAdd, Nat.reduceLT, Nat.reduceLeDiff, implies_true, reduceCtorEq, forall_const]; simp; done))
    all_goals (try (simp only [List.take_zero, Nat.zero_mul, cntL_nil, LB, subS, subH, wfS, wfH, SV.ren, renL, SObj.ren, SV.wf, SObj.wf, wfL, SV.known, Nat.reduceEqDiff, ↓reduceIte, if_true, if_false, eq_self, Nat.reduceAdd, Nat.reduceLT, Nat.reduceLeDiff, implies_true, reduceCtorEq, forall_const]; (and_intros <;> (first | omega | rfl | (simp; done) | (simp; omega))); done))
    all_goals (try dsimp only)
    all_goals (and_intros <;> try (first | omega | (unfold In64; omega) | trivial | assumption))
  · intro i hi
    by_cases hlt : i < 6
    · have hil : (i : Int) < 6 := by omega
      simp -implicitDefEqProofs only [lk_normal, hil, hR, ZB, Int.reduceToNat, Nat.reduceLT, Nat.reduceLeDiff, Int.reduceLE, Int.reduceLT, Nat.reduceEqDiff, Nat.reduceSub, SB, SV.known, packR, ne_eq, reduceCtorEq, Nat.reduceEqDiff, ↓reduceIte, if_true, if_false, eq_self, Nat.reduceAdd, Nat.reduceMul, Nat.reduceSub, forall_const, oneCellS, litOne, flat1, Kd.isSca, flat, TYB]
      refine loop_intro (fun j : Nat => [(4, .int i), (5, .int j), (3, .ptr 2 0), (2, .ptr 1 0), (1, .ptr 0 0)]) (fun j => [(0, .ints R 27), (1, .ints (List.replicate 6 0) 40), (2, .ints (cntL (R.take (i * 4 + j))) 40)]) 3 (fun j => j ≤ 4) (fun j => 4 - j) ?_ ?_
      · refine ⟨0, ?_, Sub.mk_id ?_ ?_ ?_ ?_ ?_⟩
        all_goals (try (simp only [Nat.add_zero, LB, subS, subH, wfS, wfH, SV.ren, renL, SObj.ren, SV.wf, SObj.wf, wfL, SV.known, Nat.reduceEqDiff, ↓reduceIte, if_true, if_false, eq_self, Nat.reduceAdd, Nat.reduceLT, Nat.reduceLeDiff, implies_true, reduceCtorEq, forall_const]; done))
        all_goals (try (simp only [Nat.add_zero, LB, subS, subH, wfS, wfH, SV.ren, renL, SObj.ren, SV.wf, SObj.wf, wfL, SV.known, Nat.reduceEqDiff, ↓reduceIte, if_true, if_false, eq_self, Nat.reduceAdd, Nat.reduceLT, Nat.reduceLeDiff, implies_true, reduceCtorEq, forall_const]; simp; done))
        all_goals (try (simp only [Nat.add_zero, LB, subS, subH, wfS, wfH, SV.ren, renL, SObj.ren, SV.wf, SObj.wf, wfL, SV.known, Nat.reduceEqDiff, ↓reduceIte, if_true, if_false, eq_self, Nat.reduceAdd, Nat.reduceLT, Nat.reduceLeDiff, implies_true, reduceCtorEq, forall_const]; (and_intros <;> (first | omega | rfl | (simp; done) | (simp; omega))); done))
        all_goals (try dsimp only)
        all_goals (and_intros <;> try (first | omega | (unfold In64; omega) | trivial | assumption))
      · intro j hj
        by_cases hjt : j < 4
        · have hjl : (j : Int) < 4 := by omega
          have cs := cnt_step hR hr hlt hjt
          have cl := cntL_len (R.take (i * 4 + j))
          simp -implicitDefEqProofs only [lk_normal, hil, hjl, hR, cl, ZB, Int.reduceToNat, Nat.reduceLT, Nat.reduceLeDiff, Int.reduceLE, Int.reduceLT, Nat.reduceEqDiff, Nat.reduceSub, SB, SV.known, packR, ne_eq, reduceCtorEq, Nat.reduceEqDiff, ↓reduceIte, if_true, if_false, eq_self, Nat.reduceAdd, Nat.reduceMul, Nat.reduceSub, forall_const, oneCellS, litOne, flat1, Kd.isSca, flat, TYB]
          (try (and_intros <;> try (first | omega | (unfold In64; omega) | trivial | assumption)))
          refine ⟨j + 1, ?_, ?_, Sub.mk_id ?_ ?_ ?_ ?_ ?_⟩
          all_goals (try (simp only [cs.1, incr, LB, subS, subH, wfS, wfH, SV.ren, renL, SObj.ren, SV.wf, SObj.wf, wfL, SV.known, Nat.reduceEqDiff, ↓reduceIte, if_true, if_false, eq_self, Nat.reduceAdd, Nat.reduceLT, Nat.reduceLeDiff, implies_true, reduceCtorEq, forall_const]; done))
          all_goals (try (simp only [cs.1, incr, LB, subS, subH, wfS, wfH, SV.ren, renL, SObj.ren, SV.wf, SObj.wf, wfL, SV.known, Nat.reduceEqDiff, ↓reduceIte, if_true, if_false, eq_self, Nat.reduceAdd, Nat.reduceLT, Nat.reduceLeDiff, implies_true, reduceCtorEq, forall_const]; simp; done))
          all_goals (try (simp only [cs.1, incr, LB, subS, subH, wfS, wfH, SV.ren, renL, SObj.ren, SV.wf, SObj.wf, wfL, SV.known, Nat.reduceEqDiff, ↓reduceIte, if_true, if_false, eq_self, Nat.reduceAdd, Nat.reduceLT, Nat.reduceLeDiff, implies_true, reduceCtorEq, forall_const]; (and_intros <;> (first | omega | rfl | (simp; done) | (simp; omega))); done))
          all_goals (try dsimp only)
          all_goals (and_intros <;> try (first | omega | (unfold In64; omega) | trivial | assumption))
        · have hjl : ¬ (j : Int) < 4 := by omega
          obtain rfl : j = 4 := by omega
          simp -implicitDefEqProofs only [lk_normal, hjl, ZB, Int.reduceToNat, Nat.reduceLT, Nat.reduceLeDiff, Int.reduceLE, Int.reduceLT, Nat.reduceEqDiff, Nat.reduceSub, SB, SV.known, packR, ne_eq, reduceCtorEq, Nat.reduceEqDiff, ↓reduceIte, if_true, if_false, eq_self, Nat.reduceAdd, Nat.reduceMul, Nat.reduceSub, forall_const, oneCellS, litOne, flat1, Kd.isSca, flat, TYB]
          (try (and_intros <;> try (first | omega | (unfold In64; omega) | trivial | assumption)))
          have e2 : (i + 1) * 4 = i * 4 + 4 := by omega
          refine ⟨i + 1, ?_, ?_, Sub.mk_id ?_ ?_ ?_ ?_ ?_⟩
          all_goals (try (simp only [e2, LB, subS, subH, wfS, wfH, SV.ren, renL, SObj.ren, SV.wf, SObj.wf, wfL, SV.known, Nat.reduceEqDiff, ↓reduceIte, if_true, if_false, eq_self, Nat.reduceAdd, Nat.reduceLT, Nat.reduceLeDiff, implies_true, reduceCtorEq, forall_const]; done))
          all_goals (try (simp only [e2, LB, subS, subH, wfS, wfH, SV.ren, renL, SObj.ren, SV.wf, SObj.wf, wfL, SV.known, Nat.reduceEqDiff, ↓reduceIte, if_true, if_false, eq_self, Nat.reduceAdd, Nat.reduceLT, Nat.reduceLeDiff, implies_true, reduceCtorEq, forall_const]; simp; done))
          all_goals (try (simp only [e2, LB, subS, subH, wfS, wfH, SV.ren, renL, SObj.ren, SV.wf, SObj.wf, wfL, SV.known, Nat.reduceEqDiff, ↓reduceIte, if_true, if_false, eq_self, Nat.reduceAdd, Nat.reduceLT, Nat.reduceLeDiff, implies_true, reduceCtorEq, forall_const]; (and_intros <;> (first | omega | rfl | (simp; done) | (simp; omega))); done))
          all_goals (try dsimp only)
          all_goals (and_intros <;> try (first | omega | (unfold In64; omega) | trivial | assumption))
    · have hil : ¬ (i : Int) < 6 := by omega
      obtain rfl : i = 6 := by omega
      have cl2 := cntL_len R
      have tkc : (cntL R).take 6 = cntL R := List.take_of_length_le (by omega)
      simp -implicitDefEqProofs only [lk_normal, hil, hR, tkR, cl2, tkc, ZB, Int.reduceToNat, Nat.reduceLT, Nat.reduceLeDiff, Int.reduceLE, Int.reduceLT, Nat.reduceEqDiff, Nat.reduceSub, SB, SV.known, packR, ne_eq, reduceCtorEq, Nat.reduceEqDiff, ↓reduceIte, if_true, if_false, eq_self, Nat.reduceAdd, Nat.reduceMul, Nat.reduceSub, forall_const, oneCellS, litOne, flat1, Kd.isSca, flat, TYB]
      (try (and_intros <;> try (first | omega | (unfold In64; omega) | trivial | assumption)))
def l2Counts_F : List SV → Heap → Option (Prop × SV)
  | [.arr R], _ => some (R.length = 24 ∧ rackB R = true, .arr (cntL R))
  | _, _ => none
theorem l2Counts_T : ∀ args H p v, l2Counts_F args H = some (p, v) → p → PureH Try.prog 72 args H v := by
  intro args H p v h hp
  unfold l2Counts_F at h
  split at h
  · cases h; exact (l2Counts_ok _ hp.1 hp.2).any _
  · cases h
/-! Views. -/
def topL (R : List Int) : List Int := (List.range 6).map fun i => (topF (tubeAt R i)).1
def manL (R : List Int) : List Int := (List.range 6).map fun i => (layN (tubeAt R i) : Int)
theorem topL_len (R : List Int) : (topL R).length = 6 := by simp [topL]
theorem manL_len (R : List Int) : (manL R).length = 6 := by simp [manL]
theorem topL_getD (R : List Int) (i : Nat) (h : i < 6) : (topL R).getD i 0 = (topF (tubeAt R i)).1 := by simp [topL, List.getD, h]
theorem manL_getD (R : List Int) (i : Nat) (h : i < 6) : (manL R).getD i 0 = (layN (tubeAt R i) : Int) := by simp [manL, List.getD, h]
def ctL (R : List Int) : List Int := (cntL R).set 0 0
theorem ctL_len (R : List Int) : (ctL R).length = 6 := by simp [ctL, cntL_len]
def viewF (R : List Int) : List Int := topL R ++ manL R ++ ctL R
theorem viewF_len (R : List Int) : (viewF R).length = 18 := by simp [viewF, topL_len, manL_len, ctL_len]
/-- A view in the making. -/
def vwK (R C : List Int) (k : Nat) : List Int := ((topL R).take k ++ List.replicate (6 - k) 0) ++ ((manL R).take k ++ List.replicate (6 - k) 0) ++ C
theorem vwK_len (R C : List Int) (k : Nat) (hk : k ≤ 6) : (vwK R C k).length = 12 + C.length := by
  simp [vwK, topL_len, manL_len]; omega
theorem vwK_zero (R C : List Int) : vwK R C 0 = List.replicate 12 0 ++ C := by
  simp only [vwK, List.take_zero, List.nil_append, Nat.sub_zero]
  rfl
theorem vwK_step (R C : List Int) (k : Nat) (hk : k < 6) : ((vwK R C k).set k (topF (tubeAt R k)).1).set (6 + k) (layN (tubeAt R k) : Int) = vwK R C (k + 1) := by
  have t1 : ((topL R).take k ++ List.replicate (6 - k) 0).length = 6 := by simp [topL_len]; omega
  have t2 : ((manL R).take k ++ List.replicate (6 - k) 0).length = 6 := by simp [manL_len]; omega
  have f1 := fill_step (topL R) k 6 hk (topL_len R)
  have f2 := fill_step (manL R) k 6 hk (manL_len R)
  rw [topL_getD R k hk] at f1
  rw [manL_getD R k hk] at f2
  unfold vwK
  rw [List.append_assoc, List.set_append_left _ _ (by omega), f1]
  have t3 : (List.take (k + 1) (topL R) ++ List.replicate (6 - (k + 1)) 0).length = 6 := by simp [topL_len]; omega
  rw [List.set_append_right _ _ (by omega), t3, show 6 + k - 6 = k by omega, List.set_append_left _ _ (by omega), f2]
  simp only [List.append_assoc]
theorem vwK_end (R C : List Int) : vwK R C 6 = topL R ++ manL R ++ C := by
  unfold vwK
  rw [List.take_of_length_le (by rw [topL_len]; omega), List.take_of_length_le (by rw [manL_len]; omega)]
  simp
theorem vwK_step1 (R C : List Int) (k : Nat) (hk : k < 6) : ((vwK R C k).set k (topF (tubeAt R k)).1).length = 12 + C.length := by rw [List.length_set, vwK_len _ _ _ (by omega)]
--@tbl viewOf = impl.viewOf
--@tbl l7View = spec.l7View
--@tbl ViewBehind = impl.ViewBehind
--@tbl sViewBehind = spec.ViewBehind
def vbF (R : List Int) (i j : Int) : List Int := if pourB R i j = true then viewF (pourF R i.toNat j.toNat) else List.replicate 18 0
theorem vbF_len (R : List Int) (i j : Int) : (vbF R i j).length = 18 := by
  unfold vbF
  split
  · exact viewF_len _
  · rfl
end Go.Proofs.Ytnlbljikbonioaa
