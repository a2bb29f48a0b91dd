/- Walks: lists of pours. -/
import Derived.Test.YtnlbljikbonioaaM
set_option maxRecDepth 100000
set_option linter.unusedSimpArgs false
set_option linter.unusedVariables false
namespace Go.Proofs.Ytnlbljikbonioaa
open Go Go.RowKit
def prK (R : List Int) (k : Nat) : List Int := if canF R ((k / 6 : Nat) : Int) ((k % 6 : Nat) : Int) = true then [((k / 6 : Nat) : Int), ((k % 6 : Nat) : Int)] else []
def PL (R : List Int) (m : Nat) : List Int := (List.range m).flatMap (prK R)
theorem PL_zero (R : List Int) : PL R 0 = [] := rfl
theorem PL_succ (R : List Int) (m : Nat) : PL R (m + 1) = PL R m ++ prK R m := by simp [PL, List.range_succ]
theorem PL_at (R : List Int) (i j : Nat) (hj : j < 6) : PL R (i * 6 + j + 1) = PL R (i * 6 + j) ++ if canF R i j = true then [(i : Int), (j : Int)] else [] := by
  rw [PL_succ]
  have e1 : (i * 6 + j) / 6 = i := by omega
  have e2 : (i * 6 + j) % 6 = j := by omega
  simp only [prK, e1, e2]
--@tbl pours = impl.pours
theorem pours_ok (R : List Int) (hR : R.length = 24) : FreshP Try.prog 63 [.arr R] [] (PL R 36) ((PL R 36).length / 2) 2 44 true .one := by
  have tkR : R.take 24 = R := List.take_of_length_le (by omega)
  refine fresh_of_vc (X := ⟨Try.prog, tys, [(57, canPour_F)], [], true, true, 0, [], []⟩) fn_63 ⟨tys_ok, (.cons canPour_T .nil), .nil, mixed⟩ (n0 := 0) rfl (Nat.le_of_ble_eq_true rfl) (by simp [wfL, SV.wf]) (wfH_spec (by simp [wfH, SObj.wf])) (Nat.le_refl _) ?_
  simp -implicitDefEqProofs only [Try.f63, Option.getD_some, argS, canPour_F, hR, tkR, ZB, Int.reduceToNat, Nat.reduceLT, Nat.reduceLeDiff, Int.reduceLE, Int.reduceLT, Nat.reduceEqDiff, Nat.reduceSub, SB, SV.known, packR, ne_eq, reduceCtorEq, Nat.reduceEqDiff, ↓reduceIte, if_true, if_false, eq_self, Nat.reduceAdd, Nat.reduceMul, Nat.reduceSub, forall_const, oneCellS, litOne, flat1, Kd.isSca, flat, TYB]
  refine loop_intro (fun s : Nat × Nat × Nat × List Int => [(1, .ptr 0 0), (3, outV s.2.1 s.2.1 s.2.2.1), (6, .int s.1)]) (fun s => outH s.2.1 (PL R (s.1 * 6) ++ s.2.2.2) 44 [(0, .ints R 27)]) 2
    (fun s => s.1 ≤ 6 ∧ (PL R (s.1 * 6)).length = s.2.1 * 2 ∧ s.2.1 ≤ 37 ∧ s.2.1 ≤ s.1 * 6 ∧ s.2.2.2.length + s.2.1 * 2 = s.2.2.1 * 2) (fun s => 6 - s.1) ?_ ?_
  · refine ⟨(0, 0, 0, []), ⟨by omega, by simp [PL_zero], by simp, by simp, by simp⟩, Sub.mk_id ?_ ?_ ?_ ?_ ?_⟩
    all_goals simp only [outV_zero, outH_zero, LB, subS, subH, wfS, wfH, SV.ren, renL, SObj.ren, SV.wf, SObj.wf, wfL, SV.known, Nat.reduceEqDiff, ↓reduceIte, if_true, if_false, eq_self, Nat.reduceAdd, Nat.reduceLT, Nat.reduceLeDiff, implies_true, reduceCtorEq, forall_const]
    all_goals (try simp)
  · rintro ⟨i, n, cap, junk⟩ ⟨hi, hL, hn, hni, hj⟩
    simp only at hi hL hn hni hj
    simp -implicitDefEqProofs only [lk_normal, hR, ZB, Int.reduceToNat, Nat.reduceLT, Nat.reduceLeDiff, Int.reduceLE, Int.reduceLT, Nat.reduceEqDiff, Nat.reduceSub, SB, SV.known, packR, ne_eq, reduceCtorEq, Nat.reduceEqDiff, ↓reduceIte, if_true, if_false, eq_self, Nat.reduceAdd, Nat.reduceMul, Nat.reduceSub, forall_const, oneCellS, litOne, flat1, Kd.isSca, flat, TYB]
    refine ⟨fun h => ?_, fun h => ?_⟩
    · have hi6 : i < 6 := by omega
      refine loop_intro (fun s : Nat × Nat × Nat × List Int => [(1, .ptr 0 0), (3, outV s.2.1 s.2.1 s.2.2.1), (4, .int i), (6, .int i), (9, .int s.1)]) (fun s => outH s.2.1 (PL R (i * 6 + s.1) ++ s.2.2.2) 44 [(0, .ints R 27)]) 2
        (fun s => s.1 ≤ 6 ∧ (PL R (i * 6 + s.1)).length = s.2.1 * 2 ∧ s.2.1 ≤ 37 ∧ s.2.1 ≤ i * 6 + s.1 ∧ s.2.2.2.length + s.2.1 * 2 = s.2.2.1 * 2) (fun s => 6 - s.1) ?_ ?_
      · refine ⟨(0, n, cap, junk), ⟨by simp, by simpa using hL, by simpa using hn, by simpa using hni, by simpa using hj⟩, ?_⟩
        cases n with
        | zero =>
          refine Sub.mk_id ?_ ?_ ?_ ?_ ?_
          all_goals simp only [outV_zero, outH_zero, LB, subS, subH, wfS, wfH, SV.ren, renL, SObj.ren, SV.wf, SObj.wf, wfL, SV.known, Nat.reduceEqDiff, ↓reduceIte, if_true, if_false, eq_self, Nat.reduceAdd, Nat.reduceLT, Nat.reduceLeDiff, implies_true, reduceCtorEq, forall_const]
          all_goals (try simp)
        | succ n =>
          refine Sub.mk_id ?_ ?_ ?_ ?_ ?_
          all_goals simp only [outV_succ, outH_succ, LB, subS, subH, wfS, wfH, SV.ren, renL, SObj.ren, SV.wf, SObj.wf, wfL, SV.known, Nat.reduceEqDiff, ↓reduceIte, if_true, if_false, eq_self, Nat.reduceAdd, Nat.reduceLT, Nat.reduceLeDiff, implies_true, reduceCtorEq, forall_const]
          all_goals (try simp)
      · rintro ⟨j, n, cap, junk⟩ ⟨gj, gL, gn, gni, gk⟩
        simp only at gj gL gn gni gk
        have es := fun hj => PL_at R i j hj
        have e6 : (i + 1) * 6 = i * 6 + 6 := by omega
        cases hc : canF R (i : Int) (j : Int) with
        | false =>
         cases n with
         | zero =>
          simp -implicitDefEqProofs only [lk_normal, canPour_F, outV_zero, outH_zero, hR, tkR, hc, ZB, Int.reduceToNat, Nat.reduceLT, Nat.reduceLeDiff, Int.reduceLE, Int.reduceLT, Nat.reduceEqDiff, Nat.reduceSub, SB, SV.known, packR, ne_eq, reduceCtorEq, Nat.reduceEqDiff, ↓reduceIte, if_true, if_false, eq_self, Nat.reduceAdd, Nat.reduceMul, Nat.reduceSub, forall_const, oneCellS, litOne, flat1, Kd.isSca, flat, TYB]
          refine ⟨fun hx => ?_, fun hx => ?_⟩
          · have e1 := es (by omega)
            rw [hc] at e1
            simp only [Bool.false_eq_true, if_false, List.append_nil] at e1
            (try (and_intros <;> try (first | omega | (unfold In64; omega) | trivial | assumption)))
            refine ⟨(j + 1, 0, cap, junk), ⟨by simp only; omega, by simp only [← Nat.add_assoc]; rw [e1]; exact gL, by simp only; omega, by simp only; omega, by simp only; omega⟩, by simp only; omega, Sub.mk_id ?_ ?_ ?_ ?_ ?_⟩
            all_goals simp only [outV_zero, outH_zero, ← Nat.add_assoc, e1, LB, subS, subH, wfS, wfH, SV.ren, renL, SObj.ren, SV.wf, SObj.wf, wfL, SV.known, Nat.reduceEqDiff, ↓reduceIte, if_true, if_false, eq_self, Nat.reduceAdd, Nat.reduceLT, Nat.reduceLeDiff, implies_true, reduceCtorEq, forall_const]
            all_goals (try simp)
          · have hj6 : j = 6 := by omega
            subst hj6
            (try (and_intros <;> try (first | omega | (unfold In64; omega) | trivial | assumption)))
            refine ⟨(i + 1, 0, cap, junk), ⟨by simp only; omega, by simp only; rw [e6]; exact gL, by simp only; omega, by simp only; omega, by simp only; omega⟩, by simp only; omega, Sub.mk_id ?_ ?_ ?_ ?_ ?_⟩
            all_goals simp only [outV_zero, outH_zero, e6, LB, subS, subH, wfS, wfH, SV.ren, renL, SObj.ren, SV.wf, SObj.wf, wfL, SV.known, Nat.reduceEqDiff, ↓reduceIte, if_true, if_false, eq_self, Nat.reduceAdd, Nat.reduceLT, Nat.reduceLeDiff, implies_true, reduceCtorEq, forall_const]
            all_goals (try simp)
         | succ n =>
          simp -implicitDefEqProofs only [lk_normal, canPour_F, outV_succ, outH_succ, hR, tkR, hc, ZB, Int.reduceToNat, Nat.reduceLT, Nat.reduceLeDiff, Int.reduceLE, Int.reduceLT, Nat.reduceEqDiff, Nat.reduceSub, SB, SV.known, packR, ne_eq, reduceCtorEq, Nat.reduceEqDiff, ↓reduceIte, if_true, if_false, eq_self, Nat.reduceAdd, Nat.reduceMul, Nat.reduceSub, forall_const, oneCellS, litOne, flat1, Kd.isSca, flat, TYB]
          refine ⟨fun hx => ?_, fun hx => ?_⟩
          · have e1 := es (by omega)
            rw [hc] at e1
            simp only [Bool.false_eq_true, if_false, List.append_nil] at e1
            (try (and_intros <;> try (first | omega | (unfold In64; omega) | trivial | assumption)))
            refine ⟨(j + 1, n + 1, cap, junk), ⟨by simp only; omega, by simp only [← Nat.add_assoc]; rw [e1]; exact gL, by simp only; omega, by simp only; omega, by simp only; omega⟩, by simp only; omega, Sub.mk_id ?_ ?_ ?_ ?_ ?_⟩
            all_goals simp only [outV_succ, outH_succ, ← Nat.add_assoc, e1, LB, subS, subH, wfS, wfH, SV.ren, renL, SObj.ren, SV.wf, SObj.wf, wfL, SV.known, Nat.reduceEqDiff, ↓reduceIte, if_true, if_false, eq_self, Nat.reduceAdd, Nat.reduceLT, Nat.reduceLeDiff, implies_true, reduceCtorEq, forall_const]
            all_goals (try simp)
          · have hj6 : j = 6 := by omega
            subst hj6
            (try (and_intros <;> try (first | omega | (unfold In64; omega) | trivial | assumption)))
            refine ⟨(i + 1, n + 1, cap, junk), ⟨by simp only; omega, by simp only; rw [e6]; exact gL, by simp only; omega, by simp only; omega, by simp only; omega⟩, by simp only; omega, Sub.mk_id ?_ ?_ ?_ ?_ ?_⟩
            all_goals simp only [outV_succ, outH_succ, e6, LB, subS, subH, wfS, wfH, SV.ren, renL, SObj.ren, SV.wf, SObj.wf, wfL, SV.known, Nat.reduceEqDiff, ↓reduceIte, if_true, if_false, eq_self, Nat.reduceAdd, Nat.reduceLT, Nat.reduceLeDiff, implies_true, reduceCtorEq, forall_const]
            all_goals (try simp)
        | true =>
         cases n with
         | zero =>
          simp -implicitDefEqProofs only [lk_normal, canPour_F, outV_zero, outH_zero, hR, tkR, hc, ZB, Int.reduceToNat, Nat.reduceLT, Nat.reduceLeDiff, Int.reduceLE, Int.reduceLT, Nat.reduceEqDiff, Nat.reduceSub, SB, SV.known, packR, ne_eq, reduceCtorEq, Nat.reduceEqDiff, ↓reduceIte, if_true, if_false, eq_self, Nat.reduceAdd, Nat.reduceMul, Nat.reduceSub, forall_const, oneCellS, litOne, flat1, Kd.isSca, flat, TYB]
          refine ⟨fun hx => ?_, fun hx => ?_⟩
          · have e1 := es (by omega)
            have e0 : PL R (i * 6 + j) = [] := List.length_eq_zero_iff.1 (by simpa using gL)
            rw [hc, e0] at e1
            simp only [if_true, List.nil_append] at e1
            (try (and_intros <;> try (first | omega | (unfold In64; omega) | trivial | assumption)))
            intro junk' cap' hj'
            (try (and_intros <;> try (first | omega | (unfold In64; omega) | trivial | assumption)))
            refine ⟨(j + 1, 1, cap', junk'), ⟨by simp only; omega, by simp only [← Nat.add_assoc]; rw [e1]; rfl, by simp only; omega, by simp only; omega, by simp only; omega⟩, by simp only; omega, Sub.mk_to 1 3 ?_ ?_ ?_ ?_ ?_ ?_ ?_⟩
            all_goals simp only [outV_succ, outH_succ, ← Nat.add_assoc, e1, LB, subS, subH, wfS, wfH, SV.ren, renL, SObj.ren, SV.wf, SObj.wf, wfL, SV.known, Nat.reduceEqDiff, ↓reduceIte, if_true, if_false, eq_self, Nat.reduceAdd, Nat.reduceLT, Nat.reduceLeDiff, implies_true, reduceCtorEq, forall_const]
            all_goals (try simp)
          · have hj6 : j = 6 := by omega
            subst hj6
            (try (and_intros <;> try (first | omega | (unfold In64; omega) | trivial | assumption)))
            refine ⟨(i + 1, 0, cap, junk), ⟨by simp only; omega, by simp only; rw [e6]; exact gL, by simp only; omega, by simp only; omega, by simp only; omega⟩, by simp only; omega, Sub.mk_id ?_ ?_ ?_ ?_ ?_⟩
            all_goals simp only [outV_zero, outH_zero, e6, LB, subS, subH, wfS, wfH, SV.ren, renL, SObj.ren, SV.wf, SObj.wf, wfL, SV.known, Nat.reduceEqDiff, ↓reduceIte, if_true, if_false, eq_self, Nat.reduceAdd, Nat.reduceLT, Nat.reduceLeDiff, implies_true, reduceCtorEq, forall_const]
            all_goals (try simp)
         | succ n =>
          have tkL : (PL R (i * 6 + j) ++ junk).take ((n + 1) * 2) = PL R (i * 6 + j) := List.take_left' gL
          have lenL : (PL R (i * 6 + j) ++ junk).length = cap * 2 := by rw [List.length_append]; omega
          simp -implicitDefEqProofs only [lk_normal, canPour_F, outV_succ, outH_succ, hR, tkR, hc, tkL, lenL, ZB, Int.reduceToNat, Nat.reduceLT, Nat.reduceLeDiff, Int.reduceLE, Int.reduceLT, Nat.reduceEqDiff, Nat.reduceSub, SB, SV.known, packR, ne_eq, reduceCtorEq, Nat.reduceEqDiff, ↓reduceIte, if_true, if_false, eq_self, Nat.reduceAdd, Nat.reduceMul, Nat.reduceSub, forall_const, oneCellS, litOne, flat1, Kd.isSca, flat, TYB]
          refine ⟨fun hx => ?_, fun hx => ?_⟩
          · have e1 := es (by omega)
            rw [hc] at e1
            simp only [if_true] at e1
            (try (and_intros <;> try (first | omega | (unfold In64; omega) | trivial | assumption)))
            intro junk' cap' hj'
            (try (and_intros <;> try (first | omega | (unfold In64; omega) | trivial | assumption)))
            refine ⟨(j + 1, n + 1 + 1, cap', junk'), ⟨by simp only; omega, by simp only [← Nat.add_assoc]; rw [e1, List.length_append, gL]; simp; omega, by simp only; omega, by simp only; omega, by simp only; omega⟩, by simp only; omega, Sub.mk_to 1 3 ?_ ?_ ?_ ?_ ?_ ?_ ?_⟩
            all_goals simp only [outV_succ, outH_succ, ← Nat.add_assoc, e1, LB, subS, subH, wfS, wfH, SV.ren, renL, SObj.ren, SV.wf, SObj.wf, wfL, SV.known, Nat.reduceEqDiff, ↓reduceIte, if_true, if_false, eq_self, Nat.reduceAdd, Nat.reduceLT, Nat.reduceLeDiff, implies_true, reduceCtorEq, forall_const]
            all_goals (try simp)
          · have hj6 : j = 6 := by omega
            subst hj6
            (try (and_intros <;> try (first | omega | (unfold In64; omega) | trivial | assumption)))
            refine ⟨(i + 1, n + 1, cap, junk), ⟨by simp only; omega, by simp only; rw [e6]; exact gL, by simp only; omega, by simp only; omega, by simp only; omega⟩, by simp only; omega, Sub.mk_id ?_ ?_ ?_ ?_ ?_⟩
            all_goals simp only [outV_succ, outH_succ, e6, LB, subS, subH, wfS, wfH, SV.ren, renL, SObj.ren, SV.wf, SObj.wf, wfL, SV.known, Nat.reduceEqDiff, ↓reduceIte, if_true, if_false, eq_self, Nat.reduceAdd, Nat.reduceLT, Nat.reduceLeDiff, implies_true, reduceCtorEq, forall_const]
            all_goals (try simp)
    · obtain rfl : i = 6 := by omega
      have kn : ∀ a b c, (outV a b c).known = true := fun a b c => by cases a <;> rfl
      refine ⟨kn _ _ _, ?_⟩
      cases n with
      | zero => 
        refine .inl ⟨rfl, List.length_eq_zero_iff.1 (by simpa using hL), ?_⟩
        simp [outV_zero, Wrap.ap]
      | succ n =>
        refine .inr ⟨1, cap, junk, ?_, ?_, by omega, ?_, ?_⟩
        · rw [show (PL R 36).length = (n + 1) * 2 from hL]; simp [Wrap.ap, outV_succ]
        · simp [hget_cons, outH_succ]
        · have : (PL R 36).length = (n + 1) * 2 := hL
          omega
        · intro _ h0
          have : (PL R 36).length = (n + 1) * 2 := hL
          rw [h0] at this
          simp at this
--@tbl l2Pours = spec.l2Pours
theorem l2Pours_ok (R : List Int) (hR : R.length = 24) (hr : rackB R = true) : FreshP Try.prog 64 [.arr R] [] (PL R 36) ((PL R 36).length / 2) 2 44 false .one := by
  have tkR : R.take 24 = R := List.take_of_length_le (by omega)
  refine fresh_of_vc (X := ⟨Try.prog, tys, [(61, l2Can_F)], [], true, true, 0, [], []⟩) fn_64 ⟨tys_ok, (.cons l2Can_T .nil), .nil, mixed⟩ (n0 := 0) rfl (Nat.le_of_ble_eq_true rfl) (by simp [wfL, SV.wf]) (wfH_spec (by simp [wfH, SObj.wf])) (Nat.le_refl _) ?_
  simp -implicitDefEqProofs only [Try.f64, Option.getD_some, argS, l2Can_F, hR, hr, tkR, ZB, Int.reduceToNat, Nat.reduceLT, Nat.reduceLeDiff, Int.reduceLE, Int.reduceLT, Nat.reduceEqDiff, Nat.reduceSub, SB, SV.known, packR, ne_eq, reduceCtorEq, Nat.reduceEqDiff, ↓reduceIte, if_true, if_false, eq_self, Nat.reduceAdd, Nat.reduceMul, Nat.reduceSub, forall_const, oneCellS, litOne, flat1, Kd.isSca, flat, TYB]
  refine loop_intro (fun s : Nat × Nat × Nat × List Int => [(1, .ptr 0 0), (3, .slice 1 0 s.2.1 s.2.2.1), (4, .int s.1)]) (fun s => [(1, .ints (PL R (s.1 * 6) ++ s.2.2.2) 44), (0, .ints R 27)]) 2
    (fun s => s.1 ≤ 6 ∧ (PL R (s.1 * 6)).length = s.2.1 * 2 ∧ s.2.1 ≤ 37 ∧ s.2.1 ≤ s.1 * 6 ∧ s.2.2.2.length + s.2.1 * 2 = s.2.2.1 * 2) (fun s => 6 - s.1) ?_ ?_
  · refine ⟨(0, 0, 0, []), ⟨by omega, by simp [PL_zero], by simp, by simp, by simp⟩, Sub.mk_id ?_ ?_ ?_ ?_ ?_⟩
    all_goals simp only [Nat.zero_mul, PL_zero, List.append_nil, LB, subS, subH, wfS, wfH, SV.ren, renL, SObj.ren, SV.wf, SObj.wf, wfL, SV.known, Nat.reduceEqDiff, ↓reduceIte, if_true, if_false, eq_self, Nat.reduceAdd, Nat.reduceLT, Nat.reduceLeDiff, implies_true, reduceCtorEq, forall_const]
    all_goals (try simp)
  · rintro ⟨i, n, cap, junk⟩ ⟨hi, hL, hn, hni, hj⟩
    simp only at hi hL hn hni hj
    simp -implicitDefEqProofs only [lk_normal, l2Can_F, hR, hr, ZB, Int.reduceToNat, Nat.reduceLT, Nat.reduceLeDiff, Int.reduceLE, Int.reduceLT, Nat.reduceEqDiff, Nat.reduceSub, SB, SV.known, packR, ne_eq, reduceCtorEq, Nat.reduceEqDiff, ↓reduceIte, if_true, if_false, eq_self, Nat.reduceAdd, Nat.reduceMul, Nat.reduceSub, forall_const, oneCellS, litOne, flat1, Kd.isSca, flat, TYB]
    refine ⟨fun h => ?_, fun h => ?_⟩
    · have hi6 : i < 6 := by omega
      refine loop_intro (fun s : Nat × Nat × Nat × List Int => [(1, .ptr 0 0), (3, .slice 1 0 s.2.1 s.2.2.1), (4, .int i), (5, .int s.1)]) (fun s => [(1, .ints (PL R (i * 6 + s.1) ++ s.2.2.2) 44), (0, .ints R 27)]) 2
        (fun s => s.1 ≤ 6 ∧ (PL R (i * 6 + s.1)).length = s.2.1 * 2 ∧ s.2.1 ≤ 37 ∧ s.2.1 ≤ i * 6 + s.1 ∧ s.2.2.2.length + s.2.1 * 2 = s.2.2.1 * 2) (fun s => 6 - s.1) ?_ ?_
      · refine ⟨(0, n, cap, junk), ⟨by simp, by simpa using hL, by simpa using hn, by simpa using hni, by simpa using hj⟩, Sub.mk_id ?_ ?_ ?_ ?_ ?_⟩
        all_goals simp only [Nat.add_zero, LB, subS, subH, wfS, wfH, SV.ren, renL, SObj.ren, SV.wf, SObj.wf, wfL, SV.known, Nat.reduceEqDiff, ↓reduceIte, if_true, if_false, eq_self, Nat.reduceAdd, Nat.reduceLT, Nat.reduceLeDiff, implies_true, reduceCtorEq, forall_const]
        all_goals (try simp)
      · rintro ⟨j, n, cap, junk⟩ ⟨gj, gL, gn, gni, gk⟩
        simp only at gj gL gn gni gk
        have es := fun hj => PL_at R i j hj
        have e6 : (i + 1) * 6 = i * 6 + 6 := by omega
        have tkL : (PL R (i * 6 + j) ++ junk).take (n * 2) = PL R (i * 6 + j) := List.take_left' gL
        have lenL : (PL R (i * 6 + j) ++ junk).length = cap * 2 := by rw [List.length_append]; omega
        cases hc : canF R (i : Int) (j : Int) with
        | false =>
          simp -implicitDefEqProofs only [lk_normal, l2Can_F, hR, hr, tkR, hc, ZB, Int.reduceToNat, Nat.reduceLT, Nat.reduceLeDiff, Int.reduceLE, Int.reduceLT, Nat.reduceEqDiff, Nat.reduceSub, SB, SV.known, packR, ne_eq, reduceCtorEq, Nat.reduceEqDiff, ↓reduceIte, if_true, if_false, eq_self, Nat.reduceAdd, Nat.reduceMul, Nat.reduceSub, forall_const, oneCellS, litOne, flat1, Kd.isSca, flat, TYB]
          refine ⟨fun hx => ?_, fun hx => ?_⟩
          · have e1 := es (by omega)
            rw [hc] at e1
            simp only [Bool.false_eq_true, if_false, List.append_nil] at e1
            (try (and_intros <;> try (first | omega | (unfold In64; omega) | trivial | assumption)))
            refine ⟨(j + 1, n, cap, junk), ⟨by simp only; omega, by simp only [← Nat.add_assoc]; rw [e1]; exact gL, by simp only; omega, by simp only; omega, by simp only; omega⟩, by simp only; omega, Sub.mk_id ?_ ?_ ?_ ?_ ?_⟩
            all_goals simp only [← Nat.add_assoc, e1, LB, subS, subH, wfS, wfH, SV.ren, renL, SObj.ren, SV.wf, SObj.wf, wfL, SV.known, Nat.reduceEqDiff, ↓reduceIte, if_true, if_false, eq_self, Nat.reduceAdd, Nat.reduceLT, Nat.reduceLeDiff, implies_true, reduceCtorEq, forall_const]
            all_goals (try simp)
          · have hj6 : j = 6 := by omega
            subst hj6
            (try (and_intros <;> try (first | omega | (unfold In64; omega) | trivial | assumption)))
            refine ⟨(i + 1, n, cap, junk), ⟨by simp only; omega, by simp only; rw [e6]; exact gL, by simp only; omega, by simp only; omega, by simp only; omega⟩, by simp only; omega, Sub.mk_id ?_ ?_ ?_ ?_ ?_⟩
            all_goals simp only [e6, LB, subS, subH, wfS, wfH, SV.ren, renL, SObj.ren, SV.wf, SObj.wf, wfL, SV.known, Nat.reduceEqDiff, ↓reduceIte, if_true, if_false, eq_self, Nat.reduceAdd, Nat.reduceLT, Nat.reduceLeDiff, implies_true, reduceCtorEq, forall_const]
            all_goals (try simp)
        | true =>
          simp -implicitDefEqProofs only [lk_normal, l2Can_F, hR, hr, tkR, hc, tkL, lenL, ZB, Int.reduceToNat, Nat.reduceLT, Nat.reduceLeDiff, Int.reduceLE, Int.reduceLT, Nat.reduceEqDiff, Nat.reduceSub, SB, SV.known, packR, ne_eq, reduceCtorEq, Nat.reduceEqDiff, ↓reduceIte, if_true, if_false, eq_self, Nat.reduceAdd, Nat.reduceMul, Nat.reduceSub, forall_const, oneCellS, litOne, flat1, Kd.isSca, flat, TYB]
          refine ⟨fun hx => ?_, fun hx => ?_⟩
          · have e1 := es (by omega)
            rw [hc] at e1
            simp only [if_true] at e1
            (try (and_intros <;> try (first | omega | (unfold In64; omega) | trivial | assumption)))
            intro junk' cap' hj'
            (try (and_intros <;> try (first | omega | (unfold In64; omega) | trivial | assumption)))
            refine ⟨(j + 1, n + 1, cap', junk'), ⟨by simp only; omega, by simp only [← Nat.add_assoc]; rw [e1, List.length_append, gL]; simp; omega, by simp only; omega, by simp only; omega, by simp only; omega⟩, by simp only; omega, Sub.mk_to 1 3 ?_ ?_ ?_ ?_ ?_ ?_ ?_⟩
            all_goals simp only [← Nat.add_assoc, e1, LB, subS, subH, wfS, wfH, SV.ren, renL, SObj.ren, SV.wf, SObj.wf, wfL, SV.known, Nat.reduceEqDiff, ↓reduceIte, if_true, if_false, eq_self, Nat.reduceAdd, Nat.reduceLT, Nat.reduceLeDiff, implies_true, reduceCtorEq, forall_const]
            all_goals (try simp)
          · have hj6 : j = 6 := by omega
            subst hj6
            (try (and_intros <;> try (first | omega | (unfold In64; omega) | trivial | assumption)))
            refine ⟨(i + 1, n, cap, junk), ⟨by simp only; omega, by simp only; rw [e6]; exact gL, by simp only; omega, by simp only; omega, by simp only; omega⟩, by simp only; omega, Sub.mk_id ?_ ?_ ?_ ?_ ?_⟩
            all_goals simp only [e6, LB, subS, subH, wfS, wfH, SV.ren, renL, SObj.ren, SV.wf, SObj.wf, wfL, SV.known, Nat.reduceEqDiff, ↓reduceIte, if_true, if_false, eq_self, Nat.reduceAdd, Nat.reduceLT, Nat.reduceLeDiff, implies_true, reduceCtorEq, forall_const]
            all_goals (try simp)
    · obtain rfl : i = 6 := by omega
      have hL' : (PL R 36).length = n * 2 := hL
      refine .inr ⟨1, cap, junk, ?_, ?_, by omega, ?_, ?_⟩
      · rw [hL']; simp [Wrap.ap]
      · simp [hget_cons]
      · omega
      · intro h0; cases h0
def pmN (R : List Int) (i j : Nat) : Int := min (topF (tubeAt R i)).2 (4 - (layN (tubeAt R j) : Int))
def pmR (R : List Int) (i j : Nat) : Nat → List Int
  | 0 => R
  | k + 1 => ((pmR R i j k).set (i * 4 + (layN (tubeAt R i) - 1 - k)) 0).set (j * 4 + (layN (tubeAt R j) + k)) (topF (tubeAt R i)).1
theorem pmR_len (R : List Int) (i j : Nat) : ∀ k, (pmR R i j k).length = R.length
  | 0 => rfl
  | k + 1 => by simp [pmR, pmR_len R i j k]
theorem topF_le (t : List Int) (ht : t.length = 4) : 0 ≤ (topF t).2 ∧ (topF t).2 ≤ layN t := by
  rcases Nat.eq_zero_or_pos (layN t) with h0 | h0
  · have : topF t = (0, 0) := by simp [topF, runsL, h0]
    rw [this]; simp
  · obtain ⟨r, h1, h2⟩ := topF_run t ht h0
    have := h2.2.1
    rw [h1]
    simp only
    omega
def pourF (R : List Int) (i j : Nat) : List Int := pmR R i j (pmN R i j).toNat
--@tbl pour = impl.pour
theorem pour_ok (R : List Int) (i j : Int) (hR : R.length = 24) (hi : 0 ≤ i ∧ i ≤ 5) (hj : 0 ≤ j ∧ j ≤ 5) : PureH Try.prog 58 [.arr R, .int i, .int j] [] (.tup [.arr (pourF R i.toNat j.toNat), .int (pmN R i.toNat j.toNat)]) := by
  obtain ⟨a, rfl⟩ := Int.eq_ofNat_of_zero_le hi.1
  obtain ⟨b, rfl⟩ := Int.eq_ofNat_of_zero_le hj.1
  have hli := tubeAt_len hR (i := a) (by omega)
  have hlj := tubeAt_len hR (i := b) (by omega)
  have ei : List.take 4 (List.drop (a * 4) R) = tubeAt R a := rfl
  have ej : List.take 4 (List.drop (b * 4) R) = tubeAt R b := rfl
  have en : min (topF (tubeAt R a)).2 (4 - (layN (tubeAt R b) : Int)) = pmN R a b := rfl
  have tle := topF_le _ hli
  have l1 := lay_le _ hli
  have l2 := lay_le _ hlj
  refine pure_of_vc (X := ⟨Try.prog, tys, [(74, top_F), (73, layers_F)], [], true, true, 0, [], []⟩) fn_58 ⟨tys_ok, (.cons top_T (.cons layers_T .nil)), .nil, mixed⟩ (n0 := 0) (Nat.le_of_ble_eq_true rfl) (by simp [wfL, SV.wf]) (wfH_spec (by simp [wfH, SObj.wf])) (Nat.le_refl _) (fun _ => by simp [SV.wf, wfL]) ?_
  simp -implicitDefEqProofs only [Try.f58, Option.getD_some, argS, top_F, layers_F, hR, ei, ej, hli, hlj, en, ZB, Int.reduceToNat, Nat.reduceLT, Nat.reduceLeDiff, Int.reduceLE, Int.reduceLT, Nat.reduceEqDiff, Nat.reduceSub, SB, SV.known, packR, ne_eq, reduceCtorEq, Nat.reduceEqDiff, ↓reduceIte, if_true, if_false, eq_self, Nat.reduceAdd, Nat.reduceMul, Nat.reduceSub, forall_const, oneCellS, litOne, flat1, Kd.isSca, flat, TYB]
  (try (and_intros <;> try (first | omega | (unfold In64; omega) | trivial | assumption)))
  have hmn : pmN R a b ≤ (topF (tubeAt R a)).2 ∧ pmN R a b ≤ 4 - (layN (tubeAt R b) : Int) ∧ 0 ≤ pmN R a b := by unfold pmN; omega
  have tkP : ∀ k, (pmR R a b k).take 24 = pmR R a b k := fun k => List.take_of_length_le (by rw [pmR_len]; omega)
  have lenP : ∀ k, (pmR R a b k).length = 24 := fun k => by rw [pmR_len, hR]
  refine loop_intro (fun k : Nat => [(1, .int a), (2, .int b), (3, .ptr 0 0), (6, .ptr 1 0), (8, .int (topF (tubeAt R a)).1), (10, .int (layN (tubeAt R a))), (11, .int (layN (tubeAt R b))), (9, .int (pmN R a b)), (35, .int (pmN R a b)), (36, .int k)]) (fun k => [(0, .ints (pmR R a b k) 27), (1, .ints (List.replicate 24 0) 27)]) 2 (fun k => (k : Int) ≤ pmN R a b) (fun k => (pmN R a b).toNat - k) ?_ ?_
  · refine ⟨0, by simpa using hmn.2.2, Sub.mk_id ?_ ?_ ?_ ?_ ?_⟩
    all_goals simp only [pmR, LB, subS, subH, wfS, wfH, SV.ren, renL, SObj.ren, SV.wf, SObj.wf, wfL, SV.known, Nat.reduceEqDiff, ↓reduceIte, if_true, if_false, eq_self, Nat.reduceAdd, Nat.reduceLT, Nat.reduceLeDiff, implies_true, reduceCtorEq, forall_const]
    all_goals (try simp)
  · intro k hk
    by_cases hkn : (k : Int) < pmN R a b
    · have e1 : ((layN (tubeAt R a) : Int) - 1 - k).toNat = layN (tubeAt R a) - 1 - k := by omega
      have e2 : ((layN (tubeAt R b) : Int) + k).toNat = layN (tubeAt R b) + k := by omega
      simp -implicitDefEqProofs only [lk_normal, top_F, layers_F, hR, lenP, e1, e2, ZB, Int.reduceToNat, Nat.reduceLT, Nat.reduceLeDiff, Int.reduceLE, Int.reduceLT, Nat.reduceEqDiff, Nat.reduceSub, SB, SV.known, packR, ne_eq, reduceCtorEq, Nat.reduceEqDiff, ↓reduceIte, if_true, if_false, eq_self, Nat.reduceAdd, Nat.reduceMul, Nat.reduceSub, forall_const, oneCellS, litOne, flat1, Kd.isSca, flat, TYB]
      refine ⟨fun _ => ?_, fun hx => absurd hkn hx⟩
      (try (and_intros <;> try (first | omega | (unfold In64; omega) | trivial | assumption)))
      refine ⟨k + 1, by omega, by omega, Sub.mk_id ?_ ?_ ?_ ?_ ?_⟩
      all_goals simp only [pmR, LB, subS, subH, wfS, wfH, SV.ren, renL, SObj.ren, SV.wf, SObj.wf, wfL, SV.known, Nat.reduceEqDiff, ↓reduceIte, if_true, if_false, eq_self, Nat.reduceAdd, Nat.reduceLT, Nat.reduceLeDiff, implies_true, reduceCtorEq, forall_const]
      all_goals (try simp)
    · have hke : (k : Int) = pmN R a b := by omega
      simp -implicitDefEqProofs only [lk_normal, top_F, layers_F, hR, lenP, tkP, ZB, Int.reduceToNat, Nat.reduceLT, Nat.reduceLeDiff, Int.reduceLE, Int.reduceLT, Nat.reduceEqDiff, Nat.reduceSub, SB, SV.known, packR, ne_eq, reduceCtorEq, Nat.reduceEqDiff, ↓reduceIte, if_true, if_false, eq_self, Nat.reduceAdd, Nat.reduceMul, Nat.reduceSub, forall_const, oneCellS, litOne, flat1, Kd.isSca, flat, TYB]
      refine ⟨fun hx => absurd hx hkn, fun _ => ?_⟩
      have hkk : (pmN R a b).toNat = k := by omega
      unfold pourF
      rw [hkk]
def pour_F : List SV → Heap → Option (Prop × SV)
  | [.arr R, .int i, .int j], _ => some (R.length = 24 ∧ (0 ≤ i ∧ i ≤ 5) ∧ (0 ≤ j ∧ j ≤ 5), .tup [.arr (pourF R i.toNat j.toNat), .int (pmN R i.toNat j.toNat)])
  | _, _ => none
theorem pour_T : ∀ args H p v, pour_F args H = some (p, v) → p → PureH Try.prog 58 args H v := by
  intro args H p v h hp
  unfold pour_F at h
  split at h
  · cases h; exact (pour_ok _ _ _ hp.1 hp.2.1 hp.2.2).any _
  · cases h
--@tbl l2Pour = spec.l2Pour
--@tbl l1Least = spec.l1Least
theorem l1Least_ok (a b : Int) : PureH Try.prog 112 [.int a, .int b] [] (.int (min a b)) := by
  refine pure_of_vc (X := ⟨Try.prog, tys, [], [], true, true, 0, [], []⟩) fn_112 ⟨tys_ok, .nil, .nil, mixed⟩ (n0 := 0) (Nat.le_of_ble_eq_true rfl) (by simp [wfL, SV.wf]) (wfH_spec (by simp [wfH, SObj.wf])) (Nat.le_refl _) (fun _ => by simp [SV.wf, wfL]) ?_
  simp -implicitDefEqProofs only [Try.f112, Option.getD_some, argS, ZB, Int.reduceToNat, Nat.reduceLT, Nat.reduceLeDiff, Int.reduceLE, Int.reduceLT, Nat.reduceEqDiff, Nat.reduceSub, SB, SV.known, packR, ne_eq, reduceCtorEq, Nat.reduceEqDiff, ↓reduceIte, if_true, if_false, eq_self, Nat.reduceAdd, Nat.reduceMul, Nat.reduceSub, forall_const, oneCellS, litOne, flat1, Kd.isSca, flat, TYB]
  constructor <;> intro h <;> omega
def l1Least_F : List SV → Heap → Option (Prop × SV)
  | [.int a, .int b], _ => some (True, .int (min a b))
  | _, _ => none
theorem l1Least_T : ∀ args H p v, l1Least_F args H = some (p, v) → p → PureH Try.prog 112 args H v := by
  intro args H p v h hp
  unfold l1Least_F at h
  split at h
  · cases h; exact (l1Least_ok _ _).any _
  · cases h
theorem l2Pour_ok (R : List Int) (i j : Int) (hR : R.length = 24) (hr : rackB R = true) (hi : 0 ≤ i ∧ i ≤ 5) (hj : 0 ≤ j ∧ j ≤ 5) : PureH Try.prog 62 [.arr R, .int i, .int j] [] (.tup [.arr (pourF R i.toNat j.toNat), .int (pmN R i.toNat j.toNat)]) := by
  obtain ⟨a, rfl⟩ := Int.eq_ofNat_of_zero_le hi.1
  obtain ⟨b, rfl⟩ := Int.eq_ofNat_of_zero_le hj.1
  have hli := tubeAt_len hR (i := a) (by omega)
  have hlj := tubeAt_len hR (i := b) (by omega)
  have ei : List.take 4 (List.drop (a * 4) R) = tubeAt R a := rfl
  have ej : List.take 4 (List.drop (b * 4) R) = tubeAt R b := rfl
  have en : min (topF (tubeAt R a)).2 (4 - (layN (tubeAt R b) : Int)) = pmN R a b := rfl
  have bi := tubeAt_ok hr (i := a) (by omega)
  have bj := tubeAt_ok hr (i := b) (by omega)
  have pi := posC_lay _ hli bi
  have pj := posC_lay _ hlj bj
  have tle := topF_le _ hli
  have l1 := lay_le _ hli
  have l2 := lay_le _ hlj
  refine pure_of_vc (X := ⟨Try.prog, tys, [(111, l2Top_F), (85, l2Many_F), (112, l1Least_F)], [], true, true, 0, [], []⟩) fn_62 ⟨tys_ok, (.cons l2Top_T (.cons l2Many_T (.cons l1Least_T .nil))), .nil, mixed⟩ (n0 := 0) (Nat.le_of_ble_eq_true rfl) (by simp [wfL, SV.wf]) (wfH_spec (by simp [wfH, SObj.wf])) (Nat.le_refl _) (fun _ => by simp [SV.wf, wfL]) ?_
  simp -implicitDefEqProofs only [Try.f62, Option.getD_some, argS, l2Top_F, l2Many_F, l1Least_F, hR, ei, ej, hli, hlj, bi, bj, pi, pj, en, ZB, Int.reduceToNat, Nat.reduceLT, Nat.reduceLeDiff, Int.reduceLE, Int.reduceLT, Nat.reduceEqDiff, Nat.reduceSub, SB, SV.known, packR, ne_eq, reduceCtorEq, Nat.reduceEqDiff, ↓reduceIte, if_true, if_false, eq_self, Nat.reduceAdd, Nat.reduceMul, Nat.reduceSub, forall_const, oneCellS, litOne, flat1, Kd.isSca, flat, TYB]
  (try (and_intros <;> try (first | omega | (unfold In64; omega) | trivial | assumption)))
  have hmn : pmN R a b ≤ (topF (tubeAt R a)).2 ∧ pmN R a b ≤ 4 - (layN (tubeAt R b) : Int) ∧ 0 ≤ pmN R a b := by unfold pmN; omega
  have tkP : ∀ k, (pmR R a b k).take 24 = pmR R a b k := fun k => List.take_of_length_le (by rw [pmR_len]; omega)
  have lenP : ∀ k, (pmR R a b k).length = 24 := fun k => by rw [pmR_len, hR]
  refine loop_intro (fun k : Nat => [(1, .int a), (2, .int b), (3, .ptr 0 0), (6, .ptr 1 0), (8, .int (topF (tubeAt R a)).1), (10, .int (layN (tubeAt R a))), (11, .int (layN (tubeAt R b))), (12, .int (pmN R a b)), (13, .int k)]) (fun k => [(0, .ints (pmR R a b k) 27), (1, .ints (List.replicate 24 0) 27)]) 2 (fun k => (k : Int) ≤ pmN R a b) (fun k => (pmN R a b).toNat - k) ?_ ?_
  · refine ⟨0, by simpa using hmn.2.2, Sub.mk_id ?_ ?_ ?_ ?_ ?_⟩
    all_goals simp only [pmR, LB, subS, subH, wfS, wfH, SV.ren, renL, SObj.ren, SV.wf, SObj.wf, wfL, SV.known, Nat.reduceEqDiff, ↓reduceIte, if_true, if_false, eq_self, Nat.reduceAdd, Nat.reduceLT, Nat.reduceLeDiff, implies_true, reduceCtorEq, forall_const]
    all_goals (try simp)
  · intro k hk
    by_cases hkn : (k : Int) < pmN R a b
    · have e1 : ((layN (tubeAt R a) : Int) - 1 - k).toNat = layN (tubeAt R a) - 1 - k := by omega
      have e2 : ((layN (tubeAt R b) : Int) + k).toNat = layN (tubeAt R b) + k := by omega
      simp -implicitDefEqProofs only [lk_normal, l2Top_F, l2Many_F, hR, lenP, e1, e2, ZB, Int.reduceToNat, Nat.reduceLT, Nat.reduceLeDiff, Int.reduceLE, Int.reduceLT, Nat.reduceEqDiff, Nat.reduceSub, SB, SV.known, packR, ne_eq, reduceCtorEq, Nat.reduceEqDiff, ↓reduceIte, if_true, if_false, eq_self, Nat.reduceAdd, Nat.reduceMul, Nat.reduceSub, forall_const, oneCellS, litOne, flat1, Kd.isSca, flat, TYB]
      refine ⟨fun _ => ?_, fun hx => absurd hkn hx⟩
      (try (and_intros <;> try (first | omega | (unfold In64; omega) | trivial | assumption)))
      refine ⟨k + 1, by omega, by omega, Sub.mk_id ?_ ?_ ?_ ?_ ?_⟩
      all_goals simp only [pmR, LB, subS, subH, wfS, wfH, SV.ren, renL, SObj.ren, SV.wf, SObj.wf, wfL, SV.known, Nat.reduceEqDiff, ↓reduceIte, if_true, if_false, eq_self, Nat.reduceAdd, Nat.reduceLT, Nat.reduceLeDiff, implies_true, reduceCtorEq, forall_const]
      all_goals (try simp)
    · have hke : (k : Int) = pmN R a b := by omega
      simp -implicitDefEqProofs only [lk_normal, l2Top_F, l2Many_F, hR, lenP, tkP, ZB, Int.reduceToNat, Nat.reduceLT, Nat.reduceLeDiff, Int.reduceLE, Int.reduceLT, Nat.reduceEqDiff, Nat.reduceSub, SB, SV.known, packR, ne_eq, reduceCtorEq, Nat.reduceEqDiff, ↓reduceIte, if_true, if_false, eq_self, Nat.reduceAdd, Nat.reduceMul, Nat.reduceSub, forall_const, oneCellS, litOne, flat1, Kd.isSca, flat, TYB]
      refine ⟨fun hx => absurd hx hkn, fun _ => ?_⟩
      have hkk : (pmN R a b).toNat = k := by omega
      unfold pourF
      rw [hkk]
def l2Pour_F : List SV → Heap → Option (Prop × SV)
  | [.arr R, .int i, .int j], _ => some (R.length = 24 ∧ rackB R = true ∧ (0 ≤ i ∧ i ≤ 5) ∧ (0 ≤ j ∧ j ≤ 5), .tup [.arr (pourF R i.toNat j.toNat), .int (pmN R i.toNat j.toNat)])
  | _, _ => none
theorem l2Pour_T : ∀ args H p v, l2Pour_F args H = some (p, v) → p → PureH Try.prog 62 args H v := by
  intro args H p v h hp
  unfold l2Pour_F at h
  split at h
  · cases h; exact (l2Pour_ok _ _ _ hp.1 hp.2.1 hp.2.2.1 hp.2.2.2).any _
  · cases h
end Go.Proofs.Ytnlbljikbonioaa
