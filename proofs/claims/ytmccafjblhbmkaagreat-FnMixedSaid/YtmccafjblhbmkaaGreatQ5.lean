/- Texts of this claim, joined (N, Form, Upd, Gen, SrtF, E, O, Del, P, G, Pour, H, Q, Val, Bnd, Use, GL, Map, SrtR). -/
import Derived.Test.YtmccafjblhbmkaaGreatQ1
import Derived.Test.YtmccafjblhbmkaaGreatQ2
import Derived.Test.YtmccafjblhbmkaaGreatQ3
import Derived.Test.YtmccafjblhbmkaaGreatQ4
set_option maxRecDepth 100000
set_option linter.unusedSimpArgs false
set_option linter.unusedVariables false
namespace Go.Proofs.YtmccafjblhbmkaaGreat
open Go Go.RowKit
def prK (R : List Int) (k : Nat) : List Int := if canF R ((k / 6 : Nat) : Int) ((k % 6 : Nat) : Int) = true then [((k / 6 : Nat) : Int), ((k % 6 : Nat) : Int)] else []
def PL (R : List Int) (m : Nat) : List Int := (List.range m).flatMap (prK R)
theorem PL_zero (R : List Int) : PL R 0 = [] := rfl
theorem PL_succ (R : List Int) (m : Nat) : PL R (m + 1) = PL R m ++ prK R m := by simp [PL, List.range_succ]
theorem PL_at (R : List Int) (i j : Nat) (hj : j < 6) : PL R (i * 6 + j + 1) = PL R (i * 6 + j) ++ if canF R i j = true then [(i : Int), (j : Int)] else [] := by
  rw [PL_succ]
  have e1 : (i * 6 + j) / 6 = i := by omega
  have e2 : (i * 6 + j) % 6 = j := by omega
  simp only [prK, e1, e2]
--@tbl pours = impl.pours
theorem pours_ok (R : List Int) (hR : R.length = 24) : FreshP Tryz.prog 102 [.arr R] [] (PL R 36) ((PL R 36).length / 2) 2 65 true .one := by
  have tkR : R.take 24 = R := List.take_of_length_le (by omega)
  refine fresh_of_vc (X := ⟨Tryz.prog, tys, [(100, canPour_F)], [], true, true, 0, [], []⟩) fn_102 ⟨tys_ok, (.cons canPour_T .nil), .nil, mixed⟩ (n0 := 0) rfl (Nat.le_of_ble_eq_true rfl) (by simp [wfL, SV.wf]) (wfH_spec (by simp [wfH, SObj.wf])) (Nat.le_refl _) ?_
  simp -implicitDefEqProofs only [Tryz.f102, Option.getD_some, argS, canPour_F, hR, tkR, ZB, Int.reduceToNat, Nat.reduceLT, Nat.reduceLeDiff, Int.reduceLE, Int.reduceLT, Nat.reduceEqDiff, Nat.reduceSub, SB, SV.known, packR, ne_eq, reduceCtorEq, Nat.reduceEqDiff, ↓reduceIte, if_true, if_false, eq_self, Nat.reduceAdd, Nat.reduceMul, Nat.reduceSub, forall_const, oneCellS, litOne, flat1, Kd.isSca, flat, TYB]
  refine loop_intro (fun s : Nat × Nat × Nat × List Int => [(1, .ptr 0 0), (3, outV s.2.1 s.2.1 s.2.2.1), (6, .int s.1)]) (fun s => outH s.2.1 (PL R (s.1 * 6) ++ s.2.2.2) 65 [(0, .ints R 27)]) 2
    (fun s => s.1 ≤ 6 ∧ (PL R (s.1 * 6)).length = s.2.1 * 2 ∧ s.2.1 ≤ 37 ∧ s.2.1 ≤ s.1 * 6 ∧ s.2.2.2.length + s.2.1 * 2 = s.2.2.1 * 2) (fun s => 6 - s.1) ?_ ?_
  · refine ⟨(0, 0, 0, []), ⟨by omega, by simp [PL_zero], by simp, by simp, by simp⟩, Sub.mk_id ?_ ?_ ?_ ?_ ?_⟩
    all_goals simp only [outV_zero, outH_zero, LB, subS, subH, wfS, wfH, SV.ren, renL, SObj.ren, SV.wf, SObj.wf, wfL, SV.known, Nat.reduceEqDiff, ↓reduceIte, if_true, if_false, eq_self, Nat.reduceAdd, Nat.reduceLT, Nat.reduceLeDiff, implies_true, reduceCtorEq, forall_const]
    all_goals (try simp)
  · rintro ⟨i, n, cap, junk⟩ ⟨hi, hL, hn, hni, hj⟩
    simp only at hi hL hn hni hj
    simp -implicitDefEqProofs only [lk_normal, hR, ZB, Int.reduceToNat, Nat.reduceLT, Nat.reduceLeDiff, Int.reduceLE, Int.reduceLT, Nat.reduceEqDiff, Nat.reduceSub, SB, SV.known, packR, ne_eq, reduceCtorEq, Nat.reduceEqDiff, ↓reduceIte, if_true, if_false, eq_self, Nat.reduceAdd, Nat.reduceMul, Nat.reduceSub, forall_const, oneCellS, litOne, flat1, Kd.isSca, flat, TYB]
    refine ⟨fun h => ?_, fun h => ?_⟩
    · have hi6 : i < 6 := by omega
      refine loop_intro (fun s : Nat × Nat × Nat × List Int => [(1, .ptr 0 0), (3, outV s.2.1 s.2.1 s.2.2.1), (4, .int i), (6, .int i), (9, .int s.1)]) (fun s => outH s.2.1 (PL R (i * 6 + s.1) ++ s.2.2.2) 65 [(0, .ints R 27)]) 2
        (fun s => s.1 ≤ 6 ∧ (PL R (i * 6 + s.1)).length = s.2.1 * 2 ∧ s.2.1 ≤ 37 ∧ s.2.1 ≤ i * 6 + s.1 ∧ s.2.2.2.length + s.2.1 * 2 = s.2.2.1 * 2) (fun s => 6 - s.1) ?_ ?_
      · refine ⟨(0, n, cap, junk), ⟨by simp, by simpa using hL, by simpa using hn, by simpa using hni, by simpa using hj⟩, ?_⟩
        cases n with
        | zero =>
          refine Sub.mk_id ?_ ?_ ?_ ?_ ?_
          all_goals simp only [outV_zero, outH_zero, LB, subS, subH, wfS, wfH, SV.ren, renL, SObj.ren, SV.wf, SObj.wf, wfL, SV.known, Nat.reduceEqDiff, ↓reduceIte, if_true, if_false, eq_self, Nat.reduceAdd, Nat.reduceLT, Nat.reduceLeDiff, implies_true, reduceCtorEq, forall_const]
          all_goals (try simp)
        | succ n =>
          refine Sub.mk_id ?_ ?_ ?_ ?_ ?_
          all_goals simp only [outV_succ, outH_succ, LB, subS, subH, wfS, wfH, SV.ren, renL, SObj.ren, SV.wf, SObj.wf, wfL, SV.known, Nat.reduceEqDiff, ↓reduceIte, if_true, if_false, eq_self, Nat.reduceAdd, Nat.reduceLT, Nat.reduceLeDiff, implies_true, reduceCtorEq, forall_const]
          all_goals (try simp)
      · rintro ⟨j, n, cap, junk⟩ ⟨gj, gL, gn, gni, gk⟩
        simp only at gj gL gn gni gk
        have es := fun hj => PL_at R i j hj
        have e6 : (i + 1) * 6 = i * 6 + 6 := by omega
        cases hc : canF R (i : Int) (j : Int) with
        | false =>
         cases n with
         | zero =>
          simp -implicitDefEqProofs only [lk_normal, canPour_F, outV_zero, outH_zero, hR, tkR, hc, ZB, Int.reduceToNat, Nat.reduceLT, Nat.reduceLeDiff, Int.reduceLE, Int.reduceLT, Nat.reduceEqDiff, Nat.reduceSub, SB, SV.known, packR, ne_eq, reduceCtorEq, Nat.reduceEqDiff, ↓reduceIte, if_true, if_false, eq_self, Nat.reduceAdd, Nat.reduceMul, Nat.reduceSub, forall_const, oneCellS, litOne, flat1, Kd.isSca, flat, TYB]
          refine ⟨fun hx => ?_, fun hx => ?_⟩
          · have e1 := es (by omega)
            rw [hc] at e1
            simp only [Bool.false_eq_true, if_false, List.append_nil] at e1
            (try (and_intros <;> try (first | omega | (unfold In64; omega) | trivial | assumption)))
            refine ⟨(j + 1, 0, cap, junk), ⟨by simp only; omega, by simp only [← Nat.add_assoc]; rw [e1]; exact gL, by simp only; omega, by simp only; omega, by simp only; omega⟩, by simp only; omega, Sub.mk_id ?_ ?_ ?_ ?_ ?_⟩
            all_goals simp only [outV_zero, outH_zero, ← Nat.add_assoc, e1, LB, subS, subH, wfS, wfH, SV.ren, renL, SObj.ren, SV.wf, SObj.wf, wfL, SV.known, Nat.reduceEqDiff, ↓reduceIte, if_true, if_false, eq_self, Nat.reduceAdd, Nat.reduceLT, Nat.reduceLeDiff, implies_true, reduceCtorEq, forall_const]
            all_goals (try simp)
          · have hj6 : j = 6 := by omega
            subst hj6
            (try (and_intros <;> try (first | omega | (unfold In64; omega) | trivial | assumption)))
            refine ⟨(i + 1, 0, cap, junk), ⟨by simp only; omega, by simp only; rw [e6]; exact gL, by simp only; omega, by simp only; omega, by simp only; omega⟩, by simp only; omega, Sub.mk_id ?_ ?_ ?_ ?_ ?_⟩
            all_goals simp only [outV_zero, outH_zero, e6, LB, subS, subH, wfS, wfH, SV.ren, renL, SObj.ren, SV.wf, SObj.wf, wfL, SV.known, Nat.reduceEqDiff, ↓reduceIte, if_true, if_false, eq_self, Nat.reduceAdd, Nat.reduceLT, Nat.reduceLeDiff, implies_true, reduceCtorEq, forall_const]
            all_goals (try simp)
         | succ n =>
          simp -implicitDefEqProofs only [lk_normal, canPour_F, outV_succ, outH_succ, hR, tkR, hc, ZB, Int.reduceToNat, Nat.reduceLT, Nat.reduceLeDiff, Int.reduceLE, Int.reduceLT, Nat.reduceEqDiff, Nat.reduceSub, SB, SV.known, packR, ne_eq, reduceCtorEq, Nat.reduceEqDiff, ↓reduceIte, if_true, if_false, eq_self, Nat.reduceAdd, Nat.reduceMul, Nat.reduceSub, forall_const, oneCellS, litOne, flat1, Kd.isSca, flat, TYB]
          refine ⟨fun hx => ?_, fun hx => ?_⟩
          · have e1 := es (by omega)
            rw [hc] at e1
            simp only [Bool.false_eq_true, if_false, List.append_nil] at e1
            (try (and_intros <;> try (first | omega | (unfold In64; omega) | trivial | assumption)))
            refine ⟨(j + 1, n + 1, cap, junk), ⟨by simp only; omega, by simp only [← Nat.add_assoc]; rw [e1]; exact gL, by simp only; omega, by simp only; omega, by simp only; omega⟩, by simp only; omega, Sub.mk_id ?_ ?_ ?_ ?_ ?_⟩
            all_goals simp only [outV_succ, outH_succ, ← Nat.add_assoc, e1, LB, subS, subH, wfS, wfH, SV.ren, renL, SObj.ren, SV.wf, SObj.wf, wfL, SV.known, Nat.reduceEqDiff, ↓reduceIte, if_true, if_false, eq_self, Nat.reduceAdd, Nat.reduceLT, Nat.reduceLeDiff, implies_true, reduceCtorEq, forall_const]
            all_goals (try simp)
          · have hj6 : j = 6 := by omega
            subst hj6
            (try (and_intros <;> try (first | omega | (unfold In64; omega) | trivial | assumption)))
            refine ⟨(i + 1, n + 1, cap, junk), ⟨by simp only; omega, by simp only; rw [e6]; exact gL, by simp only; omega, by simp only; omega, by simp only; omega⟩, by simp only; omega, Sub.mk_id ?_ ?_ ?_ ?_ ?_⟩
            all_goals simp only [outV_succ, outH_succ, e6, LB, subS, subH, wfS, wfH, SV.ren, renL, SObj.ren, SV.wf, SObj.wf, wfL, SV.known, Nat.reduceEqDiff, ↓reduceIte, if_true, if_false, eq_self, Nat.reduceAdd, Nat.reduceLT, Nat.reduceLeDiff, implies_true, reduceCtorEq, forall_const]
            all_goals (try simp)
        | true =>
         cases n with
         | zero =>
          simp -implicitDefEqProofs only [lk_normal, canPour_F, outV_zero, outH_zero, hR, tkR, hc, ZB, Int.reduceToNat, Nat.reduceLT, Nat.reduceLeDiff, Int.reduceLE, Int.reduceLT, Nat.reduceEqDiff, Nat.reduceSub, SB, SV.known, packR, ne_eq, reduceCtorEq, Nat.reduceEqDiff, ↓reduceIte, if_true, if_false, eq_self, Nat.reduceAdd, Nat.reduceMul, Nat.reduceSub, forall_const, oneCellS, litOne, flat1, Kd.isSca, flat, TYB]
          refine ⟨fun hx => ?_, fun hx => ?_⟩
          · have e1 := es (by omega)
            have e0 : PL R (i * 6 + j) = [] := List.length_eq_zero_iff.1 (by simpa using gL)
            rw [hc, e0] at e1
            simp only [if_true, List.nil_append] at e1
            (try (and_intros <;> try (first | omega | (unfold In64; omega) | trivial | assumption)))
            intro junk' cap' hj'
            (try (and_intros <;> try (first | omega | (unfold In64; omega) | trivial | assumption)))
            refine ⟨(j + 1, 1, cap', junk'), ⟨by simp only; omega, by simp only [← Nat.add_assoc]; rw [e1]; rfl, by simp only; omega, by simp only; omega, by simp only; omega⟩, by simp only; omega, Sub.mk_to 1 3 ?_ ?_ ?_ ?_ ?_ ?_ ?_⟩
            all_goals simp only [outV_succ, outH_succ, ← Nat.add_assoc, e1, LB, subS, subH, wfS, wfH, SV.ren, renL, SObj.ren, SV.wf, SObj.wf, wfL, SV.known, Nat.reduceEqDiff, ↓reduceIte, if_true, if_false, eq_self, Nat.reduceAdd, Nat.reduceLT, Nat.reduceLeDiff, implies_true, reduceCtorEq, forall_const]
            all_goals (try simp)
          · have hj6 : j = 6 := by omega
            subst hj6
            (try (and_intros <;> try (first | omega | (unfold In64; omega) | trivial | assumption)))
            refine ⟨(i + 1, 0, cap, junk), ⟨by simp only; omega, by simp only; rw [e6]; exact gL, by simp only; omega, by simp only; omega, by simp only; omega⟩, by simp only; omega, Sub.mk_id ?_ ?_ ?_ ?_ ?_⟩
            all_goals simp only [outV_zero, outH_zero, e6, LB, subS, subH, wfS, wfH, SV.ren, renL, SObj.ren, SV.wf, SObj.wf, wfL, SV.known, Nat.reduceEqDiff, ↓reduceIte, if_true, if_false, eq_self, Nat.reduceAdd, Nat.reduceLT, Nat.reduceLeDiff, implies_true, reduceCtorEq, forall_const]
            all_goals (try simp)
         | succ n =>
          have tkL : (PL R (i * 6 + j) ++ junk).take ((n + 1) * 2) = PL R (i * 6 + j) := List.take_left' gL
          have lenL : (PL R (i * 6 + j) ++ junk).length = cap * 2 := by rw [List.length_append]; omega
          simp -implicitDefEqProofs only [lk_normal, canPour_F, outV_succ, outH_succ, hR, tkR, hc, tkL, lenL, ZB, Int.reduceToNat, Nat.reduceLT, Nat.reduceLeDiff, Int.reduceLE, Int.reduceLT, Nat.reduceEqDiff, Nat.reduceSub, SB, SV.known, packR, ne_eq, reduceCtorEq, Nat.reduceEqDiff, ↓reduceIte, if_true, if_false, eq_self, Nat.reduceAdd, Nat.reduceMul, Nat.reduceSub, forall_const, oneCellS, litOne, flat1, Kd.isSca, flat, TYB]
          refine ⟨fun hx => ?_, fun hx => ?_⟩
          · have e1 := es (by omega)
            rw [hc] at e1
            simp only [if_true] at e1
            (try (and_intros <;> try (first | omega | (unfold In64; omega) | trivial | assumption)))
            intro junk' cap' hj'
            (try (and_intros <;> try (first | omega | (unfold In64; omega) | trivial | assumption)))
            refine ⟨(j + 1, n + 1 + 1, cap', junk'), ⟨by simp only; omega, by simp only [← Nat.add_assoc]; rw [e1, List.length_append, gL]; simp; omega, by simp only; omega, by simp only; omega, by simp only; omega⟩, by simp only; omega, Sub.mk_to 1 3 ?_ ?_ ?_ ?_ ?_ ?_ ?_⟩
            all_goals simp only [outV_succ, outH_succ, ← Nat.add_assoc, e1, LB, subS, subH, wfS, wfH, SV.ren, renL, SObj.ren, SV.wf, SObj.wf, wfL, SV.known, Nat.reduceEqDiff, ↓reduceIte, if_true, if_false, eq_self, Nat.reduceAdd, Nat.reduceLT, Nat.reduceLeDiff, implies_true, reduceCtorEq, forall_const]
            all_goals (try simp)
          · have hj6 : j = 6 := by omega
            subst hj6
            (try (and_intros <;> try (first | omega | (unfold In64; omega) | trivial | assumption)))
            refine ⟨(i + 1, n + 1, cap, junk), ⟨by simp only; omega, by simp only; rw [e6]; exact gL, by simp only; omega, by simp only; omega, by simp only; omega⟩, by simp only; omega, Sub.mk_id ?_ ?_ ?_ ?_ ?_⟩
            all_goals simp only [outV_succ, outH_succ, e6, LB, subS, subH, wfS, wfH, SV.ren, renL, SObj.ren, SV.wf, SObj.wf, wfL, SV.known, Nat.reduceEqDiff, ↓reduceIte, if_true, if_false, eq_self, Nat.reduceAdd, Nat.reduceLT, Nat.reduceLeDiff, implies_true, reduceCtorEq, forall_const]
            all_goals (try simp)
    · obtain rfl : i = 6 := by omega
      have kn : ∀ a b c, (outV a b c).known = true := fun a b c => by cases a <;> rfl
      refine ⟨kn _ _ _, ?_⟩
      cases n with
      | zero => 
        refine .inl ⟨rfl, List.length_eq_zero_iff.1 (by simpa using hL), ?_⟩
        simp [outV_zero, Wrap.ap]
      | succ n =>
        refine .inr ⟨1, cap, junk, ?_, ?_, by omega, ?_, ?_⟩
        · rw [show (PL R 36).length = (n + 1) * 2 from hL]; simp [Wrap.ap, outV_succ]
        · simp [hget_cons, outH_succ]
        · have : (PL R 36).length = (n + 1) * 2 := hL
          omega
        · intro _ h0
          have : (PL R 36).length = (n + 1) * 2 := hL
          rw [h0] at this
          simp at this
--@tbl l2Pours = spec.l2Pours
theorem l2Pours_ok (R : List Int) (hR : R.length = 24) (hr : rackB R = true) : FreshP Tryz.prog 97 [.arr R] [] (PL R 36) ((PL R 36).length / 2) 2 65 false .one := by
  have tkR : R.take 24 = R := List.take_of_length_le (by omega)
  refine fresh_of_vc (X := ⟨Tryz.prog, tys, [(110, l2Can_F)], [], true, true, 0, [], []⟩) fn_97 ⟨tys_ok, (.cons l2Can_T .nil), .nil, mixed⟩ (n0 := 0) rfl (Nat.le_of_ble_eq_true rfl) (by simp [wfL, SV.wf]) (wfH_spec (by simp [wfH, SObj.wf])) (Nat.le_refl _) ?_
  simp -implicitDefEqProofs only [Tryz.f97, Option.getD_some, argS, l2Can_F, hR, hr, tkR, ZB, Int.reduceToNat, Nat.reduceLT, Nat.reduceLeDiff, Int.reduceLE, Int.reduceLT, Nat.reduceEqDiff, Nat.reduceSub, SB, SV.known, packR, ne_eq, reduceCtorEq, Nat.reduceEqDiff, ↓reduceIte, if_true, if_false, eq_self, Nat.reduceAdd, Nat.reduceMul, Nat.reduceSub, forall_const, oneCellS, litOne, flat1, Kd.isSca, flat, TYB]
  refine loop_intro (fun s : Nat × Nat × Nat × List Int => [(1, .ptr 0 0), (3, .slice 1 0 s.2.1 s.2.2.1), (4, .int s.1)]) (fun s => [(1, .ints (PL R (s.1 * 6) ++ s.2.2.2) 65), (0, .ints R 27)]) 2
    (fun s => s.1 ≤ 6 ∧ (PL R (s.1 * 6)).length = s.2.1 * 2 ∧ s.2.1 ≤ 37 ∧ s.2.1 ≤ s.1 * 6 ∧ s.2.2.2.length + s.2.1 * 2 = s.2.2.1 * 2) (fun s => 6 - s.1) ?_ ?_
  · refine ⟨(0, 0, 0, []), ⟨by omega, by simp [PL_zero], by simp, by simp, by simp⟩, Sub.mk_id ?_ ?_ ?_ ?_ ?_⟩
    all_goals simp only [Nat.zero_mul, PL_zero, List.append_nil, LB, subS, subH, wfS, wfH, SV.ren, renL, SObj.ren, SV.wf, SObj.wf, wfL, SV.known, Nat.reduceEqDiff, ↓reduceIte, if_true, if_false, eq_self, Nat.reduceAdd, Nat.reduceLT, Nat.reduceLeDiff, implies_true, reduceCtorEq, forall_const]
    all_goals (try simp)
  · rintro ⟨i, n, cap, junk⟩ ⟨hi, hL, hn, hni, hj⟩
    simp only at hi hL hn hni hj
    simp -implicitDefEqProofs only [lk_normal, l2Can_F, hR, hr, ZB, Int.reduceToNat, Nat.reduceLT, Nat.reduceLeDiff, Int.reduceLE, Int.reduceLT, Nat.reduceEqDiff, Nat.reduceSub, SB, SV.known, packR, ne_eq, reduceCtorEq, Nat.reduceEqDiff, ↓reduceIte, if_true, if_false, eq_self, Nat.reduceAdd, Nat.reduceMul, Nat.reduceSub, forall_const, oneCellS, litOne, flat1, Kd.isSca, flat, TYB]
    refine ⟨fun h => ?_, fun h => ?_⟩
    · have hi6 : i < 6 := by omega
      refine loop_intro (fun s : Nat × Nat × Nat × List Int => [(1, .ptr 0 0), (3, .slice 1 0 s.2.1 s.2.2.1), (4, .int i), (5, .int s.1)]) (fun s => [(1, .ints (PL R (i * 6 + s.1) ++ s.2.2.2) 65), (0, .ints R 27)]) 2
        (fun s => s.1 ≤ 6 ∧ (PL R (i * 6 + s.1)).length = s.2.1 * 2 ∧ s.2.1 ≤ 37 ∧ s.2.1 ≤ i * 6 + s.1 ∧ s.2.2.2.length + s.2.1 * 2 = s.2.2.1 * 2) (fun s => 6 - s.1) ?_ ?_
      · refine ⟨(0, n, cap, junk), ⟨by simp, by simpa using hL, by simpa using hn, by simpa using hni, by simpa using hj⟩, Sub.mk_id ?_ ?_ ?_ ?_ ?_⟩
        all_goals simp only [Nat.add_zero, LB, subS, subH, wfS, wfH, SV.ren, renL, SObj.ren, SV.wf, SObj.wf, wfL, SV.known, Nat.reduceEqDiff, ↓reduceIte, if_true, if_false, eq_self, Nat.reduceAdd, Nat.reduceLT, Nat.reduceLeDiff, implies_true, reduceCtorEq, forall_const]
        all_goals (try simp)
      · rintro ⟨j, n, cap, junk⟩ ⟨gj, gL, gn, gni, gk⟩
        simp only at gj gL gn gni gk
        have es := fun hj => PL_at R i j hj
        have e6 : (i + 1) * 6 = i * 6 + 6 := by omega
        have tkL : (PL R (i * 6 + j) ++ junk).take (n * 2) = PL R (i * 6 + j) := List.take_left' gL
        have lenL : (PL R (i * 6 + j) ++ junk).length = cap * 2 := by rw [List.length_append]; omega
        cases hc : canF R (i : Int) (j : Int) with
        | false =>
          simp -implicitDefEqProofs only [lk_normal, l2Can_F, hR, hr, tkR, hc, ZB, Int.reduceToNat, Nat.reduceLT, Nat.reduceLeDiff, Int.reduceLE, Int.reduceLT, Nat.reduceEqDiff, Nat.reduceSub, SB, SV.known, packR, ne_eq, reduceCtorEq, Nat.reduceEqDiff, ↓reduceIte, if_true, if_false, eq_self, Nat.reduceAdd, Nat.reduceMul, Nat.reduceSub, forall_const, oneCellS, litOne, flat1, Kd.isSca, flat, TYB]
          refine ⟨fun hx => ?_, fun hx => ?_⟩
          · have e1 := es (by omega)
            rw [hc] at e1
            simp only [Bool.false_eq_true, if_false, List.append_nil] at e1
            (try (and_intros <;> try (first | omega | (unfold In64; omega) | trivial | assumption)))
            refine ⟨(j + 1, n, cap, junk), ⟨by simp only; omega, by simp only [← Nat.add_assoc]; rw [e1]; exact gL, by simp only; omega, by simp only; omega, by simp only; omega⟩, by simp only; omega, Sub.mk_id ?_ ?_ ?_ ?_ ?_⟩
            all_goals simp only [← Nat.add_assoc, e1, LB, subS, subH, wfS, wfH, SV.ren, renL, SObj.ren, SV.wf, SObj.wf, wfL, SV.known, Nat.reduceEqDiff, ↓reduceIte, if_true, if_false, eq_self, Nat.reduceAdd, Nat.reduceLT, Nat.reduceLeDiff, implies_true, reduceCtorEq, forall_const]
            all_goals (try simp)
          · have hj6 : j = 6 := by omega
            subst hj6
            (try (and_intros <;> try (first | omega | (unfold In64; omega) | trivial | assumption)))
            refine ⟨(i + 1, n, cap, junk), ⟨by simp only; omega, by simp only; rw [e6]; exact gL, by simp only; omega, by simp only; omega, by simp only; omega⟩, by simp only; omega, Sub.mk_id ?_ ?_ ?_ ?_ ?_⟩
            all_goals simp only [e6, LB, subS, subH, wfS, wfH, SV.ren, renL, SObj.ren, SV.wf, SObj.wf, wfL, SV.known, Nat.reduceEqDiff, ↓reduceIte, if_true, if_false, eq_self, Nat.reduceAdd, Nat.reduceLT, Nat.reduceLeDiff, implies_true, reduceCtorEq, forall_const]
            all_goals (try simp)
        | true =>
          simp -implicitDefEqProofs only [lk_normal, l2Can_F, hR, hr, tkR, hc, tkL, lenL, ZB, Int.reduceToNat, Nat.reduceLT, Nat.reduceLeDiff, Int.reduceLE, Int.reduceLT, Nat.reduceEqDiff, Nat.reduceSub, SB, SV.known, packR, ne_eq, reduceCtorEq, Nat.reduceEqDiff, ↓reduceIte, if_true, if_false, eq_self, Nat.reduceAdd, Nat.reduceMul, Nat.reduceSub, forall_const, oneCellS, litOne, flat1, Kd.isSca, flat, TYB]
          refine ⟨fun hx => ?_, fun hx => ?_⟩
          · have e1 := es (by omega)
            rw [hc] at e1
            simp only [if_true] at e1
            (try (and_intros <;> try (first | omega | (unfold In64; omega) | trivial | assumption)))
            intro junk' cap' hj'
            (try (and_intros <;> try (first | omega | (unfold In64; omega) | trivial | assumption)))
            refine ⟨(j + 1, n + 1, cap', junk'), ⟨by simp only; omega, by simp only [← Nat.add_assoc]; rw [e1, List.length_append, gL]; simp; omega, by simp only; omega, by simp only; omega, by simp only; omega⟩, by simp only; omega, Sub.mk_to 1 3 ?_ ?_ ?_ ?_ ?_ ?_ ?_⟩
            all_goals simp only [← Nat.add_assoc, e1, LB, subS, subH, wfS, wfH, SV.ren, renL, SObj.ren, SV.wf, SObj.wf, wfL, SV.known, Nat.reduceEqDiff, ↓reduceIte, if_true, if_false, eq_self, Nat.reduceAdd, Nat.reduceLT, Nat.reduceLeDiff, implies_true, reduceCtorEq, forall_const]
            all_goals (try simp)
          · have hj6 : j = 6 := by omega
            subst hj6
            (try (and_intros <;> try (first | omega | (unfold In64; omega) | trivial | assumption)))
            refine ⟨(i + 1, n, cap, junk), ⟨by simp only; omega, by simp only; rw [e6]; exact gL, by simp only; omega, by simp only; omega, by simp only; omega⟩, by simp only; omega, Sub.mk_id ?_ ?_ ?_ ?_ ?_⟩
            all_goals simp only [e6, LB, subS, subH, wfS, wfH, SV.ren, renL, SObj.ren, SV.wf, SObj.wf, wfL, SV.known, Nat.reduceEqDiff, ↓reduceIte, if_true, if_false, eq_self, Nat.reduceAdd, Nat.reduceLT, Nat.reduceLeDiff, implies_true, reduceCtorEq, forall_const]
            all_goals (try simp)
    · obtain rfl : i = 6 := by omega
      have hL' : (PL R 36).length = n * 2 := hL
      refine .inr ⟨1, cap, junk, ?_, ?_, by omega, ?_, ?_⟩
      · rw [hL']; simp [Wrap.ap]
      · simp [hget_cons]
      · omega
      · intro h0; cases h0
def pmN (R : List Int) (i j : Nat) : Int := min (topF (tubeAt R i)).2 (4 - (layN (tubeAt R j) : Int))
def pmR (R : List Int) (i j : Nat) : Nat → List Int
  | 0 => R
  | k + 1 => ((pmR R i j k).set (i * 4 + (layN (tubeAt R i) - 1 - k)) 0).set (j * 4 + (layN (tubeAt R j) + k)) (topF (tubeAt R i)).1
theorem pmR_len (R : List Int) (i j : Nat) : ∀ k, (pmR R i j k).length = R.length
  | 0 => rfl
  | k + 1 => by simp [pmR, pmR_len R i j k]
theorem topF_le (t : List Int) (ht : t.length = 4) : 0 ≤ (topF t).2 ∧ (topF t).2 ≤ layN t := by
  rcases Nat.eq_zero_or_pos (layN t) with h0 | h0
  · have : topF t = (0, 0) := by simp [topF, runsL, h0]
    rw [this]; simp
  · obtain ⟨r, h1, h2⟩ := topF_run t ht h0
    have := h2.2.1
    rw [h1]
    simp only
    omega
def pourF (R : List Int) (i j : Nat) : List Int := pmR R i j (pmN R i j).toNat
--@tbl pour = impl.pour
theorem pour_ok (R : List Int) (i j : Int) (hR : R.length = 24) (hi : 0 ≤ i ∧ i ≤ 5) (hj : 0 ≤ j ∧ j ≤ 5) : PureH Tryz.prog 101 [.arr R, .int i, .int j] [] (.tup [.arr (pourF R i.toNat j.toNat), .int (pmN R i.toNat j.toNat)]) := by
  obtain ⟨a, rfl⟩ := Int.eq_ofNat_of_zero_le hi.1
  obtain ⟨b, rfl⟩ := Int.eq_ofNat_of_zero_le hj.1
  have hli := tubeAt_len hR (i := a) (by omega)
  have hlj := tubeAt_len hR (i := b) (by omega)
  have ei : List.take 4 (List.drop (a * 4) R) = tubeAt R a := rfl
  have ej : List.take 4 (List.drop (b * 4) R) = tubeAt R b := rfl
  have en : min (topF (tubeAt R a)).2 (4 - (layN (tubeAt R b) : Int)) = pmN R a b := rfl
  have tle := topF_le _ hli
  have l1 := lay_le _ hli
  have l2 := lay_le _ hlj
  refine pure_of_vc (X := ⟨Tryz.prog, tys, [(136, top_F), (135, layers_F)], [], true, true, 0, [], []⟩) fn_101 ⟨tys_ok, (.cons top_T (.cons layers_T .nil)), .nil, mixed⟩ (n0 := 0) (Nat.le_of_ble_eq_true rfl) (by simp [wfL, SV.wf]) (wfH_spec (by simp [wfH, SObj.wf])) (Nat.le_refl _) (fun _ => by simp [SV.wf, wfL]) ?_
  simp -implicitDefEqProofs only [Tryz.f101, Option.getD_some, argS, top_F, layers_F, hR, ei, ej, hli, hlj, en, ZB, Int.reduceToNat, Nat.reduceLT, Nat.reduceLeDiff, Int.reduceLE, Int.reduceLT, Nat.reduceEqDiff, Nat.reduceSub, SB, SV.known, packR, ne_eq, reduceCtorEq, Nat.reduceEqDiff, ↓reduceIte, if_true, if_false, eq_self, Nat.reduceAdd, Nat.reduceMul, Nat.reduceSub, forall_const, oneCellS, litOne, flat1, Kd.isSca, flat, TYB]
  (try (and_intros <;> try (first | omega | (unfold In64; omega) | trivial | assumption)))
  have hmn : pmN R a b ≤ (topF (tubeAt R a)).2 ∧ pmN R a b ≤ 4 - (layN (tubeAt R b) : Int) ∧ 0 ≤ pmN R a b := by unfold pmN; omega
  have tkP : ∀ k, (pmR R a b k).take 24 = pmR R a b k := fun k => List.take_of_length_le (by rw [pmR_len]; omega)
  have lenP : ∀ k, (pmR R a b k).length = 24 := fun k => by rw [pmR_len, hR]
  refine loop_intro (fun k : Nat => [(1, .int a), (2, .int b), (3, .ptr 0 0), (6, .ptr 1 0), (8, .int (topF (tubeAt R a)).1), (10, .int (layN (tubeAt R a))), (11, .int (layN (tubeAt R b))), (9, .int (pmN R a b)), (35, .int (pmN R a b)), (36, .int k)]) (fun k => [(0, .ints (pmR R a b k) 27), (1, .ints (List.replicate 24 0) 27)]) 2 (fun k => (k : Int) ≤ pmN R a b) (fun k => (pmN R a b).toNat - k) ?_ ?_
  · refine ⟨0, by simpa using hmn.2.2, Sub.mk_id ?_ ?_ ?_ ?_ ?_⟩
    all_goals simp only [pmR, LB, subS, subH, wfS, wfH, SV.ren, renL, SObj.ren, SV.wf, SObj.wf, wfL, SV.known, Nat.reduceEqDiff, ↓reduceIte, if_true, if_false, eq_self, Nat.reduceAdd, Nat.reduceLT, Nat.reduceLeDiff, implies_true, reduceCtorEq, forall_const]
    all_goals (try simp)
  · intro k hk
    by_cases hkn : (k : Int) < pmN R a b
    · have e1 : ((layN (tubeAt R a) : Int) - 1 - k).toNat = layN (tubeAt R a) - 1 - k := by omega
      have e2 : ((layN (tubeAt R b) : Int) + k).toNat = layN (tubeAt R b) + k := by omega
      simp -implicitDefEqProofs only [lk_normal, top_F, layers_F, hR, lenP, e1, e2, ZB, Int.reduceToNat, Nat.reduceLT, Nat.reduceLeDiff, Int.reduceLE, Int.reduceLT, Nat.reduceEqDiff, Nat.reduceSub, SB, SV.known, packR, ne_eq, reduceCtorEq, Nat.reduceEqDiff, ↓reduceIte, if_true, if_false, eq_self, Nat.reduceAdd, Nat.reduceMul, Nat.reduceSub, forall_const, oneCellS, litOne, flat1, Kd.isSca, flat, TYB]
      refine ⟨fun _ => ?_, fun hx => absurd hkn hx⟩
      (try (and_intros <;> try (first | omega | (unfold In64; omega) | trivial | assumption)))
      refine ⟨k + 1, by omega, by omega, Sub.mk_id ?_ ?_ ?_ ?_ ?_⟩
      all_goals simp only [pmR, LB, subS, subH, wfS, wfH, SV.ren, renL, SObj.ren, SV.wf, SObj.wf, wfL, SV.known, Nat.reduceEqDiff, ↓reduceIte, if_true, if_false, eq_self, Nat.reduceAdd, Nat.reduceLT, Nat.reduceLeDiff, implies_true, reduceCtorEq, forall_const]
      all_goals (try simp)
    · have hke : (k : Int) = pmN R a b := by omega
      simp -implicitDefEqProofs only [lk_normal, top_F, layers_F, hR, lenP, tkP, ZB, Int.reduceToNat, Nat.reduceLT, Nat.reduceLeDiff, Int.reduceLE, Int.reduceLT, Nat.reduceEqDiff, Nat.reduceSub, SB, SV.known, packR, ne_eq, reduceCtorEq, Nat.reduceEqDiff, ↓reduceIte, if_true, if_false, eq_self, Nat.reduceAdd, Nat.reduceMul, Nat.reduceSub, forall_const, oneCellS, litOne, flat1, Kd.isSca, flat, TYB]
      refine ⟨fun hx => absurd hx hkn, fun _ => ?_⟩
      have hkk : (pmN R a b).toNat = k := by omega
      unfold pourF
      rw [hkk]
def pour_F : List SV → Heap → Option (Prop × SV)
  | [.arr R, .int i, .int j], _ => some (R.length = 24 ∧ (0 ≤ i ∧ i ≤ 5) ∧ (0 ≤ j ∧ j ≤ 5), .tup [.arr (pourF R i.toNat j.toNat), .int (pmN R i.toNat j.toNat)])
  | _, _ => none
theorem pour_T : ∀ args H p v, pour_F args H = some (p, v) → p → PureH Tryz.prog 101 args H v := by
  intro args H p v h hp
  unfold pour_F at h
  split at h
  · cases h; exact (pour_ok _ _ _ hp.1 hp.2.1 hp.2.2).any _
  · cases h
--@tbl l2Pour = spec.l2Pour
--@tbl l1Least = spec.l1Least
theorem l1Least_ok (a b : Int) : PureH Tryz.prog 129 [.int a, .int b] [] (.int (min a b)) := by
  refine pure_of_vc (X := ⟨Tryz.prog, tys, [], [], true, true, 0, [], []⟩) fn_129 ⟨tys_ok, .nil, .nil, mixed⟩ (n0 := 0) (Nat.le_of_ble_eq_true rfl) (by simp [wfL, SV.wf]) (wfH_spec (by simp [wfH, SObj.wf])) (Nat.le_refl _) (fun _ => by simp [SV.wf, wfL]) ?_
  simp -implicitDefEqProofs only [Tryz.f129, Option.getD_some, argS, ZB, Int.reduceToNat, Nat.reduceLT, Nat.reduceLeDiff, Int.reduceLE, Int.reduceLT, Nat.reduceEqDiff, Nat.reduceSub, SB, SV.known, packR, ne_eq, reduceCtorEq, Nat.reduceEqDiff, ↓reduceIte, if_true, if_false, eq_self, Nat.reduceAdd, Nat.reduceMul, Nat.reduceSub, forall_const, oneCellS, litOne, flat1, Kd.isSca, flat, TYB]
  constructor <;> intro h <;> omega
def l1Least_F : List SV → Heap → Option (Prop × SV)
  | [.int a, .int b], _ => some (True, .int (min a b))
  | _, _ => none
theorem l1Least_T : ∀ args H p v, l1Least_F args H = some (p, v) → p → PureH Tryz.prog 129 args H v := by
  intro args H p v h hp
  unfold l1Least_F at h
  split at h
  · cases h; exact (l1Least_ok _ _).any _
  · cases h
theorem l2Pour_ok (R : List Int) (i j : Int) (hR : R.length = 24) (hr : rackB R = true) (hi : 0 ≤ i ∧ i ≤ 5) (hj : 0 ≤ j ∧ j ≤ 5) : PureH Tryz.prog 77 [.arr R, .int i, .int j] [] (.tup [.arr (pourF R i.toNat j.toNat), .int (pmN R i.toNat j.toNat)]) := by
  obtain ⟨a, rfl⟩ := Int.eq_ofNat_of_zero_le hi.1
  obtain ⟨b, rfl⟩ := Int.eq_ofNat_of_zero_le hj.1
  have hli := tubeAt_len hR (i := a) (by omega)
  have hlj := tubeAt_len hR (i := b) (by omega)
  have ei : List.take 4 (List.drop (a * 4) R) = tubeAt R a := rfl
  have ej : List.take 4 (List.drop (b * 4) R) = tubeAt R b := rfl
  have en : min (topF (tubeAt R a)).2 (4 - (layN (tubeAt R b) : Int)) = pmN R a b := rfl
  have bi := tubeAt_ok hr (i := a) (by omega)
  have bj := tubeAt_ok hr (i := b) (by omega)
  have pi := posC_lay _ hli bi
  have pj := posC_lay _ hlj bj
  have tle := topF_le _ hli
  have l1 := lay_le _ hli
  have l2 := lay_le _ hlj
  refine pure_of_vc (X := ⟨Tryz.prog, tys, [(127, l2Top_F), (128, l2Many_F), (129, l1Least_F)], [], true, true, 0, [], []⟩) fn_77 ⟨tys_ok, (.cons l2Top_T (.cons l2Many_T (.cons l1Least_T .nil))), .nil, mixed⟩ (n0 := 0) (Nat.le_of_ble_eq_true rfl) (by simp [wfL, SV.wf]) (wfH_spec (by simp [wfH, SObj.wf])) (Nat.le_refl _) (fun _ => by simp [SV.wf, wfL]) ?_
  simp -implicitDefEqProofs only [Tryz.f77, Option.getD_some, argS, l2Top_F, l2Many_F, l1Least_F, hR, ei, ej, hli, hlj, bi, bj, pi, pj, en, ZB, Int.reduceToNat, Nat.reduceLT, Nat.reduceLeDiff, Int.reduceLE, Int.reduceLT, Nat.reduceEqDiff, Nat.reduceSub, SB, SV.known, packR, ne_eq, reduceCtorEq, Nat.reduceEqDiff, ↓reduceIte, if_true, if_false, eq_self, Nat.reduceAdd, Nat.reduceMul, Nat.reduceSub, forall_const, oneCellS, litOne, flat1, Kd.isSca, flat, TYB]
  (try (and_intros <;> try (first | omega | (unfold In64; omega) | trivial | assumption)))
  have hmn : pmN R a b ≤ (topF (tubeAt R a)).2 ∧ pmN R a b ≤ 4 - (layN (tubeAt R b) : Int) ∧ 0 ≤ pmN R a b := by unfold pmN; omega
  have tkP : ∀ k, (pmR R a b k).take 24 = pmR R a b k := fun k => List.take_of_length_le (by rw [pmR_len]; omega)
  have lenP : ∀ k, (pmR R a b k).length = 24 := fun k => by rw [pmR_len, hR]
  refine loop_intro (fun k : Nat => [(1, .int a), (2, .int b), (3, .ptr 0 0), (6, .ptr 1 0), (8, .int (topF (tubeAt R a)).1), (10, .int (layN (tubeAt R a))), (11, .int (layN (tubeAt R b))), (12, .int (pmN R a b)), (13, .int k)]) (fun k => [(0, .ints (pmR R a b k) 27), (1, .ints (List.replicate 24 0) 27)]) 2 (fun k => (k : Int) ≤ pmN R a b) (fun k => (pmN R a b).toNat - k) ?_ ?_
  · refine ⟨0, by simpa using hmn.2.2, Sub.mk_id ?_ ?_ ?_ ?_ ?_⟩
    all_goals simp only [pmR, LB, subS, subH, wfS, wfH, SV.ren, renL, SObj.ren, SV.wf, SObj.wf, wfL, SV.known, Nat.reduceEqDiff, ↓reduceIte, if_true, if_false, eq_self, Nat.reduceAdd, Nat.reduceLT, Nat.reduceLeDiff, implies_true, reduceCtorEq, forall_const]
    all_goals (try simp)
  · intro k hk
    by_cases hkn : (k : Int) < pmN R a b
    · have e1 : ((layN (tubeAt R a) : Int) - 1 - k).toNat = layN (tubeAt R a) - 1 - k := by omega
      have e2 : ((layN (tubeAt R b) : Int) + k).toNat = layN (tubeAt R b) + k := by omega
      simp -implicitDefEqProofs only [lk_normal, l2Top_F, l2Many_F, hR, lenP, e1, e2, ZB, Int.reduceToNat, Nat.reduceLT, Nat.reduceLeDiff, Int.reduceLE, Int.reduceLT, Nat.reduceEqDiff, Nat.reduceSub, SB, SV.known, packR, ne_eq, reduceCtorEq, Nat.reduceEqDiff, ↓reduceIte, if_true, if_false, eq_self, Nat.reduceAdd, Nat.reduceMul, Nat.reduceSub, forall_const, oneCellS, litOne, flat1, Kd.isSca, flat, TYB]
      refine ⟨fun _ => ?_, fun hx => absurd hkn hx⟩
      (try (and_intros <;> try (first | omega | (unfold In64; omega) | trivial | assumption)))
      refine ⟨k + 1, by omega, by omega, Sub.mk_id ?_ ?_ ?_ ?_ ?_⟩
      all_goals simp only [pmR, LB, subS, subH, wfS, wfH, SV.ren, renL, SObj.ren, SV.wf, SObj.wf, wfL, SV.known, Nat.reduceEqDiff, ↓reduceIte, if_true, if_false, eq_self, Nat.reduceAdd, Nat.reduceLT, Nat.reduceLeDiff, implies_true, reduceCtorEq, forall_const]
      all_goals (try simp)
    · have hke : (k : Int) = pmN R a b := by omega
      simp -implicitDefEqProofs only [lk_normal, l2Top_F, l2Many_F, hR, lenP, tkP, ZB, Int.reduceToNat, Nat.reduceLT, Nat.reduceLeDiff, Int.reduceLE, Int.reduceLT, Nat.reduceEqDiff, Nat.reduceSub, SB, SV.known, packR, ne_eq, reduceCtorEq, Nat.reduceEqDiff, ↓reduceIte, if_true, if_false, eq_self, Nat.reduceAdd, Nat.reduceMul, Nat.reduceSub, forall_const, oneCellS, litOne, flat1, Kd.isSca, flat, TYB]
      refine ⟨fun hx => absurd hx hkn, fun _ => ?_⟩
      have hkk : (pmN R a b).toNat = k := by omega
      unfold pourF
      rw [hkk]
def l2Pour_F : List SV → Heap → Option (Prop × SV)
  | [.arr R, .int i, .int j], _ => some (R.length = 24 ∧ rackB R = true ∧ (0 ≤ i ∧ i ≤ 5) ∧ (0 ≤ j ∧ j ≤ 5), .tup [.arr (pourF R i.toNat j.toNat), .int (pmN R i.toNat j.toNat)])
  | _, _ => none
theorem l2Pour_T : ∀ args H p v, l2Pour_F args H = some (p, v) → p → PureH Tryz.prog 77 args H v := by
  intro args H p v h hp
  unfold l2Pour_F at h
  split at h
  · cases h; exact (l2Pour_ok _ _ _ hp.1 hp.2.1 hp.2.2.1 hp.2.2.2).any _
  · cases h
end Go.Proofs.YtmccafjblhbmkaaGreat
set_option maxRecDepth 100000
set_option linter.unusedSimpArgs false
set_option linter.unusedVariables false
namespace Go.Proofs.YtmccafjblhbmkaaGreat
open Go Go.RowKit
--@tbl l3Below = spec.l3Below
/-! Sorted tubes. -/
def insT (x : List Int) : List (List Int) → List (List Int)
  | [] => [x]
  | y :: l => if lexL x y = true then x :: y :: l else y :: insT x l
def srtT : List (List Int) → List (List Int)
  | [] => []
  | x :: l => insT x (srtT l)
theorem insT_perm (x : List Int) : ∀ l, (insT x l).Perm (x :: l)
  | [] => List.Perm.refl _
  | y :: l => by
    unfold insT
    split
    · exact List.Perm.refl _
    · exact (List.Perm.cons y (insT_perm x l)).trans (List.Perm.swap x y l)
theorem srtT_perm : ∀ l, (srtT l).Perm l
  | [] => List.Perm.refl _
  | x :: l => (insT_perm x (srtT l)).trans (List.Perm.cons x (srtT_perm l))
theorem insT_pw {w : Nat} {x : List Int} (hx : x.length = w) : ∀ {l : List (List Int)}, (∀ y ∈ l, y.length = w) → l.Pairwise (fun a b => lexL a b = true) → (insT x l).Pairwise (fun a b => lexL a b = true)
  | [], _, _ => by simp [insT]
  | y :: l, h, hp => by
    have hy := h y (List.mem_cons_self ..)
    rw [List.pairwise_cons] at hp
    unfold insT
    split
    · rename_i hxy
      rw [List.pairwise_cons]
      refine ⟨fun z hz => ?_, List.pairwise_cons.2 hp⟩
      rcases List.mem_cons.1 hz with rfl | hz
      · exact hxy
      · exact lexL_trans (by rw [hx, hy]) (by rw [hy, h z (List.mem_cons_of_mem _ hz)]) hxy (hp.1 z hz)
    · rename_i hxy
      have hyx := (lexL_total x y (by rw [hx, hy])).resolve_left hxy
      rw [List.pairwise_cons]
      refine ⟨fun z hz => ?_, insT_pw hx (fun z hz => h z (List.mem_cons_of_mem _ hz)) hp.2⟩
      rcases List.mem_cons.1 ((insT_perm x l).mem_iff.1 hz) with rfl | hz
      · exact hyx
      · exact hp.1 z hz
theorem srtT_pw {w : Nat} : ∀ {l : List (List Int)}, (∀ y ∈ l, y.length = w) → (srtT l).Pairwise (fun a b => lexL a b = true)
  | [], _ => List.Pairwise.nil
  | x :: l, h => insT_pw (h x (List.mem_cons_self ..)) (fun y hy => h y (List.mem_cons_of_mem _ ((srtT_perm l).mem_iff.1 hy))) (srtT_pw fun y hy => h y (List.mem_cons_of_mem _ hy))
def tubs (R : List Int) : List (List Int) := (List.range 6).map (tubeAt R)
theorem tubs_len {R : List Int} (hR : R.length = 24) : ∀ y ∈ tubs R, y.length = 4 := fun y hy => by
  obtain ⟨i, hi, rfl⟩ := List.mem_map.1 hy
  exact tubeAt_len hR (List.mem_range.1 hi)
theorem tubs_flat {R : List Int} (hR : R.length = 24) : (tubs R).flatten = R := by
  have h : ∀ m, m ≤ 6 → ((List.range m).map (tubeAt R)).flatten = R.take (m * 4) := fun m => by
    induction m with
    | zero => intro _; simp
    | succ m ih =>
      intro hm
      rw [List.range_succ, List.map_append, List.flatten_append, ih (by omega), show (m + 1) * 4 = m * 4 + 4 by omega, List.take_add]
      simp [tubeAt]
  have := h 6 (by omega)
  unfold tubs
  rw [this, List.take_of_length_le (by omega)]
def frm (R : List Int) : List Int := (srtT (tubs R)).flatten
/-- Another order of the tubes, sorted: the form. -/
theorem frm_of {R R' : List Int} (hR : R.length = 24) (hR' : R'.length = 24) (hp : (tubs R').Perm (tubs R)) (hs : (tubs R').Pairwise (fun a b => lexL a b = true)) : R' = frm R := by
  unfold frm
  rw [← lexL_one (tubs_len hR') (hp.trans (srtT_perm _).symm) hs (srtT_pw (tubs_len hR)), tubs_flat hR']
theorem frm_len {R : List Int} (hR : R.length = 24) : (frm R).length = 24 := by
  unfold frm
  have h1 : ∀ l : List (List Int), (∀ y ∈ l, y.length = 4) → l.flatten.length = l.length * 4 := fun l => by
    induction l with
    | nil => intro _; rfl
    | cons x l ih => intro h; rw [List.flatten_cons, List.length_append, ih (fun y hy => h y (List.mem_cons_of_mem _ hy)), h x (List.mem_cons_self ..), List.length_cons]; omega
  rw [h1 _ fun y hy => tubs_len hR y ((srtT_perm _).mem_iff.1 hy), (srtT_perm _).length_eq]
  simp [tubs]
/-! Exchanges of tubes. -/
def putT (R : List Int) (k : Nat) (v : List Int) : List Int := R.take (k * 4) ++ v ++ R.drop (k * 4 + 4)
theorem putT_len {R v : List Int} {k : Nat} (hR : R.length = 24) (hv : v.length = 4) (hk : k < 6) : (putT R k v).length = 24 := by
  unfold putT
  rw [List.length_append, List.length_append, List.length_take, List.length_drop]; omega
theorem tubeAt_put {R v : List Int} {k q : Nat} (hR : R.length = 24) (hv : v.length = 4) (hk : k < 6) (hq : q < 6) : tubeAt (putT R k v) q = if q = k then v else tubeAt R q := by
  have l1 : (R.take (k * 4)).length = k * 4 := by rw [List.length_take]; omega
  unfold tubeAt putT
  by_cases h : q = k
  · subst h
    rw [if_pos rfl, List.append_assoc, List.drop_left' l1, List.take_left' hv]
  · rw [if_neg h]
    by_cases hlt : q < k
    · rw [List.append_assoc, List.drop_append_of_le_length (by omega), List.take_append_of_le_length (by rw [List.length_drop]; omega), List.drop_take, List.take_take, Nat.min_eq_left (by omega)]
    · obtain ⟨d, rfl⟩ : ∃ d, q = k + 1 + d := ⟨q - (k + 1), by omega⟩
      rw [show (k + 1 + d) * 4 = (k * 4 + 4) + d * 4 by omega, ← List.drop_drop, List.drop_left' (by rw [List.length_append, l1, hv]), List.drop_drop]
def swT (R : List Int) (k : Nat) : List Int := putT (putT R k (tubeAt R (k + 1))) (k + 1) (tubeAt R k)
theorem swT_len {R : List Int} {k : Nat} (hR : R.length = 24) (hk : k < 5) : (swT R k).length = 24 :=
  putT_len (putT_len hR (tubeAt_len hR (by omega)) (by omega)) (tubeAt_len hR (by omega)) (by omega)
theorem tubeAt_sw {R : List Int} {k q : Nat} (hR : R.length = 24) (hk : k < 5) (hq : q < 6) : tubeAt (swT R k) q = if q = k then tubeAt R (k + 1) else if q = k + 1 then tubeAt R k else tubeAt R q := by
  unfold swT
  rw [tubeAt_put (putT_len hR (tubeAt_len hR (by omega)) (by omega)) (tubeAt_len hR (by omega)) (by omega) hq, tubeAt_put hR (tubeAt_len hR (by omega)) (by omega) hq]
  by_cases h1 : q = k + 1
  · rw [if_pos h1, if_neg (by omega), if_pos h1]
  · rw [if_neg h1, if_neg h1]
theorem tubs_sw {R : List Int} {k : Nat} (hR : R.length = 24) (hk : k < 5) : (tubs (swT R k)).Perm (tubs R) := by
  have e : tubs (swT R k) = (List.range 6).map fun q => if q = k then tubeAt R (k + 1) else if q = k + 1 then tubeAt R k else tubeAt R q :=
    List.map_congr_left fun q hq => tubeAt_sw hR hk (List.mem_range.1 hq)
  rw [e]
  have r6 : List.range 6 = [0, 1, 2, 3, 4, 5] := rfl
  unfold tubs
  rw [r6]
  obtain rfl | rfl | rfl | rfl | rfl : k = 0 ∨ k = 1 ∨ k = 2 ∨ k = 3 ∨ k = 4 := by omega
  · exact List.Perm.swap ..
  · exact (List.Perm.swap ..).cons _
  · exact ((List.Perm.swap ..).cons _).cons _
  · exact (((List.Perm.swap ..).cons _).cons _).cons _
  · exact ((((List.Perm.swap ..).cons _).cons _).cons _).cons _
/-- What a bubble sort keeps, in round i at place k. -/
structure Bub (R0 R : List Int) (i k : Nat) : Prop where
  len : R.length = 24
  perm : (tubs R).Perm (tubs R0)
  tail : ∀ p q, p < q → q ≤ 5 → 6 - i ≤ q → lexL (tubeAt R p) (tubeAt R q) = true
  top : ∀ p, p < k → lexL (tubeAt R p) (tubeAt R k) = true
  fin : 5 - i ≤ k → ∀ p, p < 5 - i → lexL (tubeAt R p) (tubeAt R (5 - i)) = true
theorem Bub.start {R : List Int} (hR : R.length = 24) : Bub R R 0 0 := ⟨hR, List.Perm.refl _, fun p q h1 h2 h3 => by omega, fun p h => by omega, fun h => by omega⟩
theorem Bub.round {R0 R : List Int} {i : Nat} (h : Bub R0 R i 5) (hi : i < 6) : Bub R0 R (i + 1) 0 := by
  refine ⟨h.len, h.perm, fun p q h1 h2 h3 => ?_, fun p hp => by omega, fun h0 p hp => by omega⟩
  by_cases hq : 6 - i ≤ q
  · exact h.tail p q h1 h2 hq
  · obtain rfl : q = 5 - i := by omega
    exact h.fin (by omega) p h1
theorem Bub.swap {R0 R : List Int} {i k : Nat} (h : Bub R0 R i k) (hk : k < 5) (hc : lexC (tubeAt R (k + 1)) (tubeAt R k) < 0) : Bub R0 (swT R k) i (k + 1) := by
  have l4 := fun q (hq : q < 6) => tubeAt_len h.len hq
  have hl : lexL (tubeAt R (k + 1)) (tubeAt R k) = true := by
    simp only [lexL, Bool.not_eq_true', decide_eq_false_iff_not]
    intro h2
    have := lexC_trans (by rw [l4 k (by omega), l4 (k + 1) (by omega)]) (by rw [l4 k (by omega), l4 (k + 1) (by omega)]) h2 hc
    rw [lexC_refl] at this; omega
  have hnot : k + 1 < 6 - i := by
    rcases Nat.lt_or_ge (k + 1) (6 - i) with h1 | h1
    · exact h1
    · have := h.tail k (k + 1) (by omega) (by omega) h1
      simp only [lexL, Bool.not_eq_true', decide_eq_false_iff_not] at this
      exact absurd hc this
  have ts := fun q (hq : q < 6) => tubeAt_sw (k := k) h.len hk hq
  have htop : ∀ p, p < k + 1 → lexL (tubeAt (swT R k) p) (tubeAt (swT R k) (k + 1)) = true := fun p hp => by
    rw [ts p (by omega), ts (k + 1) (by omega), if_neg (by omega : ¬ k + 1 = k), if_pos (rfl : k + 1 = k + 1)]
    by_cases hpk : p = k
    · rw [if_pos hpk]; exact hl
    · rw [if_neg hpk, if_neg (by omega)]; exact h.top p (by omega)
  refine ⟨swT_len h.len hk, (tubs_sw h.len hk).trans h.perm, fun p q h1 h2 h3 => ?_, htop, fun h1 p hp => ?_⟩
  · rw [ts p (by omega), ts q (by omega), if_neg (by omega : ¬ q = k), if_neg (by omega : ¬ q = k + 1)]
    by_cases hp1 : p = k
    · rw [if_pos hp1]; exact h.tail (k + 1) q (by omega) h2 h3
    · rw [if_neg hp1]
      by_cases hp2 : p = k + 1
      · rw [if_pos hp2]; exact h.tail k q (by omega) h2 h3
      · rw [if_neg hp2]; exact h.tail p q h1 h2 h3
  · obtain h4 : 5 - i = k + 1 := by omega
    rw [h4]
    exact htop p (by omega)
theorem Bub.done {R0 R : List Int} {k : Nat} (hR : R0.length = 24) (h : Bub R0 R 6 k) : R = frm R0 := by
  refine frm_of hR h.len h.perm ?_
  unfold tubs
  rw [List.pairwise_map]
  have : (List.range 6).Pairwise (fun a b => a < b ∧ b < 6) := by decide
  exact this.imp fun {a b} hab => h.tail a b hab.1 (by omega) (by omega)
end Go.Proofs.YtmccafjblhbmkaaGreat
set_option maxRecDepth 100000
set_option linter.unusedSimpArgs false
set_option linter.unusedVariables false
namespace Go.Proofs.YtmccafjblhbmkaaGreat
open Go Go.RowKit

structure UpdP (P : Program) (f : FuncId) (args : List SV) (b : Nat) (H0 : Heap) (o o' : SObj) (r : SV) : Prop where
  ent : Entd P f
  lo : o.live = true
  wo : ∀ n, o'.wf n
  call : ∀ B w, HR B ((b, o) :: H0) w → Calls P f (denL B args).toArray w fun e w' => e = .returned (r.den B) ∧ Kept (fun i => i = B b ∨ w.heap.size ≤ i) w w' ∧ w'.heap[B b]? = some (o'.den B)

theorem upd_of_vc {X : Cx} {f : FuncId} {fn : Func} {c : Code} (hf : FnOK X.P f fn c X.sx X.hr) (hX : CxOK X) {n0 b : Nat} {args : List SV} {H0 : Heap} {o o' : SObj} {r : SV} (hb : b < n0) (hN : args.length ≤ fn.ntmps) (hwa : wfL n0 args) (hwH : hwf n0 ((b, o) :: H0)) (hm : ∀ k o1, hget H0 k = some o1 → k < X.m) (hlo : o.live = true) (hlo' : o'.live = true) (hwo : ∀ n, o'.wf n) (hwr : r.wf n0)
    (h : codeVC X n0 c (argS 0 args) ((b, o) :: H0) n0 (retK X.τ fn.results.toList fun v H' _ => v = r ∧ hget H' b = some o')) (hfo' : o'.full = true := by rfl) : UpdP X.P f args b H0 o o' r := by
  refine ⟨hf.ent, hlo, hwo, fun B w hH => ?_⟩
  have hown : Own (fun i => i = B b ∨ w.heap.size ≤ i) X.m B ((b, o) :: H0) := by
    intro k o1 hl _ hmk
    rw [hget_cons] at hl
    split at hl
    · rename_i hkb; subst hkb; exact .inl rfl
    · have := hm k o1 hl; omega
  refine (run_of_vc hf hX hN hwa hwH (Nat.le_refl _) h B (fun i => i = B b ∨ w.heap.size ≤ i) w hH hown (fun _ h => .inr h)).mono fun e w' hh => ?_
  obtain ⟨v, H', n', B', rfl, ⟨rfl, h2⟩, g1, g2, g3, g4, g5, g6, g7⟩ := hh
  refine ⟨?_, g5, ?_⟩
  · rw [SV.den_congr (n := n0) g6 v hwr]
  · have := SObj.den_of_sat hfo' (g3.at_ b o' h2 hlo')
    rw [g6 b hb] at this
    rw [this, SObj.den_congr (n := 0) (fun k hk => by omega) o' (hwo 0)]

theorem gen_of_upd {P : Program} {f : FuncId} {args : List SV} {b : Nat} {H0 H : Heap} {o o' : SObj} {r : SV} {n m : Nat} {κ : K1} (h : UpdP P f args b H0 o o' r) (ρ : Nat → Nat) (hs : ∀ k o1, hget ((b, o) :: H0) k = some o1 → hget H (ρ k) = some (o1.ren ρ))
    (hi : ∀ k o1 j o2, hget ((b, o) :: H0) k = some o1 → hget ((b, o) :: H0) j = some o2 → ρ k = ρ j → k = j) (hm : m ≤ ρ b) (hlo' : o'.live = true) (hwr : ∀ n, ρ b < n → (r.ren ρ).wf n) (hk : κ (r.ren ρ) ((ρ b, o') :: H) n) (hfo' : o'.full = true := by rfl) : GenOK P f (renL ρ args) H n m κ := by
  refine ⟨h.ent, fun B M w hH hwH hwa hown hM => ?_⟩
  have hb0 : hget H (ρ b) = some (o.ren ρ) := hs b o (by rw [hget_cons, if_pos rfl])
  have hlive : (o.ren ρ).live = true := by rw [SObj.live_ren]; exact h.lo
  have hR : HR (fun k => B (ρ k)) ((b, o) :: H0) w := ⟨fun k o1 hl hk1 => by
    have := hH.at_ _ _ (hs k o1 hl) (by rw [SObj.live_ren]; exact hk1)
    rw [SObj.sat_ren] at this
    exact this, fun k j o1 o2 h1 h2 h3 h4 he => hi k o1 j o2 h1 h3 (hH.inj _ _ _ _ (hs k o1 h1) (by rw [SObj.live_ren]; exact h2) (hs j o2 h3) (by rw [SObj.live_ren]; exact h4) he)⟩
  rw [denL_ren]
  refine (h.call _ w hR).mono fun e w' hh => ?_
  obtain ⟨rfl, hkept, hblk⟩ := hh
  have hbn := (hwH (ρ b) _ hb0).1
  have hden : o'.den (fun k => B (ρ k)) = o'.den B := by
    rw [SObj.den_congr (n := 0) (B := B) (B' := fun k => B (ρ k)) (fun k hk => by omega) o' (h.wo 0)]
  have off : ∀ k o1, hget H k = some o1 → o1.live = true → k ≠ ρ b → o1.sat B w' (B k) := fun k o1 hl hk1 hne => by
    have hlt := hH.lt hl hk1
    exact SObj.sat_heap (hkept.block (B k) hlt (fun hc => by
      rcases hc with hc | hc
      · exact hne (hH.inj k (ρ b) _ _ hl hk1 hb0 hlive hc)
      · omega)) (hH.at_ k o1 hl hk1)
  refine ⟨r.ren ρ, (ρ b, o') :: H, n, B, by rw [SV.den_ren], hk, Nat.le_refl _, hwr n hbn, hwf_cons hwH hbn (h.wo n), fun _ _ => rfl, ⟨fun k o1 hl hk1 => ?_, fun k j o1 o2 h1 h2 h3 h4 he => ?_⟩, ?_, ?_⟩
  · rw [hget_cons] at hl
    split at hl
    · rename_i hkb
      subst hkb
      cases hl
      exact SObj.sat_of_den hfo' (by rw [hblk, hden])
    · rename_i hkb
      exact off k o1 hl hk1 hkb
  · rw [hget_cons] at h1 h3
    have up : ∀ k o1, (if k = ρ b then some o' else hget H k) = some o1 → o1.live = true → ∃ o2, hget H k = some o2 ∧ o2.live = true := fun k o1 hl hk1 => by
      split at hl
      · rename_i hkb; rw [hkb]; exact ⟨_, hb0, hlive⟩
      · exact ⟨o1, hl, hk1⟩
    obtain ⟨p1, q1, r1⟩ := up k o1 h1 h2
    obtain ⟨p2, q2, r2⟩ := up j o2 h3 h4
    exact hH.inj k j p1 p2 q1 r1 q2 r2 he
  · intro k o1 hl hk1 hmk
    rw [hget_cons] at hl
    split at hl
    · rename_i hkb; rw [hkb]; exact hown (ρ b) _ hb0 hlive hm
    · exact hown k o1 hl hk1 hmk
  · refine ⟨hkept.os, hkept.tape, hkept.output, hkept.size, fun i hi1 hi2 => hkept.block i hi1 fun hc => ?_, hkept.drawn⟩
    rcases hc with hc | hc
    · rw [hc] at hi2; exact hi2 (hown (ρ b) _ hb0 hlive hm)
    · omega

/-- A heap that holds another one. -/
def Ext (Hc H : Heap) : Prop := ∀ k o, hget Hc k = some o → hget H k = some o
theorem Ext.refl (H : Heap) : Ext H H := fun _ _ h => h
theorem Ext.cons {Hc H : Heap} {b : Nat} {o : SObj} {n : Nat} (hw : hwf n Hc) (hb : n ≤ b) (h : Ext Hc H) : Ext Hc ((b, o) :: H) := fun k o1 hk => by
  have := (hw k o1 hk).1
  rw [hget_cons, if_neg (by omega)]
  exact h k o1 hk
theorem hget_app (l Hc : Heap) (k : Nat) : hget (l ++ Hc) k = (hget l k).or (hget Hc k) := by
  induction l with
  | nil => simp [hget]
  | cons q l ih =>
    obtain ⟨b, o⟩ := q
    rw [List.cons_append, hget_cons, hget_cons, ih]
    split <;> rfl
theorem Sub.mk_ext {p m : Nat} {S S' : Env} {H l Hc : Heap} {n' : Nat} (h1 : subS (fun k => k) S S') (h2 : subH (fun k => k) m H l) (h3 : wfS n' S') (h4 : wfH n' l) (h5 : p ≤ n') (hE : Ext Hc H) (hw : hwf n' Hc) : Sub p m S H S' (l ++ Hc) n' := by
  refine ⟨fun k => k, h1, fun k o hk => ?_, h3, fun k o hk => ?_, fun _ _ _ _ h => h, fun _ _ => rfl, h5⟩
  · rw [hget_app] at hk
    cases hl : hget l k with
    | none =>
      rw [hl] at hk
      simp at hk
      exact ⟨by rw [SObj.ren_id]; exact hE k o hk, fun h => h, by
        have := mem_keys hk
        simp only [List.map_append, List.mem_append]
        exact .inr this⟩
    | some o1 =>
      rw [hl] at hk
      simp at hk
      subst hk
      obtain ⟨g1, g2, g3⟩ := subH_spec h2 k o1 hl
      exact ⟨g1, g2, by simp only [List.map_append, List.mem_append]; exact .inl g3⟩
  · rw [hget_app] at hk
    cases hl : hget l k with
    | none => rw [hl] at hk; simp at hk; exact hw k o hk
    | some o1 => rw [hl] at hk; simp at hk; subst hk; exact wfH_spec h4 k o1 hl
end Go.Proofs.YtmccafjblhbmkaaGreat
set_option maxRecDepth 100000
set_option linter.unusedSimpArgs false
set_option linter.unusedVariables false
namespace Go.Proofs.YtmccafjblhbmkaaGreat
open Go Go.RowKit

mutual
theorem SV.wf_ren {n N : Nat} {ρ : Nat → Nat} (h : ∀ k, k < n → ρ k < N) : ∀ v : SV, v.wf n → (v.ren ρ).wf N
  | .non, _ => trivial
  | .und, _ => trivial
  | .int _, _ => trivial
  | .bool _, _ => trivial
  | .arr _, _ => trivial
  | .barr _, _ => trivial
  | .lit _, _ => trivial
  | .nils, _ => trivial
  | .ptr b o, hw => by simp only [SV.ren, SV.wf] at *; exact h b hw
  | .slice b o l c, hw => by simp only [SV.ren, SV.wf] at *; exact h b hw
  | .mp b, hw => by simp only [SV.ren, SV.wf] at *; exact h b hw
  | .fn f caps, hw => by simp only [SV.ren, SV.wf] at *; exact wfL_ren h caps hw
  | .tup l, hw => by simp only [SV.ren, SV.wf] at *; exact wfL_ren h l hw
  | .stc l, hw => by simp only [SV.ren, SV.wf] at *; exact wfL_ren h l hw
theorem wfL_ren {n N : Nat} {ρ : Nat → Nat} (h : ∀ k, k < n → ρ k < N) : ∀ l : List SV, wfL n l → wfL N (renL ρ l)
  | [], _ => trivial
  | v :: r, hw => by simp only [renL, wfL] at *; exact ⟨SV.wf_ren h v hw.1, wfL_ren h r hw.2⟩
end
theorem SObj.wf_ren {n N : Nat} {ρ : Nat → Nat} (h : ∀ k, k < n → ρ k < N) (o : SObj) (hw : o.wf n) : (o.ren ρ).wf N := by
  cases o <;> simp only [SObj.ren, SObj.wf] at *
  exact wfL_ren h _ hw
/-- Names of a call's blocks among the caller's. -/
def ext (ρ : Nat → Nat) (n0 n : Nat) : Nat → Nat := fun k => if k < n0 then ρ k else n + (k - n0)
theorem ext_lt {ρ : Nat → Nat} {n0 n k : Nat} (h : k < n0) : ext ρ n0 n k = ρ k := if_pos h
theorem ext_ge {ρ : Nat → Nat} {n0 n k : Nat} (h : n0 ≤ k) : ext ρ n0 n k = n + (k - n0) := if_neg (by omega)
def renH (ρ : Nat → Nat) (H : Heap) : Heap := H.map fun q => (ρ q.1, q.2.ren ρ)
theorem renH_get {ρ : Nat → Nat} (hi : ∀ a b, ρ a = ρ b → a = b) (H : Heap) (k : Nat) : hget (renH ρ H) (ρ k) = (hget H k).map (SObj.ren ρ) := by
  induction H with
  | nil => rfl
  | cons q H ih =>
    obtain ⟨b, o⟩ := q
    show hget ((ρ b, o.ren ρ) :: renH ρ H) (ρ k) = _
    rw [hget_cons, hget_cons, ih]
    by_cases h : k = b
    · subst h; rw [if_pos rfl, if_pos rfl]; rfl
    · rw [if_neg (fun h2 => h (hi _ _ h2)), if_neg h]
theorem renH_key {ρ : Nat → Nat} (H : Heap) {j : Nat} {o : SObj} (h : hget (renH ρ H) j = some o) : ∃ k, j = ρ k := by
  induction H with
  | nil => cases h
  | cons q H ih =>
    obtain ⟨b, o1⟩ := q
    have h' : hget ((ρ b, o1.ren ρ) :: renH ρ H) j = some o := h
    rw [hget_cons] at h'
    split at h'
    · exact ⟨b, by assumption⟩
    · exact ih h'
/-- What a walk comes to: a value and blocks under names of its own. -/
def finK (p m : Nat) (ψ : SV → Heap → Nat → Prop) : K1 := fun v H' _ => ∃ v' H'' n'', Sub p m [(0, v)] H' [(0, v')] H'' n'' ∧ ψ v' H'' n''

theorem gen_of_vc {X : Cx} {f : FuncId} {fn : Func} {c : Code} (hf : FnOK X.P f fn c X.sx X.hr) (hX : CxOK X) {n0 : Nat} {args : List SV} {H0 : Heap} {ψ : SV → Heap → Nat → Prop} (hN : args.length ≤ fn.ntmps) (hwa : wfL n0 args) (hwH : hwf n0 H0) (hm0 : X.m ≤ n0)
    (h : codeVC X n0 c (argS 0 args) H0 n0 (retK X.τ fn.results.toList (finK n0 X.m ψ)))
    (ρ : Nat → Nat) {H : Heap} {n m : Nat} {κ : K1} (hdom : ∀ k, k < n0 → ∃ o, hget H0 k = some o) (hi : ∀ a b, a < n0 → b < n0 → ρ a = ρ b → a = b)
    (hs : ∀ k o, hget H0 k = some o → hget H (ρ k) = some (o.ren ρ)) (hm : ∀ k o, hget H0 k = some o → X.m ≤ k → m ≤ ρ k)
    (hq : ∀ v H' n', ψ v H' n' → (∀ k o, hget H0 k = some o → o.live = true → X.m ≤ k → (hget H' k).isSome = true) ∧ (∀ k o, hget H' k = some o → o.live = true → k < X.m → ∃ o0, hget H0 k = some o0 ∧ o0.live = true))
    (hk : ∀ v H' n', ψ v H' n' → n0 ≤ n' → κ (v.ren (ext ρ n0 n)) (renH (ext ρ n0 n) H' ++ H) (n + (n' - n0))) : GenOK X.P f (renL ρ args) H n m κ := by
  refine ⟨hf.ent, fun B M w hH hwHH hwa' hown hM => ?_⟩
  have hρ : ∀ k, k < n0 → ρ k < n := fun k hk0 => by
    obtain ⟨o, ho⟩ := hdom k hk0
    exact (hwHH _ _ (hs k o ho)).1
  have hR : HR (fun k => B (ρ k)) H0 w := ⟨fun k o hl hk1 => by
    have := hH.at_ _ _ (hs k o hl) (by rw [SObj.live_ren]; exact hk1)
    rw [SObj.sat_ren] at this
    exact this, fun k j o1 o2 h1 h2 h3 h4 he => hi k j (hwH k o1 h1).1 (hwH j o2 h3).1 (hH.inj _ _ _ _ (hs k o1 h1) (by rw [SObj.live_ren]; exact h2) (hs j o2 h3) (by rw [SObj.live_ren]; exact h4) he)⟩
  rw [denL_ren]
  let M0 : Nat → Prop := fun i => (∃ k o, hget H0 k = some o ∧ o.live = true ∧ X.m ≤ k ∧ i = B (ρ k)) ∨ w.heap.size ≤ i
  have hM0 : ∀ i, M0 i → M i := fun i hi0 => by
    rcases hi0 with ⟨k, o, h1, h2, h3, rfl⟩ | h1
    · exact hown _ _ (hs k o h1) (by rw [SObj.live_ren]; exact h2) (hm k o h1 h3)
    · exact hM i h1
  have hown0 : Own M0 X.m (fun k => B (ρ k)) H0 := fun k o h1 h2 h3 => .inl ⟨k, o, h1, h2, h3, rfl⟩
  refine (run_of_vc hf hX hN hwa hwH (Nat.le_refl _) h (fun k => B (ρ k)) M0 w hR hown0 (fun _ h => .inr h)).mono fun e w' hh => ?_
  obtain ⟨v1, H1, n1, B1, rfl, ⟨v, H', n', hsub, hψ⟩, g1, g2, g3, g4, g5, g6, g7⟩ := hh
  -- the last renaming
  obtain ⟨σ, s1, s2, s3, s4, s5, s6, s7⟩ := hsub
  have sv := subS_spec s1 0 v rfl
  have e1 : v1 = v.ren σ := sv.1
  have vw : v.wf n' := s3.1
  let B2 : Nat → Nat := fun k => B1 (σ k)
  have hB2 : ∀ k, k < n0 → B2 k = B (ρ k) := fun k hk1 => by
    show B1 (σ k) = _
    rw [s6 k hk1, g6 k hk1]
  have hR2 : HR B2 H' w' := ⟨fun k o hl hk1 => by
    obtain ⟨a1, _, _⟩ := s2 k o hl
    have := g3.at_ _ _ a1 (by rw [SObj.live_ren]; exact hk1)
    rw [SObj.sat_ren] at this
    exact this, fun k j o o' a1 a2 a3 a4 he => by
    obtain ⟨b1, _, b3⟩ := s2 k o a1
    obtain ⟨c1, _, c3⟩ := s2 j o' a3
    exact s5 k b3 j c3 (g3.inj _ _ _ _ b1 (by rw [SObj.live_ren]; exact a2) c1 (by rw [SObj.live_ren]; exact a4) he)⟩
  have hO2 : Own M0 X.m B2 H' := fun k o hl hk1 hmk => by
    obtain ⟨a1, a2, _⟩ := s2 k o hl
    exact g4 _ _ a1 (by rw [SObj.live_ren]; exact hk1) (a2 hmk)
  obtain ⟨q1, q2⟩ := hq v H' n' hψ
  have hκ := hk v H' n' hψ s7
  -- names among the caller's
  let E := ext ρ n0 n
  let B3 : Nat → Nat := fun j => if j < n then B j else B2 (n0 + (j - n))
  have hE : ∀ k, k < n' → E k < n + (n' - n0) := fun k hk1 => by
    show ext ρ n0 n k < _
    by_cases hlt : k < n0
    · rw [ext_lt hlt]; have := hρ k hlt; omega
    · rw [ext_ge (by omega)]; omega
  have hEi : ∀ a b, E a = E b → a = b := fun a b he => by
    have he' : ext ρ n0 n a = ext ρ n0 n b := he
    by_cases ha : a < n0
    · have := hρ a ha
      by_cases hb : b < n0
      · rw [ext_lt ha, ext_lt hb] at he'; exact hi a b ha hb he'
      · rw [ext_lt ha, ext_ge (by omega)] at he'; omega
    · by_cases hb : b < n0
      · have := hρ b hb
        rw [ext_ge (by omega), ext_lt hb] at he'; omega
      · rw [ext_ge (by omega), ext_ge (by omega)] at he'; omega
  have hB3 : ∀ k, B3 (E k) = B2 k := fun k => by
    show (if ext ρ n0 n k < n then B (ext ρ n0 n k) else B2 (n0 + (ext ρ n0 n k - n))) = _
    by_cases hlt : k < n0
    · rw [ext_lt hlt, if_pos (hρ k hlt), hB2 k hlt]
    · rw [ext_ge (by omega), if_neg (by omega), show n0 + (n + (k - n0) - n) = k by omega]
  have hB3l : ∀ j, j < n → B3 j = B j := fun j hj => if_pos hj
  -- a look-up in the new heap
  have look : ∀ j o, hget (renH E H' ++ H) j = some o → (∃ k o', j = E k ∧ hget H' k = some o' ∧ o = o'.ren E) ∨ (hget H j = some o ∧ ∀ k, j = E k → hget H' k = none) := fun j o hl => by
    rw [hget_app] at hl
    cases hr : hget (renH E H') j with
    | some o1 =>
      rw [hr] at hl
      simp at hl
      subst hl
      obtain ⟨k, rfl⟩ := renH_key H' hr
      rw [renH_get hEi] at hr
      cases hk1 : hget H' k with
      | none => rw [hk1] at hr; cases hr
      | some o' => rw [hk1] at hr; simp at hr; exact .inl ⟨k, o', rfl, hk1, hr.symm⟩
    | none =>
      rw [hr] at hl
      simp at hl
      refine .inr ⟨hl, fun k hjk => ?_⟩
      subst hjk
      rw [renH_get hEi] at hr
      cases hk1 : hget H' k with
      | none => rfl
      | some o' => rw [hk1] at hr; cases hr
  -- blocks of the caller's that the call did not write
  have same : ∀ j o, hget H j = some o → o.live = true → (∀ k, j = E k → hget H' k = none) → ¬ M0 (B j) := fun j o hl hk1 hno hc => by
    rcases hc with ⟨k, o1, a1, a2, a3, a4⟩ | hc
    · have hj := hH.inj j (ρ k) _ _ hl hk1 (hs k o1 a1) (by rw [SObj.live_ren]; exact a2) a4
      have hkn := (hwH k o1 a1).1
      have hn := hno k (by rw [hj]; exact (ext_lt hkn).symm)
      have := q1 k o1 a1 a2 a3
      rw [hn] at this; cases this
    · have := hH.lt hl hk1
      omega
  have ren3 : ∀ (o : SObj) (id : Nat), o.wf n' → o.sat B2 w' id → (o.ren E).sat B3 w' id := fun o id hw1 hs1 => by
    rw [SObj.sat_ren]
    exact SObj.sat_congr (fun k _ => hB3 k) o hw1 hs1
  refine ⟨v.ren E, renH E H' ++ H, n + (n' - n0), B3, ?_, hκ, by omega, SV.wf_ren hE v vw, ?_, fun k hk1 => hB3l k hk1, ⟨fun j o hl hk1 => ?_, fun j1 j2 o1 o2 a1 a2 a3 a4 he => ?_⟩, ?_, ?_⟩
  · congr 1
    rw [SV.den_ren, e1, SV.den_ren]
    exact (SV.den_congr (n := n') (fun k _ => hB3 k) v vw).symm
  · intro j o hl
    rcases look j o hl with ⟨k, o', rfl, a1, rfl⟩ | ⟨a1, _⟩
    · have := s4 k o' a1
      exact ⟨hE k this.1, SObj.wf_ren hE o' this.2⟩
    · have := hwHH j o a1
      exact ⟨by omega, SObj.wf_mono (by omega) _ this.2⟩
  · rcases look j o hl with ⟨k, o', rfl, a1, rfl⟩ | ⟨a1, hno⟩
    · rw [SObj.live_ren] at hk1
      rw [hB3]
      exact ren3 o' _ (s4 k o' a1).2 (hR2.at_ k o' a1 hk1)
    · have hjn := (hwHH j o a1).1
      rw [hB3l j hjn]
      refine SObj.sat_congr (fun k hk2 => hB3l k hk2) o (hwHH j o a1).2 ?_
      exact SObj.sat_heap (g5.block (B j) (hH.lt a1 hk1) (same j o a1 hk1 hno)) (hH.at_ j o a1 hk1)
  · have cross : ∀ k o' j o, hget H' k = some o' → o'.live = true → hget H j = some o → o.live = true → (∀ k, j = E k → hget H' k = none) → B2 k ≠ B j := fun k o' j o b1 b2 b3 b4 hno hc => by
      by_cases hkm : k < X.m
      · obtain ⟨o0, c1, c2⟩ := q2 k o' b1 b2 hkm
        have hkn : k < n0 := by omega
        rw [hB2 k hkn] at hc
        have hj := hH.inj _ _ _ _ (hs k o0 c1) (by rw [SObj.live_ren]; exact c2) b3 b4 hc
        have := hno k (by rw [← hj]; exact (ext_lt hkn).symm)
        rw [this] at b1; cases b1
      · have := hO2 k o' b1 b2 (by omega)
        rw [hc] at this
        exact same j o b3 b4 hno this
    rcases look j1 o1 a1 with ⟨k1, p1, rfl, b1, rfl⟩ | ⟨b1, n1'⟩ <;> rcases look j2 o2 a3 with ⟨k2, p2, rfl, c1, rfl⟩ | ⟨c1, n2'⟩
    · rw [SObj.live_ren] at a2 a4
      rw [hB3, hB3] at he
      rw [hR2.inj k1 k2 _ _ b1 a2 c1 a4 he]
    · rw [SObj.live_ren] at a2
      rw [hB3, hB3l j2 (hwHH j2 o2 c1).1] at he
      exact absurd he (cross k1 p1 j2 o2 b1 a2 c1 a4 n2')
    · rw [SObj.live_ren] at a4
      rw [hB3, hB3l j1 (hwHH j1 o1 b1).1] at he
      exact absurd he.symm (cross k2 p2 j1 o1 c1 a4 b1 a2 n1')
    · rw [hB3l j1 (hwHH j1 o1 b1).1, hB3l j2 (hwHH j2 o2 c1).1] at he
      exact hH.inj j1 j2 _ _ b1 a2 c1 a4 he
  · intro j o hl hk1 hmj
    rcases look j o hl with ⟨k, o', rfl, a1, rfl⟩ | ⟨a1, _⟩
    · rw [SObj.live_ren] at hk1
      rw [hB3]
      by_cases hkm : k < X.m
      · obtain ⟨o0, c1, c2⟩ := q2 k o' a1 hk1 hkm
        have hkn : k < n0 := by omega
        rw [hB2 k hkn]
        have hmj' : m ≤ ext ρ n0 n k := hmj
        rw [ext_lt hkn] at hmj'
        exact hown _ _ (hs k o0 c1) (by rw [SObj.live_ren]; exact c2) hmj'
      · exact hM0 _ (hO2 k o' a1 hk1 (by omega))
    · rw [hB3l j (hwHH j o a1).1]
      exact hown j o a1 hk1 hmj
  · exact ⟨g5.os, g5.tape, g5.output, g5.size, fun i hi1 hi2 => g5.block i hi1 fun hc => hi2 (hM0 i hc), g5.drawn⟩
end Go.Proofs.YtmccafjblhbmkaaGreat
set_option maxRecDepth 100000
set_option linter.unusedSimpArgs false
set_option linter.unusedVariables false
namespace Go.Proofs.YtmccafjblhbmkaaGreat
open Go Go.RowKit
abbrev Ro (k : Nat) := {x : List Int // x.length = k}
instance (k : Nat) : Inhabited (Ro k) := ⟨⟨List.replicate k 0, by simp⟩⟩
def encR {k : Nat} (x : Ro k) : List Value := x.1.map (Value.int .i64)
theorem encR_len {k : Nat} (x : Ro k) : (encR x).length = k := by unfold encR; rw [List.length_map]; exact x.2
theorem flat_lenW {w : Nat} : ∀ {Q : List (List Int)}, (∀ x ∈ Q, x.length = w) → Q.flatten.length = Q.length * w
  | [], _ => by simp
  | x :: Q, h => by
    rw [List.flatten_cons, List.length_append, flat_lenW fun y hy => h y (List.mem_cons_of_mem _ hy), h x (List.mem_cons_self ..), List.length_cons, Nat.add_mul]; omega
theorem flat_at {w : Nat} : ∀ {Q : List (List Int)}, (∀ x ∈ Q, x.length = w) → ∀ {i j : Nat}, i < Q.length → j < w → Q.flatten.getD (i * w + j) 0 = (Q.getD i []).getD j 0
  | [], _, i, _, hi, _ => by simp at hi
  | x :: Q, h, i, j, hi, hj => by
    have hx := h x (List.mem_cons_self ..)
    rw [List.flatten_cons]
    cases i with
    | zero =>
      rw [Nat.zero_mul, Nat.zero_add, getD_app _ _ _ (by omega)]; rfl
    | succ i =>
      have e : (i + 1) * w + j = x.length + (i * w + j) := by rw [hx, Nat.add_mul]; omega
      rw [e, List.getD_eq_getElem?_getD, List.getElem?_append_right (by omega), Nat.add_sub_cancel_left, ← List.getD_eq_getElem?_getD, flat_at (fun y hy => h y (List.mem_cons_of_mem _ hy)) (by simpa using hi) hj]
      rfl
def roL {k : Nat} (d : Array (Ro k)) : List (List Int) := d.toList.map (·.1)
theorem roL_len {k : Nat} (d : Array (Ro k)) : ∀ x ∈ roL d, x.length = k := fun x hx => by
  obtain ⟨y, _, rfl⟩ := List.mem_map.1 hx
  exact y.2
theorem flatK_ro {k : Nat} (hk : 0 < k) (d : Array (Ro k)) : Sort.flatK encR k d = ints (roL d).flatten := by
  have hl : (roL d).flatten.length = d.size * k := by rw [flat_lenW (roL_len d)]; simp [roL]
  have hsz : (ints (roL d).flatten).size = d.size * k := by unfold ints; rw [List.size_toArray, List.length_map, hl]
  refine Sort.ext_get! (by rw [hsz, Sort.size_flatK]) fun t ht => ?_
  have ht' : t < d.size * k := by simpa using ht
  rw [Sort.get_flatK _ _ _ _ ht']
  have hq : t / k < d.size := Nat.div_lt_of_lt_mul (by rw [Nat.mul_comm]; exact ht')
  have hr : t % k < k := Nat.mod_lt _ hk
  have e := flat_at (roL_len d) (i := t / k) (j := t % k) (by simpa [roL] using hq) hr
  have et : t / k * k + t % k = t := by rw [Nat.mul_comm]; exact Nat.div_add_mod t k
  rw [et] at e
  have e2 : (roL d).getD (t / k) [] = (d[t / k]!).1 := by
    rw [List.getD_eq_getElem?_getD, List.getElem?_eq_getElem (by simpa [roL] using hq)]
    simp [roL, hq]
  rw [e2] at e
  have hx := (d[t / k]!).2
  rw [getElem!_pos (encR d[t / k]!) (t % k) (by rw [encR_len]; exact hr), getElem!_pos (ints (roL d).flatten) t (by rw [hsz]; exact ht')]
  simp only [encR, ints, List.getElem_map, List.getElem_toArray]
  congr 1
  rw [List.getD_eq_getElem?_getD, List.getElem?_eq_getElem (by omega), List.getD_eq_getElem?_getD, List.getElem?_eq_getElem (by omega)] at e
  simpa using e.symm
theorem grow_of_bel {w w' : World} (h : Bel w.heap.size w w') : ∃ q os', w' = Sort.grow (w.drewN q) os' := by
  refine ⟨w'.drawn - w.drawn, w'.heap.extract w.heap.size w'.heap.size, ?_⟩
  have h1 := h.os; have h2 := h.tape; have h3 := h.output; have h4 := h.size; have h5 := h.block; have h6 := h.drawn
  have hh : w'.heap = w.heap ++ w'.heap.extract w.heap.size w'.heap.size := by
    apply Array.ext_getElem?
    intro i
    rw [Array.getElem?_append]
    split
    · exact h5 i (by assumption)
    · rw [Array.getElem?_extract]
      split
      · rw [show w.heap.size + (i - w.heap.size) = i by omega]
      · rw [Array.getElem?_eq_none (by omega)]
  cases w' with
  | mk hp tp dr os out =>
    cases w with
    | mk hp0 tp0 dr0 os0 out0 =>
      simp only at h1 h2 h3 h4 h5 h6 hh
      subst h1 h2 h3
      simp only [Sort.grow, World.drewN, World.mk.injEq]
      refine ⟨hh, trivial, by omega, trivial, trivial⟩
theorem swo_ro (k : Nat) : Sort.SWO (ltOf fun x y : Ro k => lexC x.1 y.1) where
  irrefl x := by simp [ltOf, lexC_refl]
  trans x y z h1 h2 := by
    simp only [ltOf, decide_eq_true_eq] at *
    exact lexC_trans (by rw [x.2, y.2]) (by rw [y.2, z.2]) h1 h2
  ntrans x y z h1 h2 := by
    simp only [ltOf, decide_eq_false_iff_not] at *
    have := lexL_trans (x := z.1) (y := y.1) (z := x.1) (by rw [z.2, y.2]) (by rw [y.2, x.2]) (by simp [lexL]; omega) (by simp [lexL]; omega)
    simp only [lexL, Bool.not_eq_true', decide_eq_false_iff_not] at this
    exact this
theorem cmp_lays {g k : Nat} {blk off size : Nat} {w : World} (hc : ∀ x y : List Int, x.length = k → y.length = k → PureH Tryz.prog g [.arr x, .arr y] [] (.int (lexC x y))) : CmpLays Tryz.prog g #[] encR k (fun x y : Ro k => lexC x.1 y.1) blk off size w := by
  intro m os dk _ x y
  have := (hc x.1 y.1 x.2 y.2).call (fun _ => 0) (sortWorldK encR k w blk off m dk os) (HR.nil _ _)
  refine this.mono fun e w' hh => ⟨hh.1, grow_of_bel hh.2⟩
theorem ints_get (L : List Int) (t : Nat) : (ints L)[t]? = L[t]?.map (Value.int .i64) := by simp [ints]
theorem ints_get! (L : List Int) (t : Nat) (h : t < L.length) : (ints L)[t]! = .int .i64 L[t] := by simp [ints, h]
/-- A row of cells inside a block of numbers. -/
theorem holds_mid {w : World} {blk e off : Nat} {A F Z : List Int} (hb : w.heap[blk]? = some (.cells (ints (A ++ F ++ Z)) e (0, 0))) (ho : A.length = off) : Sort.Holds id w blk off (ints F) := fun j hj => by
  have hj' : j < F.length := by simpa [ints] using hj
  refine ⟨?_, ?_⟩
  · simp only [World.cell?, hb]
    subst ho
    have h1 : (A ++ F ++ Z)[A.length + j]? = F[j]? := by
      rw [List.append_assoc, List.getElem?_append_right (by omega), Nat.add_sub_cancel_left, List.getElem?_append_left hj']
    show (ints (A ++ F ++ Z))[A.length + j]? = some (ints F)[j]!
    rw [ints_get, h1, ints_get! F j hj', List.getElem?_eq_getElem hj']; rfl
  · simp [World.frozen?, hb]
theorem put_mid {A F F' Z : List Int} {off : Nat} (ho : A.length = off) (hF : F'.length = F.length) : Sort.putCells id off (ints F') (ints (A ++ F ++ Z)) = ints (A ++ F' ++ Z) := by
  subst ho
  apply Array.ext_getElem?
  intro t
  simp only [Sort.putCells, Array.getElem?_mapIdx]
  have sz : (ints F').size = F'.length := by simp [ints]
  rw [ints_get, ints_get]
  by_cases h1 : t < A.length
  · rw [List.append_assoc, List.getElem?_append_left h1, List.append_assoc, List.getElem?_append_left h1]
    cases A[t]? with
    | none => rfl
    | some v => simp only [Option.map_some]; rw [if_neg (fun h => by rw [sz] at h; omega)]
  · rw [List.append_assoc, List.getElem?_append_right (show A.length ≤ t by omega), List.append_assoc, List.getElem?_append_right (show A.length ≤ t by omega)]
    by_cases h2 : t - A.length < F'.length
    · rw [List.getElem?_append_left (show t - A.length < F.length by omega), List.getElem?_append_left h2, List.getElem?_eq_getElem (by omega), List.getElem?_eq_getElem h2]
      simp only [Option.map_some]
      rw [if_pos (⟨by omega, by rw [sz]; omega⟩ : A.length ≤ t ∧ t < A.length + (ints F').size), ints_get! F' _ h2]; rfl
    · rw [List.getElem?_append_right (show F.length ≤ t - A.length by omega), List.getElem?_append_right (show F'.length ≤ t - A.length by omega), hF]
      cases Z[t - A.length - F.length]? with
      | none => rfl
      | some v => simp only [Option.map_some]; rw [if_neg (fun h => by rw [sz] at h; omega)]
theorem ro_sorted {k : Nat} {d d' : Array (Ro k)} (hp : Sort.PermIn 0 d.size d d') (hs : Sort.SortedIn (ltOf fun x y : Ro k => lexC x.1 y.1) 0 d.size d') : roL d' = srtT (roL d) := by
  have hsz := hp.1
  refine lexL_one (roL_len d') ?_ ?_ (srtT_pw (roL_len d))
  · have h3 := hp.2.2
    have e1 : d'.extract 0 d.size = d' := by rw [← hsz]; simp
    have e2 : d.extract 0 d.size = d := by simp
    rw [e1, e2] at h3
    exact (h3.map _).trans (srtT_perm _).symm
  · unfold roL
    rw [List.pairwise_map, List.pairwise_iff_getElem]
    intro i j hi hj hij
    have := hs i j (Nat.zero_le _) hij (by simpa [hsz] using hj)
    simp only [ltOf, decide_eq_false_iff_not] at this
    simp only [lexL, Bool.not_eq_true', decide_eq_false_iff_not]
    have gi : d'[i]! = d'.toList[i] := by rw [getElem!_pos _ _ (by simpa using hi)]; simp
    have gj : d'[j]! = d'.toList[j] := by rw [getElem!_pos _ _ (by simpa using hj)]; simp
    rw [← gi, ← gj]
    exact this
def mkRo {k : Nat} : (Q : List (List Int)) → (∀ x ∈ Q, x.length = k) → List (Ro k)
  | [], _ => []
  | x :: Q, h => ⟨x, h x (List.mem_cons_self ..)⟩ :: mkRo Q fun y hy => h y (List.mem_cons_of_mem _ hy)
theorem mkRo_map {k : Nat} : ∀ (Q : List (List Int)) (h : ∀ x ∈ Q, x.length = k), (mkRo Q h).map (·.1) = Q
  | [], _ => rfl
  | x :: Q, h => by simp [mkRo, mkRo_map Q]
/-- slices.SortFunc over lists of k numbers each, compared in the order of lists. -/
theorem sortF_ok {ρ : Go.Shelf.Ren} (L : SlLaysF0.n6 Tryz.prog ρ) (k : Nat) (hk : 0 < k) (aE : ∀ w, (isAgg (ρ.t 24)).run Tryz.prog w = .ok true w) (zE : ∀ w, (Go.sizeOf (ρ.t 24)).run Tryz.prog w = .ok k w) (g : Nat) (eg : Entd Tryz.prog g) (es : Entd Tryz.prog (ρ.f 6))
    (hc : ∀ x y : List Int, x.length = k → y.length = k → PureH Tryz.prog g [.arr x, .arr y] [] (.int (lexC x y))) (A Z : List Int) (Q : List (List Int)) (hQ : ∀ x ∈ Q, x.length = k) (e cap off n : Nat) (hA : A.length = off) (hn : Q.length = n) (hb : n < 4611686018427387904) :
    UpdP Tryz.prog (ρ.f 6) [.slice 0 off n cap, .fn g []] 0 [] (.ints (A ++ Q.flatten ++ Z) e) (.ints (A ++ (srtT Q).flatten ++ Z) e) (.tup []) := by
  refine ⟨es, rfl, fun _ => trivial, fun B w hH => ?_⟩
  have hblk : w.heap[B 0]? = some (.cells (ints (A ++ Q.flatten ++ Z)) e (0, 0)) := hH.at_ 0 _ rfl rfl
  have hlt : B 0 < w.heap.size := by
    rcases Nat.lt_or_ge (B 0) w.heap.size with h | h
    · exact h
    · rw [Array.getElem?_eq_none h] at hblk; cases hblk
  let d : Array (Ro k) := (mkRo Q hQ).toArray
  have dQ : roL d = Q := by show (mkRo Q hQ).map (·.1) = Q; exact mkRo_map Q hQ
  have dn : d.size = n := by
    have := congrArg List.length dQ
    simp [roL] at this
    omega
  have hH2 : Sort.HoldsK encR k w (B 0) off d := by
    unfold Sort.HoldsK
    rw [flatK_ro hk, dQ]
    exact holds_mid hblk hA
  have hcon := AnyQ.slices_SortFunc L k aE zE encR encR_len (fun x v hv => by
    obtain ⟨z, _, rfl⟩ := List.mem_map.1 hv
    rfl) (fun x y : Ro k => lexC x.1 y.1) (swo_ro k) g #[] (B 0) off cap d w eg (cmp_lays hc) hH2 hlt (by omega)
  rw [dn] at hcon
  refine hcon.mono fun r w' hh => ?_
  obtain ⟨rfl, d', m, os, hp, hs, rfl⟩ := hh
  have hs' := ro_sorted (d := d) (d' := d') (by rw [dn]; exact hp) (by rw [dn]; exact hs)
  rw [dQ] at hs'
  have hl : (srtT Q).flatten.length = Q.flatten.length := by
    rw [flat_lenW hQ, flat_lenW fun x hx => hQ x ((srtT_perm Q).mem_iff.1 hx), (srtT_perm Q).length_eq]
  have hblk' : (sortWorldK encR k w (B 0) off m d' os).heap[B 0]? = some (.cells (ints (A ++ (srtT Q).flatten ++ Z)) e (0, 0)) := by
    unfold sortWorldK Sort.grow Sort.putRowK Sort.putRow Sort.mapBlock Sort.ahead
    simp only []
    rw [Array.getElem?_append_left (by simpa using hlt), Array.getElem?_modify, if_pos rfl, hblk]
    simp only [Option.map_some, Sort.onCells]
    rw [flatK_ro hk, hs', put_mid hA hl]
  refine ⟨rfl, ⟨rfl, rfl, rfl, ?_, fun i hi hM => ?_, ?_⟩, hblk'⟩
  · exact size_sortWorldK_c encR k w (B 0) off m d' os
  · have hne : B 0 ≠ i := fun h => hM (.inl h.symm)
    unfold sortWorldK Sort.grow Sort.putRowK Sort.putRow Sort.mapBlock Sort.ahead
    simp only []
    rw [Array.getElem?_append_left (by simpa using hi), Array.getElem?_modify, if_neg hne]
  · exact Nat.le_add_right _ _
/-! At tubes. -/
theorem sortT_ok (A Z : List Int) (Q : List (List Int)) (hQ : ∀ x ∈ Q, x.length = 4) (e cap off n : Nat) (hA : A.length = off) (hn : Q.length = n) (hb : n < 4611686018427387904) :
    UpdP Tryz.prog 119 [.slice 0 off n cap, .fn 120 []] 0 [] (.ints (A ++ Q.flatten ++ Z) e) (.ints (A ++ (srtT Q).flatten ++ Z) e) (.tup []) :=
  sortF_ok laySortT 4 (by omega) Tryz.isAgg24 Tryz.sizeOf24 120 fn_120.ent fn_119.ent cmpT_ok A Z Q hQ e cap off n hA hn hb
def sortT_F : List SV → Heap → Nat → Nat → K1 → Prop
  | [.slice b 0 n _, .fn g []], H, N, m, κ => match hget H b with
    | some (.ints L e) => g = 120 ∧ L.length = 24 ∧ n = 6 ∧ m ≤ b ∧ κ (.tup []) ((b, .ints (frm L) e) :: H) N
    | _ => False
  | _, _, _, _, _ => False
--@tbl sortT = slices.SortFunc[[][4]int,[4]int]
theorem sortT_T : ∀ args H n m κ, sortT_F args H n m κ → GenOK Tryz.prog 119 args H n m κ := by
  intro args H N m κ h
  unfold sortT_F at h
  split at h
  · rename_i b n cap g
    split at h
    · rename_i L e hb
      obtain ⟨rfl, hL, rfl, hm, h⟩ := h
      have hu := sortT_ok [] [] (tubs L) (tubs_len hL) e cap 0 6 rfl (by simp [tubs]) (by omega)
      rw [List.nil_append, List.append_nil, List.nil_append, List.append_nil, tubs_flat hL] at hu
      have := gen_of_upd (H := H) (n := N) (m := m) (κ := κ) hu (fun _ => b) (fun j o1 hj => by
        rw [hget_cons] at hj
        split at hj
        · cases hj; exact hb
        · cases hj) (fun j1 o1 j2 o2 g1 g2 he => by
        rw [hget_cons] at g1 g2
        split at g1
        · split at g2
          · omega
          · cases g2
        · cases g1) (by simpa using hm) rfl (fun _ _ => trivial) (by simpa [SV.ren, renL, frm] using h)
      simpa [renL, SV.ren] using this
    · exact h.elim
  · exact h.elim
theorem formOf_ok (R : List Int) (hR : R.length = 24) : PureH Tryz.prog 63 [.arr R] [] (.arr (frm R)) := by
  have tkR : R.take 24 = R := List.take_of_length_le (by omega)
  have hl := frm_len hR
  have tkf : (frm R).take 24 = frm R := List.take_of_length_le (by omega)
  refine pure_of_vc (X := ⟨Tryz.prog, tys, [], [(119, sortT_F)], true, true, 0, [], []⟩) fn_63 ⟨tys_ok, .nil, (.cons sortT_T .nil), mixed⟩ (n0 := 0) (Nat.le_of_ble_eq_true rfl) (by simp [wfL, SV.wf]) (wfH_spec (by simp [wfH, SObj.wf])) (Nat.le_refl _) (fun _ => by simp [SV.wf, wfL]) ?_
  simp -implicitDefEqProofs only [Tryz.f63, Option.getD_some, argS, sortT_F, hR, tkR, hl, tkf, ZB, Int.reduceToNat, Nat.reduceLT, Nat.reduceLeDiff, Int.reduceLE, Int.reduceLT, Nat.reduceEqDiff, Nat.reduceSub, SB, SV.known, packR, ne_eq, reduceCtorEq, Nat.reduceEqDiff, ↓reduceIte, if_true, if_false, eq_self, Nat.reduceAdd, Nat.reduceMul, Nat.reduceSub, forall_const, oneCellS, litOne, flat1, Kd.isSca, flat, TYB]
--@tbl formOf = impl.formOf
def formOf_F : List SV → Heap → Option (Prop × SV)
  | [.arr R], _ => some (R.length = 24, .arr (frm R))
  | _, _ => none
theorem formOf_T : ∀ args H p v, formOf_F args H = some (p, v) → p → PureH Tryz.prog 63 args H v := by
  intro args H p v h hp
  unfold formOf_F at h
  split at h
  · cases h; exact (formOf_ok _ hp).any _
  · cases h
/-! At racks. -/
end Go.Proofs.YtmccafjblhbmkaaGreat
set_option maxRecDepth 100000
set_option linter.unusedSimpArgs false
set_option linter.unusedVariables false
namespace Go.Proofs.YtmccafjblhbmkaaGreat
open Go Go.RowKit
def plF (i : Int) : Bool := decide (0 ≤ i ∧ i ≤ 5)
theorem isPlace_ok (i : Int) : PureH Tryz.prog 131 [.int i] [] (.bool (plF i)) := by
  refine pure_of_vc (X := ⟨Tryz.prog, tys, [(69, within_F)], [], true, true, 0, [], []⟩) fn_131 ⟨tys_ok, (.cons within_T .nil), .nil, mixed⟩ (n0 := 0) (Nat.le_of_ble_eq_true rfl) (by simp [wfL, SV.wf]) (wfH_spec (by simp [wfH, SObj.wf])) (Nat.le_refl _) (fun _ => by simp [SV.wf, wfL]) ?_
  simp -implicitDefEqProofs only [Tryz.f131, Option.getD_some, argS, within_F, SB, SV.known, packR, ne_eq, reduceCtorEq, Nat.reduceEqDiff, ↓reduceIte, if_true, if_false, eq_self, Nat.reduceAdd, Nat.reduceMul, Nat.reduceSub, forall_const, oneCellS, litOne, flat1, Kd.isSca, flat, TYB]
  trivial
def isPlace_F : List SV → Heap → Option (Prop × SV)
  | [.int i], _ => some (True, .bool (plF i))
  | _, _ => none
theorem isPlace_T : ∀ args H p v, isPlace_F args H = some (p, v) → p → PureH Tryz.prog 131 args H v := by
  intro args H p v h hp
  unfold isPlace_F at h
  split at h
  · cases h; exact (isPlace_ok _).any _
  · cases h
theorem l2Place_ok (i : Int) : PureH Tryz.prog 109 [.int i] [] (.bool (plF i)) := by
  refine pure_of_vc (X := ⟨Tryz.prog, tys, [(72, l1In_F)], [], true, true, 0, [], []⟩) fn_109 ⟨tys_ok, (.cons l1In_T .nil), .nil, mixed⟩ (n0 := 0) (Nat.le_of_ble_eq_true rfl) (by simp [wfL, SV.wf]) (wfH_spec (by simp [wfH, SObj.wf])) (Nat.le_refl _) (fun _ => by simp [SV.wf, wfL]) ?_
  simp -implicitDefEqProofs only [Tryz.f109, Option.getD_some, argS, l1In_F, SB, SV.known, packR, ne_eq, reduceCtorEq, Nat.reduceEqDiff, ↓reduceIte, if_true, if_false, eq_self, Nat.reduceAdd, Nat.reduceMul, Nat.reduceSub, forall_const, oneCellS, litOne, flat1, Kd.isSca, flat, TYB]
  trivial
def l2Place_F : List SV → Heap → Option (Prop × SV)
  | [.int i], _ => some (True, .bool (plF i))
  | _, _ => none
theorem l2Place_T : ∀ args H p v, l2Place_F args H = some (p, v) → p → PureH Tryz.prog 109 args H v := by
  intro args H p v h hp
  unfold l2Place_F at h
  split at h
  · cases h; exact (l2Place_ok _).any _
  · cases h
end Go.Proofs.YtmccafjblhbmkaaGreat
set_option maxRecDepth 100000
set_option linter.unusedSimpArgs false
set_option linter.unusedVariables false
namespace Go.Proofs.YtmccafjblhbmkaaGreat
open Go Go.RowKit
theorem PL_bd (R : List Int) (m : Nat) (hm : m ≤ 36) : ∀ x ∈ PL R m, 0 ≤ x ∧ x ≤ 5 := by
  intro x hx
  unfold PL at hx
  obtain ⟨k, hk, hx⟩ := List.mem_flatMap.1 hx
  have := List.mem_range.1 hk
  unfold prK at hx
  split at hx
  · simp at hx; omega
  · simp at hx
theorem PL_even (R : List Int) : ∀ m, ∃ n, (PL R m).length = n * 2 ∧ n ≤ m
  | 0 => ⟨0, rfl, by omega⟩
  | m + 1 => by
    obtain ⟨n, h1, h2⟩ := PL_even R m
    rw [PL_succ, List.length_append, h1]
    unfold prK
    split
    · exact ⟨n + 1, by simp; omega, by omega⟩
    · exact ⟨n, by simp, by omega⟩
def pours_F : List SV → Heap → Nat → Nat → K1 → Prop
  | [.arr R], H, n, _, κ => R.length = 24 ∧ freshK .one (PL R 36) ((PL R 36).length / 2) 2 65 true H n κ
  | _, _, _, _, _ => False
theorem pours_T : ∀ args H n m κ, pours_F args H n m κ → GenOK Tryz.prog 102 args H n m κ := by
  intro args H n m κ h
  unfold pours_F at h
  split at h
  · exact gen_of_fresh (pours_ok _ h.1) (fun k o hk => by cases hk) h.2
  · exact h.elim
def l2Pours_F : List SV → Heap → Nat → Nat → K1 → Prop
  | [.arr R], H, n, _, κ => (R.length = 24 ∧ rackB R = true) ∧ freshK .one (PL R 36) ((PL R 36).length / 2) 2 65 false H n κ
  | _, _, _, _, _ => False
theorem l2Pours_T : ∀ args H n m κ, l2Pours_F args H n m κ → GenOK Tryz.prog 97 args H n m κ := by
  intro args H n m κ h
  unfold l2Pours_F at h
  split at h
  · exact gen_of_fresh (l2Pours_ok _ h.1.1 h.1.2) (fun k o hk => by cases hk) h.2
  · exact h.elim
theorem take2_drop (L : List Int) (o : Nat) (h : o + 2 ≤ L.length) : (L.drop o).take 2 = [L.getD o 0, L.getD (o + 1) 0] := by
  rw [List.drop_eq_getElem_cons (show o < L.length by omega), List.drop_eq_getElem_cons (show o + 1 < L.length by omega)]
  simp only [List.getD, List.getElem?_eq_getElem (show o < L.length by omega), List.getElem?_eq_getElem (show o + 1 < L.length by omega), Option.getD_some, List.take_succ_cons, List.take_zero]
--@tbl MostPoured = impl.MostPoured
--@tbl sMostPoured = spec.MostPoured
end Go.Proofs.YtmccafjblhbmkaaGreat
set_option maxRecDepth 100000
set_option linter.unusedSimpArgs false
set_option linter.unusedVariables false
namespace Go.Proofs.YtmccafjblhbmkaaGreat
open Go Go.RowKit
def chk (L : List Int) (off len : Nat) : List (List Int) := (List.range len).map fun i => (L.drop (off + i * 2)).take 2
theorem chk_len (L : List Int) (off len : Nat) : (chk L off len).length = len := by simp [chk]
theorem chk_getD (L : List Int) (off len k : Nat) (h : k < len) : (chk L off len).getD k [] = (L.drop (off + k * 2)).take 2 := by simp [chk, List.getD, h]
theorem chk_succ (L : List Int) (off k : Nat) : chk L off (k + 1) = chk L off k ++ [(L.drop (off + k * 2)).take 2] := by
  unfold chk
  rw [List.range_succ, List.map_append]; rfl
/-- What is kept. -/
def kept (np : List Int → Bool) (L : List Int) (k : Nat) : List Int := ((chk L 0 k).filter np).flatten
theorem kept_zero (np : List Int → Bool) (L : List Int) : kept np L 0 = [] := rfl
theorem kept_succ (np : List Int → Bool) (L : List Int) (k : Nat) : kept np L (k + 1) = kept np L k ++ if np ((L.drop (k * 2)).take 2) = true then (L.drop (k * 2)).take 2 else [] := by
  unfold kept
  rw [chk_succ, List.filter_append, List.flatten_append, Nat.zero_add]
  congr 1
  simp only [List.filter_cons, List.filter_nil]
  split <;> simp
theorem kept_even (np : List Int → Bool) (L : List Int) : ∀ k, k * 2 ≤ L.length → ∃ i, (kept np L k).length = i * 2 ∧ i ≤ k
  | 0, _ => ⟨0, rfl, by omega⟩
  | k + 1, h => by
    obtain ⟨i, h1, h2⟩ := kept_even np L k (by omega)
    rw [kept_succ, List.length_append, h1]
    split
    · exact ⟨i + 1, by rw [List.length_take, List.length_drop]; omega, by omega⟩
    · exact ⟨i, by simp, by omega⟩
theorem kept_all {np : List Int → Bool} {L : List Int} : ∀ k, k * 2 ≤ L.length → (∀ i, i < k → np ((L.drop (i * 2)).take 2) = true) → kept np L k = L.take (k * 2)
  | 0, _, _ => by simp [kept_zero]
  | k + 1, h, hn => by
    rw [kept_succ, if_pos (hn k (by omega)), kept_all k (by omega) fun i hi => hn i (by omega), show (k + 1) * 2 = k * 2 + 2 by omega, List.take_add]
theorem kept_app (np : List Int → Bool) (L M : List Int) : ∀ k, k * 2 ≤ L.length → kept np (L ++ M) k = kept np L k
  | 0, _ => rfl
  | k + 1, h => by
    have e : ((L ++ M).drop (k * 2)).take 2 = (L.drop (k * 2)).take 2 := by
      rw [List.drop_append_of_le_length (by omega), List.take_append_of_le_length (by rw [List.length_drop]; omega)]
    rw [kept_succ, kept_succ, kept_app np L M k (by omega), e]

theorem indexFuncP_ok (g : Nat) (caps : List SV) (H Hc : Heap) (pr : List Int → Bool) (n0 b : Nat) (L : List Int) (e len cap : Nat) (hb : hget H b = some (.ints L e)) (hl : len * 2 ≤ L.length) (hm : len ≤ 9223372036854775806)
    (Q : List Int → Prop) (hQ : ∀ i, i < len → Q ((L.drop (i * 2)).take 2)) (hc : ∀ x : List Int, Q x → PureH Tryz.prog g (.arr x :: caps) Hc (.bool (pr x))) (hE : Ext Hc H) (hw : wfL n0 caps) (hwH : hwf n0 H) :
    PureH Tryz.prog 146 [.slice b 0 len cap, .fn g caps] H (.int (idxG pr (chk L 0 len))) := by
  have hE2 := chk_len L 0 len
  have h00 : b < n0 := (hwH b _ hb).1
  refine pure_of_vc (X := ⟨Tryz.prog, tys, [(g, fun args H' => match args with | .arr x :: r => some (r = caps ∧ Ext Hc H' ∧ Q x, .bool (pr x)) | _ => none)], [], true, true, n0, [], []⟩) fn_146
    ⟨tys_ok, .cons (fun args H' p v h hp => ?_) .nil, .nil, mixed⟩ (n0 := n0) (Nat.le_of_ble_eq_true rfl) ⟨by simpa [SV.wf] using h00, by simpa [SV.wf] using hw, trivial⟩ hwH (Nat.le_refl _) (fun _ => trivial) ?_
  · split at h
    · cases h
      obtain ⟨rfl, hx1, hx⟩ := hp
      exact (hc _ hx).weaken hx1 (fun _ => trivial)
    · cases h
  simp -implicitDefEqProofs only [Tryz.f146, Option.getD_some, argS, hb, SB, SV.known, packR, ne_eq, reduceCtorEq, Nat.reduceEqDiff, ↓reduceIte, if_true, if_false, eq_self, Nat.reduceAdd, Nat.reduceMul, Nat.reduceSub, forall_const, oneCellS, litOne, flat1, Kd.isSca, flat, TYB]
  refine loop_intro (fun i : Nat => [(0, .slice b 0 len cap), (1, .fn g caps), (7, .int len), (8, .int i)]) (fun i => H) n0 (fun i => i ≤ len ∧ ∀ k, k < i → pr ((chk L 0 len).getD k []) = false) (fun i => len - i) ?_ ?_
  · refine ⟨0, ⟨by omega, by simp⟩, Sub.same ?_ ?_ hwH (Nat.le_refl _)⟩
    · simp [subS, subH, wfS, wfH, SV.ren, renL, SObj.ren, SV.wf, SObj.wf, wfL, sget_cons, hget_cons, SV.known, renL_id]
    · simp [subS, subH, wfS, wfH, SV.ren, renL, SObj.ren, SV.wf, SObj.wf, wfL, sget_cons, hget_cons, hw, h00]
  · intro i hi
    obtain ⟨hi1, hi2⟩ := hi
    simp -implicitDefEqProofs only [lk_normal, hb, SB, SV.known, packR, ne_eq, reduceCtorEq, Nat.reduceEqDiff, ↓reduceIte, if_true, if_false, eq_self, Nat.reduceAdd, Nat.reduceMul, Nat.reduceSub, forall_const, oneCellS, litOne, flat1, Kd.isSca, flat, TYB]
    refine ⟨fun h => ?_, fun h => ?_⟩
    · have hlt : i < len := by omega
      have e1 : 0 + (i : Int).toNat * 2 = i * 2 := by simp
      have e2 : (L.drop (i * 2)).take 2 = (chk L 0 len).getD i [] := by rw [chk_getD L 0 len i hlt, Nat.zero_add]
      have e3 : Q ((chk L 0 len).getD i []) := by rw [← e2]; exact hQ i hlt
      simp only [Int.toNat_natCast, Nat.zero_add, e2]
      refine ⟨by omega, by omega, by omega, ⟨hE, e3⟩, ?_⟩
      cases hp : pr ((chk L 0 len).getD i []) with
      | true =>
        simp -implicitDefEqProofs only [SB, SV.known, packR, ne_eq, reduceCtorEq, Nat.reduceEqDiff, ↓reduceIte, if_true, if_false, eq_self, Nat.reduceAdd, Nat.reduceMul, Nat.reduceSub, forall_const, oneCellS, litOne, flat1, Kd.isSca, flat, TYB]
        rw [idxG_hit (by omega) hp hi2]
      | false =>
        simp -implicitDefEqProofs only [lk_normal, SB, SV.known, packR, ne_eq, reduceCtorEq, Nat.reduceEqDiff, ↓reduceIte, if_true, if_false, eq_self, Nat.reduceAdd, Nat.reduceMul, Nat.reduceSub, forall_const, oneCellS, litOne, flat1, Kd.isSca, flat, TYB]
        refine ⟨by unfold In64; omega, i + 1, ⟨by omega, fun k hk => ?_⟩, by omega, Sub.same ?_ ?_ hwH (Nat.le_refl _)⟩
        · by_cases hki : k = i
          · subst hki; exact hp
          · exact hi2 k (by omega)
        · simp [subS, subH, wfS, wfH, SV.ren, renL, SObj.ren, SV.wf, SObj.wf, wfL, sget_cons, hget_cons, SV.known, renL_id]
        · simp [subS, subH, wfS, wfH, SV.ren, renL, SObj.ren, SV.wf, SObj.wf, wfL, sget_cons, hget_cons, hw, h00]
    · obtain rfl : i = len := by omega
      rw [idxG_none (by rw [hE2]; exact hi2)]
theorem idxG_none' {α : Type} {pr : α → Bool} {l : List α} (d : α) (h : idxG pr l < 0) : idxG pr l = -1 ∧ ∀ k, k < l.length → pr (l.getD k d) = false := by
  unfold idxG at h ⊢
  cases hf : l.findIdx? pr with
  | none =>
    refine ⟨rfl, fun k hk => ?_⟩
    have := (List.findIdx?_eq_none_iff).1 hf l[k] (List.getElem_mem hk)
    simpa [List.getD, List.getElem?_eq_getElem hk] using this
  | some k => rw [hf] at h; simp at h; omega
theorem idxG_some' {α : Type} {pr : α → Bool} {l : List α} (d : α) (h : ¬ idxG pr l < 0) : ∃ i : Nat, idxG pr l = (i : Int) ∧ i < l.length ∧ pr (l.getD i d) = true ∧ ∀ k : Nat, k < i → pr (l.getD k d) = false := by
  unfold idxG at h ⊢
  cases hf : l.findIdx? pr with
  | none => rw [hf] at h; simp at h
  | some k =>
    obtain ⟨hk, hp, hn⟩ := List.findIdx?_eq_some_iff_getElem.1 hf
    refine ⟨k, rfl, hk, by simpa [List.getD, List.getElem?_eq_getElem hk] using hp, fun j hj => ?_⟩
    have := hn j hj
    simpa [List.getD, List.getElem?_eq_getElem (show j < l.length by omega)] using this
theorem deleteFunc_ok (g : Nat) (hg : g ≠ 146) (caps : List SV) (Hc : Heap) (pr : List Int → Bool) (b : Nat) (L : List Int) (e len cap : Nat) (hlen : L.length = cap * 2) (hlc : len ≤ cap) (hm : len ≤ 4611686018427387903)
    (Q : List Int → Prop) (hQ : ∀ i, i < len → Q ((L.drop (i * 2)).take 2)) (hc : ∀ x : List Int, Q x → PureH Tryz.prog g (.arr x :: caps) Hc (.bool (pr x))) (hw : wfL b caps) (hwH : hwf b Hc) :
    UpdP Tryz.prog 112 [.slice b 0 len cap, .fn g caps] b Hc (.ints L e)
      (.ints (kept (fun x => !pr x) L len ++ List.replicate (len * 2 - (kept (fun x => !pr x) L len).length) 0 ++ L.drop (len * 2)) e) (.slice b 0 ((kept (fun x => !pr x) L len).length / 2) cap) := by
  have hl2 : len * 2 ≤ L.length := by omega
  have hb0 : hget ((b, SObj.ints L e) :: Hc) b = some (.ints L e) := by rw [hget_cons, if_pos rfl]
  have hwf1 : ∀ o : SObj, (∀ n, o.wf n) → hwf (b + 1) ((b, o) :: Hc) := fun o ho => hwf_cons (hwf_mono (by omega) hwH) (by omega) (ho _)
  have hw1 : wfL (b + 1) caps := wfL_mono (by omega) caps hw
  have hE : ∀ o : SObj, Ext Hc ((b, o) :: Hc) := fun o => Ext.cons hwH (Nat.le_refl _) (Ext.refl Hc)
  refine upd_of_vc (X := ⟨Tryz.prog, tys, [(146, fun args H' => some (args = [.slice b 0 len cap, .fn g caps] ∧ H' = (b, .ints L e) :: Hc, .int (idxG pr (chk L 0 len)))),
      (g, fun args H' => match args with | .arr x :: r => some (r = caps ∧ Ext Hc H' ∧ Q x, .bool (pr x)) | _ => none)], [], true, true, b, [], []⟩) fn_112
    ⟨tys_ok, .cons (fun args H' p v h hp => ?_) (.cons (fun args H' p v h hp => ?_) .nil), .nil, mixed⟩ (n0 := b + 1) (by omega) (Nat.le_of_ble_eq_true rfl) ⟨by simp [SV.wf], by simpa [SV.wf] using hw1, trivial⟩ (hwf1 _ fun _ => trivial) (fun k o1 hk => (hwH k o1 hk).1) rfl rfl (fun _ => trivial) (by simp [SV.wf]) ?_
  · cases h
    obtain ⟨rfl, rfl⟩ := hp
    exact indexFuncP_ok g caps _ Hc pr (b + 1) b L e len cap hb0 hl2 (by omega) Q hQ hc (hE _) hw1 (hwf1 _ fun _ => trivial)
  · split at h
    · cases h
      obtain ⟨rfl, hx1, hx⟩ := hp
      exact (hc _ hx).weaken hx1 (fun _ => trivial)
    · cases h
  simp -implicitDefEqProofs only [Tryz.f112, Option.getD_some, argS, hb0, hg, SB, SV.known, packR, ne_eq, reduceCtorEq, Nat.reduceEqDiff, ↓reduceIte, if_true, if_false, eq_self, Nat.reduceAdd, Nat.reduceMul, Nat.reduceSub, forall_const, oneCellS, litOne, flat1, Kd.isSca, flat, TYB]
  have hkl := kept_even (fun x => !pr x) L len hl2
  have hwc : hwf (b + 1) Hc := hwf_mono (by omega) hwH
  by_cases hneg : idxG pr (chk L 0 len) < 0
  · obtain ⟨h1, h2⟩ := idxG_none' [] hneg
    have hk : kept (fun x => !pr x) L len = L.take (len * 2) := kept_all len hl2 fun i hi => by
      have := h2 i (by rw [chk_len]; exact hi)
      rw [chk_getD L 0 len i hi, Nat.zero_add] at this
      simp [this]
    have hkl : (L.take (len * 2)).length = len * 2 := by rw [List.length_take]; omega
    rw [h1, hk, hkl]
    refine ⟨fun _ => ⟨?_, ?_⟩, fun hx => absurd rfl hx⟩
    · rw [show len * 2 / 2 = len by omega]
    · simp
  · obtain ⟨i0, h1, h2, h3, h4⟩ := idxG_some' [] hneg
    rw [chk_len] at h2
    rw [chk_getD L 0 len i0 h2, Nat.zero_add] at h3
    have hk0 : kept (fun x => !pr x) L i0 = L.take (i0 * 2) := kept_all i0 (by omega) fun i hi => by
      have := h4 i hi
      rw [chk_getD L 0 len i (by omega), Nat.zero_add] at this
      simp [this]
    have hk1 : kept (fun x => !pr x) L (i0 + 1) = L.take (i0 * 2) := by
      rw [kept_succ, hk0, h3]; simp
    rw [h1]
    refine ⟨fun hx => absurd hx (by omega), fun _ => ?_⟩
    (try (and_intros <;> try (first | omega | (unfold In64; omega) | trivial | assumption)))
    refine loop_intro (fun s : Nat × Nat × List Int => [(6, .int s.1), (5, .int s.2.1), (0, .slice b 0 len cap), (1, .fn g caps)]) (fun s => [(b, .ints (kept (fun x => !pr x) L s.1 ++ s.2.2 ++ L.drop (s.1 * 2)) e)] ++ Hc) (b + 1)
      (fun s => s.1 ≤ len ∧ (kept (fun x => !pr x) L s.1).length = s.2.1 * 2 ∧ s.2.1 < s.1 ∧ s.2.2.length + s.2.1 * 2 = s.1 * 2) (fun s => len - s.1) ?_ ?_
    · have e1 : (L.drop (i0 * 2)).take 2 ++ L.drop ((i0 + 1) * 2) = L.drop (i0 * 2) := by
        rw [show (i0 + 1) * 2 = i0 * 2 + 2 by omega, ← List.drop_drop]; exact List.take_append_drop 2 _
      refine ⟨(i0 + 1, i0, (L.drop (i0 * 2)).take 2), ⟨by simp only; omega, by simp only; rw [hk1, List.length_take]; omega, by simp only; omega, by simp only; rw [List.length_take, List.length_drop]; omega⟩, Sub.mk_ext ?_ ?_ ?_ ?_ (Nat.le_refl _) (hE _) hwc⟩
      · simp [subS, subH, wfS, wfH, SV.ren, renL, SObj.ren, SV.wf, SObj.wf, wfL, sget_cons, hget_cons, SV.known, renL_id]
      · rw [hk1, List.append_assoc, e1, List.take_append_drop]
        simp [subS, subH, wfS, wfH, SV.ren, renL, SObj.ren, SV.wf, SObj.wf, wfL, sget_cons, hget_cons]
      · simp [subS, subH, wfS, wfH, SV.ren, renL, SObj.ren, SV.wf, SObj.wf, wfL, sget_cons, hget_cons, hw1]
      · simp [subS, subH, wfS, wfH, SV.ren, renL, SObj.ren, SV.wf, SObj.wf, wfL, sget_cons, hget_cons]
    · rintro ⟨j, i, mid⟩ ⟨g1, g2, g3, g4⟩
      simp only at g1 g2 g3 g4
      have lenL : (kept (fun x => !pr x) L j ++ mid ++ L.drop (j * 2)).length = cap * 2 := by
        rw [List.length_append, List.length_append, List.length_drop]; omega
      by_cases hlt : j < len
      · have ex : ((kept (fun x => !pr x) L j ++ mid ++ L.drop (j * 2)).drop (j * 2)).take 2 = (L.drop (j * 2)).take 2 := by
          rw [List.drop_left' (by rw [List.length_append]; omega)]
        have l2 : ((L.drop (j * 2)).take 2).length = 2 := by rw [List.length_take, List.length_drop]; omega
        have es := kept_succ (fun x => !pr x) L j
        have tt : List.take 2 ((L.drop (j * 2)).take 2) = (L.drop (j * 2)).take 2 := by simp [List.take_take]
        have hjl : (j : Int) < len := by omega
        have hQj := hQ j hlt
        have dl : (L.drop (j * 2)).take 2 ++ L.drop ((j + 1) * 2) = L.drop (j * 2) := by
          rw [show (j + 1) * 2 = j * 2 + 2 by omega, ← List.drop_drop]; exact List.take_append_drop 2 _
        have hE2 : ∀ o1 o2 o3 : SObj, Ext Hc ((b + 1, o1) :: (b + 1, o2) :: (b, o3) :: Hc) := fun o1 o2 o3 => Ext.cons hwH (by omega) (Ext.cons hwH (by omega) (hE _))
        cases hp : pr ((L.drop (j * 2)).take 2) with
        | true =>
          rw [hp] at es
          simp only [Bool.not_true, Bool.false_eq_true, if_false, List.append_nil] at es
          simp -implicitDefEqProofs only [lk_normal, hget_cons, List.cons_append, List.nil_append, hg, lenL, ex, l2, tt, hp, hjl, hE2, hQj, ZB, Int.reduceToNat, Nat.reduceLT, Nat.reduceLeDiff, Int.reduceLE, Int.reduceLT, Nat.reduceEqDiff, Nat.reduceSub, SB, SV.known, packR, ne_eq, reduceCtorEq, Nat.reduceEqDiff, ↓reduceIte, if_true, if_false, eq_self, Nat.reduceAdd, Nat.reduceMul, Nat.reduceSub, forall_const, oneCellS, litOne, flat1, Kd.isSca, flat, TYB]
          (try (and_intros <;> try (first | omega | (unfold In64; omega) | trivial | assumption)))
          refine ⟨(j + 1, i, mid ++ (L.drop (j * 2)).take 2), ⟨by simp only; omega, by simp only; rw [es]; exact g2, by simp only; omega, by simp only; rw [List.length_append, l2]; omega⟩, by simp only; omega, Sub.mk_ext (l := [(b, _)]) ?_ ?_ ?_ ?_ (Nat.le_refl _) (hE2 _ _ _) hwc⟩
          · simp [subS, subH, wfS, wfH, SV.ren, renL, SObj.ren, SV.wf, SObj.wf, wfL, sget_cons, hget_cons, SV.known, renL_id]
          · rw [es]
            simp only [List.append_assoc, dl]
            simp [subS, subH, wfS, wfH, SV.ren, renL, SObj.ren, SV.wf, SObj.wf, wfL, sget_cons, hget_cons]
          · simp [subS, subH, wfS, wfH, SV.ren, renL, SObj.ren, SV.wf, SObj.wf, wfL, sget_cons, hget_cons, hw1]
          · simp [subS, subH, wfS, wfH, SV.ren, renL, SObj.ren, SV.wf, SObj.wf, wfL, sget_cons, hget_cons]
        | false =>
          rw [hp] at es
          simp only [Bool.not_false, if_true] at es
          have hbb : ¬ b = b + 1 := by omega
          have st : List.take (i * 2) (kept (fun x => !pr x) L j ++ mid ++ L.drop (j * 2)) ++ (L.drop (j * 2)).take 2 ++ List.drop (i * 2 + 2) (kept (fun x => !pr x) L j ++ mid ++ L.drop (j * 2)) = kept (fun x => !pr x) L (j + 1) ++ (mid.drop 2 ++ (L.drop (j * 2)).take 2) ++ L.drop ((j + 1) * 2) := by
            rw [es, ← List.drop_drop, List.append_assoc (kept (fun x => !pr x) L j), List.take_left' g2, List.drop_left' g2, List.drop_append_of_le_length (by omega)]
            simp only [List.append_assoc, dl]
          simp -implicitDefEqProofs only [lk_normal, hget_cons, List.cons_append, List.nil_append, hg, lenL, ex, l2, tt, hp, hjl, hE2, hQj, hbb, st, ZB, Int.reduceToNat, Nat.reduceLT, Nat.reduceLeDiff, Int.reduceLE, Int.reduceLT, Nat.reduceEqDiff, Nat.reduceSub, SB, SV.known, packR, ne_eq, reduceCtorEq, Nat.reduceEqDiff, ↓reduceIte, if_true, if_false, eq_self, Nat.reduceAdd, Nat.reduceMul, Nat.reduceSub, forall_const, oneCellS, litOne, flat1, Kd.isSca, flat, TYB]
          (try (and_intros <;> try (first | omega | (unfold In64; omega) | trivial | assumption)))
          refine ⟨(j + 1, i + 1, mid.drop 2 ++ (L.drop (j * 2)).take 2), ⟨by simp only; omega, by simp only; rw [es, List.length_append, g2, l2]; omega, by simp only; omega, by simp only; rw [List.length_append, l2, List.length_drop]; omega⟩, by simp only; omega, Sub.mk_ext (l := [(b, _)]) ?_ ?_ ?_ ?_ (Nat.le_refl _) (Ext.cons hwH (Nat.le_refl _) (hE2 _ _ _)) hwc⟩
          · simp [subS, subH, wfS, wfH, SV.ren, renL, SObj.ren, SV.wf, SObj.wf, wfL, sget_cons, hget_cons, SV.known, renL_id]
          · simp [subS, subH, wfS, wfH, SV.ren, renL, SObj.ren, SV.wf, SObj.wf, wfL, sget_cons, hget_cons]
          · simp [subS, subH, wfS, wfH, SV.ren, renL, SObj.ren, SV.wf, SObj.wf, wfL, sget_cons, hget_cons, hw1]
          · simp [subS, subH, wfS, wfH, SV.ren, renL, SObj.ren, SV.wf, SObj.wf, wfL, sget_cons, hget_cons]
      · have hjl : ¬ (j : Int) < len := by omega
        obtain rfl : j = len := by omega
        simp -implicitDefEqProofs only [lk_normal, hget_cons, List.cons_append, List.nil_append, hg, lenL, hjl, ZB, Int.reduceToNat, Nat.reduceLT, Nat.reduceLeDiff, Int.reduceLE, Int.reduceLT, Nat.reduceEqDiff, Nat.reduceSub, SB, SV.known, packR, ne_eq, reduceCtorEq, Nat.reduceEqDiff, ↓reduceIte, if_true, if_false, eq_self, Nat.reduceAdd, Nat.reduceMul, Nat.reduceSub, forall_const, oneCellS, litOne, flat1, Kd.isSca, flat, TYB]
        have c1 : cutOff cap i 0 2 = i * 2 := by unfold cutOff; rw [if_neg (by omega)]; omega
        have c2 : i * 2 + (j - i) * 2 = j * 2 := by omega
        rw [c1, c2, g2]
        refine ⟨by omega, by omega, by omega, by omega, by omega, by omega, ?_, ?_⟩
        · rw [show i * 2 / 2 = i by omega]
        · rw [List.append_assoc (kept (fun x => !pr x) L j), List.take_left' g2, ← List.append_assoc, List.drop_left' (by rw [List.length_append]; omega), show (j - i) * 2 = j * 2 - i * 2 by omega]
/-- On a slice that is nil. -/
theorem deleteFunc_nil (g : Nat) (caps : List SV) (H : Heap) (n0 : Nat) (hw : wfL n0 caps) (hwH : hwf n0 H) : PureH Tryz.prog 112 [.nils, .fn g caps] H .nils := by
  have h1 : PureH Tryz.prog 146 [.nils, .fn g caps] H (.int (-1)) := by
    refine pure_of_vc (X := ⟨Tryz.prog, tys, [], [], true, true, n0, [], []⟩) fn_146 ⟨tys_ok, .nil, .nil, mixed⟩ (n0 := n0) (Nat.le_of_ble_eq_true rfl) ⟨trivial, by simpa [SV.wf] using hw, trivial⟩ hwH (Nat.le_refl _) (fun _ => trivial) ?_
    simp -implicitDefEqProofs only [Tryz.f146, Option.getD_some, argS, SB, SV.known, packR, ne_eq, reduceCtorEq, Nat.reduceEqDiff, ↓reduceIte, if_true, if_false, eq_self, Nat.reduceAdd, Nat.reduceMul, Nat.reduceSub, forall_const, oneCellS, litOne, flat1, Kd.isSca, flat, TYB]
    refine loop_intro (fun i : Unit => [(0, .nils), (1, .fn g caps), (7, .int 0), (8, .int 0)]) (fun i => H) n0 (fun i => True) (fun i => 0) ?_ ?_
    · refine ⟨(), trivial, Sub.same ?_ ?_ hwH (Nat.le_refl _)⟩
      · simp [subS, subH, wfS, wfH, SV.ren, renL, SObj.ren, SV.wf, SObj.wf, wfL, sget_cons, hget_cons, SV.known, renL_id]
      · simp [subS, subH, wfS, wfH, SV.ren, renL, SObj.ren, SV.wf, SObj.wf, wfL, sget_cons, hget_cons, hw]
    · intro _ _
      simp -implicitDefEqProofs only [lk_normal, SB, SV.known, packR, ne_eq, reduceCtorEq, Nat.reduceEqDiff, ↓reduceIte, if_true, if_false, eq_self, Nat.reduceAdd, Nat.reduceMul, Nat.reduceSub, forall_const, oneCellS, litOne, flat1, Kd.isSca, flat, TYB]
      simp
  refine pure_of_vc (X := ⟨Tryz.prog, tys, [(146, fun args H' => some (args = [.nils, .fn g caps] ∧ H' = H, .int (-1)))], [], true, true, n0, [], []⟩) fn_112 ⟨tys_ok, .cons (fun args H' p v h hp => ?_) .nil, .nil, mixed⟩ (n0 := n0) (Nat.le_of_ble_eq_true rfl) ⟨trivial, by simpa [SV.wf] using hw, trivial⟩ hwH (Nat.le_refl _) (fun _ => trivial) ?_
  · cases h
    obtain ⟨rfl, rfl⟩ := hp
    exact h1
  simp -implicitDefEqProofs only [Tryz.f112, Option.getD_some, argS, SB, SV.known, packR, ne_eq, reduceCtorEq, Nat.reduceEqDiff, ↓reduceIte, if_true, if_false, eq_self, Nat.reduceAdd, Nat.reduceMul, Nat.reduceSub, forall_const, oneCellS, litOne, flat1, Kd.isSca, flat, TYB]
theorem kept_pair {np : List Int → Bool} {L : List Int} : ∀ k, k * 2 ≤ L.length → ∀ i, i * 2 + 2 ≤ (kept np L k).length → ∃ j, j < k ∧ ((kept np L k).drop (i * 2)).take 2 = (L.drop (j * 2)).take 2 ∧ np ((L.drop (j * 2)).take 2) = true
  | 0, _, i, h => by simp [kept_zero] at h
  | k + 1, hk, i, h => by
    obtain ⟨n, hn, _⟩ := kept_even np L k (by omega)
    have l2 : ((L.drop (k * 2)).take 2).length = 2 := by rw [List.length_take, List.length_drop]; omega
    rw [kept_succ] at h ⊢
    by_cases hi : i * 2 + 2 ≤ n * 2
    · obtain ⟨j, h1, h2, h3⟩ := kept_pair (np := np) (L := L) k (by omega) i (by omega)
      refine ⟨j, by omega, ?_, h3⟩
      rw [List.drop_append_of_le_length (by omega), List.take_append_of_le_length (by rw [List.length_drop]; omega)]
      exact h2
    · split at h
      · rename_i hc
        rw [List.length_append, hn, l2] at h
        have : i = n := by omega
        subst this
        refine ⟨k, by omega, ?_, hc⟩
        rw [if_pos hc, List.drop_left' hn, List.take_of_length_le (by omega)]
      · simp at h; omega
end Go.Proofs.YtmccafjblhbmkaaGreat
set_option maxRecDepth 100000
set_option linter.unusedSimpArgs false
set_option linter.unusedVariables false
namespace Go.Proofs.YtmccafjblhbmkaaGreat
open Go Go.RowKit
--@tbl isAt = impl.isAt
--@tbl areAll_place = impl.areAll[int]
def areAll_place_F := areAllI_F [(131, plF)]
theorem areAll_place_T : ∀ args H p v, areAll_place_F args H = some (p, v) → p → PureH Tryz.prog 103 args H v :=
  areAllI_T (by intro q hq; simp at hq; rcases hq with rfl; exact isPlace_ok)
/-- isAt looks at the places behind a slice. -/
theorem isAt_ok (R L : List Int) (e off len cap : Nat) (hR : R.length = 24) (hl : off + len ≤ L.length) (hm : len ≤ 9223372036854775806) : PureH Tryz.prog 83 [.arr R, .slice 0 off len cap] [(0, .ints L e)] (.bool (rackB R && ((L.drop off).take len).all plF)) := by
  have tkR : R.take 24 = R := List.take_of_length_le (by omega)
  cases hr : rackB R
  · refine pure_of_vc (X := ⟨Tryz.prog, tys, [(62, IsRack_F), (103, areAll_place_F)], [], true, true, 1, [], []⟩) fn_83 ⟨tys_ok, (.cons IsRack_T (.cons areAll_place_T .nil)), .nil, mixed⟩ (n0 := 1) (Nat.le_of_ble_eq_true rfl) (by simp [wfL, SV.wf]) (wfH_spec (by simp [wfH, SObj.wf])) (Nat.le_refl _) (fun _ => by simp [SV.wf, wfL]) ?_
    simp -implicitDefEqProofs only [Tryz.f83, Option.getD_some, argS, IsRack_F, areAll_place_F, hR, tkR, hr, areAllI_F, ZB, Int.reduceToNat, Nat.reduceLT, Nat.reduceLeDiff, Int.reduceLE, Int.reduceLT, Nat.reduceEqDiff, Nat.reduceSub, SB, SV.known, packR, ne_eq, reduceCtorEq, Nat.reduceEqDiff, ↓reduceIte, if_true, if_false, eq_self, Nat.reduceAdd, Nat.reduceMul, Nat.reduceSub, forall_const, oneCellS, litOne, flat1, Kd.isSca, flat, TYB]
  · refine pure_of_vc (X := ⟨Tryz.prog, tys, [(62, IsRack_F), (103, areAll_place_F)], [], true, true, 1, [], []⟩) fn_83 ⟨tys_ok, (.cons IsRack_T (.cons areAll_place_T .nil)), .nil, mixed⟩ (n0 := 1) (Nat.le_of_ble_eq_true rfl) (by simp [wfL, SV.wf]) (wfH_spec (by simp [wfH, SObj.wf])) (Nat.le_refl _) (fun _ => by simp [SV.wf, wfL]) ?_
    simp -implicitDefEqProofs only [Tryz.f83, Option.getD_some, argS, IsRack_F, areAll_place_F, hR, tkR, hr, areAllI_F, ZB, Int.reduceToNat, Nat.reduceLT, Nat.reduceLeDiff, Int.reduceLE, Int.reduceLT, Nat.reduceEqDiff, Nat.reduceSub, SB, SV.known, packR, ne_eq, reduceCtorEq, Nat.reduceEqDiff, ↓reduceIte, if_true, if_false, eq_self, Nat.reduceAdd, Nat.reduceMul, Nat.reduceSub, forall_const, oneCellS, litOne, flat1, Kd.isSca, flat, TYB]
    exact ⟨hl, hm⟩
def isAt_F : List SV → Heap → Option (Prop × SV)
  | [.arr R, .slice b off len _], H => match hget H b with
    | some (.ints L _) => some (R.length = 24 ∧ off + len ≤ L.length ∧ len ≤ 9223372036854775806, .bool (rackB R && ((L.drop off).take len).all plF))
    | _ => none
  | _, _ => none
theorem isAt_T : ∀ args H p v, isAt_F args H = some (p, v) → p → PureH Tryz.prog 83 args H v := by
  intro args H p v h hp
  unfold isAt_F at h
  split at h
  · rename_i R b off len cap
    split at h
    · rename_i L e hb
      cases h
      exact one_block (isAt_ok R L e off len cap hp.1 hp.2.1 hp.2.2) hb rfl (fun _ => trivial)
    · cases h
  · cases h
end Go.Proofs.YtmccafjblhbmkaaGreat
set_option maxRecDepth 100000
set_option linter.unusedSimpArgs false
set_option linter.unusedVariables false
namespace Go.Proofs.YtmccafjblhbmkaaGreat
open Go Go.RowKit
theorem pl_bd {i : Int} (h : plF i = true) : 0 ≤ i ∧ i ≤ 5 := by simpa [plF] using h
end Go.Proofs.YtmccafjblhbmkaaGreat
set_option maxRecDepth 100000
set_option linter.unusedSimpArgs false
set_option linter.unusedVariables false
namespace Go.Proofs.YtmccafjblhbmkaaGreat
open Go Go.RowKit
def pourB (R : List Int) (i j : Int) : Bool := rackB R && plF i && plF j && canF R i j
theorem pourF_len {R : List Int} (hR : R.length = 24) (a b : Nat) : (pourF R a b).length = 24 := by unfold pourF; rw [pmR_len, hR]
end Go.Proofs.YtmccafjblhbmkaaGreat
set_option maxRecDepth 100000
set_option linter.unusedSimpArgs false
set_option linter.unusedVariables false
namespace Go.Proofs.YtmccafjblhbmkaaGreat
open Go Go.RowKit
def besF (l : List Int) : Int := (l.map fun n => max (n - 1) 0).sum
end Go.Proofs.YtmccafjblhbmkaaGreat
set_option maxRecDepth 100000
set_option linter.unusedSimpArgs false
set_option linter.unusedVariables false
namespace Go.Proofs.YtmccafjblhbmkaaGreat
open Go Go.RowKit

--@tbl eqIntA3 = laws.eqIntA3
--@tbl eqIntA4 = laws.eqIntA4
--@tbl eqIntA5 = laws.eqIntA5
--@tbl eqIntA6 = laws.eqIntA6
--@tbl eqIntA4A6 = laws.eqIntA4A6
--@tbl eqRack = laws.eqRack
--@tbl eqView = laws.eqView
--@tbl toSource = laws.toSource
end Go.Proofs.YtmccafjblhbmkaaGreat
set_option maxRecDepth 100000
set_option linter.unusedSimpArgs false
set_option linter.unusedVariables false
namespace Go.Proofs.YtmccafjblhbmkaaGreat
open Go Go.RowKit
theorem tube_cells {t : List Int} (ht : t.length = 4) (hb : tubeB t = true) : (∀ b, b < layN t → 1 ≤ t.getD b 0 ∧ t.getD b 0 ≤ 5) ∧ (∀ b, layN t ≤ b → t.getD b 0 = 0) := by
  have hle := lay_le t ht
  unfold tubeB at hb
  simp only [Bool.and_eq_true] at hb
  constructor
  · intro b hbn
    have hlt : b < t.length := by omega
    have := List.all_eq_true.1 hb.1 (t.getD b 0) (by
      simp only [List.getD, List.getElem?_eq_getElem hlt, Option.getD_some]
      exact List.mem_take_iff_getElem.2 ⟨b, by omega, rfl⟩)
    simpa [coT] using this
  · intro b hbn
    rcases Nat.lt_or_ge b 4 with h4 | h4
    · have hlt : b < t.length := by omega
      have := List.all_eq_true.1 hb.2 (t.getD b 0) (by
        simp only [List.getD, List.getElem?_eq_getElem hlt, Option.getD_some]
        exact List.mem_drop_iff_getElem.2 ⟨b - layN t, by omega, by congr 1; omega⟩)
      simpa [is0] using this
    · simp [List.getD, List.getElem?_eq_none (show t.length ≤ b by omega)]
theorem tube_of {t : List Int} (ht : t.length = 4) {n : Nat} (hn : n ≤ 4) (h1 : ∀ b, b < n → 1 ≤ t.getD b 0 ∧ t.getD b 0 ≤ 5) (h2 : ∀ b, n ≤ b → b < 4 → t.getD b 0 = 0) : tubeB t = true ∧ layN t = n := by
  have hl : layN t = n := by
    unfold layN
    rcases Nat.lt_or_ge n 4 with h4 | h4
    · have : t.findIdx? isZ0 = some n := by
        rw [List.findIdx?_eq_some_iff_getElem]
        refine ⟨by omega, ?_, fun j hj => ?_⟩
        · have := h2 n (by omega) h4
          simp only [List.getD, List.getElem?_eq_getElem (show n < t.length by omega), Option.getD_some] at this
          simp [isZ0, this]
        · have := h1 j hj
          simp only [List.getD, List.getElem?_eq_getElem (show j < t.length by omega), Option.getD_some] at this
          simp [isZ0]; omega
      rw [this]; rfl
    · have : t.findIdx? isZ0 = none := by
        rw [List.findIdx?_eq_none_iff]
        intro x hx
        obtain ⟨k, hk, rfl⟩ := List.getElem_of_mem hx
        have := h1 k (by omega)
        simp only [List.getD, List.getElem?_eq_getElem hk, Option.getD_some] at this
        simp [isZ0]; omega
      rw [this]
      simp; omega
  refine ⟨?_, hl⟩
  unfold tubeB
  rw [hl]
  simp only [Bool.and_eq_true]
  constructor
  · rw [List.all_eq_true]
    intro x hx
    obtain ⟨k, hk, rfl⟩ := List.mem_take_iff_getElem.1 hx
    have := h1 k (by omega)
    simp only [List.getD, List.getElem?_eq_getElem (show k < t.length by omega), Option.getD_some] at this
    simpa [coT] using this
  · rw [List.all_eq_true]
    intro x hx
    obtain ⟨k, hk, rfl⟩ := List.mem_drop_iff_getElem.1 hx
    have := h2 (n + k) (by omega) (by omega)
    simp only [List.getD, List.getElem?_eq_getElem (show n + k < t.length by omega), Option.getD_some] at this
    simpa [is0] using this
theorem rack_tubes {R : List Int} : rackB R = true ↔ ∀ i, i < 6 → tubeB (tubeAt R i) = true := by
  unfold rackB tubesOf tubeAt
  simp only [List.all_map, List.all_eq_true, List.mem_range, Function.comp, Nat.zero_add]
theorem tubeAt_getD (R : List Int) (i k : Nat) (h : k < 4) : (tubeAt R i).getD k 0 = R.getD (i * 4 + k) 0 := cut_getD R i k h
theorem tubeAt_ext {R R' : List Int} {i j : Nat} (h1 : (tubeAt R i).length = 4) (h2 : (tubeAt R' j).length = 4) (h : ∀ k, k < 4 → R.getD (i * 4 + k) 0 = R'.getD (j * 4 + k) 0) : tubeAt R i = tubeAt R' j := by
  apply List.ext_getElem (by omega)
  intro k hk1 hk2
  have e1 := tubeAt_getD R i k (by omega)
  have e2 := tubeAt_getD R' j k (by omega)
  have := h k (by omega)
  simp only [List.getD, List.getElem?_eq_getElem hk1, List.getElem?_eq_getElem hk2, Option.getD_some] at e1 e2 this
  rw [e1, e2]; exact this
theorem getD_set' (L : List Int) (a b : Nat) (x : Int) (h : a < L.length) : (L.set a x).getD b 0 = if a = b then x else L.getD b 0 := by
  simp only [List.getD, List.getElem?_set]
  split
  · simp [h]
  · rfl
/-- The cells of a rack behind some moved layers. -/
theorem pmR_cell {R : List Int} (hR : R.length = 24) {i j : Nat} (hi : i < 6) (hj : j < 6) (hij : i ≠ j) : ∀ m, m ≤ layN (tubeAt R i) → m + layN (tubeAt R j) ≤ 4 → ∀ a b, a < 6 → b < 4 →
    (pmR R i j m).getD (a * 4 + b) 0 = if a = i ∧ layN (tubeAt R i) - m ≤ b ∧ b < layN (tubeAt R i) then 0 else if a = j ∧ layN (tubeAt R j) ≤ b ∧ b < layN (tubeAt R j) + m then (topF (tubeAt R i)).1 else R.getD (a * 4 + b) 0
  | 0, _, _, a, b, _, _ => by
    simp only [pmR]
    rw [if_neg (by omega), if_neg (by omega)]
  | m + 1, hm, hm2, a, b, ha, hb => by
    have hli := lay_le _ (tubeAt_len hR hi)
    have hlj := lay_le _ (tubeAt_len hR hj)
    have ih := pmR_cell hR hi hj hij m (by omega) (by omega) a b ha hb
    simp only [pmR]
    rw [getD_set' _ _ _ _ (by rw [List.length_set, pmR_len]; omega), getD_set' _ _ _ _ (by rw [pmR_len]; omega), ih]
    by_cases h1 : j * 4 + (layN (tubeAt R j) + m) = a * 4 + b
    · have haj : a = j := by omega
      subst haj
      rw [if_pos h1, if_neg (by omega), if_pos (by omega)]
    · rw [if_neg h1]
      by_cases h2 : i * 4 + (layN (tubeAt R i) - 1 - m) = a * 4 + b
      · have hai : a = i := by omega
        subst hai
        rw [if_pos h2, if_pos (by omega)]
      · rw [if_neg h2]
        by_cases h3 : a = i ∧ layN (tubeAt R i) - m ≤ b ∧ b < layN (tubeAt R i)
        · rw [if_pos h3, if_pos (by omega)]
        · rw [if_neg h3]
          by_cases h4 : a = i ∧ layN (tubeAt R i) - (m + 1) ≤ b ∧ b < layN (tubeAt R i)
          · omega
          · rw [if_neg h4]
            by_cases h5 : a = j ∧ layN (tubeAt R j) ≤ b ∧ b < layN (tubeAt R j) + m
            · rw [if_pos h5, if_pos (by omega)]
            · rw [if_neg h5, if_neg (by omega)]
theorem top_co {t : List Int} (ht : t.length = 4) (hb : tubeB t = true) (h0 : 0 < layN t) : 1 ≤ (topF t).1 ∧ (topF t).1 ≤ 5 := by
  obtain ⟨r, h1, h2⟩ := topF_run t ht h0
  rw [h1]
  exact (tube_cells ht hb).1 _ (by omega)
theorem pm_facts {R : List Int} (hR : R.length = 24) (hr : rackB R = true) {i j : Nat} (hi : i < 6) (hj : j < 6) (hij : i ≠ j) {m : Nat} (hm : m ≤ layN (tubeAt R i)) (hm2 : m + layN (tubeAt R j) ≤ 4) :
    (tubeB (tubeAt (pmR R i j m) i) = true ∧ layN (tubeAt (pmR R i j m) i) = layN (tubeAt R i) - m) ∧ (tubeB (tubeAt (pmR R i j m) j) = true ∧ layN (tubeAt (pmR R i j m) j) = layN (tubeAt R j) + m) ∧
    (∀ k, k < 6 → k ≠ i → k ≠ j → tubeAt (pmR R i j m) k = tubeAt R k) := by
  have hP : (pmR R i j m).length = 24 := by rw [pmR_len, hR]
  have hc := pmR_cell hR hi hj hij m hm hm2
  have hli := tubeAt_len hR hi
  have hlj := tubeAt_len hR hj
  have ci := tube_cells hli (tubeAt_ok hr hi)
  have cj := tube_cells hlj (tubeAt_ok hr hj)
  have li := lay_le _ hli
  refine ⟨tube_of (tubeAt_len hP hi) (by omega) (fun b hb => ?_) (fun b hb hb4 => ?_), tube_of (tubeAt_len hP hj) (by omega) (fun b hb => ?_) (fun b hb hb4 => ?_), fun k hk h1 h2 => ?_⟩
  · rw [tubeAt_getD _ _ _ (by omega), hc i b hi (by omega), if_neg (by omega), if_neg (by omega), ← tubeAt_getD _ _ _ (by omega)]
    exact ci.1 b (by omega)
  · rw [tubeAt_getD _ _ _ hb4, hc i b hi hb4]
    by_cases h3 : b < layN (tubeAt R i)
    · rw [if_pos ⟨rfl, hb, h3⟩]
    · rw [if_neg (by omega), if_neg (by omega), ← tubeAt_getD _ _ _ hb4]
      exact ci.2 b (by omega)
  · rw [tubeAt_getD _ _ _ (by omega), hc j b hj (by omega), if_neg (by omega)]
    by_cases h3 : layN (tubeAt R j) ≤ b
    · rw [if_pos (by omega)]
      exact top_co hli (tubeAt_ok hr hi) (by omega)
    · rw [if_neg (by omega), ← tubeAt_getD _ _ _ (by omega)]
      exact cj.1 b (by omega)
  · rw [tubeAt_getD _ _ _ hb4, hc j b hj hb4, if_neg (by omega), if_neg (by omega), ← tubeAt_getD _ _ _ hb4]
    exact cj.2 b (by omega)
  · refine tubeAt_ext (tubeAt_len hP hk) (tubeAt_len hR hk) fun b hb => ?_
    rw [hc k b hk hb, if_neg (by omega), if_neg (by omega)]
theorem pm_rack {R : List Int} (hR : R.length = 24) (hr : rackB R = true) {i j : Nat} (hi : i < 6) (hj : j < 6) (hij : i ≠ j) {m : Nat} (hm : m ≤ layN (tubeAt R i)) (hm2 : m + layN (tubeAt R j) ≤ 4) : rackB (pmR R i j m) = true := by
  obtain ⟨h1, h2, h3⟩ := pm_facts hR hr hi hj hij hm hm2
  rw [rack_tubes]
  intro k hk
  by_cases hki : k = i
  · rw [hki]; exact h1.1
  · by_cases hkj : k = j
    · rw [hkj]; exact h2.1
    · rw [h3 k hk hki hkj]; exact tubeAt_ok hr hk
theorem can_facts {R : List Int} {i j : Int} (hR : R.length = 24) (hr : rackB R = true) (hi : 0 ≤ i ∧ i ≤ 5) (hj : 0 ≤ j ∧ j ≤ 5) (h : canF R i j = true) : i ≠ j ∧ 0 < layN (tubeAt R i.toNat) ∧ layN (tubeAt R j.toNat) < 4 ∧ 0 < pmN R i.toNat j.toNat ∧
    (pmN R i.toNat j.toNat).toNat ≤ layN (tubeAt R i.toNat) ∧ (pmN R i.toNat j.toNat).toNat + layN (tubeAt R j.toNat) ≤ 4 ∧ pmN R i.toNat j.toNat ≤ 4 := by
  simp only [canF, Bool.and_eq_true, Bool.not_eq_true', decide_eq_false_iff_not, decide_eq_true_eq] at h
  have hli := tubeAt_len hR (i := i.toNat) (by omega)
  have hlj := tubeAt_len hR (i := j.toNat) (by omega)
  have tp := top_pos _ hli (tubeAt_ok hr (by omega))
  have tl := topF_le _ hli
  have h0 := tp.1.1 h.1.1.2
  have h2 := tp.2.2 h0
  have := lay_le _ hlj
  have := lay_le _ hli
  unfold pmN
  refine ⟨h.1.1.1, h0, by omega, by omega, by omega, by omega, by omega⟩
theorem pour_rack {R : List Int} {i j : Int} (hR : R.length = 24) (hr : rackB R = true) (hi : 0 ≤ i ∧ i ≤ 5) (hj : 0 ≤ j ∧ j ≤ 5) (h : canF R i j = true) : rackB (pourF R i.toNat j.toNat) = true := by
  obtain ⟨h1, h2, h3, h4, h5, h6, _⟩ := can_facts hR hr hi hj h
  exact pm_rack hR hr (by omega) (by omega) (by omega) h5 h6
end Go.Proofs.YtmccafjblhbmkaaGreat
set_option maxRecDepth 100000
set_option linter.unusedSimpArgs false
set_option linter.unusedVariables false
namespace Go.Proofs.YtmccafjblhbmkaaGreat
open Go Go.RowKit
def sumT (f : List Int → Int) (R : List Int) (k : Nat) : Int := ((List.range k).map fun i => f (tubeAt R i)).sum
def crN (t : List Int) : Int := ((runsL t).length / 2 : Nat)
def cbN (t : List Int) : Int := max (crN t - 1) 0
/-! Counts. -/
def incr (L : List Int) (j : Nat) : List Int := L.set j (L.getD j 0 + 1)
def cntL (l : List Int) : List Int := l.foldl (fun c x => incr c x.toNat) (List.replicate 6 0)
theorem cntL_nil : cntL [] = List.replicate 6 0 := rfl
theorem cntL_take_succ (l : List Int) (k : Nat) (h : k < l.length) : cntL (l.take (k + 1)) = incr (cntL (l.take k)) (l.getD k 0).toNat := by
  unfold cntL
  rw [List.take_succ_eq_append_getElem h, List.foldl_append]
  simp [List.getD, List.getElem?_eq_getElem h]
theorem foldl_len (l : List Int) : ∀ c : List Int, (l.foldl (fun c x => incr c x.toNat) c).length = c.length := by
  induction l with
  | nil => intro c; rfl
  | cons x l ih => intro c; rw [List.foldl_cons, ih]; simp [incr]
theorem cntL_len (l : List Int) : (cntL l).length = 6 := by unfold cntL; rw [foldl_len]; rfl
theorem incr_bd {L : List Int} {b : Int} (j : Nat) (h : ∀ k, 0 ≤ L.getD k 0 ∧ L.getD k 0 ≤ b) : ∀ k, 0 ≤ (incr L j).getD k 0 ∧ (incr L j).getD k 0 ≤ b + 1 := by
  intro k
  have h1 := h k
  have h2 := h j
  unfold incr
  simp only [List.getD, List.getElem?_set] at *
  split
  · split
    · simp; omega
    · simp; omega
  · omega
theorem foldl_bd (l : List Int) : ∀ (c : List Int) (b : Int), (∀ k, 0 ≤ c.getD k 0 ∧ c.getD k 0 ≤ b) → ∀ k, 0 ≤ (l.foldl (fun c x => incr c x.toNat) c).getD k 0 ∧ (l.foldl (fun c x => incr c x.toNat) c).getD k 0 ≤ b + l.length := by
  induction l with
  | nil => intro c b h k; simpa using h k
  | cons x l ih =>
    intro c b h k
    have := ih (incr c x.toNat) (b + 1) (incr_bd _ h) k
    rw [List.foldl_cons, List.length_cons]
    omega
theorem cntL_bd (l : List Int) (k : Nat) : 0 ≤ (cntL l).getD k 0 ∧ (cntL l).getD k 0 ≤ l.length := by
  have := foldl_bd l (List.replicate 6 0) 0 (fun k => by
    simp only [List.getD, List.getElem?_replicate]
    split <;> simp) k
  unfold cntL
  omega
def botL (R : List Int) : List Int := (List.range 6).map fun i => R.getD (i * 4) 0
theorem rack_cell {R : List Int} (hR : R.length = 24) (hr : rackB R = true) {k : Nat} (h : k < 24) : 0 ≤ R.getD k 0 ∧ R.getD k 0 ≤ 5 := by
  have := (rackB_iff R hR).1 hr (k / 4) (k % 4) (by omega) (by omega)
  unfold cB at this
  rw [show k / 4 * 4 + k % 4 = k by omega] at this
  exact this.1
--@tbl bottoms = impl.bottoms
--@tbl l6Bottoms = spec.l6Bottoms
/-! The bound. -/
def bndF (R : List Int) : Int := sumT cbN R 6 + besF ((cntL (botL R)).drop 1)
/-! The model's boundaries. -/
theorem runs_bottom (t : List Int) (ht : t.length = 4) (hb : tubeB t = true) : (0 < layN t ↔ 0 < crN t) ∧ (t.getD 0 0 = 0 ↔ layN t = 0) := by
  have hle := lay_le t ht
  constructor
  · constructor
    · intro h
      obtain ⟨n, h1, h2, h3⟩ := runsL_even t ht
      have := h3 h
      unfold crN
      omega
    · intro h
      rcases Nat.eq_zero_or_pos (layN t) with h0 | h0
      · have : crN t = 0 := by simp [crN, runsL, h0]
        omega
      · exact h0
  · obtain ⟨a, b, c, d, rfl⟩ : ∃ a b c d, t = [a, b, c, d] := by
      match t, ht with
      | [a, b, c, d], _ => exact ⟨a, b, c, d, rfl⟩
    by_cases ha : a = 0
    · subst ha; simp [layN, isZ0, List.findIdx?_cons]
    · simp [layN, isZ0, List.findIdx?_cons, ha, Ne.symm ha]
end Go.Proofs.YtmccafjblhbmkaaGreat
set_option maxRecDepth 100000
set_option linter.unusedSimpArgs false
set_option linter.unusedVariables false
namespace Go.Proofs.YtmccafjblhbmkaaGreat
open Go Go.RowKit
def idleF (R p : List Int) : Bool := decide ((runsL (tubeAt R (p.getD 0 0).toNat)).length / 2 = 1) && decide (layN (tubeAt R (p.getD 1 0).toNat) = 0)
def okP (p : List Int) : Prop := p.length = 2 ∧ (0 ≤ p.getD 0 0 ∧ p.getD 0 0 ≤ 5) ∧ (0 ≤ p.getD 1 0 ∧ p.getD 1 0 ≤ 5)
theorem okP_take {p : List Int} (h : okP p) : p.take 2 = p := List.take_of_length_le (by have := h.1; omega)
--@tbl isIdle = impl.isIdle
theorem isIdle_ok (R p : List Int) (hR : R.length = 24) (hp : okP p) : PureH Tryz.prog 133 [.arr R, .arr p] [] (.bool (idleF R p)) := by
  have tkR : R.take 24 = R := List.take_of_length_le (by omega)
  have tkp := okP_take hp
  obtain ⟨pl, b0, b1⟩ := hp
  have e0 : List.take 4 (List.drop ((p.getD 0 0).toNat * 4) R) = tubeAt R (p.getD 0 0).toNat := rfl
  have e1 : List.take 4 (List.drop ((p.getD 1 0).toNat * 4) R) = tubeAt R (p.getD 1 0).toNat := rfl
  have l0 := tubeAt_len hR (i := (p.getD 0 0).toNat) (by omega)
  have l1 := tubeAt_len hR (i := (p.getD 1 0).toNat) (by omega)
  obtain ⟨n, hn, hn4, _⟩ := runsL_even _ l0
  have hn2 : (runsL (tubeAt R (p.getD 0 0).toNat)).length / 2 = n := by omega
  unfold idleF
  rw [hn2]
  refine pure_of_vc (X := ⟨Tryz.prog, tys, [(135, layers_F)], [(147, runs_F)], true, true, 0, [], []⟩) fn_133 ⟨tys_ok, (.cons layers_T .nil), (.cons runs_T .nil), mixed⟩ (n0 := 0) (Nat.le_of_ble_eq_true rfl) (by simp [wfL, SV.wf]) (wfH_spec (by simp [wfH, SObj.wf])) (Nat.le_refl _) (fun _ => by simp [SV.wf, wfL]) ?_
  simp -implicitDefEqProofs only [Tryz.f133, Option.getD_some, argS, layers_F, runs_F, hR, tkR, tkp, pl, e0, e1, l0, l1, hn2, freshK, Wrap.ap, ZB, Int.reduceToNat, Nat.reduceLT, Nat.reduceLeDiff, Int.reduceLE, Int.reduceLT, Nat.reduceEqDiff, Nat.reduceSub, SB, SV.known, packR, ne_eq, reduceCtorEq, Nat.reduceEqDiff, ↓reduceIte, if_true, if_false, eq_self, Nat.reduceAdd, Nat.reduceMul, Nat.reduceSub, forall_const, oneCellS, litOne, flat1, Kd.isSca, flat, TYB]
  refine ⟨by omega, by omega, by omega, fun h0 => ?_, fun h0 cap junk hj => ?_⟩
  · have h00 : n = 0 := by rw [h0] at hn; simp at hn; omega
    subst h00
    exact ⟨fun h => by omega, fun _ => by simp⟩
  · refine ⟨fun h => ⟨by omega, by omega, by omega, ?_⟩, fun h => ?_⟩
    · have : n = 1 := by omega
      subst this
      simp
    · have : ¬ n = 1 := by omega
      simp [this]
def isIdle_F : List SV → Heap → Option (Prop × SV)
  | [.arr R, .arr p], _ => some (R.length = 24 ∧ okP p, .bool (idleF R p))
  | _, _ => none
theorem isIdle_T : ∀ args H p v, isIdle_F args H = some (p, v) → p → PureH Tryz.prog 133 args H v := by
  intro args H p v h hp
  unfold isIdle_F at h
  split at h
  · cases h; exact (isIdle_ok _ _ hp.1 hp.2).any _
  · cases h
/-! DeleteFunc with a closure over one rack. -/
--@tbl delR = slices.DeleteFunc[[][2]int,[2]int]
def delR_F (g : Nat) (pr : List Int → List Int → Bool) (Q : List Int → List Int → Prop) : List SV → Heap → Nat → Nat → K1 → Prop
  | [.slice b 0 len cap, .fn f [.ptr k 0]], H, n, m, κ => match hget H b, hget H k with
    | some (.ints L e), some (.ints R _) => f = g ∧ R.length = 24 ∧ L.length = cap * 2 ∧ len ≤ cap ∧ len ≤ 4611686018427387903 ∧ b ≠ k ∧ m ≤ b ∧ (∀ i, i < len → Q R ((L.drop (i * 2)).take 2)) ∧
        κ (.slice b 0 ((kept (fun x => !pr R x) L len).length / 2) cap) ((b, .ints (kept (fun x => !pr R x) L len ++ List.replicate (len * 2 - (kept (fun x => !pr R x) L len).length) 0 ++ L.drop (len * 2)) e) :: H) n
    | _, _ => False
  | [.nils, .fn _ [.ptr k 0]], H, n, _, κ => match hget H k with
    | some (.ints _ _) => κ .nils H n
    | _ => False
  | _, _, _, _, _ => False
theorem delR_T (g : Nat) (pr : List Int → List Int → Bool) (Q : List Int → List Int → Prop) (hg : g ≠ 146) (hc : ∀ (R : List Int) (e : Nat) (p : List Int), R.length = 24 → Q R p → PureH Tryz.prog g [.arr p, .ptr 0 0] [(0, .ints R e)] (.bool (pr R p))) :
    ∀ args H n m κ, delR_F g pr Q args H n m κ → GenOK Tryz.prog 112 args H n m κ := by
  intro args H n m κ h
  unfold delR_F at h
  split at h
  · rename_i b len cap f k
    split at h
    · rename_i L e R e2 h1 h2
      obtain ⟨rfl, hR, hL, hlc, hm, hbk, hmb, hQ, h⟩ := h
      have hu := deleteFunc_ok f hg [.ptr 0 0] [(0, .ints R e2)] (pr R) 1 L e len cap hL hlc hm (Q R) hQ (fun x hx => hc R e2 x hR hx) (by simp [wfL, SV.wf]) (wfH_spec (by simp [wfH, SObj.wf]))
      have := gen_of_upd (H := H) (n := n) (m := m) (κ := κ) hu (fun j => if j = 1 then b else k) (fun j o1 hj => by
        simp only [hget_cons] at hj
        split at hj
        · rename_i hj1; cases hj; rw [if_pos hj1]; exact h1
        · rename_i hj1
          split at hj
          · cases hj; rw [if_neg hj1]; exact h2
          · cases hj) (fun j1 o1 j2 o2 g1 g2 he => by
        simp only [hget_cons] at g1 g2
        by_cases q1 : j1 = 1
        · by_cases q2 : j2 = 1
          · omega
          · simp only [q1, q2, if_true, if_false] at he; omega
        · by_cases q2 : j2 = 1
          · simp only [q1, q2, if_true, if_false] at he; omega
          · rw [if_neg q1] at g1
            rw [if_neg q2] at g2
            split at g1
            · split at g2
              · omega
              · cases g2
            · cases g1) (by simpa using hmb) rfl (fun n hn => by simpa [SV.wf, SV.ren] using hn) (by simpa [SV.ren] using h)
      simpa [renL, SV.ren] using this
    · exact h.elim
  · rename_i f k
    split at h
    · rename_i R e2 h2
      refine ⟨(deleteFunc_nil f [.ptr k 0] [] (k + 1) (by simp [wfL, SV.wf]) (hwf_nil _)).ent, fun B M w hH hwH hwa hown hM => ?_⟩
      have hp := deleteFunc_nil f [.ptr k 0] [] (k + 1) (by simp [wfL, SV.wf]) (hwf_nil _)
      refine (hp.call B w (HR.nil B w)).mono fun e w' hh => ?_
      exact ⟨.nils, H, n, B, hh.1, h, Nat.le_refl _, trivial, hwH, fun _ _ => rfl, hH.of_below hh.2, hown, Kept.of_below hh.2⟩
    · exact h.elim
  · exact h.elim
--@tbl useful = impl.useful
theorem useful1_ok (R : List Int) (e : Nat) (p : List Int) (hR : R.length = 24) (hp : okP p) : PureH Tryz.prog 132 [.arr p, .ptr 0 0] [(0, .ints R e)] (.bool (idleF R p)) := by
  have tkR : R.take 24 = R := List.take_of_length_le (by omega)
  refine pure_of_vc (X := ⟨Tryz.prog, tys, [(133, isIdle_F)], [], true, true, 1, [], []⟩) fn_132 ⟨tys_ok, (.cons isIdle_T .nil), .nil, mixed⟩ (n0 := 1) (Nat.le_of_ble_eq_true rfl) (by simp [wfL, SV.wf]) (wfH_spec (by simp [wfH, SObj.wf])) (Nat.le_refl _) (fun _ => by simp [SV.wf, wfL]) ?_
  simp -implicitDefEqProofs only [Tryz.f132, Option.getD_some, argS, isIdle_F, hR, tkR, ZB, Int.reduceToNat, Nat.reduceLT, Nat.reduceLeDiff, Int.reduceLE, Int.reduceLT, Nat.reduceEqDiff, Nat.reduceSub, SB, SV.known, packR, ne_eq, reduceCtorEq, Nat.reduceEqDiff, ↓reduceIte, if_true, if_false, eq_self, Nat.reduceAdd, Nat.reduceMul, Nat.reduceSub, forall_const, oneCellS, litOne, flat1, Kd.isSca, flat, TYB]
  have tkp := okP_take hp
  rw [tkp]
  exact ⟨by have := hp.1; omega, hp, rfl⟩
def uDel_F := delR_F 132 idleF (fun _ p => okP p)
--@tbl uDel = slices.DeleteFunc[[][2]int,[2]int]
theorem uDel_T : ∀ args H n m κ, uDel_F args H n m κ → GenOK Tryz.prog 112 args H n m κ := delR_T _ _ _ (by decide) useful1_ok
def ulF (R : List Int) : List Int := kept (fun p => !idleF R p) (PL R 36) ((PL R 36).length / 2)
theorem PL_okP (R : List Int) (i : Nat) (junk : List Int) (h : i * 2 + 2 ≤ (PL R 36).length) : okP (List.take 2 (List.drop (i * 2) (PL R 36 ++ junk))) := by
  have hbd : Bd 0 5 (PL R 36) := PL_bd R 36 (by omega)
  rw [take2_drop _ _ (by rw [List.length_append]; omega), getD_app _ _ _ (by omega), getD_app _ _ _ (by omega)]
  exact ⟨rfl, hbd.getD (by omega), hbd.getD (by omega)⟩
theorem useful_ok (R : List Int) (hR : R.length = 24) : FreshP Tryz.prog 84 [.arr R] [] (ulF R) ((ulF R).length / 2) 2 65 (decide (PL R 36 = [])) .one := by
  have tkR : R.take 24 = R := List.take_of_length_le (by omega)
  refine fresh_of_vc (X := ⟨Tryz.prog, tys, [], [(102, pours_F), (112, uDel_F)], true, true, 0, [], []⟩) fn_84 ⟨tys_ok, .nil, (.cons pours_T (.cons uDel_T .nil)), mixed⟩ (n0 := 0) rfl (Nat.le_of_ble_eq_true rfl) (by simp [wfL, SV.wf]) (wfH_spec (by simp [wfH, SObj.wf])) (Nat.le_refl _) ?_
  simp -implicitDefEqProofs only [Tryz.f84, Option.getD_some, argS, pours_F, uDel_F, hR, tkR, freshK, Wrap.ap, uDel_F, delR_F, ZB, Int.reduceToNat, Nat.reduceLT, Nat.reduceLeDiff, Int.reduceLE, Int.reduceLT, Nat.reduceEqDiff, Nat.reduceSub, SB, SV.known, packR, ne_eq, reduceCtorEq, Nat.reduceEqDiff, ↓reduceIte, if_true, if_false, eq_self, Nat.reduceAdd, Nat.reduceMul, Nat.reduceSub, forall_const, oneCellS, litOne, flat1, Kd.isSca, flat, TYB]
  obtain ⟨m, hm, hm36⟩ := PL_even R 36
  have e2 : (PL R 36).length / 2 = m := by omega
  have uf : ulF R = kept (fun p => !idleF R p) (PL R 36) m := by unfold ulF; rw [e2]
  refine ⟨fun h0 => ?_, fun h0 cap junk hj => ?_⟩
  · refine .inl ⟨by simp [h0], ?_, rfl⟩
    rw [uf, show m = 0 by rw [h0] at hm; simp at hm; omega]; rfl
  · have ka := kept_app (fun p => !idleF R p) (PL R 36) junk m (by omega)
    obtain ⟨k, hk, hkm⟩ := kept_even (fun p => !idleF R p) (PL R 36) m (by omega)
    rw [e2, ka]
    refine ⟨by rw [List.length_append]; omega, by omega, by omega, fun i hi => ?_, .inr ⟨1, cap, List.replicate (m * 2 - (kept (fun p => !idleF R p) (PL R 36) m).length) 0 ++ List.drop (m * 2) (PL R 36 ++ junk), ?_, ?_, by omega, ?_, by simp [h0]⟩⟩
    · exact PL_okP R i junk (by omega)
    · rw [uf]; rfl
    · rw [uf, hget_cons, if_pos rfl, List.append_assoc]
    · rw [uf, List.length_append, List.length_replicate, List.length_drop, List.length_append]
      omega
def useful_F : List SV → Heap → Nat → Nat → K1 → Prop
  | [.arr R], H, n, _, κ => R.length = 24 ∧ freshK .one (ulF R) ((ulF R).length / 2) 2 65 (decide (PL R 36 = [])) H n κ
  | _, _, _, _, _ => False
theorem useful_T : ∀ args H n m κ, useful_F args H n m κ → GenOK Tryz.prog 84 args H n m κ := by
  intro args H n m κ h
  unfold useful_F at h
  split at h
  · exact gen_of_fresh (useful_ok _ h.1) (fun k o hk => by cases hk) h.2
  · exact h.elim
/-! The model's. -/
--@tbl l2Idle = spec.l2Idle
theorem ulF_even (R : List Int) : ∃ k, (ulF R).length = k * 2 ∧ k ≤ 36 := by
  obtain ⟨m, hm, hm36⟩ := PL_even R 36
  obtain ⟨k, hk, hkm⟩ := kept_even (fun p => !idleF R p) (PL R 36) m (by omega)
  have e2 : (PL R 36).length / 2 = m := by omega
  exact ⟨k, by unfold ulF; rw [e2]; exact hk, by omega⟩
end Go.Proofs.YtmccafjblhbmkaaGreat
set_option maxRecDepth 100000
set_option linter.unusedSimpArgs false
set_option linter.unusedVariables false
namespace Go.Proofs.YtmccafjblhbmkaaGreat
open Go Go.RowKit
def prG (c : Nat → Nat → Bool) (k : Nat) : List Int := if c (k / 6) (k % 6) = true then [((k / 6 : Nat) : Int), ((k % 6 : Nat) : Int)] else []
def GL (c : Nat → Nat → Bool) (m : Nat) : List Int := (List.range m).flatMap (prG c)
theorem GL_zero (c : Nat → Nat → Bool) : GL c 0 = [] := rfl
theorem GL_succ (c : Nat → Nat → Bool) (m : Nat) : GL c (m + 1) = GL c m ++ prG c m := by simp [GL, List.range_succ]
theorem GL_even (c : Nat → Nat → Bool) : ∀ m, ∃ n, (GL c m).length = n * 2 ∧ n ≤ m
  | 0 => ⟨0, rfl, by omega⟩
  | m + 1 => by
    obtain ⟨n, h1, h2⟩ := GL_even c m
    rw [GL_succ, List.length_append, h1]
    unfold prG
    split
    · exact ⟨n + 1, by simp; omega, by omega⟩
    · exact ⟨n, by simp, by omega⟩
theorem PL_GL (R : List Int) (m : Nat) : PL R m = GL (fun i j => canF R i j) m := rfl
/-- Pairs that are kept out of pairs by a condition: pairs by both. -/
theorem kept_GL (c d : Nat → Nat → Bool) (np : List Int → Bool) (h : ∀ i j, i < 6 → j < 6 → c i j = true → np [(i : Int), (j : Int)] = d i j) (hd : ∀ i j, i < 6 → j < 6 → d i j = true → c i j = true) :
    ∀ m, m ≤ 36 → ∃ n, (GL c m).length = n * 2 ∧ kept np (GL c m) n = GL d m
  | 0, _ => ⟨0, rfl, rfl⟩
  | m + 1, hm => by
    obtain ⟨n, h1, h2⟩ := kept_GL c d np h hd m (by omega)
    have a1 : m / 6 < 6 := by omega
    have a2 : m % 6 < 6 := by omega
    rw [GL_succ c, GL_succ d]
    unfold prG
    cases hc : c (m / 6) (m % 6) with
    | false =>
      have : d (m / 6) (m % 6) = false := by
        cases hdd : d (m / 6) (m % 6) with
        | false => rfl
        | true => rw [hd _ _ a1 a2 hdd] at hc; cases hc
      rw [this]
      exact ⟨n, by simpa using h1, by simpa using h2⟩
    | true =>
      refine ⟨n + 1, by simp [h1]; omega, ?_⟩
      have e0 : (((GL c m ++ [((m / 6 : Nat) : Int), ((m % 6 : Nat) : Int)]).drop (n * 2)).take 2) = [((m / 6 : Nat) : Int), ((m % 6 : Nat) : Int)] := by rw [List.drop_left' h1]; rfl
      simp only [if_true]
      rw [kept_succ, kept_app _ _ _ _ (by omega), h2, e0, h _ _ a1 a2 hc]
/-- A slice that grows: nothing yet, or block b. -/
def outVn (b i len cap : Nat) : SV := match i with
  | 0 => .nils
  | _ + 1 => .slice b 0 len cap
def outHn (b i : Nat) (L : List Int) (e : Nat) (base : Heap) : Heap := match i with
  | 0 => base
  | _ + 1 => (b, .ints L e) :: base
theorem outVn_zero (b len cap : Nat) : outVn b 0 len cap = .nils := rfl
theorem outVn_succ (b i len cap : Nat) : outVn b (i + 1) len cap = .slice b 0 len cap := rfl
theorem outHn_zero (b : Nat) (L : List Int) (e : Nat) (base : Heap) : outHn b 0 L e base = base := rfl
theorem outHn_succ (b i : Nat) (L : List Int) (e : Nat) (base : Heap) : outHn b (i + 1) L e base = (b, .ints L e) :: base := rfl
theorem hget_outHn (b n : Nat) (L : List Int) (e : Nat) (base : Heap) (k : Nat) : hget (outHn b n L e base) k = if k = b then (if n = 0 then hget base k else some (.ints L e)) else hget base k := by
  cases n with
  | zero => rw [outHn_zero]; simp
  | succ n => rw [outHn_succ, hget_cons]; simp
theorem known_outVn (b n l c : Nat) : (outVn b n l c).known = true := by cases n <;> rfl
theorem GL_pair (c : Nat → Nat → Bool) : ∀ m, m ≤ 36 → ∀ i, i * 2 + 2 ≤ (GL c m).length → ∃ a b : Nat, a < 6 ∧ b < 6 ∧ c a b = true ∧ ((GL c m).drop (i * 2)).take 2 = [(a : Int), (b : Int)]
  | 0, _, i, h => by simp [GL_zero] at h
  | m + 1, hm, i, h => by
    obtain ⟨n, hn, _⟩ := GL_even c m
    rw [GL_succ, List.length_append, hn] at h
    by_cases hi : i * 2 + 2 ≤ n * 2
    · obtain ⟨a, b, h1, h2, h3, h4⟩ := GL_pair c m (by omega) i (by omega)
      refine ⟨a, b, h1, h2, h3, ?_⟩
      rw [GL_succ, List.drop_append_of_le_length (by omega), List.take_append_of_le_length (by rw [List.length_drop]; omega)]
      exact h4
    · unfold prG at h
      split at h
      · rename_i hc
        simp at h
        have : i = n := by omega
        subst this
        refine ⟨m / 6, m % 6, by omega, by omega, hc, ?_⟩
        rw [GL_succ, List.drop_left' hn]
        unfold prG
        rw [if_pos hc]; rfl
      · simp at h; omega
end Go.Proofs.YtmccafjblhbmkaaGreat
set_option maxRecDepth 100000
set_option linter.unusedSimpArgs false
set_option linter.unusedVariables false
namespace Go.Proofs.YtmccafjblhbmkaaGreat
open Go Go.RowKit
/-! Lists of racks. -/
def all24 (Q : List (List Int)) : Prop := ∀ x ∈ Q, x.length = 24
theorem flat_len : ∀ {Q : List (List Int)}, all24 Q → Q.flatten.length = Q.length * 24
  | [], _ => rfl
  | x :: Q, h => by
    rw [List.flatten_cons, List.length_append, flat_len fun y hy => h y (List.mem_cons_of_mem _ hy), h x (List.mem_cons_self ..), List.length_cons]; omega
theorem flat_get : ∀ {Q : List (List Int)}, all24 Q → ∀ {i : Nat}, i < Q.length → ∀ J, ((Q.flatten ++ J).drop (i * 24)).take 24 = Q.getD i []
  | [], _, i, hi, _ => by simp at hi
  | x :: Q, h, i, hi, J => by
    have hx := h x (List.mem_cons_self ..)
    rw [List.flatten_cons, List.append_assoc]
    cases i with
    | zero => rw [Nat.zero_mul, List.drop_zero, List.take_left' hx]; rfl
    | succ i =>
      rw [show (i + 1) * 24 = 24 + i * 24 by omega, ← List.drop_drop, List.drop_left' hx, flat_get (fun y hy => h y (List.mem_cons_of_mem _ hy)) (by simpa using hi) J]
      rfl
theorem getD_mem {Q : List (List Int)} {i : Nat} (hi : i < Q.length) : Q.getD i [] ∈ Q := by
  rw [List.getD_eq_getElem?_getD, List.getElem?_eq_getElem hi]; exact List.getElem_mem hi
theorem take_succ_getD {α : Type} (Q : List (List α)) (i : Nat) (hi : i < Q.length) : Q.take (i + 1) = Q.take i ++ [Q.getD i []] := by
  rw [List.take_succ_eq_append_getElem hi, List.getD_eq_getElem?_getD, List.getElem?_eq_getElem hi]; rfl
/-! Maps that know racks. -/
/-! What is new. -/
def nwS (K O : List (List Int)) (x : List Int) : List (List Int) := if x ∈ K ++ O then O else O ++ [x]
def nwF (K xs : List (List Int)) : List (List Int) := xs.foldl (nwS K) []
theorem nwF_nil (K : List (List Int)) : nwF K [] = [] := rfl
theorem nwF_snoc (K xs : List (List Int)) (x : List Int) : nwF K (xs ++ [x]) = nwS K (nwF K xs) x := by simp [nwF, List.foldl_append]
theorem nwF_old {K xs : List (List Int)} {x : List Int} (h : x ∈ K ++ nwF K xs) : nwF K (xs ++ [x]) = nwF K xs := by rw [nwF_snoc, nwS, if_pos h]
theorem nwF_new {K xs : List (List Int)} {x : List Int} (h : x ∉ K ++ nwF K xs) : nwF K (xs ++ [x]) = nwF K xs ++ [x] := by rw [nwF_snoc, nwS, if_neg h]
theorem snoc_ind {α : Type} {P : List α → Prop} (h0 : P []) (h1 : ∀ l x, P l → P (l ++ [x])) (l : List α) : P l := by
  have : P l.reverse.reverse := by
    generalize l.reverse = r
    induction r with
    | nil => exact h0
    | cons x r ih => rw [List.reverse_cons]; exact h1 _ _ ih
  rwa [List.reverse_reverse] at this
theorem nwF_sub (K xs : List (List Int)) : ∀ y ∈ nwF K xs, y ∈ xs ∧ y ∉ K := by
  refine snoc_ind (P := fun xs => ∀ y ∈ nwF K xs, y ∈ xs ∧ y ∉ K) (by simp [nwF]) (fun l x ih y hy => ?_) xs
  by_cases h : x ∈ K ++ nwF K l
  · rw [nwF_old h] at hy
    exact ⟨List.mem_append_left _ (ih y hy).1, (ih y hy).2⟩
  · rw [nwF_new h] at hy
    rcases List.mem_append.1 hy with hy | hy
    · exact ⟨List.mem_append_left _ (ih y hy).1, (ih y hy).2⟩
    · simp at hy; subst hy
      exact ⟨by simp, fun hK => h (List.mem_append_left _ hK)⟩
theorem nwF_len (K xs : List (List Int)) : (nwF K xs).length ≤ xs.length := by
  refine snoc_ind (P := fun xs => (nwF K xs).length ≤ xs.length) (by simp [nwF]) (fun l x ih => ?_) xs
  rw [nwF_snoc, nwS]
  split <;> simp <;> omega
end Go.Proofs.YtmccafjblhbmkaaGreat
set_option maxRecDepth 100000
set_option linter.unusedSimpArgs false
set_option linter.unusedVariables false
namespace Go.Proofs.YtmccafjblhbmkaaGreat
open Go Go.RowKit
/-! Sorted lists without equals. -/
end Go.Proofs.YtmccafjblhbmkaaGreat
