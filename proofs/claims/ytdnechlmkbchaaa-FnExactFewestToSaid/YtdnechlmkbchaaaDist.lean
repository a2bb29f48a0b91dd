/- Walks: DistinctPours. -/
import Derived.Test.YtdnechlmkbchaaaSrtF
import Derived.Test.YtdnechlmkbchaaaMap
import Derived.Test.YtdnechlmkbchaaaVal
import Derived.Test.YtdnechlmkbchaaaSl
set_option maxRecDepth 100000
set_option linter.unusedSimpArgs false
set_option linter.unusedVariables false
namespace Go.Proofs.Ytdnechlmkbchaaa
open Go Go.RowKit
def diX (R : List Int) (q : Nat) : List Int := frm (pourF R ((ulF R).getD (q * 2) 0).toNat ((ulF R).getD (q * 2 + 1) 0).toNat)
def diS (R : List Int) : Nat → List (List Int) × List Int
  | 0 => ([], [])
  | q + 1 => if diX R q ∈ (diS R q).1 then diS R q else ((diS R q).1 ++ [diX R q], (diS R q).2 ++ [(ulF R).getD (q * 2) 0, (ulF R).getD (q * 2 + 1) 0])
theorem diS_old {R : List Int} {q : Nat} (h : diX R q ∈ (diS R q).1) : diS R (q + 1) = diS R q := if_pos h
theorem diS_new {R : List Int} {q : Nat} (h : diX R q ∉ (diS R q).1) : diS R (q + 1) = ((diS R q).1 ++ [diX R q], (diS R q).2 ++ [(ulF R).getD (q * 2) 0, (ulF R).getD (q * 2 + 1) 0]) := if_neg h
theorem diS_len (R : List Int) : ∀ q, (diS R q).2.length = (diS R q).1.length * 2 ∧ (diS R q).1.length ≤ q
  | 0 => ⟨rfl, Nat.le_refl _⟩
  | q + 1 => by
    have ih := diS_len R q
    by_cases h : diX R q ∈ (diS R q).1
    · rw [diS_old h]; exact ⟨ih.1, by omega⟩
    · rw [diS_new h]; simp; omega
theorem kept_bd {np : List Int → Bool} {L : List Int} {a b : Int} (h : Bd a b L) : ∀ k, Bd a b (kept np L k)
  | 0 => fun x hx => by simp [kept_zero] at hx
  | k + 1 => fun x hx => by
    rw [kept_succ] at hx
    rcases List.mem_append.1 hx with hx | hx
    · exact kept_bd h k x hx
    · split at hx
      · exact (h.drop _).take _ x hx
      · simp at hx
theorem ul_bd {R : List Int} {q : Nat} (h : q * 2 + 2 ≤ (ulF R).length) : (0 ≤ (ulF R).getD (q * 2) 0 ∧ (ulF R).getD (q * 2) 0 ≤ 5) ∧ (0 ≤ (ulF R).getD (q * 2 + 1) 0 ∧ (ulF R).getD (q * 2 + 1) 0 ≤ 5) := by
  have hbd : Bd 0 5 (ulF R) := kept_bd (PL_bd R 36 (by omega)) _
  exact ⟨hbd.getD (by omega), hbd.getD (by omega)⟩
theorem diX_len {R : List Int} (hR : R.length = 24) (q : Nat) : (diX R q).length = 24 := frm_len (pourF_len hR _ _)
theorem diS_24 {R : List Int} (hR : R.length = 24) : ∀ q, all24 (diS R q).1
  | 0 => fun x hx => by simp [diS] at hx
  | q + 1 => by
    have ih := diS_24 hR q
    by_cases h : diX R q ∈ (diS R q).1
    · rw [diS_old h]; exact ih
    · rw [diS_new h]
      intro x hx
      rcases List.mem_append.1 hx with hx | hx
      · exact ih x hx
      · simp at hx; subst hx; exact diX_len hR q
def diF (R : List Int) : List Int := if rackB R = true then (diS R ((ulF R).length / 2)).2 else []
theorem DistinctPours_ok (R : List Int) (hR : R.length = 24) : FreshP Try.prog 17 [.arr R] [] (diF R) ((diF R).length / 2) 2 51 true (.more [.bool (rackB R)]) := by
  have tkR : R.take 24 = R := List.take_of_length_le (by omega)
  unfold diF
  cases hr : rackB R
  · refine fresh_of_vc (X := ⟨Try.prog, tys, [(51, IsRack_F), (53, pour_F), (54, formOf_F)], [(52, useful_F)], true, true, 0, [], []⟩) fn_17 ⟨tys_ok, (.cons IsRack_T (.cons pour_T (.cons formOf_T .nil))), (.cons useful_T .nil), mixed⟩ (n0 := 0) rfl (Nat.le_of_ble_eq_true rfl) (by simp [wfL, SV.wf]) (wfH_spec (by simp [wfH, SObj.wf])) (Nat.le_refl _) ?_
    simp -implicitDefEqProofs only [Try.f17, Option.getD_some, argS, IsRack_F, pour_F, formOf_F, useful_F, hR, tkR, hr, freshK, Wrap.ap, ZB, Int.reduceToNat, Nat.reduceLT, Nat.reduceLeDiff, Int.reduceLE, Int.reduceLT, Nat.reduceEqDiff, Nat.reduceSub, SB, SV.known, packR, ne_eq, reduceCtorEq, Nat.reduceEqDiff, ↓reduceIte, if_true, if_false, eq_self, Nat.reduceAdd, Nat.reduceMul, Nat.reduceSub, forall_const, oneCellS, litOne, flat1, Kd.isSca, flat, TYB]
    exact .inl ⟨rfl, rfl, rfl⟩
  · refine fresh_of_vc (X := ⟨Try.prog, tys, [(51, IsRack_F), (53, pour_F), (54, formOf_F)], [(52, useful_F)], true, true, 0, [], []⟩) fn_17 ⟨tys_ok, (.cons IsRack_T (.cons pour_T (.cons formOf_T .nil))), (.cons useful_T .nil), mixed⟩ (n0 := 0) rfl (Nat.le_of_ble_eq_true rfl) (by simp [wfL, SV.wf]) (wfH_spec (by simp [wfH, SObj.wf])) (Nat.le_refl _) ?_
    simp -implicitDefEqProofs only [Try.f17, Option.getD_some, argS, IsRack_F, pour_F, formOf_F, useful_F, hR, tkR, hr, freshK, Wrap.ap, ZB, Int.reduceToNat, Nat.reduceLT, Nat.reduceLeDiff, Int.reduceLE, Int.reduceLT, Nat.reduceEqDiff, Nat.reduceSub, SB, SV.known, packR, ne_eq, reduceCtorEq, Nat.reduceEqDiff, ↓reduceIte, if_true, if_false, eq_self, Nat.reduceAdd, Nat.reduceMul, Nat.reduceSub, forall_const, oneCellS, litOne, flat1, Kd.isSca, flat, TYB]
    obtain ⟨np, hnp, hnp36⟩ := ulF_even R
    have ehp : (ulF R).length / 2 = np := by omega
    rw [ehp]
    refine ⟨fun _ h0 => ?_, fun h1 cp jp hjp => ?_⟩
    · obtain rfl : np = 0 := by rw [h0] at hnp; simp at hnp; omega
      refine loop_intro (fun _ : Unit => [(18, .int 0), (17, .int 0), (16, .nils), (5, .nils), (4, .mp 1), (1, .ptr 0 0)]) (fun _ => [(1, .mp true []), (0, .ints R 29)]) 2 (fun _ => True) (fun _ => 0) ?_ ?_
      · refine ⟨(), trivial, Sub.mk_id ?_ ?_ ?_ ?_ ?_⟩
        all_goals ((try simp only [LB, subS, subH, wfS, wfH, SV.ren, renL, SObj.ren, SV.wf, SObj.wf, wfL, SV.known, Nat.reduceEqDiff, ↓reduceIte, if_true, if_false, eq_self, Nat.reduceAdd, Nat.reduceLT, Nat.reduceLeDiff, implies_true, reduceCtorEq, forall_const]) <;> simp)
      · intro _ _
        simp -implicitDefEqProofs only [lk_normal, Int.lt_irrefl, ZB, Int.reduceToNat, Nat.reduceLT, Nat.reduceLeDiff, Int.reduceLE, Int.reduceLT, Nat.reduceEqDiff, Nat.reduceSub, SB, SV.known, packR, ne_eq, reduceCtorEq, Nat.reduceEqDiff, ↓reduceIte, if_true, if_false, eq_self, Nat.reduceAdd, Nat.reduceMul, Nat.reduceSub, forall_const, oneCellS, litOne, flat1, Kd.isSca, flat, TYB]
        exact .inl ⟨rfl, rfl, rfl⟩
    · have lenP : (ulF R ++ jp).length = cp * 2 := by rw [List.length_append]; omega
      refine loop_intro (fun s : Nat × Nat × List Int => [(18, .int s.1), (17, .int np), (16, .slice 2 0 np cp), (5, outVn 3 (diS R s.1).1.length (diS R s.1).1.length s.2.1), (4, .mp 1), (1, .ptr 0 0)])
        (fun s => outHn 3 (diS R s.1).1.length ((diS R s.1).2 ++ s.2.2) 51 [(2, .ints (ulF R ++ jp) 51), (1, .mp true (mk1 (diS R s.1).1)), (0, .ints R 29)]) 4
        (fun s => s.1 ≤ np ∧ s.2.2.length + (diS R s.1).1.length * 2 = s.2.1 * 2) (fun s => np - s.1) ?_ ?_
      · refine ⟨(0, 0, []), ⟨by simp, by simp [diS]⟩, Sub.mk_id ?_ ?_ ?_ ?_ ?_⟩
        all_goals simp only [diS, List.length_nil, outVn_zero, outHn_zero, mk1_nil, LB, subS, subH, wfS, wfH, SV.ren, renL, SObj.ren, SV.wf, SObj.wf, wfL, SV.known, Nat.reduceEqDiff, ↓reduceIte, if_true, if_false, eq_self, Nat.reduceAdd, Nat.reduceLT, Nat.reduceLeDiff, implies_true, reduceCtorEq, forall_const]
        all_goals (try simp)
      · rintro ⟨q, c, j⟩ ⟨hq, hj⟩
        simp only at hq hj
        obtain ⟨dl, dq⟩ := diS_len R q
        have d24 := diS_24 hR q
        by_cases hlt : q < np
        · have hql : (q : Int) < np := by omega
          obtain ⟨a0, b0⟩ := ul_bd (R := R) (q := q) (by omega)
          have eP : List.take 2 (List.drop (q * 2) (ulF R ++ jp)) = [(ulF R).getD (q * 2) 0, (ulF R).getD (q * 2 + 1) 0] := by
            rw [take2_drop _ _ (by rw [List.length_append]; omega), getD_app _ _ _ (by omega), getD_app _ _ _ (by omega)]
          have pl := pourF_len hR ((ulF R).getD (q * 2) 0).toNat ((ulF R).getD (q * 2 + 1) 0).toNat
          have tkp := List.take_of_length_le (Nat.le_of_eq pl)
          have xl := diX_len hR q
          have tkx := List.take_of_length_le (Nat.le_of_eq xl)
          have ex : frm (pourF R ((ulF R).getD (q * 2) 0).toNat ((ulF R).getD (q * 2 + 1) 0).toNat) = diX R q := rfl
          have kI := keyI_rack
          have kOK := mk1_keys d24
          have mg := mget_mk1 (diX R q) (diS R q).1
          have z1 : ¬ (0 : Int) = 1 := by omega
          by_cases hin : diX R q ∈ (diS R q).1
          · have eo := diS_old hin
            have ms := mset_mk1_in hin
            rw [if_pos hin] at mg
            simp -implicitDefEqProofs only [lk_normal, pour_F, formOf_F, hget_outHn, known_outVn, hql, eP, lenP, hR, tkR, a0, b0, pl, tkp, ex, xl, tkx, kI, kOK, mg, ms, z1, List.getD_cons_zero, List.getD_cons_succ, ZB, Int.reduceToNat, Nat.reduceLT, Nat.reduceLeDiff, Int.reduceLE, Int.reduceLT, Nat.reduceEqDiff, Nat.reduceSub, SB, SV.known, packR, ne_eq, reduceCtorEq, Nat.reduceEqDiff, ↓reduceIte, if_true, if_false, eq_self, Nat.reduceAdd, Nat.reduceMul, Nat.reduceSub, forall_const, oneCellS, litOne, flat1, Kd.isSca, flat, TYB]
            refine ⟨by omega, by omega, by unfold In64; omega, (q + 1, c, j), ⟨by simp only; omega, by simp only [eo]; exact hj⟩, by simp only; omega, Sub.mk_id ?_ ?_ ?_ ?_ ?_⟩
            all_goals (try simp only [eo])
            all_goals (cases (diS R q).1.length <;> simp only [outVn_zero, outVn_succ, outHn_zero, outHn_succ, LB, subS, subH, wfS, wfH, SV.ren, renL, SObj.ren, SV.wf, SObj.wf, wfL, SV.known, Nat.reduceEqDiff, ↓reduceIte, if_true, if_false, eq_self, Nat.reduceAdd, Nat.reduceLT, Nat.reduceLeDiff, implies_true, reduceCtorEq, forall_const] <;> simp)
          · have eo := diS_new hin
            have ms := mset_mk1 hin
            rw [if_neg hin] at mg
            cases hn : (diS R q).1.length with
            | zero =>
              simp -implicitDefEqProofs only [lk_normal, pour_F, formOf_F, hget_outHn, known_outVn, hql, eP, lenP, hR, tkR, a0, b0, pl, tkp, ex, xl, tkx, kI, kOK, mg, ms, z1, outVn_zero, outHn_zero, List.getD_cons_zero, List.getD_cons_succ, ZB, Int.reduceToNat, Nat.reduceLT, Nat.reduceLeDiff, Int.reduceLE, Int.reduceLT, Nat.reduceEqDiff, Nat.reduceSub, SB, SV.known, packR, ne_eq, reduceCtorEq, Nat.reduceEqDiff, ↓reduceIte, if_true, if_false, eq_self, Nat.reduceAdd, Nat.reduceMul, Nat.reduceSub, forall_const, oneCellS, litOne, flat1, Kd.isSca, flat, TYB]
              have k0 : (diS R q).1 = [] := List.length_eq_zero_iff.1 hn
              have o0 : (diS R q).2 = [] := List.length_eq_zero_iff.1 (by omega)
              refine ⟨by omega, by omega, fun j' c' hj' => ⟨by unfold In64; omega, (q + 1, c', j'), ⟨by simp only; omega, by simp only [eo, k0]; simpa using hj'⟩, by simp only; omega, Sub.mk_to 3 8 ?_ ?_ ?_ ?_ ?_ ?_ ?_⟩⟩
              all_goals (try simp only [eo, k0, o0, List.nil_append, List.cons_append, List.length_cons, List.length_nil, Nat.zero_add])
              all_goals ((try simp only [outVn_succ, outHn_succ, LB, subS, subH, wfS, wfH, SV.ren, renL, SObj.ren, SV.wf, SObj.wf, wfL, SV.known, Nat.reduceEqDiff, ↓reduceIte, if_true, if_false, eq_self, Nat.reduceAdd, Nat.reduceLT, Nat.reduceLeDiff, implies_true, reduceCtorEq, forall_const]) <;> simp)
            | succ n =>
              have hj2 : ((diS R q).2 ++ j).length = c * 2 := by rw [List.length_append]; omega
              have tkO : List.take ((n + 1) * 2) ((diS R q).2 ++ j) = (diS R q).2 := List.take_left' (by omega)
              simp -implicitDefEqProofs only [lk_normal, pour_F, formOf_F, hget_outHn, known_outVn, hql, eP, lenP, hR, tkR, a0, b0, pl, tkp, ex, xl, tkx, kI, kOK, mg, ms, z1, hj2, tkO, outVn_succ, outHn_succ, List.getD_cons_zero, List.getD_cons_succ, ZB, Int.reduceToNat, Nat.reduceLT, Nat.reduceLeDiff, Int.reduceLE, Int.reduceLT, Nat.reduceEqDiff, Nat.reduceSub, SB, SV.known, packR, ne_eq, reduceCtorEq, Nat.reduceEqDiff, ↓reduceIte, if_true, if_false, eq_self, Nat.reduceAdd, Nat.reduceMul, Nat.reduceSub, forall_const, oneCellS, litOne, flat1, Kd.isSca, flat, TYB]
              refine ⟨by omega, by omega, by omega, by omega, by omega, fun j' c' hj' => ⟨by unfold In64; omega, (q + 1, c', j'), ⟨by simp only; omega, by simp only [eo, List.length_append, hn]; simpa using hj'⟩, by simp only; omega, Sub.mk_to 3 8 ?_ ?_ ?_ ?_ ?_ ?_ ?_⟩⟩
              all_goals (try simp only [eo, List.length_append, hn, List.length_cons, List.length_nil, Nat.zero_add, List.append_assoc])
              all_goals ((try simp only [outVn_succ, outHn_succ, LB, subS, subH, wfS, wfH, SV.ren, renL, SObj.ren, SV.wf, SObj.wf, wfL, SV.known, Nat.reduceEqDiff, ↓reduceIte, if_true, if_false, eq_self, Nat.reduceAdd, Nat.reduceLT, Nat.reduceLeDiff, implies_true, reduceCtorEq, forall_const]) <;> simp)
        · have hql : ¬ (q : Int) < np := by omega
          obtain rfl : q = np := by omega
          simp -implicitDefEqProofs only [lk_normal, hget_outHn, known_outVn, hql, ZB, Int.reduceToNat, Nat.reduceLT, Nat.reduceLeDiff, Int.reduceLE, Int.reduceLT, Nat.reduceEqDiff, Nat.reduceSub, SB, SV.known, packR, ne_eq, reduceCtorEq, Nat.reduceEqDiff, ↓reduceIte, if_true, if_false, eq_self, Nat.reduceAdd, Nat.reduceMul, Nat.reduceSub, forall_const, oneCellS, litOne, flat1, Kd.isSca, flat, TYB]
          cases hn : (diS R q).1.length with
          | zero => exact ⟨rfl, .inl ⟨rfl, List.length_eq_zero_iff.1 (by omega), rfl⟩⟩
          | succ n => exact ⟨rfl, .inr ⟨3, c, j, by rw [show (diS R q).2.length / 2 = n + 1 by omega]; rfl, rfl, by omega, by omega, fun _ h => by rw [h] at dl; simp at dl; omega⟩⟩
theorem sDistinctPours_ok (R : List Int) (hR : R.length = 24) : FreshP Try.prog 15 [.arr R] [] (diF R) ((diF R).length / 2) 2 51 false (.more [.bool (rackB R)]) := by
  have tkR : R.take 24 = R := List.take_of_length_le (by omega)
  unfold diF
  cases hr : rackB R
  · refine fresh_of_vc (X := ⟨Try.prog, tys, [(46, l2Rack_F), (48, l2Pour_F), (49, l3Form_F)], [(47, l2Useful_F)], true, true, 0, [], []⟩) fn_15 ⟨tys_ok, (.cons l2Rack_T (.cons l2Pour_T (.cons l3Form_T .nil))), (.cons l2Useful_T .nil), mixed⟩ (n0 := 0) rfl (Nat.le_of_ble_eq_true rfl) (by simp [wfL, SV.wf]) (wfH_spec (by simp [wfH, SObj.wf])) (Nat.le_refl _) ?_
    simp -implicitDefEqProofs only [Try.f15, Option.getD_some, argS, l2Rack_F, l2Pour_F, l3Form_F, l2Useful_F, hR, tkR, hr, freshK, Wrap.ap, ZB, Int.reduceToNat, Nat.reduceLT, Nat.reduceLeDiff, Int.reduceLE, Int.reduceLT, Nat.reduceEqDiff, Nat.reduceSub, SB, SV.known, packR, ne_eq, reduceCtorEq, Nat.reduceEqDiff, ↓reduceIte, if_true, if_false, eq_self, Nat.reduceAdd, Nat.reduceMul, Nat.reduceSub, forall_const, oneCellS, litOne, flat1, Kd.isSca, flat, TYB]
    exact .inr ⟨1, 0, [], rfl, by simp [hget_cons], by omega, by simp, by simp⟩
  · refine fresh_of_vc (X := ⟨Try.prog, tys, [(46, l2Rack_F), (48, l2Pour_F), (49, l3Form_F)], [(47, l2Useful_F)], true, true, 0, [], []⟩) fn_15 ⟨tys_ok, (.cons l2Rack_T (.cons l2Pour_T (.cons l3Form_T .nil))), (.cons l2Useful_T .nil), mixed⟩ (n0 := 0) rfl (Nat.le_of_ble_eq_true rfl) (by simp [wfL, SV.wf]) (wfH_spec (by simp [wfH, SObj.wf])) (Nat.le_refl _) ?_
    simp -implicitDefEqProofs only [Try.f15, Option.getD_some, argS, l2Rack_F, l2Pour_F, l3Form_F, l2Useful_F, hR, tkR, hr, freshK, Wrap.ap, ZB, Int.reduceToNat, Nat.reduceLT, Nat.reduceLeDiff, Int.reduceLE, Int.reduceLT, Nat.reduceEqDiff, Nat.reduceSub, SB, SV.known, packR, ne_eq, reduceCtorEq, Nat.reduceEqDiff, ↓reduceIte, if_true, if_false, eq_self, Nat.reduceAdd, Nat.reduceMul, Nat.reduceSub, forall_const, oneCellS, litOne, flat1, Kd.isSca, flat, TYB]
    obtain ⟨np, hnp, hnp36⟩ := ulF_even R
    have ehp : (ulF R).length / 2 = np := by omega
    have eqr := eqI_rack
    rw [ehp]
    refine fun cp jp hjp => ?_
    have lenP : (ulF R ++ jp).length = cp * 2 := by rw [List.length_append]; omega
    refine loop_intro (fun s : Nat × Nat × List Int × Nat × List Int => [(7, .int s.1), (6, .slice 3 0 np cp), (5, .slice 2 0 (diS R s.1).1.length s.2.1), (4, .slice 1 0 (diS R s.1).1.length s.2.2.2.1), (1, .ptr 0 0)])
      (fun s => [(3, .ints (ulF R ++ jp) 51), (2, .ints ((diS R s.1).1.flatten ++ s.2.2.1) 29), (1, .ints ((diS R s.1).2 ++ s.2.2.2.2) 51), (0, .ints R 29)]) 4
      (fun s => s.1 ≤ np ∧ s.2.2.1.length + (diS R s.1).1.length * 24 = s.2.1 * 24 ∧ s.2.2.2.2.length + (diS R s.1).1.length * 2 = s.2.2.2.1 * 2) (fun s => np - s.1) ?_ ?_
    · refine ⟨(0, 0, [], 0, []), ⟨by simp, by simp [diS], by simp [diS]⟩, Sub.mk_id ?_ ?_ ?_ ?_ ?_⟩
      all_goals simp only [diS, List.length_nil, List.flatten_nil, List.append_nil, LB, subS, subH, wfS, wfH, SV.ren, renL, SObj.ren, SV.wf, SObj.wf, wfL, SV.known, Nat.reduceEqDiff, ↓reduceIte, if_true, if_false, eq_self, Nat.reduceAdd, Nat.reduceLT, Nat.reduceLeDiff, implies_true, reduceCtorEq, forall_const]
      all_goals (try simp)
    · rintro ⟨q, c, j, c1, j1⟩ ⟨hq, hj, hj1⟩
      simp only at hq hj hj1
      obtain ⟨dl, dq⟩ := diS_len R q
      have d24 := diS_24 hR q
      have hfO := flat_len d24
      by_cases hlt : q < np
      · have hql : (q : Int) < np := by omega
        obtain ⟨a0, b0⟩ := ul_bd (R := R) (q := q) (by omega)
        have eP : List.take 2 (List.drop (q * 2) (ulF R ++ jp)) = [(ulF R).getD (q * 2) 0, (ulF R).getD (q * 2 + 1) 0] := by
          rw [take2_drop _ _ (by rw [List.length_append]; omega), getD_app _ _ _ (by omega), getD_app _ _ _ (by omega)]
        have eP0 : (ulF R ++ jp).getD (q * 2) 0 = (ulF R).getD (q * 2) 0 := getD_app _ _ _ (by omega)
        have eP1 : (ulF R ++ jp).getD (q * 2 + 1) 0 = (ulF R).getD (q * 2 + 1) 0 := getD_app _ _ _ (by omega)
        have pl := pourF_len hR ((ulF R).getD (q * 2) 0).toNat ((ulF R).getD (q * 2 + 1) 0).toNat
        have tkp := List.take_of_length_le (Nat.le_of_eq pl)
        have xl := diX_len hR q
        have tkx := List.take_of_length_le (Nat.le_of_eq xl)
        have ex : frm (pourF R ((ulF R).getD (q * 2) 0).toNat ((ulF R).getD (q * 2 + 1) 0).toNat) = diX R q := rfl
        have dnew := fun (h : diX R q ∉ (diS R q).1) => diS_new h
        have dold := fun (h : diX R q ∈ (diS R q).1) => diS_old h
        simp -implicitDefEqProofs only [lk_normal, l2Pour_F, l3Form_F, hql, eP, eP0, eP1, lenP, hR, hr, tkR, a0, b0, pl, tkp, ex, xl, tkx, List.getD_cons_zero, List.getD_cons_succ, ZB, Int.reduceToNat, Nat.reduceLT, Nat.reduceLeDiff, Int.reduceLE, Int.reduceLT, Nat.reduceEqDiff, Nat.reduceSub, SB, SV.known, packR, ne_eq, reduceCtorEq, Nat.reduceEqDiff, ↓reduceIte, if_true, if_false, eq_self, Nat.reduceAdd, Nat.reduceMul, Nat.reduceSub, forall_const, oneCellS, litOne, flat1, Kd.isSca, flat, TYB]
        generalize hGd : (diS R q).1 = G at *
        generalize hOd : (diS R q).2 = O at *
        generalize hxd : diX R q = x at *
        have lG : (G.flatten ++ j).length = c * 24 := by rw [List.length_append, hfO]; omega
        have lO : (O ++ j1).length = c1 * 2 := by rw [List.length_append]; omega
        refine ⟨by omega, by omega, by omega, by omega, ?_⟩
        refine loop_intro (fun m : Nat => [(12, .int m), (11, .bool (decide (x ∈ G.take m))), (10, .ptr 5 0), (7, .int q), (6, .slice 3 0 np cp), (5, .slice 2 0 G.length c), (4, .slice 1 0 G.length c1), (1, .ptr 0 0)])
          (fun _ => [(5, .ints x 29), (3, .ints (ulF R ++ jp) 51), (2, .ints (G.flatten ++ j) 29), (1, .ints (O ++ j1) 51), (0, .ints R 29)]) 6 (fun m => m ≤ G.length) (fun m => G.length - m) ?_ ?_
        · refine ⟨0, by omega, Sub.mk_id ?_ ?_ ?_ ?_ ?_⟩
          all_goals ((try simp only [LB, subS, subH, wfS, wfH, SV.ren, renL, SObj.ren, SV.wf, SObj.wf, wfL, SV.known, Nat.reduceEqDiff, ↓reduceIte, if_true, if_false, eq_self, Nat.reduceAdd, Nat.reduceLT, Nat.reduceLeDiff, implies_true, reduceCtorEq, forall_const]) <;> simp)
        · intro m hm
          by_cases hmg : m < G.length
          · have hml : (m : Int) < G.length := by omega
            have eG : List.take 24 (List.drop (m * 24) (G.flatten ++ j)) = G.getD m [] := flat_get d24 hmg j
            have g24 := d24 _ (getD_mem hmg)
            have gB : m * 24 + 24 ≤ (G.flatten ++ j).length := by omega
            have ms := memT G x m hmg
            cases ho : decide (x ∈ G.take m)
            · simp -implicitDefEqProofs only [lk_normal, hml, eG, g24, gB, ho, xl, tkx, eqr, Bool.false_or, ZB, Int.reduceToNat, Nat.reduceLT, Nat.reduceLeDiff, Int.reduceLE, Int.reduceLT, Nat.reduceEqDiff, Nat.reduceSub, SB, SV.known, packR, ne_eq, reduceCtorEq, Nat.reduceEqDiff, ↓reduceIte, if_true, if_false, eq_self, Nat.reduceAdd, Nat.reduceMul, Nat.reduceSub, forall_const, oneCellS, litOne, flat1, Kd.isSca, flat, TYB]
              refine ⟨by omega, by unfold In64; omega, m + 1, by omega, by omega, Sub.mk_id ?_ ?_ ?_ ?_ ?_⟩
              all_goals (try simp only [ms, ho, Bool.false_or])
              all_goals ((try simp only [LB, subS, subH, wfS, wfH, SV.ren, renL, SObj.ren, SV.wf, SObj.wf, wfL, SV.known, Nat.reduceEqDiff, ↓reduceIte, if_true, if_false, eq_self, Nat.reduceAdd, Nat.reduceLT, Nat.reduceLeDiff, implies_true, reduceCtorEq, forall_const]) <;> simp)
            · simp -implicitDefEqProofs only [lk_normal, hml, eG, g24, gB, ho, xl, tkx, eqr, Bool.true_or, ZB, Int.reduceToNat, Nat.reduceLT, Nat.reduceLeDiff, Int.reduceLE, Int.reduceLT, Nat.reduceEqDiff, Nat.reduceSub, SB, SV.known, packR, ne_eq, reduceCtorEq, Nat.reduceEqDiff, ↓reduceIte, if_true, if_false, eq_self, Nat.reduceAdd, Nat.reduceMul, Nat.reduceSub, forall_const, oneCellS, litOne, flat1, Kd.isSca, flat, TYB]
              refine ⟨by unfold In64; omega, m + 1, by omega, by omega, Sub.mk_id ?_ ?_ ?_ ?_ ?_⟩
              all_goals (try simp only [ms, ho, Bool.true_or])
              all_goals ((try simp only [LB, subS, subH, wfS, wfH, SV.ren, renL, SObj.ren, SV.wf, SObj.wf, wfL, SV.known, Nat.reduceEqDiff, ↓reduceIte, if_true, if_false, eq_self, Nat.reduceAdd, Nat.reduceLT, Nat.reduceLeDiff, implies_true, reduceCtorEq, forall_const]) <;> simp)
          · have hml : ¬ (m : Int) < G.length := by omega
            obtain rfl : m = G.length := by omega
            rw [List.take_of_length_le (Nat.le_refl _)]
            by_cases hin : x ∈ G
            · have eo := dold hin
              simp -implicitDefEqProofs only [lk_normal, hml, hin, decide_true, ZB, Int.reduceToNat, Nat.reduceLT, Nat.reduceLeDiff, Int.reduceLE, Int.reduceLT, Nat.reduceEqDiff, Nat.reduceSub, SB, SV.known, packR, ne_eq, reduceCtorEq, Nat.reduceEqDiff, ↓reduceIte, if_true, if_false, eq_self, Nat.reduceAdd, Nat.reduceMul, Nat.reduceSub, forall_const, oneCellS, litOne, flat1, Kd.isSca, flat, TYB]
              refine ⟨by unfold In64; omega, (q + 1, c, j, c1, j1), ⟨by simp only; omega, by simp only [eo, hGd]; exact hj, by simp only [eo, hGd]; exact hj1⟩, by simp only; omega, Sub.mk_id ?_ ?_ ?_ ?_ ?_⟩
              all_goals (try simp only [eo, hGd, hOd])
              all_goals ((try simp only [LB, subS, subH, wfS, wfH, SV.ren, renL, SObj.ren, SV.wf, SObj.wf, wfL, SV.known, Nat.reduceEqDiff, ↓reduceIte, if_true, if_false, eq_self, Nat.reduceAdd, Nat.reduceLT, Nat.reduceLeDiff, implies_true, reduceCtorEq, forall_const]) <;> simp)
            · have eo := dnew hin
              have tkG : List.take (G.length * 24) (G.flatten ++ j) = G.flatten := List.take_left' hfO
              have tkO : List.take (G.length * 2) (O ++ j1) = O := List.take_left' dl
              simp -implicitDefEqProofs only [lk_normal, hml, hin, decide_false, xl, tkx, lG, lO, tkG, tkO, eP, lenP, hlt, ZB, Int.reduceToNat, Nat.reduceLT, Nat.reduceLeDiff, Int.reduceLE, Int.reduceLT, Nat.reduceEqDiff, Nat.reduceSub, SB, SV.known, packR, ne_eq, reduceCtorEq, Nat.reduceEqDiff, ↓reduceIte, if_true, if_false, eq_self, Nat.reduceAdd, Nat.reduceMul, Nat.reduceSub, forall_const, oneCellS, litOne, flat1, Kd.isSca, flat, TYB]
              refine ⟨by omega, by omega, by omega, fun j' c' hj' => ⟨by omega, hql, by omega, by omega, by omega, by omega, fun j1' c1' hj1' => ⟨by unfold In64; omega, (q + 1, c', j', c1', j1'), ⟨by simp only; omega, by simp only [eo, hGd, List.length_append, List.length_cons, List.length_nil]; exact hj', by simp only [eo, hGd, List.length_append, List.length_cons, List.length_nil]; exact hj1'⟩, by simp only; omega, Sub.mk_to2 2 7 1 9 ?_ ?_ ?_ ?_ ?_ ?_ ?_ ?_⟩⟩⟩
              all_goals (try simp only [eo, hGd, hOd, List.length_append, List.length_cons, List.length_nil, Nat.zero_add, List.flatten_append, List.flatten_cons, List.flatten_nil, List.append_nil])
              all_goals ((try simp only [LB, subS, subH, wfS, wfH, SV.ren, renL, SObj.ren, SV.wf, SObj.wf, wfL, SV.known, Nat.reduceEqDiff, ↓reduceIte, if_true, if_false, eq_self, Nat.reduceAdd, Nat.reduceLT, Nat.reduceLeDiff, implies_true, reduceCtorEq, forall_const]) <;> simp)
      · have hql : ¬ (q : Int) < np := by omega
        obtain rfl : q = np := by omega
        simp -implicitDefEqProofs only [lk_normal, hql, ZB, Int.reduceToNat, Nat.reduceLT, Nat.reduceLeDiff, Int.reduceLE, Int.reduceLT, Nat.reduceEqDiff, Nat.reduceSub, SB, SV.known, packR, ne_eq, reduceCtorEq, Nat.reduceEqDiff, ↓reduceIte, if_true, if_false, eq_self, Nat.reduceAdd, Nat.reduceMul, Nat.reduceSub, forall_const, oneCellS, litOne, flat1, Kd.isSca, flat, TYB]
        exact .inr ⟨1, c1, j1, by rw [show (diS R q).2.length / 2 = (diS R q).1.length by omega]; rfl, by simp [hget_cons], by omega, by omega, by simp⟩
theorem diF_even (R : List Int) : ∃ k, (diF R).length = k * 2 ∧ k ≤ 36 := by
  unfold diF
  split
  · obtain ⟨np, hnp, hnp36⟩ := ulF_even R
    obtain ⟨h1, h2⟩ := diS_len R ((ulF R).length / 2)
    exact ⟨_, h1, by omega⟩
  · exact ⟨0, rfl, by omega⟩
--@tbl DistinctPours = impl.DistinctPours
--@tbl sDistinctPours = spec.DistinctPours
def DistinctPours_F : List SV → Heap → Nat → Nat → K1 → Prop
  | [.arr R], H, n, _, κ => R.length = 24 ∧ freshK (.more [.bool (rackB R)]) (diF R) ((diF R).length / 2) 2 51 true H n κ
  | _, _, _, _, _ => False
theorem DistinctPours_T : ∀ args H n m κ, DistinctPours_F args H n m κ → GenOK Try.prog 17 args H n m κ := by
  intro args H n m κ h
  unfold DistinctPours_F at h
  split at h
  · exact gen_of_fresh (DistinctPours_ok _ h.1) (fun k o hk => by cases hk) h.2
  · exact h.elim
def sDistinctPours_F : List SV → Heap → Nat → Nat → K1 → Prop
  | [.arr R], H, n, _, κ => R.length = 24 ∧ freshK (.more [.bool (rackB R)]) (diF R) ((diF R).length / 2) 2 51 false H n κ
  | _, _, _, _, _ => False
theorem sDistinctPours_T : ∀ args H n m κ, sDistinctPours_F args H n m κ → GenOK Try.prog 15 args H n m κ := by
  intro args H n m κ h
  unfold sDistinctPours_F at h
  split at h
  · exact gen_of_fresh (sDistinctPours_ok _ h.1) (fun k o hk => by cases hk) h.2
  · exact h.elim
theorem lawDistinctPours (R : List Int) (hR : R.length = 24) (_ : ∀ x ∈ R, In64 x) : PureH Try.prog 3 [.arr R] [] (.bool true) := by
  have tkR : R.take 24 = R := List.take_of_length_le (by omega)
  obtain ⟨m, hm, hm36⟩ := diF_even R
  have e2 : (diF R).length / 2 = m := by omega
  refine pure_of_vc (X := ⟨Try.prog, tys, [(16, toRack_F), (18, eqS2_F), (20, held2_F)], [(17, DistinctPours_F), (15, sDistinctPours_F), (19, mark2_F)], true, true, 0, [], []⟩) fn_3 ⟨tys_ok, (.cons toRack_T (.cons eqS2_T (.cons held2_T .nil))), (.cons DistinctPours_T (.cons sDistinctPours_T (.cons mark2_T .nil))), mixed⟩ (n0 := 0) (Nat.le_of_ble_eq_true rfl) (by simp [wfL, SV.wf]) (wfH_spec (by simp [wfH, SObj.wf])) (Nat.le_refl _) (fun _ => by simp [SV.wf, wfL]) ?_
  simp -implicitDefEqProofs only [Try.f3, Option.getD_some, argS, toRack_F, eqS2_F, held2_F, DistinctPours_F, sDistinctPours_F, mark2_F, hR, tkR, e2, freshK, Wrap.ap, ZB, Int.reduceToNat, Nat.reduceLT, Nat.reduceLeDiff, Int.reduceLE, Int.reduceLT, Nat.reduceEqDiff, Nat.reduceSub, SB, SV.known, packR, ne_eq, reduceCtorEq, Nat.reduceEqDiff, ↓reduceIte, if_true, if_false, eq_self, Nat.reduceAdd, Nat.reduceMul, Nat.reduceSub, forall_const, oneCellS, litOne, flat1, Kd.isSca, flat, TYB]
  exact lawS2' hm (by omega)
end Go.Proofs.Ytdnechlmkbchaaa
