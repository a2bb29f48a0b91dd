/- Walks: GoodPours, UndonePours. -/
import Derived.Test.YtaenmmebnifioaaUse
import Derived.Test.YtaenmmebnifioaaSl
import Derived.Test.YtaenmmebnifioaaCom
import Derived.Test.YtaenmmebnifioaaEqR
set_option maxRecDepth 100000
set_option linter.unusedSimpArgs false
set_option linter.unusedVariables false
namespace Go.Proofs.Ytaenmmebnifioaa
open Go Go.RowKit
def goodF (R p : List Int) : Bool := decide (bndF (pourF R (p.getD 0 0).toNat (p.getD 1 0).toNat) < bndF R)
def qCan (R p : List Int) : Prop := rackB R = true ∧ okP p ∧ canF R (p.getD 0 0) (p.getD 1 0) = true
theorem qCan_of {R : List Int} (hr : rackB R = true) (i : Nat) (junk : List Int) (h : i * 2 + 2 ≤ (PL R 36).length) : qCan R (List.take 2 (List.drop (i * 2) (PL R 36 ++ junk))) := by
  obtain ⟨a, b, h1, h2, h3, h4⟩ := GL_pair' (fun i j => canF R i j) i junk h
  rw [PL_GL, h4]
  exact ⟨hr, ⟨rfl, by simp only [List.getD_cons_zero]; omega, by simp only [List.getD_cons_succ, List.getD_cons_zero]; omega⟩, h3⟩
theorem qCan_pair {R : List Int} (hr : rackB R = true) (i : Nat) (h : i * 2 + 2 ≤ (PL R 36).length) : canF R ((PL R 36).getD (i * 2) 0) ((PL R 36).getD (i * 2 + 1) 0) = true := by
  have h1 := (qCan_of hr i [] h).2.2
  rw [List.append_nil, take2_drop _ _ (by omega)] at h1
  exact h1
--@tbl isGood = impl.isGood
theorem isGood_ok (R p : List Int) (hR : R.length = 24) (hq : qCan R p) : PureH Try.prog 102 [.arr R, .arr p] [] (.bool (goodF R p)) := by
  have tkR : R.take 24 = R := List.take_of_length_le (by omega)
  obtain ⟨hr, hp, hc⟩ := hq
  have tkp := okP_take hp
  obtain ⟨pl, b0, b1⟩ := hp
  have hr' := pour_rack hR hr b0 b1 hc
  have pl' := pourF_len hR (p.getD 0 0).toNat (p.getD 1 0).toNat
  have tkP : (pourF R (p.getD 0 0).toNat (p.getD 1 0).toNat).take 24 = pourF R (p.getD 0 0).toNat (p.getD 1 0).toNat := List.take_of_length_le (by omega)
  refine pure_of_vc (X := ⟨Try.prog, tys, [(97, pour_F), (106, bound_F)], [], true, true, 0, [], []⟩) fn_102 ⟨tys_ok, (.cons pour_T (.cons bound_T .nil)), .nil, mixed⟩ (n0 := 0) (Nat.le_of_ble_eq_true rfl) (by simp [wfL, SV.wf]) (wfH_spec (by simp [wfH, SObj.wf])) (Nat.le_refl _) (fun _ => by simp [SV.wf, wfL]) ?_
  simp -implicitDefEqProofs only [Try.f102, Option.getD_some, argS, pour_F, bound_F, hR, tkR, pl, tkp, hr, hr', pl', tkP, ZB, Int.reduceToNat, Nat.reduceLT, Nat.reduceLeDiff, Int.reduceLE, Int.reduceLT, Nat.reduceEqDiff, Nat.reduceSub, SB, SV.known, packR, ne_eq, reduceCtorEq, Nat.reduceEqDiff, ↓reduceIte, if_true, if_false, eq_self, Nat.reduceAdd, Nat.reduceMul, Nat.reduceSub, forall_const, oneCellS, Kd.isSca, flat, TYB]
  (try (and_intros <;> try (first | omega | (unfold In64; omega) | trivial | assumption)))
def isGood_F : List SV → Heap → Option (Prop × SV)
  | [.arr R, .arr p], _ => some (R.length = 24 ∧ qCan R p, .bool (goodF R p))
  | _, _ => none
theorem isGood_T : ∀ args H p v, isGood_F args H = some (p, v) → p → PureH Try.prog 102 args H v := by
  intro args H p v h hp
  unfold isGood_F at h
  split at h
  · cases h; exact (isGood_ok _ _ hp.1 hp.2).any _
  · cases h
theorem good1_ok (R : List Int) (e : Nat) (p : List Int) (hR : R.length = 24) (hq : qCan R p) : PureH Try.prog 128 [.arr p, .ptr 0 0] [(0, .ints R e)] (.bool (!goodF R p)) := by
  have tkR : R.take 24 = R := List.take_of_length_le (by omega)
  have tkp := okP_take hq.2.1
  refine pure_of_vc (X := ⟨Try.prog, tys, [(102, isGood_F)], [], true, true, 1, [], []⟩) fn_128 ⟨tys_ok, (.cons isGood_T .nil), .nil, mixed⟩ (n0 := 1) (Nat.le_of_ble_eq_true rfl) (by simp [wfL, SV.wf]) (wfH_spec (by simp [wfH, SObj.wf])) (Nat.le_refl _) (fun _ => by simp [SV.wf, wfL]) ?_
  simp -implicitDefEqProofs only [Try.f128, Option.getD_some, argS, isGood_F, hR, tkR, tkp, ZB, Int.reduceToNat, Nat.reduceLT, Nat.reduceLeDiff, Int.reduceLE, Int.reduceLT, Nat.reduceEqDiff, Nat.reduceSub, SB, SV.known, packR, ne_eq, reduceCtorEq, Nat.reduceEqDiff, ↓reduceIte, if_true, if_false, eq_self, Nat.reduceAdd, Nat.reduceMul, Nat.reduceSub, forall_const, oneCellS, Kd.isSca, flat, TYB]
  exact ⟨by have := hq.2.1.1; omega, hq⟩
def gDel_F := delR_F 128 (fun R p => !goodF R p) qCan
--@tbl gDel = slices.DeleteFunc[[][2]int,[2]int]
theorem gDel_T : ∀ args H n m κ, gDel_F args H n m κ → GenOK Try.prog 68 args H n m κ := delR_T _ _ _ (by decide) good1_ok
def gdL (R : List Int) : List Int := kept (fun p => goodF R p) (PL R 36) ((PL R 36).length / 2)
theorem gdL_even (R : List Int) : ∃ k, (gdL R).length = k * 2 ∧ k ≤ 36 := by
  obtain ⟨m, hm, hm36⟩ := PL_even R 36
  obtain ⟨k, hk, hkm⟩ := kept_even (fun p => goodF R p) (PL R 36) m (by omega)
  have e2 : (PL R 36).length / 2 = m := by omega
  exact ⟨k, by unfold gdL; rw [e2]; exact hk, by omega⟩
theorem good_ok (R : List Int) (hR : R.length = 24) (hr : rackB R = true) : FreshP Try.prog 80 [.arr R] [] (gdL R) ((gdL R).length / 2) 2 51 (decide (PL R 36 = [])) .one := by
  have tkR : R.take 24 = R := List.take_of_length_le (by omega)
  refine fresh_of_vc (X := ⟨Try.prog, tys, [], [(69, pours_F), (68, gDel_F)], true, true, 0, [], []⟩) fn_80 ⟨tys_ok, .nil, (.cons pours_T (.cons gDel_T .nil)), mixed⟩ (n0 := 0) rfl (Nat.le_of_ble_eq_true rfl) (by simp [wfL, SV.wf]) (wfH_spec (by simp [wfH, SObj.wf])) (Nat.le_refl _) ?_
  simp -implicitDefEqProofs only [Try.f80, Option.getD_some, argS, pours_F, gDel_F, hR, tkR, freshK, Wrap.ap, gDel_F, delR_F, Bool.not_not, ZB, Int.reduceToNat, Nat.reduceLT, Nat.reduceLeDiff, Int.reduceLE, Int.reduceLT, Nat.reduceEqDiff, Nat.reduceSub, SB, SV.known, packR, ne_eq, reduceCtorEq, Nat.reduceEqDiff, ↓reduceIte, if_true, if_false, eq_self, Nat.reduceAdd, Nat.reduceMul, Nat.reduceSub, forall_const, oneCellS, Kd.isSca, flat, TYB]
  obtain ⟨m, hm, hm36⟩ := PL_even R 36
  have e2 : (PL R 36).length / 2 = m := by omega
  have uf : gdL R = kept (fun p => goodF R p) (PL R 36) m := by unfold gdL; rw [e2]
  refine ⟨fun h0 => ?_, fun h0 cap junk hj => ?_⟩
  · refine .inl ⟨by simp [h0], ?_, rfl⟩
    rw [uf, show m = 0 by rw [h0] at hm; simp at hm; omega]; rfl
  · have ka := kept_app (fun p => goodF R p) (PL R 36) junk m (by omega)
    obtain ⟨k, hk, hkm⟩ := kept_even (fun p => goodF R p) (PL R 36) m (by omega)
    rw [e2, ka]
    refine ⟨by rw [List.length_append]; omega, by omega, by omega, fun i hi => ?_, .inr ⟨1, cap, List.replicate (m * 2 - (kept (fun p => goodF R p) (PL R 36) m).length) 0 ++ List.drop (m * 2) (PL R 36 ++ junk), ?_, ?_, by omega, ?_, by simp [h0]⟩⟩
    · exact qCan_of hr i junk (by omega)
    · rw [uf]; rfl
    · rw [uf, hget_cons, if_pos rfl, List.append_assoc]
    · rw [uf, List.length_append, List.length_replicate, List.length_drop, List.length_append]
      omega
def good_F : List SV → Heap → Nat → Nat → K1 → Prop
  | [.arr R], H, n, _, κ => (R.length = 24 ∧ rackB R = true) ∧ freshK .one (gdL R) ((gdL R).length / 2) 2 51 (decide (PL R 36 = [])) H n κ
  | _, _, _, _, _ => False
--@tbl good = impl.good
theorem good_T : ∀ args H n m κ, good_F args H n m κ → GenOK Try.prog 80 args H n m κ := by
  intro args H n m κ h
  unfold good_F at h
  split at h
  · exact gen_of_fresh (good_ok _ h.1.1 h.1.2) (fun k o hk => by cases hk) h.2
  · exact h.elim
theorem l6Good_ok (R : List Int) (hR : R.length = 24) (hr : rackB R = true) : FreshP Try.prog 79 [.arr R] [] (gdL R) ((gdL R).length / 2) 2 51 false .one := by
  have tkR : R.take 24 = R := List.take_of_length_le (by omega)
  obtain ⟨m, hm, hm36⟩ := PL_even R 36
  refine fresh_of_vc (X := ⟨Try.prog, tys, [(96, l2Pour_F), (99, l6Bound_F)], [(65, l2Pours_F)], true, true, 0, [], []⟩) fn_79 ⟨tys_ok, (.cons l2Pour_T (.cons l6Bound_T .nil)), (.cons l2Pours_T .nil), mixed⟩ (n0 := 0) rfl (Nat.le_of_ble_eq_true rfl) (by simp [wfL, SV.wf]) (wfH_spec (by simp [wfH, SObj.wf])) (Nat.le_refl _) ?_
  simp -implicitDefEqProofs only [Try.f79, Option.getD_some, argS, l2Pour_F, l6Bound_F, l2Pours_F, hR, tkR, hr, freshK, Wrap.ap, ZB, Int.reduceToNat, Nat.reduceLT, Nat.reduceLeDiff, Int.reduceLE, Int.reduceLT, Nat.reduceEqDiff, Nat.reduceSub, SB, SV.known, packR, ne_eq, reduceCtorEq, Nat.reduceEqDiff, ↓reduceIte, if_true, if_false, eq_self, Nat.reduceAdd, Nat.reduceMul, Nat.reduceSub, forall_const, oneCellS, Kd.isSca, flat, TYB]
  have hbd : Bd 0 5 (PL R 36) := PL_bd R 36 (by omega)
  have e2 : (PL R 36).length / 2 = m := by omega
  have uf : gdL R = kept (fun p => goodF R p) (PL R 36) m := by unfold gdL; rw [e2]
  rw [uf, e2]
  have hcan := fun i h => qCan_pair (i := i) hr h
  generalize PL R 36 = P at *
  intro cap junk hj
  refine loop_intro (fun s : Nat × Nat × Nat × List Int => [(5, .int s.1), (4, .slice 2 0 m cap), (3, .slice 1 0 s.2.1 s.2.2.1), (1, .ptr 0 0)]) (fun s => [(1, .ints (kept (fun p => goodF R p) P s.1 ++ s.2.2.2) 51), (2, .ints (P ++ junk) 51), (0, .ints R 30)]) 3
    (fun s => s.1 ≤ m ∧ (kept (fun p => goodF R p) P s.1).length = s.2.1 * 2 ∧ s.2.1 ≤ s.1 ∧ s.2.2.2.length + s.2.1 * 2 = s.2.2.1 * 2) (fun s => m - s.1) ?_ ?_
  · refine ⟨(0, 0, 0, []), ?_, Sub.mk_id ?_ ?_ ?_ ?_ ?_⟩
    all_goals (try (simp only [kept_zero, List.append_nil, LB, subS, subH, wfS, wfH, SV.ren, renL, SObj.ren, SV.wf, SObj.wf, wfL, SV.known, Nat.reduceEqDiff, ↓reduceIte, if_true, if_false, eq_self, Nat.reduceAdd, Nat.reduceLT, Nat.reduceLeDiff, implies_true, reduceCtorEq, forall_const]; done))
    all_goals (try (simp only [kept_zero, List.append_nil, LB, subS, subH, wfS, wfH, SV.ren, renL, SObj.ren, SV.wf, SObj.wf, wfL, SV.known, Nat.reduceEqDiff, ↓reduceIte, if_true, if_false, eq_self, Nat.reduceAdd, Nat.reduceLT, Nat.reduceLeDiff, implies_true, reduceCtorEq, forall_const]; simp; done))
    all_goals (try (simp only [kept_zero, List.append_nil, LB, subS, subH, wfS, wfH, SV.ren, renL, SObj.ren, SV.wf, SObj.wf, wfL, SV.known, Nat.reduceEqDiff, ↓reduceIte, if_true, if_false, eq_self, Nat.reduceAdd, Nat.reduceLT, Nat.reduceLeDiff, implies_true, reduceCtorEq, forall_const]; (and_intros <;> (first | omega | rfl | (simp; done) | (simp; omega))); done))
    all_goals (try dsimp only)
    all_goals (and_intros <;> try (first | omega | (unfold In64; omega) | trivial | assumption))
    all_goals simp [kept_zero]
  · rintro ⟨i, n, capo, jo⟩ ⟨hi, hL, hni, hjo⟩
    simp only at hi hL hni hjo
    have lenL : (kept (fun p => goodF R p) P i ++ jo).length = capo * 2 := by rw [List.length_append]; omega
    have tkL : (kept (fun p => goodF R p) P i ++ jo).take (n * 2) = kept (fun p => goodF R p) P i := List.take_left' hL
    have lenP : (P ++ junk).length = cap * 2 := by rw [List.length_append]; omega
    by_cases hlt : i < m
    · have hil : (i : Int) < m := by omega
      have g0 := getD_app P junk (i * 2) (by omega)
      have g1 := getD_app P junk (i * 2 + 1) (by omega)
      have bA : 0 ≤ P.getD (i * 2) 0 ∧ P.getD (i * 2) 0 ≤ 5 := hbd.getD (by omega)
      have bB : 0 ≤ P.getD (i * 2 + 1) 0 ∧ P.getD (i * 2 + 1) 0 ≤ 5 := hbd.getD (by omega)
      have eP : List.take 2 (List.drop (i * 2) (P ++ junk)) = [P.getD (i * 2) 0, P.getD (i * 2 + 1) 0] := by
        rw [take2_drop _ _ (by rw [List.length_append]; omega), g0, g1]
      have eQ : List.take 2 (List.drop (i * 2) P) = [P.getD (i * 2) 0, P.getD (i * 2 + 1) 0] := take2_drop _ _ (by omega)
      have es := kept_succ (fun p => goodF R p) P i
      rw [eQ] at es
      have hcn := hcan i (by omega)
      have hr2 := pour_rack hR hr bA bB hcn
      have pl2 := pourF_len hR (P.getD (i * 2) 0).toNat (P.getD (i * 2 + 1) 0).toNat
      have tkP2 : (pourF R (P.getD (i * 2) 0).toNat (P.getD (i * 2 + 1) 0).toNat).take 24 = pourF R (P.getD (i * 2) 0).toNat (P.getD (i * 2 + 1) 0).toNat := List.take_of_length_le (by omega)
      have hcd : ∀ b, goodF R [P.getD (i * 2) 0, P.getD (i * 2 + 1) 0] = b → decide (bndF (pourF R (P.getD (i * 2) 0).toNat (P.getD (i * 2 + 1) 0).toNat) < bndF R) = b := fun b h => h
      cases hc : goodF R [P.getD (i * 2) 0, P.getD (i * 2 + 1) 0] with
      | false =>
        rw [hc] at es
        simp only [Bool.false_eq_true, if_false, List.append_nil] at es
        simp -implicitDefEqProofs only [lk_normal, l2Pour_F, l6Bound_F, hil, hR, tkR, hr, hr2, pl2, tkP2, g0, g1, eP, hcd _ hc, lenP, lenL, tkL, ZB, Int.reduceToNat, Nat.reduceLT, Nat.reduceLeDiff, Int.reduceLE, Int.reduceLT, Nat.reduceEqDiff, Nat.reduceSub, SB, SV.known, packR, ne_eq, reduceCtorEq, Nat.reduceEqDiff, ↓reduceIte, if_true, if_false, eq_self, Nat.reduceAdd, Nat.reduceMul, Nat.reduceSub, forall_const, oneCellS, Kd.isSca, flat, TYB]
        (try (and_intros <;> try (first | omega | (unfold In64; omega) | trivial | assumption)))
        refine ⟨(i + 1, n, capo, jo), ?_, ?_, Sub.mk_id ?_ ?_ ?_ ?_ ?_⟩
        all_goals (try (simp only [es, LB, subS, subH, wfS, wfH, SV.ren, renL, SObj.ren, SV.wf, SObj.wf, wfL, SV.known, Nat.reduceEqDiff, ↓reduceIte, if_true, if_false, eq_self, Nat.reduceAdd, Nat.reduceLT, Nat.reduceLeDiff, implies_true, reduceCtorEq, forall_const]; done))
        all_goals (try (simp only [es, LB, subS, subH, wfS, wfH, SV.ren, renL, SObj.ren, SV.wf, SObj.wf, wfL, SV.known, Nat.reduceEqDiff, ↓reduceIte, if_true, if_false, eq_self, Nat.reduceAdd, Nat.reduceLT, Nat.reduceLeDiff, implies_true, reduceCtorEq, forall_const]; simp; done))
        all_goals (try (simp only [es, LB, subS, subH, wfS, wfH, SV.ren, renL, SObj.ren, SV.wf, SObj.wf, wfL, SV.known, Nat.reduceEqDiff, ↓reduceIte, if_true, if_false, eq_self, Nat.reduceAdd, Nat.reduceLT, Nat.reduceLeDiff, implies_true, reduceCtorEq, forall_const]; (and_intros <;> (first | omega | rfl | (simp; done) | (simp; omega))); done))
        all_goals (try dsimp only)
        all_goals (and_intros <;> try (first | omega | (unfold In64; omega) | trivial | assumption))
        all_goals (try (rw [es]; exact hL))
      | true =>
        rw [hc] at es
        simp only [if_true] at es
        simp -implicitDefEqProofs only [lk_normal, l2Pour_F, l6Bound_F, hil, hR, tkR, hr, hr2, pl2, tkP2, g0, g1, eP, hcd _ hc, lenP, lenL, tkL, ZB, Int.reduceToNat, Nat.reduceLT, Nat.reduceLeDiff, Int.reduceLE, Int.reduceLT, Nat.reduceEqDiff, Nat.reduceSub, SB, SV.known, packR, ne_eq, reduceCtorEq, Nat.reduceEqDiff, ↓reduceIte, if_true, if_false, eq_self, Nat.reduceAdd, Nat.reduceMul, Nat.reduceSub, forall_const, oneCellS, Kd.isSca, flat, TYB]
        (try (and_intros <;> try (first | omega | (unfold In64; omega) | trivial | assumption)))
        intro junk' cap' hj'
        (try (and_intros <;> try (first | omega | (unfold In64; omega) | trivial | assumption)))
        refine ⟨(i + 1, n + 1, cap', junk'), ?_, ?_, Sub.mk_to 1 5 ?_ ?_ ?_ ?_ ?_ ?_ ?_⟩
        all_goals (try (simp only [es, LB, subS, subH, wfS, wfH, SV.ren, renL, SObj.ren, SV.wf, SObj.wf, wfL, SV.known, Nat.reduceEqDiff, ↓reduceIte, if_true, if_false, eq_self, Nat.reduceAdd, Nat.reduceLT, Nat.reduceLeDiff, implies_true, reduceCtorEq, forall_const]; done))
        all_goals (try (simp only [es, LB, subS, subH, wfS, wfH, SV.ren, renL, SObj.ren, SV.wf, SObj.wf, wfL, SV.known, Nat.reduceEqDiff, ↓reduceIte, if_true, if_false, eq_self, Nat.reduceAdd, Nat.reduceLT, Nat.reduceLeDiff, implies_true, reduceCtorEq, forall_const]; simp; done))
        all_goals (try (simp only [es, LB, subS, subH, wfS, wfH, SV.ren, renL, SObj.ren, SV.wf, SObj.wf, wfL, SV.known, Nat.reduceEqDiff, ↓reduceIte, if_true, if_false, eq_self, Nat.reduceAdd, Nat.reduceLT, Nat.reduceLeDiff, implies_true, reduceCtorEq, forall_const]; (and_intros <;> (first | omega | rfl | (simp; done) | (simp; omega))); done))
        all_goals (try dsimp only)
        all_goals (and_intros <;> try (first | omega | (unfold In64; omega) | trivial | assumption))
        all_goals (try (rw [es, List.length_append, hL]; simp; omega))
    · have hil : ¬ (i : Int) < m := by omega
      obtain rfl : i = m := by omega
      simp -implicitDefEqProofs only [lk_normal, l2Pour_F, l6Bound_F, hil, hR, tkR, hr, lenP, lenL, tkL, ZB, Int.reduceToNat, Nat.reduceLT, Nat.reduceLeDiff, Int.reduceLE, Int.reduceLT, Nat.reduceEqDiff, Nat.reduceSub, SB, SV.known, packR, ne_eq, reduceCtorEq, Nat.reduceEqDiff, ↓reduceIte, if_true, if_false, eq_self, Nat.reduceAdd, Nat.reduceMul, Nat.reduceSub, forall_const, oneCellS, Kd.isSca, flat, TYB]
      refine .inr ⟨1, capo, jo, ?_, ?_, by omega, ?_, by simp⟩
      · rw [hL]; simp [Wrap.ap]
      · simp [hget_cons]
      · omega
def undF (R p : List Int) : Bool := canF (pourF R (p.getD 0 0).toNat (p.getD 1 0).toNat) (p.getD 1 0) (p.getD 0 0) && decide (pourF (pourF R (p.getD 0 0).toNat (p.getD 1 0).toNat) (p.getD 1 0).toNat (p.getD 0 0).toNat = R)
--@tbl isUndone = impl.isUndone
theorem isUndone_ok (R : List Int) (i j : Int) (hR : R.length = 24) (hi : 0 ≤ i ∧ i ≤ 5) (hj : 0 ≤ j ∧ j ≤ 5) : PureH Try.prog 71 [.arr R, .int i, .int j] [] (.bool (undF R [i, j])) := by
  have tkR : R.take 24 = R := List.take_of_length_le (by omega)
  have pl' := pourF_len hR i.toNat j.toNat
  have tkP : (pourF R i.toNat j.toNat).take 24 = pourF R i.toNat j.toNat := List.take_of_length_le (by omega)
  have pl2 := pourF_len pl' j.toNat i.toNat
  have tk2 : (pourF (pourF R i.toNat j.toNat) j.toNat i.toNat).take 24 = pourF (pourF R i.toNat j.toNat) j.toNat i.toNat := List.take_of_length_le (by omega)
  have eqr := eqI_rack
  unfold undF
  simp only [List.getD_cons_zero, List.getD_cons_succ]
  cases hc : canF (pourF R i.toNat j.toNat) j i
  all_goals
    refine pure_of_vc (X := ⟨Try.prog, tys, [(97, pour_F), (118, canPour_F)], [], true, true, 0, [], []⟩) fn_71 ⟨tys_ok, (.cons pour_T (.cons canPour_T .nil)), .nil, mixed⟩ (n0 := 0) (Nat.le_of_ble_eq_true rfl) (by simp [wfL, SV.wf]) (wfH_spec (by simp [wfH, SObj.wf])) (Nat.le_refl _) (fun _ => by simp [SV.wf, wfL]) ?_
    simp -implicitDefEqProofs only [Try.f71, Option.getD_some, argS, pour_F, canPour_F, hR, tkR, pl', tkP, pl2, tk2, eqr, hc, ZB, Int.reduceToNat, Nat.reduceLT, Nat.reduceLeDiff, Int.reduceLE, Int.reduceLT, Nat.reduceEqDiff, Nat.reduceSub, SB, SV.known, packR, ne_eq, reduceCtorEq, Nat.reduceEqDiff, ↓reduceIte, if_true, if_false, eq_self, Nat.reduceAdd, Nat.reduceMul, Nat.reduceSub, forall_const, oneCellS, Kd.isSca, flat, TYB]
  all_goals
    (try (and_intros <;> try (first | omega | (unfold In64; omega) | trivial | assumption)))
def isUndone_F : List SV → Heap → Option (Prop × SV)
  | [.arr R, .int i, .int j], _ => some (R.length = 24 ∧ (0 ≤ i ∧ i ≤ 5) ∧ (0 ≤ j ∧ j ≤ 5), .bool (undF R [i, j]))
  | _, _ => none
theorem isUndone_T : ∀ args H p v, isUndone_F args H = some (p, v) → p → PureH Try.prog 71 args H v := by
  intro args H p v h hp
  unfold isUndone_F at h
  split at h
  · cases h; exact (isUndone_ok _ _ _ hp.1 hp.2.1 hp.2.2).any _
  · cases h
--@tbl l5Undone = spec.l5Undone
theorem l5Undone_ok (R : List Int) (i j : Int) (hR : R.length = 24) (hr : rackB R = true) (hi : 0 ≤ i ∧ i ≤ 5) (hj : 0 ≤ j ∧ j ≤ 5) (h : canF R i j = true) : PureH Try.prog 66 [.arr R, .int i, .int j] [] (.bool (undF R [i, j])) := by
  have tkR : R.take 24 = R := List.take_of_length_le (by omega)
  have pl' := pourF_len hR i.toNat j.toNat
  have tkP : (pourF R i.toNat j.toNat).take 24 = pourF R i.toNat j.toNat := List.take_of_length_le (by omega)
  have pl2 := pourF_len pl' j.toNat i.toNat
  have tk2 : (pourF (pourF R i.toNat j.toNat) j.toNat i.toNat).take 24 = pourF (pourF R i.toNat j.toNat) j.toNat i.toNat := List.take_of_length_le (by omega)
  have hr' := pour_rack hR hr hi hj h
  have eqr := eqI_rack
  unfold undF
  simp only [List.getD_cons_zero, List.getD_cons_succ]
  cases hc : canF (pourF R i.toNat j.toNat) j i
  all_goals
    refine pure_of_vc (X := ⟨Try.prog, tys, [(96, l2Pour_F), (114, l2Can_F)], [], true, true, 0, [], []⟩) fn_66 ⟨tys_ok, (.cons l2Pour_T (.cons l2Can_T .nil)), .nil, mixed⟩ (n0 := 0) (Nat.le_of_ble_eq_true rfl) (by simp [wfL, SV.wf]) (wfH_spec (by simp [wfH, SObj.wf])) (Nat.le_refl _) (fun _ => by simp [SV.wf, wfL]) ?_
    simp -implicitDefEqProofs only [Try.f66, Option.getD_some, argS, l2Pour_F, l2Can_F, hR, tkR, hr, hr', pl', tkP, pl2, tk2, eqr, hc, ZB, Int.reduceToNat, Nat.reduceLT, Nat.reduceLeDiff, Int.reduceLE, Int.reduceLT, Nat.reduceEqDiff, Nat.reduceSub, SB, SV.known, packR, ne_eq, reduceCtorEq, Nat.reduceEqDiff, ↓reduceIte, if_true, if_false, eq_self, Nat.reduceAdd, Nat.reduceMul, Nat.reduceSub, forall_const, oneCellS, Kd.isSca, flat, TYB]
  all_goals
    (try (and_intros <;> try (first | omega | (unfold In64; omega) | trivial | assumption)))
def l5Undone_F : List SV → Heap → Option (Prop × SV)
  | [.arr R, .int i, .int j], _ => some (R.length = 24 ∧ rackB R = true ∧ (0 ≤ i ∧ i ≤ 5) ∧ (0 ≤ j ∧ j ≤ 5) ∧ canF R i j = true, .bool (undF R [i, j]))
  | _, _ => none
theorem l5Undone_T : ∀ args H p v, l5Undone_F args H = some (p, v) → p → PureH Try.prog 66 args H v := by
  intro args H p v h hp
  unfold l5Undone_F at h
  split at h
  · cases h; exact (l5Undone_ok _ _ _ hp.1 hp.2.1 hp.2.2.1 hp.2.2.2.1 hp.2.2.2.2).any _
  · cases h
theorem und1_ok (R : List Int) (e : Nat) (p : List Int) (hR : R.length = 24) (hq : okP p) : PureH Try.prog 70 [.arr p, .ptr 0 0] [(0, .ints R e)] (.bool (!undF R p)) := by
  have tkR : R.take 24 = R := List.take_of_length_le (by omega)
  have tkp := okP_take hq
  obtain ⟨pl, b0, b1⟩ := hq
  have e2 : undF R [p.getD 0 0, p.getD 1 0] = undF R p := rfl
  refine pure_of_vc (X := ⟨Try.prog, tys, [(71, isUndone_F)], [], true, true, 1, [], []⟩) fn_70 ⟨tys_ok, (.cons isUndone_T .nil), .nil, mixed⟩ (n0 := 1) (Nat.le_of_ble_eq_true rfl) (by simp [wfL, SV.wf]) (wfH_spec (by simp [wfH, SObj.wf])) (Nat.le_refl _) (fun _ => by simp [SV.wf, wfL]) ?_
  simp -implicitDefEqProofs only [Try.f70, Option.getD_some, argS, isUndone_F, hR, tkR, tkp, pl, e2, ZB, Int.reduceToNat, Nat.reduceLT, Nat.reduceLeDiff, Int.reduceLE, Int.reduceLT, Nat.reduceEqDiff, Nat.reduceSub, SB, SV.known, packR, ne_eq, reduceCtorEq, Nat.reduceEqDiff, ↓reduceIte, if_true, if_false, eq_self, Nat.reduceAdd, Nat.reduceMul, Nat.reduceSub, forall_const, oneCellS, Kd.isSca, flat, TYB]
  exact ⟨b0, b1⟩
--@w
def l6Good_F : List SV → Heap → Nat → Nat → K1 → Prop
  | [.arr R], H, n, _, κ => (R.length = 24 ∧ rackB R = true) ∧ freshK .one (gdL R) ((gdL R).length / 2) 2 51 (false) H n κ
  | _, _, _, _, _ => False
--@tbl l6Good = spec.l6Good
theorem l6Good_T : ∀ args H n m κ, l6Good_F args H n m κ → GenOK Try.prog 79 args H n m κ := by
  intro args H n m κ h
  unfold l6Good_F at h
  split at h
  · exact gen_of_fresh (l6Good_ok _ h.1.1 h.1.2) (fun k o hk => by cases hk) h.2
  · exact h.elim
def unL (R : List Int) : List Int := kept (fun p => undF R p) (PL R 36) ((PL R 36).length / 2)
theorem unL_even (R : List Int) : ∃ k, (unL R).length = k * 2 ∧ k ≤ 36 := by
  obtain ⟨m, hm, hm36⟩ := PL_even R 36
  obtain ⟨k, hk, hkm⟩ := kept_even (fun p => undF R p) (PL R 36) m (by omega)
  have e2 : (PL R 36).length / 2 = m := by omega
  exact ⟨k, by unfold unL; rw [e2]; exact hk, by omega⟩
def uuDel_F := delR_F 70 (fun R p => !undF R p) (fun _ p => okP p)
--@tbl uuDel = slices.DeleteFunc[[][2]int,[2]int]
theorem uuDel_T : ∀ args H n m κ, uuDel_F args H n m κ → GenOK Try.prog 68 args H n m κ := delR_T _ _ _ (by decide) und1_ok
def gpF (R : List Int) : List Int := if rackB R = true then gdL R else []
theorem gpF_even (R : List Int) : ∃ k, (gpF R).length = k * 2 ∧ k ≤ 36 := by
  unfold gpF
  split
  · exact gdL_even R
  · exact ⟨0, rfl, by omega⟩
def upnF (R : List Int) : List Int := if rackB R = true then unL R else []
theorem upnF_even (R : List Int) : ∃ k, (upnF R).length = k * 2 ∧ k ≤ 36 := by
  unfold upnF
  split
  · exact unL_even R
  · exact ⟨0, rfl, by omega⟩
theorem GoodPours_ok (R : List Int) (hR : R.length = 24) : FreshP Try.prog 32 [.arr R] [] (gpF R) ((gpF R).length / 2) 2 51 (decide (rackB R = false ∨ PL R 36 = [])) (.more [.bool (rackB R)]) := by
  have tkR : R.take 24 = R := List.take_of_length_le (by omega)
  unfold gpF
  cases hr : rackB R
  · refine fresh_of_vc (X := ⟨Try.prog, tys, [(67, IsRack_F)], [(80, good_F)], true, true, 0, [], []⟩) fn_32 ⟨tys_ok, (.cons IsRack_T .nil), (.cons good_T .nil), mixed⟩ (n0 := 0) rfl (Nat.le_of_ble_eq_true rfl) (by simp [wfL, SV.wf]) (wfH_spec (by simp [wfH, SObj.wf])) (Nat.le_refl _) ?_
    simp -implicitDefEqProofs only [Try.f32, Option.getD_some, argS, IsRack_F, good_F, hR, tkR, hr, freshK, Wrap.ap, ZB, Int.reduceToNat, Nat.reduceLT, Nat.reduceLeDiff, Int.reduceLE, Int.reduceLT, Nat.reduceEqDiff, Nat.reduceSub, SB, SV.known, packR, ne_eq, reduceCtorEq, Nat.reduceEqDiff, ↓reduceIte, if_true, if_false, eq_self, Nat.reduceAdd, Nat.reduceMul, Nat.reduceSub, forall_const, oneCellS, Kd.isSca, flat, TYB]
    exact .inl ⟨by simp, rfl, rfl⟩
  · refine fresh_of_vc (X := ⟨Try.prog, tys, [(67, IsRack_F)], [(80, good_F)], true, true, 0, [], []⟩) fn_32 ⟨tys_ok, (.cons IsRack_T .nil), (.cons good_T .nil), mixed⟩ (n0 := 0) rfl (Nat.le_of_ble_eq_true rfl) (by simp [wfL, SV.wf]) (wfH_spec (by simp [wfH, SObj.wf])) (Nat.le_refl _) ?_
    simp -implicitDefEqProofs only [Try.f32, Option.getD_some, argS, IsRack_F, good_F, hR, tkR, hr, freshK, Wrap.ap, ZB, Int.reduceToNat, Nat.reduceLT, Nat.reduceLeDiff, Int.reduceLE, Int.reduceLT, Nat.reduceEqDiff, Nat.reduceSub, SB, SV.known, packR, ne_eq, reduceCtorEq, Nat.reduceEqDiff, ↓reduceIte, if_true, if_false, eq_self, Nat.reduceAdd, Nat.reduceMul, Nat.reduceSub, forall_const, oneCellS, Kd.isSca, flat, TYB]
    exact ⟨fun h1 h2 => .inl ⟨by simp [h1], h2, rfl⟩, fun h cap junk hj => .inr ⟨1, cap, junk, rfl, by simp [hget_cons], by omega, hj, by simpa using h⟩⟩
theorem sGoodPours_ok (R : List Int) (hR : R.length = 24) : FreshP Try.prog 31 [.arr R] [] (gpF R) ((gpF R).length / 2) 2 51 false (.more [.bool (rackB R)]) := by
  have tkR : R.take 24 = R := List.take_of_length_le (by omega)
  unfold gpF
  cases hr : rackB R
  · refine fresh_of_vc (X := ⟨Try.prog, tys, [(64, l2Rack_F)], [(79, l6Good_F)], true, true, 0, [], []⟩) fn_31 ⟨tys_ok, (.cons l2Rack_T .nil), (.cons l6Good_T .nil), mixed⟩ (n0 := 0) rfl (Nat.le_of_ble_eq_true rfl) (by simp [wfL, SV.wf]) (wfH_spec (by simp [wfH, SObj.wf])) (Nat.le_refl _) ?_
    simp -implicitDefEqProofs only [Try.f31, Option.getD_some, argS, l2Rack_F, l6Good_F, hR, tkR, hr, freshK, Wrap.ap, ZB, Int.reduceToNat, Nat.reduceLT, Nat.reduceLeDiff, Int.reduceLE, Int.reduceLT, Nat.reduceEqDiff, Nat.reduceSub, SB, SV.known, packR, ne_eq, reduceCtorEq, Nat.reduceEqDiff, ↓reduceIte, if_true, if_false, eq_self, Nat.reduceAdd, Nat.reduceMul, Nat.reduceSub, forall_const, oneCellS, Kd.isSca, flat, TYB]
    exact .inr ⟨1, 0, [], rfl, by simp [hget_cons], by omega, rfl, by simp⟩
  · refine fresh_of_vc (X := ⟨Try.prog, tys, [(64, l2Rack_F)], [(79, l6Good_F)], true, true, 0, [], []⟩) fn_31 ⟨tys_ok, (.cons l2Rack_T .nil), (.cons l6Good_T .nil), mixed⟩ (n0 := 0) rfl (Nat.le_of_ble_eq_true rfl) (by simp [wfL, SV.wf]) (wfH_spec (by simp [wfH, SObj.wf])) (Nat.le_refl _) ?_
    simp -implicitDefEqProofs only [Try.f31, Option.getD_some, argS, l2Rack_F, l6Good_F, hR, tkR, hr, freshK, Wrap.ap, ZB, Int.reduceToNat, Nat.reduceLT, Nat.reduceLeDiff, Int.reduceLE, Int.reduceLT, Nat.reduceEqDiff, Nat.reduceSub, SB, SV.known, packR, ne_eq, reduceCtorEq, Nat.reduceEqDiff, ↓reduceIte, if_true, if_false, eq_self, Nat.reduceAdd, Nat.reduceMul, Nat.reduceSub, forall_const, oneCellS, Kd.isSca, flat, TYB]
    exact fun cap junk hj => .inr ⟨1, cap, junk, rfl, by simp [hget_cons], by omega, hj, by simp⟩
theorem UndonePours_ok (R : List Int) (hR : R.length = 24) : FreshP Try.prog 23 [.arr R] [] (upnF R) ((upnF R).length / 2) 2 51 (decide (rackB R = false ∨ PL R 36 = [])) (.more [.bool (rackB R)]) := by
  have tkR : R.take 24 = R := List.take_of_length_le (by omega)
  unfold upnF
  cases hr : rackB R
  · refine fresh_of_vc (X := ⟨Try.prog, tys, [(67, IsRack_F)], [(69, pours_F), (68, uuDel_F)], true, true, 0, [], []⟩) fn_23 ⟨tys_ok, (.cons IsRack_T .nil), (.cons pours_T (.cons uuDel_T .nil)), mixed⟩ (n0 := 0) rfl (Nat.le_of_ble_eq_true rfl) (by simp [wfL, SV.wf]) (wfH_spec (by simp [wfH, SObj.wf])) (Nat.le_refl _) ?_
    simp -implicitDefEqProofs only [Try.f23, Option.getD_some, argS, IsRack_F, pours_F, uuDel_F, hR, tkR, hr, freshK, Wrap.ap, uuDel_F, delR_F, Bool.not_not, ZB, Int.reduceToNat, Nat.reduceLT, Nat.reduceLeDiff, Int.reduceLE, Int.reduceLT, Nat.reduceEqDiff, Nat.reduceSub, SB, SV.known, packR, ne_eq, reduceCtorEq, Nat.reduceEqDiff, ↓reduceIte, if_true, if_false, eq_self, Nat.reduceAdd, Nat.reduceMul, Nat.reduceSub, forall_const, oneCellS, Kd.isSca, flat, TYB]
    exact .inl ⟨by simp, rfl, rfl⟩
  · refine fresh_of_vc (X := ⟨Try.prog, tys, [(67, IsRack_F)], [(69, pours_F), (68, uuDel_F)], true, true, 0, [], []⟩) fn_23 ⟨tys_ok, (.cons IsRack_T .nil), (.cons pours_T (.cons uuDel_T .nil)), mixed⟩ (n0 := 0) rfl (Nat.le_of_ble_eq_true rfl) (by simp [wfL, SV.wf]) (wfH_spec (by simp [wfH, SObj.wf])) (Nat.le_refl _) ?_
    simp -implicitDefEqProofs only [Try.f23, Option.getD_some, argS, IsRack_F, pours_F, uuDel_F, hR, tkR, hr, freshK, Wrap.ap, uuDel_F, delR_F, Bool.not_not, ZB, Int.reduceToNat, Nat.reduceLT, Nat.reduceLeDiff, Int.reduceLE, Int.reduceLT, Nat.reduceEqDiff, Nat.reduceSub, SB, SV.known, packR, ne_eq, reduceCtorEq, Nat.reduceEqDiff, ↓reduceIte, if_true, if_false, eq_self, Nat.reduceAdd, Nat.reduceMul, Nat.reduceSub, forall_const, oneCellS, Kd.isSca, flat, TYB]
    obtain ⟨m, hm, hm36⟩ := PL_even R 36
    have e2 : (PL R 36).length / 2 = m := by omega
    have uf : unL R = kept (fun p => undF R p) (PL R 36) m := by unfold unL; rw [e2]
    refine ⟨fun h0 => ?_, fun h0 cap junk hj => ?_⟩
    · refine .inl ⟨by simp [h0], ?_, rfl⟩
      rw [uf, show m = 0 by rw [h0] at hm; simp at hm; omega]; rfl
    · have ka := kept_app (fun p => undF R p) (PL R 36) junk m (by omega)
      obtain ⟨k, hk, hkm⟩ := kept_even (fun p => undF R p) (PL R 36) m (by omega)
      rw [e2, ka]
      refine ⟨by rw [List.length_append]; omega, by omega, by omega, fun i hi => ?_, .inr ⟨1, cap, List.replicate (m * 2 - (kept (fun p => undF R p) (PL R 36) m).length) 0 ++ List.drop (m * 2) (PL R 36 ++ junk), ?_, ?_, by omega, ?_, by simp [h0]⟩⟩
      · exact (qCan_of hr i junk (by omega)).2.1
      · rw [uf]; rfl
      · rw [uf, hget_cons, if_pos rfl, List.append_assoc]
      · rw [uf, List.length_append, List.length_replicate, List.length_drop, List.length_append]
        omega
theorem sUndonePours_ok (R : List Int) (hR : R.length = 24) : FreshP Try.prog 22 [.arr R] [] (upnF R) ((upnF R).length / 2) 2 51 false (.more [.bool (rackB R)]) := by
  have tkR : R.take 24 = R := List.take_of_length_le (by omega)
  unfold upnF
  cases hr : rackB R
  · refine fresh_of_vc (X := ⟨Try.prog, tys, [(64, l2Rack_F), (66, l5Undone_F)], [(65, l2Pours_F)], true, true, 0, [], []⟩) fn_22 ⟨tys_ok, (.cons l2Rack_T (.cons l5Undone_T .nil)), (.cons l2Pours_T .nil), mixed⟩ (n0 := 0) rfl (Nat.le_of_ble_eq_true rfl) (by simp [wfL, SV.wf]) (wfH_spec (by simp [wfH, SObj.wf])) (Nat.le_refl _) ?_
    simp -implicitDefEqProofs only [Try.f22, Option.getD_some, argS, l2Rack_F, l5Undone_F, l2Pours_F, hR, tkR, hr, freshK, Wrap.ap, ZB, Int.reduceToNat, Nat.reduceLT, Nat.reduceLeDiff, Int.reduceLE, Int.reduceLT, Nat.reduceEqDiff, Nat.reduceSub, SB, SV.known, packR, ne_eq, reduceCtorEq, Nat.reduceEqDiff, ↓reduceIte, if_true, if_false, eq_self, Nat.reduceAdd, Nat.reduceMul, Nat.reduceSub, forall_const, oneCellS, Kd.isSca, flat, TYB]
    exact .inr ⟨1, 0, [], by simp [Wrap.ap], by simp [hget_cons], by omega, by simp, by simp⟩
  obtain ⟨m, hm, hm36⟩ := PL_even R 36
  have e2 : (PL R 36).length / 2 = m := by omega
  have uf : unL R = kept (fun p => undF R p) (PL R 36) m := by unfold unL; rw [e2]
  refine fresh_of_vc (X := ⟨Try.prog, tys, [(64, l2Rack_F), (66, l5Undone_F)], [(65, l2Pours_F)], true, true, 0, [], []⟩) fn_22 ⟨tys_ok, (.cons l2Rack_T (.cons l5Undone_T .nil)), (.cons l2Pours_T .nil), mixed⟩ (n0 := 0) rfl (Nat.le_of_ble_eq_true rfl) (by simp [wfL, SV.wf]) (wfH_spec (by simp [wfH, SObj.wf])) (Nat.le_refl _) ?_
  simp -implicitDefEqProofs only [Try.f22, Option.getD_some, argS, l2Rack_F, l5Undone_F, l2Pours_F, hR, tkR, hr, e2, freshK, Wrap.ap, ZB, Int.reduceToNat, Nat.reduceLT, Nat.reduceLeDiff, Int.reduceLE, Int.reduceLT, Nat.reduceEqDiff, Nat.reduceSub, SB, SV.known, packR, ne_eq, reduceCtorEq, Nat.reduceEqDiff, ↓reduceIte, if_true, if_false, eq_self, Nat.reduceAdd, Nat.reduceMul, Nat.reduceSub, forall_const, oneCellS, Kd.isSca, flat, TYB]
  have hbd : Bd 0 5 (PL R 36) := PL_bd R 36 (by omega)
  rw [uf]
  have hcan := fun i h => qCan_pair (i := i) hr h
  generalize PL R 36 = P at *
  intro cap junk hj
  refine loop_intro (fun s : Nat × Nat × Nat × List Int => [(6, .int s.1), (5, .slice 2 0 m cap), (4, .slice 1 0 s.2.1 s.2.2.1), (1, .ptr 0 0)]) (fun s => [(1, .ints (kept (fun p => undF R p) P s.1 ++ s.2.2.2) 51), (2, .ints (P ++ junk) 51), (0, .ints R 30)]) 3
    (fun s => s.1 ≤ m ∧ (kept (fun p => undF R p) P s.1).length = s.2.1 * 2 ∧ s.2.1 ≤ s.1 ∧ s.2.2.2.length + s.2.1 * 2 = s.2.2.1 * 2) (fun s => m - s.1) ?_ ?_
  · refine ⟨(0, 0, 0, []), ?_, Sub.mk_id ?_ ?_ ?_ ?_ ?_⟩
    all_goals (try (simp only [kept_zero, List.append_nil, LB, subS, subH, wfS, wfH, SV.ren, renL, SObj.ren, SV.wf, SObj.wf, wfL, SV.known, Nat.reduceEqDiff, ↓reduceIte, if_true, if_false, eq_self, Nat.reduceAdd, Nat.reduceLT, Nat.reduceLeDiff, implies_true, reduceCtorEq, forall_const]; done))
    all_goals (try (simp only [kept_zero, List.append_nil, LB, subS, subH, wfS, wfH, SV.ren, renL, SObj.ren, SV.wf, SObj.wf, wfL, SV.known, Nat.reduceEqDiff, ↓reduceIte, if_true, if_false, eq_self, Nat.reduceAdd, Nat.reduceLT, Nat.reduceLeDiff, implies_true, reduceCtorEq, forall_const]; simp; done))
    all_goals (try (simp only [kept_zero, List.append_nil, LB, subS, subH, wfS, wfH, SV.ren, renL, SObj.ren, SV.wf, SObj.wf, wfL, SV.known, Nat.reduceEqDiff, ↓reduceIte, if_true, if_false, eq_self, Nat.reduceAdd, Nat.reduceLT, Nat.reduceLeDiff, implies_true, reduceCtorEq, forall_const]; (and_intros <;> (first | omega | rfl | (simp; done) | (simp; omega))); done))
    all_goals (try dsimp only)
    all_goals (and_intros <;> try (first | omega | (unfold In64; omega) | trivial | assumption))
    all_goals simp [kept_zero]
  · rintro ⟨i, n, capo, jo⟩ ⟨hi, hL, hni, hjo⟩
    simp only at hi hL hni hjo
    have lenL : (kept (fun p => undF R p) P i ++ jo).length = capo * 2 := by rw [List.length_append]; omega
    have tkL : (kept (fun p => undF R p) P i ++ jo).take (n * 2) = kept (fun p => undF R p) P i := List.take_left' hL
    have lenP : (P ++ junk).length = cap * 2 := by rw [List.length_append]; omega
    by_cases hlt : i < m
    · have hil : (i : Int) < m := by omega
      have g0 := getD_app P junk (i * 2) (by omega)
      have g1 := getD_app P junk (i * 2 + 1) (by omega)
      have bA : 0 ≤ P.getD (i * 2) 0 ∧ P.getD (i * 2) 0 ≤ 5 := hbd.getD (by omega)
      have bB : 0 ≤ P.getD (i * 2 + 1) 0 ∧ P.getD (i * 2 + 1) 0 ≤ 5 := hbd.getD (by omega)
      have eP : List.take 2 (List.drop (i * 2) (P ++ junk)) = [P.getD (i * 2) 0, P.getD (i * 2 + 1) 0] := by
        rw [take2_drop _ _ (by rw [List.length_append]; omega), g0, g1]
      have eQ : List.take 2 (List.drop (i * 2) P) = [P.getD (i * 2) 0, P.getD (i * 2 + 1) 0] := take2_drop _ _ (by omega)
      have es := kept_succ (fun p => undF R p) P i
      rw [eQ] at es
      have hcn := hcan i (by omega)
      cases hc : undF R [P.getD (i * 2) 0, P.getD (i * 2 + 1) 0] with
      | false =>
        rw [hc] at es
        simp only [Bool.false_eq_true, if_false, List.append_nil] at es
        simp -implicitDefEqProofs only [lk_normal, l5Undone_F, hil, hR, tkR, hr, g0, g1, eP, hc, lenP, lenL, tkL, ZB, Int.reduceToNat, Nat.reduceLT, Nat.reduceLeDiff, Int.reduceLE, Int.reduceLT, Nat.reduceEqDiff, Nat.reduceSub, SB, SV.known, packR, ne_eq, reduceCtorEq, Nat.reduceEqDiff, ↓reduceIte, if_true, if_false, eq_self, Nat.reduceAdd, Nat.reduceMul, Nat.reduceSub, forall_const, oneCellS, Kd.isSca, flat, TYB]
        (try (and_intros <;> try (first | omega | (unfold In64; omega) | trivial | assumption)))
        refine ⟨(i + 1, n, capo, jo), ?_, ?_, Sub.mk_id ?_ ?_ ?_ ?_ ?_⟩
        all_goals (try (simp only [es, LB, subS, subH, wfS, wfH, SV.ren, renL, SObj.ren, SV.wf, SObj.wf, wfL, SV.known, Nat.reduceEqDiff, ↓reduceIte, if_true, if_false, eq_self, Nat.reduceAdd, Nat.reduceLT, Nat.reduceLeDiff, implies_true, reduceCtorEq, forall_const]; done))
        all_goals (try (simp only [es, LB, subS, subH, wfS, wfH, SV.ren, renL, SObj.ren, SV.wf, SObj.wf, wfL, SV.known, Nat.reduceEqDiff, ↓reduceIte, if_true, if_false, eq_self, Nat.reduceAdd, Nat.reduceLT, Nat.reduceLeDiff, implies_true, reduceCtorEq, forall_const]; simp; done))
        all_goals (try (simp only [es, LB, subS, subH, wfS, wfH, SV.ren, renL, SObj.ren, SV.wf, SObj.wf, wfL, SV.known, Nat.reduceEqDiff, ↓reduceIte, if_true, if_false, eq_self, Nat.reduceAdd, Nat.reduceLT, Nat.reduceLeDiff, implies_true, reduceCtorEq, forall_const]; (and_intros <;> (first | omega | rfl | (simp; done) | (simp; omega))); done))
        all_goals (try dsimp only)
        all_goals (and_intros <;> try (first | omega | (unfold In64; omega) | trivial | assumption))
        all_goals (try (rw [es]; exact hL))
      | true =>
        rw [hc] at es
        simp only [if_true] at es
        simp -implicitDefEqProofs only [lk_normal, l5Undone_F, hil, hR, tkR, hr, g0, g1, eP, hc, lenP, lenL, tkL, ZB, Int.reduceToNat, Nat.reduceLT, Nat.reduceLeDiff, Int.reduceLE, Int.reduceLT, Nat.reduceEqDiff, Nat.reduceSub, SB, SV.known, packR, ne_eq, reduceCtorEq, Nat.reduceEqDiff, ↓reduceIte, if_true, if_false, eq_self, Nat.reduceAdd, Nat.reduceMul, Nat.reduceSub, forall_const, oneCellS, Kd.isSca, flat, TYB]
        (try (and_intros <;> try (first | omega | (unfold In64; omega) | trivial | assumption)))
        intro junk' cap' hj'
        (try (and_intros <;> try (first | omega | (unfold In64; omega) | trivial | assumption)))
        refine ⟨(i + 1, n + 1, cap', junk'), ?_, ?_, Sub.mk_to 1 4 ?_ ?_ ?_ ?_ ?_ ?_ ?_⟩
        all_goals (try (simp only [es, LB, subS, subH, wfS, wfH, SV.ren, renL, SObj.ren, SV.wf, SObj.wf, wfL, SV.known, Nat.reduceEqDiff, ↓reduceIte, if_true, if_false, eq_self, Nat.reduceAdd, Nat.reduceLT, Nat.reduceLeDiff, implies_true, reduceCtorEq, forall_const]; done))
        all_goals (try (simp only [es, LB, subS, subH, wfS, wfH, SV.ren, renL, SObj.ren, SV.wf, SObj.wf, wfL, SV.known, Nat.reduceEqDiff, ↓reduceIte, if_true, if_false, eq_self, Nat.reduceAdd, Nat.reduceLT, Nat.reduceLeDiff, implies_true, reduceCtorEq, forall_const]; simp; done))
        all_goals (try (simp only [es, LB, subS, subH, wfS, wfH, SV.ren, renL, SObj.ren, SV.wf, SObj.wf, wfL, SV.known, Nat.reduceEqDiff, ↓reduceIte, if_true, if_false, eq_self, Nat.reduceAdd, Nat.reduceLT, Nat.reduceLeDiff, implies_true, reduceCtorEq, forall_const]; (and_intros <;> (first | omega | rfl | (simp; done) | (simp; omega))); done))
        all_goals (try dsimp only)
        all_goals (and_intros <;> try (first | omega | (unfold In64; omega) | trivial | assumption))
        all_goals (try (rw [es, List.length_append, hL]; simp; omega))
    · have hil : ¬ (i : Int) < m := by omega
      obtain rfl : i = m := by omega
      simp -implicitDefEqProofs only [lk_normal, hil, lenP, lenL, tkL, ZB, Int.reduceToNat, Nat.reduceLT, Nat.reduceLeDiff, Int.reduceLE, Int.reduceLT, Nat.reduceEqDiff, Nat.reduceSub, SB, SV.known, packR, ne_eq, reduceCtorEq, Nat.reduceEqDiff, ↓reduceIte, if_true, if_false, eq_self, Nat.reduceAdd, Nat.reduceMul, Nat.reduceSub, forall_const, oneCellS, Kd.isSca, flat, TYB]
      refine .inr ⟨1, capo, jo, ?_, ?_, by omega, ?_, by simp⟩
      · rw [hL]; simp [Wrap.ap]
      · simp [hget_cons]
      · omega
def GoodPours_F : List SV → Heap → Nat → Nat → K1 → Prop
  | [.arr R], H, n, _, κ => (R.length = 24) ∧ freshK (.more [.bool (rackB R)]) (gpF R) ((gpF R).length / 2) 2 51 (decide (rackB R = false ∨ PL R 36 = [])) H n κ
  | _, _, _, _, _ => False
--@tbl GoodPours = impl.GoodPours
theorem GoodPours_T : ∀ args H n m κ, GoodPours_F args H n m κ → GenOK Try.prog 32 args H n m κ := by
  intro args H n m κ h
  unfold GoodPours_F at h
  split at h
  · exact gen_of_fresh (GoodPours_ok _ h.1) (fun k o hk => by cases hk) h.2
  · exact h.elim
def sGoodPours_F : List SV → Heap → Nat → Nat → K1 → Prop
  | [.arr R], H, n, _, κ => (R.length = 24) ∧ freshK (.more [.bool (rackB R)]) (gpF R) ((gpF R).length / 2) 2 51 (false) H n κ
  | _, _, _, _, _ => False
--@tbl sGoodPours = spec.GoodPours
theorem sGoodPours_T : ∀ args H n m κ, sGoodPours_F args H n m κ → GenOK Try.prog 31 args H n m κ := by
  intro args H n m κ h
  unfold sGoodPours_F at h
  split at h
  · exact gen_of_fresh (sGoodPours_ok _ h.1) (fun k o hk => by cases hk) h.2
  · exact h.elim
theorem lawGoodPours (R : List Int) (hR : R.length = 24) (_ : ∀ x ∈ R, In64 x) : PureH Try.prog 8 [.arr R] [] (.bool true) := by
  have tkR : R.take 24 = R := List.take_of_length_le (by omega)
  obtain ⟨m, hm, hm36⟩ := gpF_even R
  have e2 : (gpF R).length / 2 = m := by omega
  generalize hnl : decide (rackB R = false ∨ PL R 36 = []) = nl
  refine pure_of_vc (X := ⟨Try.prog, tys, [(16, toRack_F), (19, eqS2_F), (21, held2_F)], [(32, GoodPours_F), (31, sGoodPours_F), (20, mark2_F)], true, true, 0, [], []⟩) fn_8 ⟨tys_ok, (.cons toRack_T (.cons eqS2_T (.cons held2_T .nil))), (.cons GoodPours_T (.cons sGoodPours_T (.cons mark2_T .nil))), mixed⟩ (n0 := 0) (Nat.le_of_ble_eq_true rfl) (by simp [wfL, SV.wf]) (wfH_spec (by simp [wfH, SObj.wf])) (Nat.le_refl _) (fun _ => by simp [SV.wf, wfL]) ?_
  simp -implicitDefEqProofs only [Try.f8, Option.getD_some, argS, toRack_F, eqS2_F, held2_F, GoodPours_F, sGoodPours_F, mark2_F, hR, tkR, hnl, e2, freshK, Wrap.ap, ZB, Int.reduceToNat, Nat.reduceLT, Nat.reduceLeDiff, Int.reduceLE, Int.reduceLT, Nat.reduceEqDiff, Nat.reduceSub, SB, SV.known, packR, ne_eq, reduceCtorEq, Nat.reduceEqDiff, ↓reduceIte, if_true, if_false, eq_self, Nat.reduceAdd, Nat.reduceMul, Nat.reduceSub, forall_const, oneCellS, Kd.isSca, flat, TYB]
  exact lawS2 nl hm (by omega)
def UndonePours_F : List SV → Heap → Nat → Nat → K1 → Prop
  | [.arr R], H, n, _, κ => (R.length = 24) ∧ freshK (.more [.bool (rackB R)]) (upnF R) ((upnF R).length / 2) 2 51 (decide (rackB R = false ∨ PL R 36 = [])) H n κ
  | _, _, _, _, _ => False
--@tbl UndonePours = impl.UndonePours
theorem UndonePours_T : ∀ args H n m κ, UndonePours_F args H n m κ → GenOK Try.prog 23 args H n m κ := by
  intro args H n m κ h
  unfold UndonePours_F at h
  split at h
  · exact gen_of_fresh (UndonePours_ok _ h.1) (fun k o hk => by cases hk) h.2
  · exact h.elim
def sUndonePours_F : List SV → Heap → Nat → Nat → K1 → Prop
  | [.arr R], H, n, _, κ => (R.length = 24) ∧ freshK (.more [.bool (rackB R)]) (upnF R) ((upnF R).length / 2) 2 51 (false) H n κ
  | _, _, _, _, _ => False
--@tbl sUndonePours = spec.UndonePours
theorem sUndonePours_T : ∀ args H n m κ, sUndonePours_F args H n m κ → GenOK Try.prog 22 args H n m κ := by
  intro args H n m κ h
  unfold sUndonePours_F at h
  split at h
  · exact gen_of_fresh (sUndonePours_ok _ h.1) (fun k o hk => by cases hk) h.2
  · exact h.elim
theorem lawUndonePours (R : List Int) (hR : R.length = 24) (_ : ∀ x ∈ R, In64 x) : PureH Try.prog 4 [.arr R] [] (.bool true) := by
  have tkR : R.take 24 = R := List.take_of_length_le (by omega)
  obtain ⟨m, hm, hm36⟩ := upnF_even R
  have e2 : (upnF R).length / 2 = m := by omega
  generalize hnl : decide (rackB R = false ∨ PL R 36 = []) = nl
  refine pure_of_vc (X := ⟨Try.prog, tys, [(16, toRack_F), (19, eqS2_F), (21, held2_F)], [(23, UndonePours_F), (22, sUndonePours_F), (20, mark2_F)], true, true, 0, [], []⟩) fn_4 ⟨tys_ok, (.cons toRack_T (.cons eqS2_T (.cons held2_T .nil))), (.cons UndonePours_T (.cons sUndonePours_T (.cons mark2_T .nil))), mixed⟩ (n0 := 0) (Nat.le_of_ble_eq_true rfl) (by simp [wfL, SV.wf]) (wfH_spec (by simp [wfH, SObj.wf])) (Nat.le_refl _) (fun _ => by simp [SV.wf, wfL]) ?_
  simp -implicitDefEqProofs only [Try.f4, Option.getD_some, argS, toRack_F, eqS2_F, held2_F, UndonePours_F, sUndonePours_F, mark2_F, hR, tkR, hnl, e2, freshK, Wrap.ap, ZB, Int.reduceToNat, Nat.reduceLT, Nat.reduceLeDiff, Int.reduceLE, Int.reduceLT, Nat.reduceEqDiff, Nat.reduceSub, SB, SV.known, packR, ne_eq, reduceCtorEq, Nat.reduceEqDiff, ↓reduceIte, if_true, if_false, eq_self, Nat.reduceAdd, Nat.reduceMul, Nat.reduceSub, forall_const, oneCellS, Kd.isSca, flat, TYB]
  exact lawS2 nl hm (by omega)
end Go.Proofs.Ytaenmmebnifioaa
