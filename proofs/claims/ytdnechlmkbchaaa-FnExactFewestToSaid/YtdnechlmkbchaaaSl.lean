/- Walks: what the laws do with lists of pairs. -/
import Derived.Test.YtdnechlmkbchaaaUpd
import Derived.Test.YtdnechlmkbchaaaO
import Derived.Test.YtdnechlmkbchaaaQ
set_option maxRecDepth 100000
set_option linter.unusedSimpArgs false
set_option linter.unusedVariables false
namespace Go.Proofs.Ytdnechlmkbchaaa
open Go Go.RowKit
--@tbl eqS2 = laws.eqIntA2S
theorem eqS2_ok (L1 L2 : List Int) (e1 e2 c1 c2 m : Nat) (h1 : m * 2 ≤ L1.length) (h2 : m * 2 ≤ L2.length) (h : L1.take (m * 2) = L2.take (m * 2)) (hm : m ≤ 4611686018427387903) :
    PureH Try.prog 18 [.slice 0 0 m c1, .slice 1 0 m c2] [(0, .ints L1 e1), (1, .ints L2 e2)] (.bool true) := by
  refine pure_of_vc (X := ⟨Try.prog, tys, [(55, eqIntA2_F)], [], true, true, 2, [], []⟩) fn_18 ⟨tys_ok, (.cons eqIntA2_T .nil), .nil, mixed⟩ (n0 := 2) (Nat.le_of_ble_eq_true rfl) (by simp [wfL, SV.wf]) (wfH_spec (by simp [wfH, SObj.wf])) (Nat.le_refl _) (fun _ => by simp [SV.wf, wfL]) ?_
  simp -implicitDefEqProofs only [Try.f18, Option.getD_some, argS, eqIntA2_F, ZB, Int.reduceToNat, Nat.reduceLT, Nat.reduceLeDiff, Int.reduceLE, Int.reduceLT, Nat.reduceEqDiff, Nat.reduceSub, SB, SV.known, packR, ne_eq, reduceCtorEq, Nat.reduceEqDiff, ↓reduceIte, if_true, if_false, eq_self, Nat.reduceAdd, Nat.reduceMul, Nat.reduceSub, forall_const, oneCellS, litOne, flat1, Kd.isSca, flat, TYB]
  refine loop_intro (fun i : Nat => [(5, .int i), (0, .slice 0 0 m c1), (1, .slice 1 0 m c2)]) (fun _ => [(0, .ints L1 e1), (1, .ints L2 e2)]) 2 (fun i => i ≤ m) (fun i => m - i) ?_ ?_
  · refine ⟨0, ?_, Sub.mk_id ?_ ?_ ?_ ?_ ?_⟩
    all_goals (try (simp only [LB, subS, subH, wfS, wfH, SV.ren, renL, SObj.ren, SV.wf, SObj.wf, wfL, SV.known, Nat.reduceEqDiff, ↓reduceIte, if_true, if_false, eq_self, Nat.reduceAdd, Nat.reduceLT, Nat.reduceLeDiff, implies_true, reduceCtorEq, forall_const]; done))
    all_goals (try (simp only [LB, subS, subH, wfS, wfH, SV.ren, renL, SObj.ren, SV.wf, SObj.wf, wfL, SV.known, Nat.reduceEqDiff, ↓reduceIte, if_true, if_false, eq_self, Nat.reduceAdd, Nat.reduceLT, Nat.reduceLeDiff, implies_true, reduceCtorEq, forall_const]; simp; done))
    all_goals (try (simp only [LB, subS, subH, wfS, wfH, SV.ren, renL, SObj.ren, SV.wf, SObj.wf, wfL, SV.known, Nat.reduceEqDiff, ↓reduceIte, if_true, if_false, eq_self, Nat.reduceAdd, Nat.reduceLT, Nat.reduceLeDiff, implies_true, reduceCtorEq, forall_const]; (and_intros <;> (first | omega | rfl | (simp; done) | (simp; omega))); done))
    all_goals (try dsimp only)
    all_goals (and_intros <;> try (first | omega | (unfold In64; omega) | trivial | assumption))
  · intro i hi
    by_cases hlt : i < m
    · have hil : (i : Int) < m := by omega
      have ee : (L1.drop (i * 2)).take 2 = (L2.drop (i * 2)).take 2 := by
        have := congrArg (fun l => (List.drop (i * 2) l).take 2) h
        simp only [List.drop_take, List.take_take] at this
        rw [Nat.min_eq_left (by omega)] at this
        exact this
      have l2 : ((L2.drop (i * 2)).take 2).length = 2 := by rw [List.length_take, List.length_drop]; omega
      simp -implicitDefEqProofs only [lk_normal, eqIntA2_F, hil, ee, l2, ZB, Int.reduceToNat, Nat.reduceLT, Nat.reduceLeDiff, Int.reduceLE, Int.reduceLT, Nat.reduceEqDiff, Nat.reduceSub, SB, SV.known, packR, ne_eq, reduceCtorEq, Nat.reduceEqDiff, ↓reduceIte, if_true, if_false, eq_self, Nat.reduceAdd, Nat.reduceMul, Nat.reduceSub, forall_const, oneCellS, litOne, flat1, Kd.isSca, flat, TYB]
      (try (and_intros <;> try (first | omega | (unfold In64; omega) | trivial | assumption)))
      refine ⟨i + 1, ?_, ?_, Sub.mk_id ?_ ?_ ?_ ?_ ?_⟩
      all_goals (try (simp only [LB, subS, subH, wfS, wfH, SV.ren, renL, SObj.ren, SV.wf, SObj.wf, wfL, SV.known, Nat.reduceEqDiff, ↓reduceIte, if_true, if_false, eq_self, Nat.reduceAdd, Nat.reduceLT, Nat.reduceLeDiff, implies_true, reduceCtorEq, forall_const]; done))
      all_goals (try (simp only [LB, subS, subH, wfS, wfH, SV.ren, renL, SObj.ren, SV.wf, SObj.wf, wfL, SV.known, Nat.reduceEqDiff, ↓reduceIte, if_true, if_false, eq_self, Nat.reduceAdd, Nat.reduceLT, Nat.reduceLeDiff, implies_true, reduceCtorEq, forall_const]; simp; done))
      all_goals (try (simp only [LB, subS, subH, wfS, wfH, SV.ren, renL, SObj.ren, SV.wf, SObj.wf, wfL, SV.known, Nat.reduceEqDiff, ↓reduceIte, if_true, if_false, eq_self, Nat.reduceAdd, Nat.reduceLT, Nat.reduceLeDiff, implies_true, reduceCtorEq, forall_const]; (and_intros <;> (first | omega | rfl | (simp; done) | (simp; omega))); done))
      all_goals (try dsimp only)
      all_goals (and_intros <;> try (first | omega | (unfold In64; omega) | trivial | assumption))
    · have hil : ¬ (i : Int) < m := by omega
      simp -implicitDefEqProofs only [lk_normal, hil, ZB, Int.reduceToNat, Nat.reduceLT, Nat.reduceLeDiff, Int.reduceLE, Int.reduceLT, Nat.reduceEqDiff, Nat.reduceSub, SB, SV.known, packR, ne_eq, reduceCtorEq, Nat.reduceEqDiff, ↓reduceIte, if_true, if_false, eq_self, Nat.reduceAdd, Nat.reduceMul, Nat.reduceSub, forall_const, oneCellS, litOne, flat1, Kd.isSca, flat, TYB]
theorem eqS2_nn (H : Heap) : PureH Try.prog 18 [.nils, .nils] H (.bool true) := by
  refine PureH.any ?_ H
  refine pure_of_vc (X := ⟨Try.prog, tys, [(55, eqIntA2_F)], [], true, true, 0, [], []⟩) fn_18 ⟨tys_ok, (.cons eqIntA2_T .nil), .nil, mixed⟩ (n0 := 0) (Nat.le_of_ble_eq_true rfl) (by simp [wfL, SV.wf]) (wfH_spec (by simp [wfH, SObj.wf])) (Nat.le_refl _) (fun _ => by simp [SV.wf, wfL]) ?_
  simp -implicitDefEqProofs only [Try.f18, Option.getD_some, argS, eqIntA2_F, ZB, Int.reduceToNat, Nat.reduceLT, Nat.reduceLeDiff, Int.reduceLE, Int.reduceLT, Nat.reduceEqDiff, Nat.reduceSub, SB, SV.known, packR, ne_eq, reduceCtorEq, Nat.reduceEqDiff, ↓reduceIte, if_true, if_false, eq_self, Nat.reduceAdd, Nat.reduceMul, Nat.reduceSub, forall_const, oneCellS, litOne, flat1, Kd.isSca, flat, TYB]
  refine loop_intro (fun i : Nat => [(5, .int 0), (0, .nils), (1, .nils)]) (fun _ => []) 0 (fun i => True) (fun i => 0) ?_ ?_
  · refine ⟨0, ?_, Sub.mk_id ?_ ?_ ?_ ?_ ?_⟩
    all_goals (try (simp only [LB, subS, subH, wfS, wfH, SV.ren, renL, SObj.ren, SV.wf, SObj.wf, wfL, SV.known, Nat.reduceEqDiff, ↓reduceIte, if_true, if_false, eq_self, Nat.reduceAdd, Nat.reduceLT, Nat.reduceLeDiff, implies_true, reduceCtorEq, forall_const]; done))
    all_goals (try (simp only [LB, subS, subH, wfS, wfH, SV.ren, renL, SObj.ren, SV.wf, SObj.wf, wfL, SV.known, Nat.reduceEqDiff, ↓reduceIte, if_true, if_false, eq_self, Nat.reduceAdd, Nat.reduceLT, Nat.reduceLeDiff, implies_true, reduceCtorEq, forall_const]; simp; done))
    all_goals (try (simp only [LB, subS, subH, wfS, wfH, SV.ren, renL, SObj.ren, SV.wf, SObj.wf, wfL, SV.known, Nat.reduceEqDiff, ↓reduceIte, if_true, if_false, eq_self, Nat.reduceAdd, Nat.reduceLT, Nat.reduceLeDiff, implies_true, reduceCtorEq, forall_const]; (and_intros <;> (first | omega | rfl | (simp; done) | (simp; omega))); done))
    all_goals (try dsimp only)
    all_goals (and_intros <;> try (first | omega | (unfold In64; omega) | trivial | assumption))
  · intro i hi
    simp -implicitDefEqProofs only [lk_normal, ZB, Int.reduceToNat, Nat.reduceLT, Nat.reduceLeDiff, Int.reduceLE, Int.reduceLT, Nat.reduceEqDiff, Nat.reduceSub, SB, SV.known, packR, ne_eq, reduceCtorEq, Nat.reduceEqDiff, ↓reduceIte, if_true, if_false, eq_self, Nat.reduceAdd, Nat.reduceMul, Nat.reduceSub, forall_const, oneCellS, litOne, flat1, Kd.isSca, flat, TYB]
theorem eqS2_ns (L2 : List Int) (e2 c2 : Nat) : PureH Try.prog 18 [.nils, .slice 0 0 0 c2] [(0, .ints L2 e2)] (.bool true) := by
  refine pure_of_vc (X := ⟨Try.prog, tys, [(55, eqIntA2_F)], [], true, true, 1, [], []⟩) fn_18 ⟨tys_ok, (.cons eqIntA2_T .nil), .nil, mixed⟩ (n0 := 1) (Nat.le_of_ble_eq_true rfl) (by simp [wfL, SV.wf]) (wfH_spec (by simp [wfH, SObj.wf])) (Nat.le_refl _) (fun _ => by simp [SV.wf, wfL]) ?_
  simp -implicitDefEqProofs only [Try.f18, Option.getD_some, argS, eqIntA2_F, ZB, Int.reduceToNat, Nat.reduceLT, Nat.reduceLeDiff, Int.reduceLE, Int.reduceLT, Nat.reduceEqDiff, Nat.reduceSub, SB, SV.known, packR, ne_eq, reduceCtorEq, Nat.reduceEqDiff, ↓reduceIte, if_true, if_false, eq_self, Nat.reduceAdd, Nat.reduceMul, Nat.reduceSub, forall_const, oneCellS, litOne, flat1, Kd.isSca, flat, TYB]
  refine loop_intro (fun i : Nat => [(5, .int 0), (0, .nils), (1, .slice 0 0 0 c2)]) (fun _ => [(0, .ints L2 e2)]) 1 (fun i => True) (fun i => 0) ?_ ?_
  · refine ⟨0, ?_, Sub.mk_id ?_ ?_ ?_ ?_ ?_⟩
    all_goals (try (simp only [LB, subS, subH, wfS, wfH, SV.ren, renL, SObj.ren, SV.wf, SObj.wf, wfL, SV.known, Nat.reduceEqDiff, ↓reduceIte, if_true, if_false, eq_self, Nat.reduceAdd, Nat.reduceLT, Nat.reduceLeDiff, implies_true, reduceCtorEq, forall_const]; done))
    all_goals (try (simp only [LB, subS, subH, wfS, wfH, SV.ren, renL, SObj.ren, SV.wf, SObj.wf, wfL, SV.known, Nat.reduceEqDiff, ↓reduceIte, if_true, if_false, eq_self, Nat.reduceAdd, Nat.reduceLT, Nat.reduceLeDiff, implies_true, reduceCtorEq, forall_const]; simp; done))
    all_goals (try (simp only [LB, subS, subH, wfS, wfH, SV.ren, renL, SObj.ren, SV.wf, SObj.wf, wfL, SV.known, Nat.reduceEqDiff, ↓reduceIte, if_true, if_false, eq_self, Nat.reduceAdd, Nat.reduceLT, Nat.reduceLeDiff, implies_true, reduceCtorEq, forall_const]; (and_intros <;> (first | omega | rfl | (simp; done) | (simp; omega))); done))
    all_goals (try dsimp only)
    all_goals (and_intros <;> try (first | omega | (unfold In64; omega) | trivial | assumption))
  · intro i hi
    simp -implicitDefEqProofs only [lk_normal, ZB, Int.reduceToNat, Nat.reduceLT, Nat.reduceLeDiff, Int.reduceLE, Int.reduceLT, Nat.reduceEqDiff, Nat.reduceSub, SB, SV.known, packR, ne_eq, reduceCtorEq, Nat.reduceEqDiff, ↓reduceIte, if_true, if_false, eq_self, Nat.reduceAdd, Nat.reduceMul, Nat.reduceSub, forall_const, oneCellS, litOne, flat1, Kd.isSca, flat, TYB]
def eqS2_F : List SV → Heap → Option (Prop × SV)
  | [.slice a 0 l1 _, .slice b 0 l2 _], H => match hget H a, hget H b with
    | some (.ints L1 _), some (.ints L2 _) => some (a ≠ b ∧ l1 = l2 ∧ l1 * 2 ≤ L1.length ∧ l2 * 2 ≤ L2.length ∧ L1.take (l1 * 2) = L2.take (l2 * 2) ∧ l1 ≤ 4611686018427387903, .bool true)
    | _, _ => none
  | [.nils, .slice b 0 l2 _], H => match hget H b with
    | some (.ints _ _) => some (l2 = 0, .bool true)
    | _ => none
  | [.nils, .nils], _ => some (True, .bool true)
  | _, _ => none
theorem eqS2_T : ∀ args H p v, eqS2_F args H = some (p, v) → p → PureH Try.prog 18 args H v := by
  intro args H p v h hp
  unfold eqS2_F at h
  split at h
  · rename_i a l1 c1 b l2 c2
    split at h
    · rename_i L1 e1 L2 e2 g1 g2
      cases h
      obtain ⟨hab, rfl, q1, q2, q3, q4⟩ := hp
      have := (eqS2_ok L1 L2 e1 e2 c1 c2 l1 q1 q2 q3 q4).sub (H := H) (fun j => if j = 0 then a else b) (fun j o hj => by
        simp only [hget_cons] at hj
        split at hj
        · rename_i hj0; cases hj; refine ⟨?_, fun _ => by omega, by simp [hj0]⟩; show hget H (if j = 0 then a else b) = _; rw [if_pos hj0]; exact g1
        · rename_i hj0
          split at hj
          · rename_i hj1; cases hj; refine ⟨?_, fun _ => by omega, by simp [hj1]⟩; show hget H (if j = 0 then a else b) = _; rw [if_neg hj0]; exact g2
          · cases hj) (fun x hx y hy he => by
        simp at hx hy
        rcases hx with rfl | rfl <;> rcases hy with rfl | rfl <;> simp at he <;> omega) (fun _ => trivial)
      simpa [renL, SV.ren] using this
    · cases h
  · rename_i b l2 c2
    split at h
    · rename_i L2 e2 g2
      cases h
      subst hp
      exact one_block (eqS2_ns L2 e2 c2) g2 rfl (fun _ => trivial)
    · cases h
  · cases h; exact eqS2_nn H
  · cases h

/-! Marks. -/
def mkL (k : Int) (t : Nat) : List Int := (List.range t).map fun i : Nat => k + (i : Int)
theorem mkL_len (k : Int) (t : Nat) : (mkL k t).length = t := by simp [mkL]
theorem mkL_zero (k : Int) : mkL k 0 = [] := rfl
theorem mkL_succ (k : Int) (t : Nat) : mkL k (t + 1) = mkL k t ++ [k + (t : Int)] := by simp [mkL, List.range_succ]
theorem mkL_getD (k : Int) (t i : Nat) (h : i < t) : (mkL k t).getD i 0 = k + (i : Int) := by simp [mkL, List.getD, h]
theorem mkL_set (k : Int) (L : List Int) (t : Nat) (h : t < L.length) : (mkL k t ++ L.drop t).set t (k + (t : Int)) = mkL k (t + 1) ++ L.drop (t + 1) := by
  rw [mkL_succ, List.set_append_right _ _ (by rw [mkL_len]; omega), mkL_len, Nat.sub_self, List.drop_eq_getElem_cons h, List.set_cons_zero]
  simp
--@tbl mark2 = laws.markIntA2S
--@tbl held2 = laws.heldIntA2S
theorem mark2_ok (L : List Int) (e cap m : Nat) (k : Int) (h1 : m * 2 ≤ L.length) (hm : m ≤ 2000000) (hk : 0 ≤ k ∧ k ≤ 1000000) : UpdP Try.prog 19 [.slice 0 0 m cap, .int k] 0 [] (.ints L e) (.ints (mkL k (m * 2) ++ L.drop (m * 2)) e) (.int (k + (m * 2 : Nat))) := by
  refine upd_of_vc (X := ⟨Try.prog, tys, [], [], true, true, 0, [], []⟩) fn_19 ⟨tys_ok, .nil, .nil, mixed⟩ (n0 := 1) (by omega) (Nat.le_of_ble_eq_true rfl) (by simp [wfL, SV.wf]) (wfH_spec (by simp [wfH, SObj.wf])) (fun k o1 hk => by cases hk) rfl rfl (fun _ => trivial) (by simp [SV.wf]) ?_
  simp -implicitDefEqProofs only [Try.f19, Option.getD_some, argS, ZB, Int.reduceToNat, Nat.reduceLT, Nat.reduceLeDiff, Int.reduceLE, Int.reduceLT, Nat.reduceEqDiff, Nat.reduceSub, SB, SV.known, packR, ne_eq, reduceCtorEq, Nat.reduceEqDiff, ↓reduceIte, if_true, if_false, eq_self, Nat.reduceAdd, Nat.reduceMul, Nat.reduceSub, forall_const, oneCellS, litOne, flat1, Kd.isSca, flat, TYB]
  refine loop_intro (fun i : Nat => [(5, .int i), (0, .slice 0 0 m cap), (1, .int (k + (i * 2 : Nat)))]) (fun i => [(0, .ints (mkL k (i * 2) ++ L.drop (i * 2)) e)]) 1 (fun i => i ≤ m) (fun i => m - i) ?_ ?_
  · refine ⟨0, ?_, Sub.mk_id ?_ ?_ ?_ ?_ ?_⟩
    all_goals (try (simp only [mkL_zero, LB, subS, subH, wfS, wfH, SV.ren, renL, SObj.ren, SV.wf, SObj.wf, wfL, SV.known, Nat.reduceEqDiff, ↓reduceIte, if_true, if_false, eq_self, Nat.reduceAdd, Nat.reduceLT, Nat.reduceLeDiff, implies_true, reduceCtorEq, forall_const]; done))
    all_goals (try (simp only [mkL_zero, LB, subS, subH, wfS, wfH, SV.ren, renL, SObj.ren, SV.wf, SObj.wf, wfL, SV.known, Nat.reduceEqDiff, ↓reduceIte, if_true, if_false, eq_self, Nat.reduceAdd, Nat.reduceLT, Nat.reduceLeDiff, implies_true, reduceCtorEq, forall_const]; simp; done))
    all_goals (try (simp only [mkL_zero, LB, subS, subH, wfS, wfH, SV.ren, renL, SObj.ren, SV.wf, SObj.wf, wfL, SV.known, Nat.reduceEqDiff, ↓reduceIte, if_true, if_false, eq_self, Nat.reduceAdd, Nat.reduceLT, Nat.reduceLeDiff, implies_true, reduceCtorEq, forall_const]; (and_intros <;> (first | omega | rfl | (simp; done) | (simp; omega))); done))
    all_goals (try dsimp only)
    all_goals (and_intros <;> try (first | omega | (unfold In64; omega) | trivial | assumption))
    all_goals simp [mkL_zero, subS, subH, wfS, wfH, SV.ren, renL, SObj.ren, SV.wf, SObj.wf, wfL, sget_cons, hget_cons]
  · intro i hi
    have ll : ∀ t, t ≤ m * 2 → (mkL k t ++ L.drop t).length = L.length := fun t ht => by rw [List.length_append, mkL_len, List.length_drop]; omega
    by_cases hlt : i < m
    · have hil : (i : Int) < m := by omega
      simp -implicitDefEqProofs only [lk_normal, hil, ZB, Int.reduceToNat, Nat.reduceLT, Nat.reduceLeDiff, Int.reduceLE, Int.reduceLT, Nat.reduceEqDiff, Nat.reduceSub, SB, SV.known, packR, ne_eq, reduceCtorEq, Nat.reduceEqDiff, ↓reduceIte, if_true, if_false, eq_self, Nat.reduceAdd, Nat.reduceMul, Nat.reduceSub, forall_const, oneCellS, litOne, flat1, Kd.isSca, flat, TYB]
      refine loop_intro (fun j : Nat => [(5, .int i), (6, .int j), (0, .slice 0 0 m cap), (1, .int (k + (i * 2 + j : Nat)))]) (fun j => [(0, .ints (mkL k (i * 2 + j) ++ L.drop (i * 2 + j)) e)]) 1 (fun j => j ≤ 2) (fun j => 2 - j) ?_ ?_
      · refine ⟨0, ?_, Sub.mk_id ?_ ?_ ?_ ?_ ?_⟩
        all_goals (try (simp only [Nat.add_zero, LB, subS, subH, wfS, wfH, SV.ren, renL, SObj.ren, SV.wf, SObj.wf, wfL, SV.known, Nat.reduceEqDiff, ↓reduceIte, if_true, if_false, eq_self, Nat.reduceAdd, Nat.reduceLT, Nat.reduceLeDiff, implies_true, reduceCtorEq, forall_const]; done))
        all_goals (try (simp only [Nat.add_zero, LB, subS, subH, wfS, wfH, SV.ren, renL, SObj.ren, SV.wf, SObj.wf, wfL, SV.known, Nat.reduceEqDiff, ↓reduceIte, if_true, if_false, eq_self, Nat.reduceAdd, Nat.reduceLT, Nat.reduceLeDiff, implies_true, reduceCtorEq, forall_const]; simp; done))
        all_goals (try (simp only [Nat.add_zero, LB, subS, subH, wfS, wfH, SV.ren, renL, SObj.ren, SV.wf, SObj.wf, wfL, SV.known, Nat.reduceEqDiff, ↓reduceIte, if_true, if_false, eq_self, Nat.reduceAdd, Nat.reduceLT, Nat.reduceLeDiff, implies_true, reduceCtorEq, forall_const]; (and_intros <;> (first | omega | rfl | (simp; done) | (simp; omega))); done))
        all_goals (try dsimp only)
        all_goals (and_intros <;> try (first | omega | (unfold In64; omega) | trivial | assumption))
      · intro j hj
        by_cases hjl : j < 2
        · have hjl' : (j : Int) < 2 := by omega
          have es := mkL_set k L (i * 2 + j) (by omega)
          have l1 := ll (i * 2 + j) (by omega)
          simp -implicitDefEqProofs only [lk_normal, hil, hjl', l1, es, ZB, Int.reduceToNat, Nat.reduceLT, Nat.reduceLeDiff, Int.reduceLE, Int.reduceLT, Nat.reduceEqDiff, Nat.reduceSub, SB, SV.known, packR, ne_eq, reduceCtorEq, Nat.reduceEqDiff, ↓reduceIte, if_true, if_false, eq_self, Nat.reduceAdd, Nat.reduceMul, Nat.reduceSub, forall_const, oneCellS, litOne, flat1, Kd.isSca, flat, TYB]
          (try (and_intros <;> try (first | omega | (unfold In64; omega) | trivial | assumption)))
          refine ⟨j + 1, ?_, ?_, Sub.mk_id ?_ ?_ ?_ ?_ ?_⟩
          all_goals (try (simp only [Nat.add_assoc, LB, subS, subH, wfS, wfH, SV.ren, renL, SObj.ren, SV.wf, SObj.wf, wfL, SV.known, Nat.reduceEqDiff, ↓reduceIte, if_true, if_false, eq_self, Nat.reduceAdd, Nat.reduceLT, Nat.reduceLeDiff, implies_true, reduceCtorEq, forall_const]; done))
          all_goals (try (simp only [Nat.add_assoc, LB, subS, subH, wfS, wfH, SV.ren, renL, SObj.ren, SV.wf, SObj.wf, wfL, SV.known, Nat.reduceEqDiff, ↓reduceIte, if_true, if_false, eq_self, Nat.reduceAdd, Nat.reduceLT, Nat.reduceLeDiff, implies_true, reduceCtorEq, forall_const]; simp; done))
          all_goals (try (simp only [Nat.add_assoc, LB, subS, subH, wfS, wfH, SV.ren, renL, SObj.ren, SV.wf, SObj.wf, wfL, SV.known, Nat.reduceEqDiff, ↓reduceIte, if_true, if_false, eq_self, Nat.reduceAdd, Nat.reduceLT, Nat.reduceLeDiff, implies_true, reduceCtorEq, forall_const]; (and_intros <;> (first | omega | rfl | (simp; done) | (simp; omega))); done))
          all_goals (try dsimp only)
          all_goals (and_intros <;> try (first | omega | (unfold In64; omega) | trivial | assumption))
        · have hjl' : ¬ (j : Int) < 2 := by omega
          obtain rfl : j = 2 := by omega
          simp -implicitDefEqProofs only [lk_normal, hjl', ZB, Int.reduceToNat, Nat.reduceLT, Nat.reduceLeDiff, Int.reduceLE, Int.reduceLT, Nat.reduceEqDiff, Nat.reduceSub, SB, SV.known, packR, ne_eq, reduceCtorEq, Nat.reduceEqDiff, ↓reduceIte, if_true, if_false, eq_self, Nat.reduceAdd, Nat.reduceMul, Nat.reduceSub, forall_const, oneCellS, litOne, flat1, Kd.isSca, flat, TYB]
          (try (and_intros <;> try (first | omega | (unfold In64; omega) | trivial | assumption)))
          have e2 : (i + 1) * 2 = i * 2 + 2 := by omega
          refine ⟨i + 1, ?_, ?_, Sub.mk_id ?_ ?_ ?_ ?_ ?_⟩
          all_goals (try (simp only [e2, LB, subS, subH, wfS, wfH, SV.ren, renL, SObj.ren, SV.wf, SObj.wf, wfL, SV.known, Nat.reduceEqDiff, ↓reduceIte, if_true, if_false, eq_self, Nat.reduceAdd, Nat.reduceLT, Nat.reduceLeDiff, implies_true, reduceCtorEq, forall_const]; done))
          all_goals (try (simp only [e2, LB, subS, subH, wfS, wfH, SV.ren, renL, SObj.ren, SV.wf, SObj.wf, wfL, SV.known, Nat.reduceEqDiff, ↓reduceIte, if_true, if_false, eq_self, Nat.reduceAdd, Nat.reduceLT, Nat.reduceLeDiff, implies_true, reduceCtorEq, forall_const]; simp; done))
          all_goals (try (simp only [e2, LB, subS, subH, wfS, wfH, SV.ren, renL, SObj.ren, SV.wf, SObj.wf, wfL, SV.known, Nat.reduceEqDiff, ↓reduceIte, if_true, if_false, eq_self, Nat.reduceAdd, Nat.reduceLT, Nat.reduceLeDiff, implies_true, reduceCtorEq, forall_const]; (and_intros <;> (first | omega | rfl | (simp; done) | (simp; omega))); done))
          all_goals (try dsimp only)
          all_goals (and_intros <;> try (first | omega | (unfold In64; omega) | trivial | assumption))
    · have hil : ¬ (i : Int) < m := by omega
      obtain rfl : i = m := by omega
      simp -implicitDefEqProofs only [lk_normal, hil, hget_cons, ZB, Int.reduceToNat, Nat.reduceLT, Nat.reduceLeDiff, Int.reduceLE, Int.reduceLT, Nat.reduceEqDiff, Nat.reduceSub, SB, SV.known, packR, ne_eq, reduceCtorEq, Nat.reduceEqDiff, ↓reduceIte, if_true, if_false, eq_self, Nat.reduceAdd, Nat.reduceMul, Nat.reduceSub, forall_const, oneCellS, litOne, flat1, Kd.isSca, flat, TYB]
      (try (and_intros <;> try (first | omega | (unfold In64; omega) | trivial | assumption)))
theorem held2_ok (L : List Int) (e cap m : Nat) (k : Int) (hm : m ≤ 2000000) (hk : 0 ≤ k ∧ k ≤ 1000000) : PureH Try.prog 20 [.slice 0 0 m cap, .int k] [(0, .ints (mkL k (m * 2) ++ L) e)] (.int (k + (m * 2 : Nat))) := by
  refine pure_of_vc (X := ⟨Try.prog, tys, [], [], true, true, 1, [], []⟩) fn_20 ⟨tys_ok, .nil, .nil, mixed⟩ (n0 := 1) (Nat.le_of_ble_eq_true rfl) (by simp [wfL, SV.wf]) (wfH_spec (by simp [wfH, SObj.wf])) (Nat.le_refl _) (fun _ => by simp [SV.wf, wfL]) ?_
  simp -implicitDefEqProofs only [Try.f20, Option.getD_some, argS, ZB, Int.reduceToNat, Nat.reduceLT, Nat.reduceLeDiff, Int.reduceLE, Int.reduceLT, Nat.reduceEqDiff, Nat.reduceSub, SB, SV.known, packR, ne_eq, reduceCtorEq, Nat.reduceEqDiff, ↓reduceIte, if_true, if_false, eq_self, Nat.reduceAdd, Nat.reduceMul, Nat.reduceSub, forall_const, oneCellS, litOne, flat1, Kd.isSca, flat, TYB]
  refine loop_intro (fun i : Nat => [(5, .int i), (0, .slice 0 0 m cap), (1, .int (k + (i * 2 : Nat)))]) (fun i => [(0, .ints (mkL k (m * 2) ++ L) e)]) 1 (fun i => i ≤ m) (fun i => m - i) ?_ ?_
  · refine ⟨0, ?_, Sub.mk_id ?_ ?_ ?_ ?_ ?_⟩
    all_goals (try (simp only [LB, subS, subH, wfS, wfH, SV.ren, renL, SObj.ren, SV.wf, SObj.wf, wfL, SV.known, Nat.reduceEqDiff, ↓reduceIte, if_true, if_false, eq_self, Nat.reduceAdd, Nat.reduceLT, Nat.reduceLeDiff, implies_true, reduceCtorEq, forall_const]; done))
    all_goals (try (simp only [LB, subS, subH, wfS, wfH, SV.ren, renL, SObj.ren, SV.wf, SObj.wf, wfL, SV.known, Nat.reduceEqDiff, ↓reduceIte, if_true, if_false, eq_self, Nat.reduceAdd, Nat.reduceLT, Nat.reduceLeDiff, implies_true, reduceCtorEq, forall_const]; simp; done))
    all_goals (try (simp only [LB, subS, subH, wfS, wfH, SV.ren, renL, SObj.ren, SV.wf, SObj.wf, wfL, SV.known, Nat.reduceEqDiff, ↓reduceIte, if_true, if_false, eq_self, Nat.reduceAdd, Nat.reduceLT, Nat.reduceLeDiff, implies_true, reduceCtorEq, forall_const]; (and_intros <;> (first | omega | rfl | (simp; done) | (simp; omega))); done))
    all_goals (try dsimp only)
    all_goals (and_intros <;> try (first | omega | (unfold In64; omega) | trivial | assumption))
  · intro i hi
    have ll : (mkL k (m * 2) ++ L).length = m * 2 + L.length := by rw [List.length_append, mkL_len]
    by_cases hlt : i < m
    · have hil : (i : Int) < m := by omega
      simp -implicitDefEqProofs only [lk_normal, hil, ZB, Int.reduceToNat, Nat.reduceLT, Nat.reduceLeDiff, Int.reduceLE, Int.reduceLT, Nat.reduceEqDiff, Nat.reduceSub, SB, SV.known, packR, ne_eq, reduceCtorEq, Nat.reduceEqDiff, ↓reduceIte, if_true, if_false, eq_self, Nat.reduceAdd, Nat.reduceMul, Nat.reduceSub, forall_const, oneCellS, litOne, flat1, Kd.isSca, flat, TYB]
      refine loop_intro (fun j : Nat => [(5, .int i), (6, .int j), (0, .slice 0 0 m cap), (1, .int (k + (i * 2 + j : Nat)))]) (fun j => [(0, .ints (mkL k (m * 2) ++ L) e)]) 1 (fun j => j ≤ 2) (fun j => 2 - j) ?_ ?_
      · refine ⟨0, ?_, Sub.mk_id ?_ ?_ ?_ ?_ ?_⟩
        all_goals (try (simp only [Nat.add_zero, LB, subS, subH, wfS, wfH, SV.ren, renL, SObj.ren, SV.wf, SObj.wf, wfL, SV.known, Nat.reduceEqDiff, ↓reduceIte, if_true, if_false, eq_self, Nat.reduceAdd, Nat.reduceLT, Nat.reduceLeDiff, implies_true, reduceCtorEq, forall_const]; done))
        all_goals (try (simp only [Nat.add_zero, LB, subS, subH, wfS, wfH, SV.ren, renL, SObj.ren, SV.wf, SObj.wf, wfL, SV.known, Nat.reduceEqDiff, ↓reduceIte, if_true, if_false, eq_self, Nat.reduceAdd, Nat.reduceLT, Nat.reduceLeDiff, implies_true, reduceCtorEq, forall_const]; simp; done))
        all_goals (try (simp only [Nat.add_zero, LB, subS, subH, wfS, wfH, SV.ren, renL, SObj.ren, SV.wf, SObj.wf, wfL, SV.known, Nat.reduceEqDiff, ↓reduceIte, if_true, if_false, eq_self, Nat.reduceAdd, Nat.reduceLT, Nat.reduceLeDiff, implies_true, reduceCtorEq, forall_const]; (and_intros <;> (first | omega | rfl | (simp; done) | (simp; omega))); done))
        all_goals (try dsimp only)
        all_goals (and_intros <;> try (first | omega | (unfold In64; omega) | trivial | assumption))
      · intro j hj
        by_cases hjl : j < 2
        · have hjl' : (j : Int) < 2 := by omega
          have es : (mkL k (m * 2) ++ L).getD (i * 2 + j) 0 = k + ((i * 2 + j : Nat) : Int) := by rw [getD_app _ _ _ (by rw [mkL_len]; omega), mkL_getD _ _ _ (by omega)]
          simp -implicitDefEqProofs only [lk_normal, hil, hjl', ll, es, ZB, Int.reduceToNat, Nat.reduceLT, Nat.reduceLeDiff, Int.reduceLE, Int.reduceLT, Nat.reduceEqDiff, Nat.reduceSub, SB, SV.known, packR, ne_eq, reduceCtorEq, Nat.reduceEqDiff, ↓reduceIte, if_true, if_false, eq_self, Nat.reduceAdd, Nat.reduceMul, Nat.reduceSub, forall_const, oneCellS, litOne, flat1, Kd.isSca, flat, TYB]
          (try (and_intros <;> try (first | omega | (unfold In64; omega) | trivial | assumption)))
          refine ⟨j + 1, ?_, ?_, Sub.mk_id ?_ ?_ ?_ ?_ ?_⟩
          all_goals (try (simp only [Nat.add_assoc, LB, subS, subH, wfS, wfH, SV.ren, renL, SObj.ren, SV.wf, SObj.wf, wfL, SV.known, Nat.reduceEqDiff, ↓reduceIte, if_true, if_false, eq_self, Nat.reduceAdd, Nat.reduceLT, Nat.reduceLeDiff, implies_true, reduceCtorEq, forall_const]; done))
          all_goals (try (simp only [Nat.add_assoc, LB, subS, subH, wfS, wfH, SV.ren, renL, SObj.ren, SV.wf, SObj.wf, wfL, SV.known, Nat.reduceEqDiff, ↓reduceIte, if_true, if_false, eq_self, Nat.reduceAdd, Nat.reduceLT, Nat.reduceLeDiff, implies_true, reduceCtorEq, forall_const]; simp; done))
          all_goals (try (simp only [Nat.add_assoc, LB, subS, subH, wfS, wfH, SV.ren, renL, SObj.ren, SV.wf, SObj.wf, wfL, SV.known, Nat.reduceEqDiff, ↓reduceIte, if_true, if_false, eq_self, Nat.reduceAdd, Nat.reduceLT, Nat.reduceLeDiff, implies_true, reduceCtorEq, forall_const]; (and_intros <;> (first | omega | rfl | (simp; done) | (simp; omega))); done))
          all_goals (try dsimp only)
          all_goals (and_intros <;> try (first | omega | (unfold In64; omega) | trivial | assumption))
        · have hjl' : ¬ (j : Int) < 2 := by omega
          obtain rfl : j = 2 := by omega
          simp -implicitDefEqProofs only [lk_normal, hjl', ZB, Int.reduceToNat, Nat.reduceLT, Nat.reduceLeDiff, Int.reduceLE, Int.reduceLT, Nat.reduceEqDiff, Nat.reduceSub, SB, SV.known, packR, ne_eq, reduceCtorEq, Nat.reduceEqDiff, ↓reduceIte, if_true, if_false, eq_self, Nat.reduceAdd, Nat.reduceMul, Nat.reduceSub, forall_const, oneCellS, litOne, flat1, Kd.isSca, flat, TYB]
          (try (and_intros <;> try (first | omega | (unfold In64; omega) | trivial | assumption)))
          have e2 : (i + 1) * 2 = i * 2 + 2 := by omega
          refine ⟨i + 1, ?_, ?_, Sub.mk_id ?_ ?_ ?_ ?_ ?_⟩
          all_goals (try (simp only [e2, LB, subS, subH, wfS, wfH, SV.ren, renL, SObj.ren, SV.wf, SObj.wf, wfL, SV.known, Nat.reduceEqDiff, ↓reduceIte, if_true, if_false, eq_self, Nat.reduceAdd, Nat.reduceLT, Nat.reduceLeDiff, implies_true, reduceCtorEq, forall_const]; done))
          all_goals (try (simp only [e2, LB, subS, subH, wfS, wfH, SV.ren, renL, SObj.ren, SV.wf, SObj.wf, wfL, SV.known, Nat.reduceEqDiff, ↓reduceIte, if_true, if_false, eq_self, Nat.reduceAdd, Nat.reduceLT, Nat.reduceLeDiff, implies_true, reduceCtorEq, forall_const]; simp; done))
          all_goals (try (simp only [e2, LB, subS, subH, wfS, wfH, SV.ren, renL, SObj.ren, SV.wf, SObj.wf, wfL, SV.known, Nat.reduceEqDiff, ↓reduceIte, if_true, if_false, eq_self, Nat.reduceAdd, Nat.reduceLT, Nat.reduceLeDiff, implies_true, reduceCtorEq, forall_const]; (and_intros <;> (first | omega | rfl | (simp; done) | (simp; omega))); done))
          all_goals (try dsimp only)
          all_goals (and_intros <;> try (first | omega | (unfold In64; omega) | trivial | assumption))
    · have hil : ¬ (i : Int) < m := by omega
      obtain rfl : i = m := by omega
      simp -implicitDefEqProofs only [lk_normal, hil, hget_cons, ZB, Int.reduceToNat, Nat.reduceLT, Nat.reduceLeDiff, Int.reduceLE, Int.reduceLT, Nat.reduceEqDiff, Nat.reduceSub, SB, SV.known, packR, ne_eq, reduceCtorEq, Nat.reduceEqDiff, ↓reduceIte, if_true, if_false, eq_self, Nat.reduceAdd, Nat.reduceMul, Nat.reduceSub, forall_const, oneCellS, litOne, flat1, Kd.isSca, flat, TYB]
theorem mark2_nil (H : Heap) (k : Int) : PureH Try.prog 19 [.nils, .int k] H (.int k) := by
  refine PureH.any ?_ H
  refine pure_of_vc (X := ⟨Try.prog, tys, [], [], true, true, 0, [], []⟩) fn_19 ⟨tys_ok, .nil, .nil, mixed⟩ (n0 := 0) (Nat.le_of_ble_eq_true rfl) (by simp [wfL, SV.wf]) (wfH_spec (by simp [wfH, SObj.wf])) (Nat.le_refl _) (fun _ => by simp [SV.wf, wfL]) ?_
  simp -implicitDefEqProofs only [Try.f19, Option.getD_some, argS, ZB, Int.reduceToNat, Nat.reduceLT, Nat.reduceLeDiff, Int.reduceLE, Int.reduceLT, Nat.reduceEqDiff, Nat.reduceSub, SB, SV.known, packR, ne_eq, reduceCtorEq, Nat.reduceEqDiff, ↓reduceIte, if_true, if_false, eq_self, Nat.reduceAdd, Nat.reduceMul, Nat.reduceSub, forall_const, oneCellS, litOne, flat1, Kd.isSca, flat, TYB]
  refine loop_intro (fun i : Nat => [(5, .int 0), (0, .nils), (1, .int k)]) (fun _ => []) 0 (fun i => True) (fun i => 0) ?_ ?_
  · refine ⟨0, ?_, Sub.mk_id ?_ ?_ ?_ ?_ ?_⟩
    all_goals (try (simp only [LB, subS, subH, wfS, wfH, SV.ren, renL, SObj.ren, SV.wf, SObj.wf, wfL, SV.known, Nat.reduceEqDiff, ↓reduceIte, if_true, if_false, eq_self, Nat.reduceAdd, Nat.reduceLT, Nat.reduceLeDiff, implies_true, reduceCtorEq, forall_const]; done))
    all_goals (try (simp only [LB, subS, subH, wfS, wfH, SV.ren, renL, SObj.ren, SV.wf, SObj.wf, wfL, SV.known, Nat.reduceEqDiff, ↓reduceIte, if_true, if_false, eq_self, Nat.reduceAdd, Nat.reduceLT, Nat.reduceLeDiff, implies_true, reduceCtorEq, forall_const]; simp; done))
    all_goals (try (simp only [LB, subS, subH, wfS, wfH, SV.ren, renL, SObj.ren, SV.wf, SObj.wf, wfL, SV.known, Nat.reduceEqDiff, ↓reduceIte, if_true, if_false, eq_self, Nat.reduceAdd, Nat.reduceLT, Nat.reduceLeDiff, implies_true, reduceCtorEq, forall_const]; (and_intros <;> (first | omega | rfl | (simp; done) | (simp; omega))); done))
    all_goals (try dsimp only)
    all_goals (and_intros <;> try (first | omega | (unfold In64; omega) | trivial | assumption))
  · intro i hi
    simp -implicitDefEqProofs only [lk_normal, ZB, Int.reduceToNat, Nat.reduceLT, Nat.reduceLeDiff, Int.reduceLE, Int.reduceLT, Nat.reduceEqDiff, Nat.reduceSub, SB, SV.known, packR, ne_eq, reduceCtorEq, Nat.reduceEqDiff, ↓reduceIte, if_true, if_false, eq_self, Nat.reduceAdd, Nat.reduceMul, Nat.reduceSub, forall_const, oneCellS, litOne, flat1, Kd.isSca, flat, TYB]
theorem held2_nil (H : Heap) (k : Int) : PureH Try.prog 20 [.nils, .int k] H (.int k) := by
  refine PureH.any ?_ H
  refine pure_of_vc (X := ⟨Try.prog, tys, [], [], true, true, 0, [], []⟩) fn_20 ⟨tys_ok, .nil, .nil, mixed⟩ (n0 := 0) (Nat.le_of_ble_eq_true rfl) (by simp [wfL, SV.wf]) (wfH_spec (by simp [wfH, SObj.wf])) (Nat.le_refl _) (fun _ => by simp [SV.wf, wfL]) ?_
  simp -implicitDefEqProofs only [Try.f20, Option.getD_some, argS, ZB, Int.reduceToNat, Nat.reduceLT, Nat.reduceLeDiff, Int.reduceLE, Int.reduceLT, Nat.reduceEqDiff, Nat.reduceSub, SB, SV.known, packR, ne_eq, reduceCtorEq, Nat.reduceEqDiff, ↓reduceIte, if_true, if_false, eq_self, Nat.reduceAdd, Nat.reduceMul, Nat.reduceSub, forall_const, oneCellS, litOne, flat1, Kd.isSca, flat, TYB]
  refine loop_intro (fun i : Nat => [(5, .int 0), (0, .nils), (1, .int k)]) (fun _ => []) 0 (fun i => True) (fun i => 0) ?_ ?_
  · refine ⟨0, ?_, Sub.mk_id ?_ ?_ ?_ ?_ ?_⟩
    all_goals (try (simp only [LB, subS, subH, wfS, wfH, SV.ren, renL, SObj.ren, SV.wf, SObj.wf, wfL, SV.known, Nat.reduceEqDiff, ↓reduceIte, if_true, if_false, eq_self, Nat.reduceAdd, Nat.reduceLT, Nat.reduceLeDiff, implies_true, reduceCtorEq, forall_const]; done))
    all_goals (try (simp only [LB, subS, subH, wfS, wfH, SV.ren, renL, SObj.ren, SV.wf, SObj.wf, wfL, SV.known, Nat.reduceEqDiff, ↓reduceIte, if_true, if_false, eq_self, Nat.reduceAdd, Nat.reduceLT, Nat.reduceLeDiff, implies_true, reduceCtorEq, forall_const]; simp; done))
    all_goals (try (simp only [LB, subS, subH, wfS, wfH, SV.ren, renL, SObj.ren, SV.wf, SObj.wf, wfL, SV.known, Nat.reduceEqDiff, ↓reduceIte, if_true, if_false, eq_self, Nat.reduceAdd, Nat.reduceLT, Nat.reduceLeDiff, implies_true, reduceCtorEq, forall_const]; (and_intros <;> (first | omega | rfl | (simp; done) | (simp; omega))); done))
    all_goals (try dsimp only)
    all_goals (and_intros <;> try (first | omega | (unfold In64; omega) | trivial | assumption))
  · intro i hi
    simp -implicitDefEqProofs only [lk_normal, ZB, Int.reduceToNat, Nat.reduceLT, Nat.reduceLeDiff, Int.reduceLE, Int.reduceLT, Nat.reduceEqDiff, Nat.reduceSub, SB, SV.known, packR, ne_eq, reduceCtorEq, Nat.reduceEqDiff, ↓reduceIte, if_true, if_false, eq_self, Nat.reduceAdd, Nat.reduceMul, Nat.reduceSub, forall_const, oneCellS, litOne, flat1, Kd.isSca, flat, TYB]
theorem gen_of_pure {P : Program} {f : FuncId} {args : List SV} {H : Heap} {n m : Nat} {v : SV} {κ : K1} (h : PureH P f args H v) (hk : κ v H n) : GenOK P f args H n m κ :=
  ⟨h.ent, fun B M w hH hwH hwa hown hM => (h.call B w hH).mono fun e w' hh => ⟨v, H, n, B, hh.1, hk, Nat.le_refl _, h.wf n hwa hwH, hwH, fun _ _ => rfl, hH.of_below hh.2, hown, Kept.of_below hh.2⟩⟩
def mark2_F : List SV → Heap → Nat → Nat → K1 → Prop
  | [.slice b 0 l _, .int k], H, n, m, κ => match hget H b with
    | some (.ints L e) => m ≤ b ∧ l * 2 ≤ L.length ∧ l ≤ 2000000 ∧ (0 ≤ k ∧ k ≤ 1000000) ∧ κ (.int (k + (l * 2 : Nat))) ((b, .ints (mkL k (l * 2) ++ L.drop (l * 2)) e) :: H) n
    | _ => False
  | [.nils, .int k], H, n, _, κ => κ (.int k) H n
  | _, _, _, _, _ => False
theorem mark2_T : ∀ args H n m κ, mark2_F args H n m κ → GenOK Try.prog 19 args H n m κ := by
  intro args H n m κ h
  unfold mark2_F at h
  split at h
  · rename_i b l cap k
    split at h
    · rename_i L e hb
      obtain ⟨h1, h2, h3, h4, h5⟩ := h
      have := gen_of_upd (H := H) (n := n) (m := m) (κ := κ) (mark2_ok L e cap l k h2 h3 h4) (fun _ => b) (fun j o1 hj => by
        rw [hget_cons] at hj
        split at hj
        · cases hj; exact hb
        · cases hj) (fun j1 o1 j2 o2 g1 g2 _ => by
        rw [hget_cons] at g1 g2
        split at g1
        · split at g2
          · omega
          · cases g2
        · cases g1) h1 rfl (fun _ _ => trivial) (by simpa [SV.ren] using h5)
      simpa [renL, SV.ren] using this
    · exact h.elim
  · exact gen_of_pure (mark2_nil _ _) h
  · exact h.elim
def held2_F : List SV → Heap → Option (Prop × SV)
  | [.slice b 0 l _, .int k], H => match hget H b with
    | some (.ints M _) => some (l ≤ 2000000 ∧ (0 ≤ k ∧ k ≤ 1000000) ∧ M.take (l * 2) = mkL k (l * 2), .int (k + (l * 2 : Nat)))
    | _ => none
  | [.nils, .int k], _ => some (True, .int k)
  | _, _ => none
theorem held2_T : ∀ args H p v, held2_F args H = some (p, v) → p → PureH Try.prog 20 args H v := by
  intro args H p v h hp
  unfold held2_F at h
  split at h
  · rename_i b l cap k
    split at h
    · rename_i M e hb
      cases h
      obtain ⟨h1, h2, h3⟩ := hp
      have e1 : M = mkL k (l * 2) ++ M.drop (l * 2) := by rw [← h3, List.take_append_drop]
      have := held2_ok (M.drop (l * 2)) e cap l k h1 h2
      rw [← e1] at this
      exact one_block this hb rfl (fun _ => trivial)
    · cases h
  · cases h; exact held2_nil _ _
  · cases h
theorem mkL_take (k : Int) (t : Nat) (M : List Int) : (mkL k t ++ M).take t = mkL k t := List.take_left' (mkL_len k t)
/-- What is left of a law that compares lists, marks one, and asks again. -/
theorem lawS2 {L : List Int} {m : Nat} (nl : Bool) (hm : L.length = m * 2) (hb : m ≤ 2000000) : ∀ (cap : Nat) (junk : List Int), junk.length + L.length = cap * 2 →
    (nl = true → L = [] → m = 0 ∧ (nl = true → L = [] → m = 0) ∧ ((nl = true → ¬L = []) → ∀ (cap : Nat) (junk_1 : List Int), junk_1.length + L.length = cap * 2 → m * 2 ≤ (L ++ junk_1).length ∧ m * 2 ≤ (L ++ junk).length ∧ List.take (m * 2) (L ++ junk_1) = List.take (m * 2) (L ++ junk) ∧ m ≤ 4611686018427387903)) ∧
    ((nl = true → ¬L = []) → ∀ (cap : Nat) (junk_1 : List Int), junk_1.length + L.length = cap * 2 →
      (m * 2 ≤ (L ++ junk_1).length ∧ m * 2 ≤ (L ++ junk).length ∧ List.take (m * 2) (L ++ junk_1) = List.take (m * 2) (L ++ junk) ∧ m ≤ 4611686018427387903) ∧ m * 2 ≤ (L ++ junk_1).length ∧ m ≤ 2000000 ∧
      (m ≤ 2000000 ∧ List.take (m * 2) (mkL 1 (m * 2) ++ List.drop (m * 2) (L ++ junk_1)) = mkL 1 (m * 2)) ∧ (1 + ((m * 2 : Nat) : Int) < 0 → False) ∧
      (¬1 + ((m * 2 : Nat) : Int) < 0 → (nl = true → L = [] → m = 0 ∧ (m ≤ 2000000 ∧ List.take (m * 2) (mkL 1 (m * 2) ++ List.drop (m * 2) (L ++ junk_1)) = mkL 1 (m * 2)) ∧ (1 + ((m * 2 : Nat) : Int) < 0 → False) ∧ (¬1 + ((m * 2 : Nat) : Int) < 0 → True)) ∧
        ((nl = true → ¬L = []) → ∀ (cap : Nat) (junk_2 : List Int), junk_2.length + L.length = cap * 2 → (m * 2 ≤ (L ++ junk_2).length ∧ m * 2 ≤ (L ++ junk).length ∧ List.take (m * 2) (L ++ junk_2) = List.take (m * 2) (L ++ junk) ∧ m ≤ 4611686018427387903) ∧
          (m ≤ 2000000 ∧ List.take (m * 2) (mkL 1 (m * 2) ++ List.drop (m * 2) (L ++ junk_1)) = mkL 1 (m * 2)) ∧ (1 + ((m * 2 : Nat) : Int) < 0 → False) ∧ (¬1 + ((m * 2 : Nat) : Int) < 0 → True)))) := by
  have tL : ∀ J : List Int, List.take (m * 2) (L ++ J) = L := fun J => List.take_left' hm
  have lL : ∀ J : List Int, m * 2 ≤ (L ++ J).length := fun J => by rw [List.length_append]; omega
  have l0 : L = [] → m = 0 := fun h => by rw [h] at hm; simp at hm; omega
  have nn : ¬ (1 + ((m * 2 : Nat) : Int) < 0) := by omega
  have e1 : ∀ J : List Int, List.take (m * 2) (mkL 1 (m * 2) ++ J) = mkL 1 (m * 2) := fun J => mkL_take _ _ _
  intro cap junk hj
  refine ⟨fun _ h => ⟨l0 h, fun _ h => l0 h, fun _ cap1 junk1 hj1 => ⟨lL _, lL _, by rw [tL, tL], by omega⟩⟩, fun _ cap1 junk1 hj1 => ⟨⟨lL _, lL _, by rw [tL, tL], by omega⟩, lL _, hb, ⟨hb, e1 _⟩, fun h => nn h, fun _ => ⟨fun _ h => ⟨l0 h, ⟨hb, e1 _⟩, fun h => nn h, fun _ => trivial⟩, fun _ cap2 junk2 hj2 => ⟨⟨lL _, lL _, by rw [tL, tL], by omega⟩, ⟨hb, e1 _⟩, fun h => nn h, fun _ => trivial⟩⟩⟩⟩
/-- The same where the list is nil if it is empty. -/
theorem lawS2' {L : List Int} {m : Nat} (hm : L.length = m * 2) (hb : m ≤ 2000000) : ∀ (cap : Nat) (junk : List Int), junk.length + L.length = cap * 2 →
    (L = [] → m = 0 ∧ (L = [] → m = 0) ∧ (¬L = [] → ∀ (cap : Nat) (junk_1 : List Int), junk_1.length + L.length = cap * 2 → m * 2 ≤ (L ++ junk_1).length ∧ m * 2 ≤ (L ++ junk).length ∧ List.take (m * 2) (L ++ junk_1) = List.take (m * 2) (L ++ junk) ∧ m ≤ 4611686018427387903)) ∧
    (¬L = [] → ∀ (cap : Nat) (junk_1 : List Int), junk_1.length + L.length = cap * 2 →
      (m * 2 ≤ (L ++ junk_1).length ∧ m * 2 ≤ (L ++ junk).length ∧ List.take (m * 2) (L ++ junk_1) = List.take (m * 2) (L ++ junk) ∧ m ≤ 4611686018427387903) ∧ m * 2 ≤ (L ++ junk_1).length ∧ m ≤ 2000000 ∧
      (m ≤ 2000000 ∧ List.take (m * 2) (mkL 1 (m * 2) ++ List.drop (m * 2) (L ++ junk_1)) = mkL 1 (m * 2)) ∧ (1 + ((m * 2 : Nat) : Int) < 0 → False) ∧
      (¬1 + ((m * 2 : Nat) : Int) < 0 → (L = [] → m = 0 ∧ (m ≤ 2000000 ∧ List.take (m * 2) (mkL 1 (m * 2) ++ List.drop (m * 2) (L ++ junk_1)) = mkL 1 (m * 2)) ∧ (1 + ((m * 2 : Nat) : Int) < 0 → False) ∧ (¬1 + ((m * 2 : Nat) : Int) < 0 → True)) ∧
        (¬L = [] → ∀ (cap : Nat) (junk_2 : List Int), junk_2.length + L.length = cap * 2 → (m * 2 ≤ (L ++ junk_2).length ∧ m * 2 ≤ (L ++ junk).length ∧ List.take (m * 2) (L ++ junk_2) = List.take (m * 2) (L ++ junk) ∧ m ≤ 4611686018427387903) ∧
          (m ≤ 2000000 ∧ List.take (m * 2) (mkL 1 (m * 2) ++ List.drop (m * 2) (L ++ junk_1)) = mkL 1 (m * 2)) ∧ (1 + ((m * 2 : Nat) : Int) < 0 → False) ∧ (¬1 + ((m * 2 : Nat) : Int) < 0 → True)))) := by
  have := lawS2 true hm hb
  simpa only [true_implies, forall_const] using this
end Go.Proofs.Ytdnechlmkbchaaa
