/- Walks: what the laws do with lists of sources. -/
import Derived.Test.YtfdpeenamkpcbaaSl
import Derived.Test.YtfdpeenamkpcbaaSrc
set_option maxRecDepth 100000
set_option linter.unusedSimpArgs false
set_option linter.unusedVariables false
namespace Go.Proofs.Ytfdpeenamkpcbaa
open Go Go.RowKit
--@tbl eqSource = laws.eqSource
theorem eqSource_ok (L : List Int) (hL : L.length = 3) : PureH Try.prog 85 [.arr L, .arr L] [] (.bool true) := by
  refine pure_of_vc (X := ⟨Try.prog, tys, [], [], true, true, 0, [], []⟩) fn_85 ⟨tys_ok, .nil, .nil, mixed⟩ (n0 := 0) (Nat.le_of_ble_eq_true rfl) (by simp [wfL, SV.wf]) (wfH_spec (by simp [wfH, SObj.wf])) (Nat.le_refl _) (fun _ => by simp [SV.wf, wfL]) ?_
  simp -implicitDefEqProofs only [Try.f85, Option.getD_some, argS, hL, ZB, Int.reduceToNat, Nat.reduceLT, Nat.reduceLeDiff, Int.reduceLE, Int.reduceLT, Nat.reduceEqDiff, Nat.reduceSub, SB, SV.known, packR, ne_eq, reduceCtorEq, Nat.reduceEqDiff, ↓reduceIte, if_true, if_false, eq_self, Nat.reduceAdd, Nat.reduceMul, Nat.reduceSub, forall_const, oneCellS, Kd.isSca, flat, TYB]
def eqSource_F : List SV → Heap → Option (Prop × SV)
  | [.arr L, .arr M], _ => some (L = M ∧ L.length = 3, .bool true)
  | _, _ => none
theorem eqSource_T : ∀ args H p v, eqSource_F args H = some (p, v) → p → PureH Try.prog 85 args H v := by
  intro args H p v h hp
  unfold eqSource_F at h
  split at h
  · cases h; exact (by obtain ⟨rfl, h⟩ := hp; exact (eqSource_ok _ h).any _)
  · cases h
--@tbl eqS3 = laws.eqSourceS
theorem eqS3_ok (L1 L2 : List Int) (e1 e2 c1 c2 m : Nat) (h1 : m * 3 ≤ L1.length) (h2 : m * 3 ≤ L2.length) (h : L1.take (m * 3) = L2.take (m * 3)) (hm : m ≤ 3074457345618258602) :
    PureH Try.prog 33 [.slice 0 0 m c1, .slice 1 0 m c2] [(0, .ints L1 e1), (1, .ints L2 e2)] (.bool true) := by
  refine pure_of_vc (X := ⟨Try.prog, tys, [(85, eqSource_F)], [], true, true, 2, [], []⟩) fn_33 ⟨tys_ok, (.cons eqSource_T .nil), .nil, mixed⟩ (n0 := 2) (Nat.le_of_ble_eq_true rfl) (by simp [wfL, SV.wf]) (wfH_spec (by simp [wfH, SObj.wf])) (Nat.le_refl _) (fun _ => by simp [SV.wf, wfL]) ?_
  simp -implicitDefEqProofs only [Try.f33, Option.getD_some, argS, eqSource_F, ZB, Int.reduceToNat, Nat.reduceLT, Nat.reduceLeDiff, Int.reduceLE, Int.reduceLT, Nat.reduceEqDiff, Nat.reduceSub, SB, SV.known, packR, ne_eq, reduceCtorEq, Nat.reduceEqDiff, ↓reduceIte, if_true, if_false, eq_self, Nat.reduceAdd, Nat.reduceMul, Nat.reduceSub, forall_const, oneCellS, Kd.isSca, flat, TYB]
  refine loop_intro (fun i : Nat => [(5, .int i), (0, .slice 0 0 m c1), (1, .slice 1 0 m c2)]) (fun _ => [(0, .ints L1 e1), (1, .ints L2 e2)]) 2 (fun i => i ≤ m) (fun i => m - i) ?_ ?_
  · refine ⟨0, ?_, Sub.mk_id ?_ ?_ ?_ ?_ ?_⟩
    all_goals (try (simp only [LB, subS, subH, wfS, wfH, SV.ren, renL, SObj.ren, SV.wf, SObj.wf, wfL, SV.known, Nat.reduceEqDiff, ↓reduceIte, if_true, if_false, eq_self, Nat.reduceAdd, Nat.reduceLT, Nat.reduceLeDiff, implies_true, reduceCtorEq, forall_const]; done))
    all_goals (try (simp only [LB, subS, subH, wfS, wfH, SV.ren, renL, SObj.ren, SV.wf, SObj.wf, wfL, SV.known, Nat.reduceEqDiff, ↓reduceIte, if_true, if_false, eq_self, Nat.reduceAdd, Nat.reduceLT, Nat.reduceLeDiff, implies_true, reduceCtorEq, forall_const]; simp; done))
    all_goals (try (simp only [LB, subS, subH, wfS, wfH, SV.ren, renL, SObj.ren, SV.wf, SObj.wf, wfL, SV.known, Nat.reduceEqDiff, ↓reduceIte, if_true, if_false, eq_self, Nat.reduceAdd, Nat.reduceLT, Nat.reduceLeDiff, implies_true, reduceCtorEq, forall_const]; (and_intros <;> (first | omega | rfl | (simp; done) | (simp; omega))); done))
    all_goals (try dsimp only)
    all_goals (and_intros <;> try (first | omega | (unfold In64; omega) | trivial | assumption))
  · intro i hi
    by_cases hlt : i < m
    · have hil : (i : Int) < m := by omega
      have ee : (L1.drop (i * 3)).take 3 = (L2.drop (i * 3)).take 3 := by
        have := congrArg (fun l => (List.drop (i * 3) l).take 3) h
        simp only [List.drop_take, List.take_take] at this
        rw [Nat.min_eq_left (by omega)] at this
        exact this
      have l2 : ((L2.drop (i * 3)).take 3).length = 3 := by rw [List.length_take, List.length_drop]; omega
      simp -implicitDefEqProofs only [lk_normal, eqSource_F, hil, ee, l2, ZB, Int.reduceToNat, Nat.reduceLT, Nat.reduceLeDiff, Int.reduceLE, Int.reduceLT, Nat.reduceEqDiff, Nat.reduceSub, SB, SV.known, packR, ne_eq, reduceCtorEq, Nat.reduceEqDiff, ↓reduceIte, if_true, if_false, eq_self, Nat.reduceAdd, Nat.reduceMul, Nat.reduceSub, forall_const, oneCellS, Kd.isSca, flat, TYB]
      (try (and_intros <;> try (first | omega | (unfold In64; omega) | trivial | assumption)))
      refine ⟨i + 1, ?_, ?_, Sub.mk_id ?_ ?_ ?_ ?_ ?_⟩
      all_goals (try (simp only [LB, subS, subH, wfS, wfH, SV.ren, renL, SObj.ren, SV.wf, SObj.wf, wfL, SV.known, Nat.reduceEqDiff, ↓reduceIte, if_true, if_false, eq_self, Nat.reduceAdd, Nat.reduceLT, Nat.reduceLeDiff, implies_true, reduceCtorEq, forall_const]; done))
      all_goals (try (simp only [LB, subS, subH, wfS, wfH, SV.ren, renL, SObj.ren, SV.wf, SObj.wf, wfL, SV.known, Nat.reduceEqDiff, ↓reduceIte, if_true, if_false, eq_self, Nat.reduceAdd, Nat.reduceLT, Nat.reduceLeDiff, implies_true, reduceCtorEq, forall_const]; simp; done))
      all_goals (try (simp only [LB, subS, subH, wfS, wfH, SV.ren, renL, SObj.ren, SV.wf, SObj.wf, wfL, SV.known, Nat.reduceEqDiff, ↓reduceIte, if_true, if_false, eq_self, Nat.reduceAdd, Nat.reduceLT, Nat.reduceLeDiff, implies_true, reduceCtorEq, forall_const]; (and_intros <;> (first | omega | rfl | (simp; done) | (simp; omega))); done))
      all_goals (try dsimp only)
      all_goals (and_intros <;> try (first | omega | (unfold In64; omega) | trivial | assumption))
    · have hil : ¬ (i : Int) < m := by omega
      simp -implicitDefEqProofs only [lk_normal, hil, ZB, Int.reduceToNat, Nat.reduceLT, Nat.reduceLeDiff, Int.reduceLE, Int.reduceLT, Nat.reduceEqDiff, Nat.reduceSub, SB, SV.known, packR, ne_eq, reduceCtorEq, Nat.reduceEqDiff, ↓reduceIte, if_true, if_false, eq_self, Nat.reduceAdd, Nat.reduceMul, Nat.reduceSub, forall_const, oneCellS, Kd.isSca, flat, TYB]
theorem eqS3_nn (H : Heap) : PureH Try.prog 33 [.nils, .nils] H (.bool true) := by
  refine PureH.any ?_ H
  refine pure_of_vc (X := ⟨Try.prog, tys, [(85, eqSource_F)], [], true, true, 0, [], []⟩) fn_33 ⟨tys_ok, (.cons eqSource_T .nil), .nil, mixed⟩ (n0 := 0) (Nat.le_of_ble_eq_true rfl) (by simp [wfL, SV.wf]) (wfH_spec (by simp [wfH, SObj.wf])) (Nat.le_refl _) (fun _ => by simp [SV.wf, wfL]) ?_
  simp -implicitDefEqProofs only [Try.f33, Option.getD_some, argS, eqSource_F, ZB, Int.reduceToNat, Nat.reduceLT, Nat.reduceLeDiff, Int.reduceLE, Int.reduceLT, Nat.reduceEqDiff, Nat.reduceSub, SB, SV.known, packR, ne_eq, reduceCtorEq, Nat.reduceEqDiff, ↓reduceIte, if_true, if_false, eq_self, Nat.reduceAdd, Nat.reduceMul, Nat.reduceSub, forall_const, oneCellS, Kd.isSca, flat, TYB]
  refine loop_intro (fun i : Nat => [(5, .int 0), (0, .nils), (1, .nils)]) (fun _ => []) 0 (fun i => True) (fun i => 0) ?_ ?_
  · refine ⟨0, ?_, Sub.mk_id ?_ ?_ ?_ ?_ ?_⟩
    all_goals (try (simp only [LB, subS, subH, wfS, wfH, SV.ren, renL, SObj.ren, SV.wf, SObj.wf, wfL, SV.known, Nat.reduceEqDiff, ↓reduceIte, if_true, if_false, eq_self, Nat.reduceAdd, Nat.reduceLT, Nat.reduceLeDiff, implies_true, reduceCtorEq, forall_const]; done))
    all_goals (try (simp only [LB, subS, subH, wfS, wfH, SV.ren, renL, SObj.ren, SV.wf, SObj.wf, wfL, SV.known, Nat.reduceEqDiff, ↓reduceIte, if_true, if_false, eq_self, Nat.reduceAdd, Nat.reduceLT, Nat.reduceLeDiff, implies_true, reduceCtorEq, forall_const]; simp; done))
    all_goals (try (simp only [LB, subS, subH, wfS, wfH, SV.ren, renL, SObj.ren, SV.wf, SObj.wf, wfL, SV.known, Nat.reduceEqDiff, ↓reduceIte, if_true, if_false, eq_self, Nat.reduceAdd, Nat.reduceLT, Nat.reduceLeDiff, implies_true, reduceCtorEq, forall_const]; (and_intros <;> (first | omega | rfl | (simp; done) | (simp; omega))); done))
    all_goals (try dsimp only)
    all_goals (and_intros <;> try (first | omega | (unfold In64; omega) | trivial | assumption))
  · intro i hi
    simp -implicitDefEqProofs only [lk_normal, ZB, Int.reduceToNat, Nat.reduceLT, Nat.reduceLeDiff, Int.reduceLE, Int.reduceLT, Nat.reduceEqDiff, Nat.reduceSub, SB, SV.known, packR, ne_eq, reduceCtorEq, Nat.reduceEqDiff, ↓reduceIte, if_true, if_false, eq_self, Nat.reduceAdd, Nat.reduceMul, Nat.reduceSub, forall_const, oneCellS, Kd.isSca, flat, TYB]
theorem eqS3_ns (L2 : List Int) (e2 c2 : Nat) : PureH Try.prog 33 [.nils, .slice 0 0 0 c2] [(0, .ints L2 e2)] (.bool true) := by
  refine pure_of_vc (X := ⟨Try.prog, tys, [(85, eqSource_F)], [], true, true, 1, [], []⟩) fn_33 ⟨tys_ok, (.cons eqSource_T .nil), .nil, mixed⟩ (n0 := 1) (Nat.le_of_ble_eq_true rfl) (by simp [wfL, SV.wf]) (wfH_spec (by simp [wfH, SObj.wf])) (Nat.le_refl _) (fun _ => by simp [SV.wf, wfL]) ?_
  simp -implicitDefEqProofs only [Try.f33, Option.getD_some, argS, eqSource_F, ZB, Int.reduceToNat, Nat.reduceLT, Nat.reduceLeDiff, Int.reduceLE, Int.reduceLT, Nat.reduceEqDiff, Nat.reduceSub, SB, SV.known, packR, ne_eq, reduceCtorEq, Nat.reduceEqDiff, ↓reduceIte, if_true, if_false, eq_self, Nat.reduceAdd, Nat.reduceMul, Nat.reduceSub, forall_const, oneCellS, Kd.isSca, flat, TYB]
  refine loop_intro (fun i : Nat => [(5, .int 0), (0, .nils), (1, .slice 0 0 0 c2)]) (fun _ => [(0, .ints L2 e2)]) 1 (fun i => True) (fun i => 0) ?_ ?_
  · refine ⟨0, ?_, Sub.mk_id ?_ ?_ ?_ ?_ ?_⟩
    all_goals (try (simp only [LB, subS, subH, wfS, wfH, SV.ren, renL, SObj.ren, SV.wf, SObj.wf, wfL, SV.known, Nat.reduceEqDiff, ↓reduceIte, if_true, if_false, eq_self, Nat.reduceAdd, Nat.reduceLT, Nat.reduceLeDiff, implies_true, reduceCtorEq, forall_const]; done))
    all_goals (try (simp only [LB, subS, subH, wfS, wfH, SV.ren, renL, SObj.ren, SV.wf, SObj.wf, wfL, SV.known, Nat.reduceEqDiff, ↓reduceIte, if_true, if_false, eq_self, Nat.reduceAdd, Nat.reduceLT, Nat.reduceLeDiff, implies_true, reduceCtorEq, forall_const]; simp; done))
    all_goals (try (simp only [LB, subS, subH, wfS, wfH, SV.ren, renL, SObj.ren, SV.wf, SObj.wf, wfL, SV.known, Nat.reduceEqDiff, ↓reduceIte, if_true, if_false, eq_self, Nat.reduceAdd, Nat.reduceLT, Nat.reduceLeDiff, implies_true, reduceCtorEq, forall_const]; (and_intros <;> (first | omega | rfl | (simp; done) | (simp; omega))); done))
    all_goals (try dsimp only)
    all_goals (and_intros <;> try (first | omega | (unfold In64; omega) | trivial | assumption))
  · intro i hi
    simp -implicitDefEqProofs only [lk_normal, ZB, Int.reduceToNat, Nat.reduceLT, Nat.reduceLeDiff, Int.reduceLE, Int.reduceLT, Nat.reduceEqDiff, Nat.reduceSub, SB, SV.known, packR, ne_eq, reduceCtorEq, Nat.reduceEqDiff, ↓reduceIte, if_true, if_false, eq_self, Nat.reduceAdd, Nat.reduceMul, Nat.reduceSub, forall_const, oneCellS, Kd.isSca, flat, TYB]
def eqS3_F : List SV → Heap → Option (Prop × SV)
  | [.slice a 0 l1 _, .slice b 0 l2 _], H => match hget H a, hget H b with
    | some (.ints L1 _), some (.ints L2 _) => some (a ≠ b ∧ l1 = l2 ∧ l1 * 3 ≤ L1.length ∧ l2 * 3 ≤ L2.length ∧ L1.take (l1 * 3) = L2.take (l2 * 3) ∧ l1 ≤ 3074457345618258602, .bool true)
    | _, _ => none
  | [.nils, .slice b 0 l2 _], H => match hget H b with
    | some (.ints _ _) => some (l2 = 0, .bool true)
    | _ => none
  | [.nils, .nils], _ => some (True, .bool true)
  | _, _ => none
theorem eqS3_T : ∀ args H p v, eqS3_F args H = some (p, v) → p → PureH Try.prog 33 args H v := by
  intro args H p v h hp
  unfold eqS3_F at h
  split at h
  · rename_i a l1 c1 b l2 c2
    split at h
    · rename_i L1 e1 L2 e2 g1 g2
      cases h
      obtain ⟨hab, rfl, q1, q2, q3, q4⟩ := hp
      have := (eqS3_ok L1 L2 e1 e2 c1 c2 l1 q1 q2 q3 q4).sub (H := H) (fun j => if j = 0 then a else b) (fun j o hj => by
        simp only [hget_cons] at hj
        split at hj
        · rename_i hj0; cases hj; refine ⟨?_, fun _ => by omega, by simp [hj0]⟩; show hget H (if j = 0 then a else b) = _; rw [if_pos hj0]; exact g1
        · rename_i hj0
          split at hj
          · rename_i hj1; cases hj; refine ⟨?_, fun _ => by omega, by simp [hj1]⟩; show hget H (if j = 0 then a else b) = _; rw [if_neg hj0]; exact g2
          · cases hj) (fun x hx y hy he => by
        simp at hx hy
        rcases hx with rfl | rfl <;> rcases hy with rfl | rfl <;> simp at he <;> omega) (fun _ => trivial)
      simpa [renL, SV.ren] using this
    · cases h
  · rename_i b l2 c2
    split at h
    · rename_i L2 e2 g2
      cases h
      subst hp
      exact one_block (eqS3_ns L2 e2 c2) g2 rfl (fun _ => trivial)
    · cases h
  · cases h; exact eqS3_nn H
  · cases h

/-! Marks. -/
--@tbl mark3 = laws.markSourceS
--@tbl held3 = laws.heldSourceS
theorem mark3_ok (L : List Int) (e cap m : Nat) (k : Int) (h1 : m * 3 ≤ L.length) (hm : m ≤ 2000000) (hk : 0 ≤ k ∧ k ≤ 1000000) : UpdP Try.prog 34 [.slice 0 0 m cap, .int k] 0 [] (.ints L e) (.ints (mkL k (m * 3) ++ L.drop (m * 3)) e) (.int (k + (m * 3 : Nat))) := by
  refine upd_of_vc (X := ⟨Try.prog, tys, [], [], true, true, 0, [], []⟩) fn_34 ⟨tys_ok, .nil, .nil, mixed⟩ (n0 := 1) (by omega) (Nat.le_of_ble_eq_true rfl) (by simp [wfL, SV.wf]) (wfH_spec (by simp [wfH, SObj.wf])) (fun k o1 hk => by cases hk) rfl rfl (fun _ => trivial) (by simp [SV.wf]) ?_
  simp -implicitDefEqProofs only [Try.f34, Option.getD_some, argS, ZB, Int.reduceToNat, Nat.reduceLT, Nat.reduceLeDiff, Int.reduceLE, Int.reduceLT, Nat.reduceEqDiff, Nat.reduceSub, SB, SV.known, packR, ne_eq, reduceCtorEq, Nat.reduceEqDiff, ↓reduceIte, if_true, if_false, eq_self, Nat.reduceAdd, Nat.reduceMul, Nat.reduceSub, forall_const, oneCellS, Kd.isSca, flat, TYB]
  refine loop_intro (fun i : Nat => [(5, .int i), (0, .slice 0 0 m cap), (1, .int (k + (i * 3 : Nat)))]) (fun i => [(0, .ints (mkL k (i * 3) ++ L.drop (i * 3)) e)]) 1 (fun i => i ≤ m) (fun i => m - i) ?_ ?_
  · refine ⟨0, ?_, Sub.mk_id ?_ ?_ ?_ ?_ ?_⟩
    all_goals (try (simp only [mkL_zero, LB, subS, subH, wfS, wfH, SV.ren, renL, SObj.ren, SV.wf, SObj.wf, wfL, SV.known, Nat.reduceEqDiff, ↓reduceIte, if_true, if_false, eq_self, Nat.reduceAdd, Nat.reduceLT, Nat.reduceLeDiff, implies_true, reduceCtorEq, forall_const]; done))
    all_goals (try (simp only [mkL_zero, LB, subS, subH, wfS, wfH, SV.ren, renL, SObj.ren, SV.wf, SObj.wf, wfL, SV.known, Nat.reduceEqDiff, ↓reduceIte, if_true, if_false, eq_self, Nat.reduceAdd, Nat.reduceLT, Nat.reduceLeDiff, implies_true, reduceCtorEq, forall_const]; simp; done))
    all_goals (try (simp only [mkL_zero, LB, subS, subH, wfS, wfH, SV.ren, renL, SObj.ren, SV.wf, SObj.wf, wfL, SV.known, Nat.reduceEqDiff, ↓reduceIte, if_true, if_false, eq_self, Nat.reduceAdd, Nat.reduceLT, Nat.reduceLeDiff, implies_true, reduceCtorEq, forall_const]; (and_intros <;> (first | omega | rfl | (simp; done) | (simp; omega))); done))
    all_goals (try dsimp only)
    all_goals (and_intros <;> try (first | omega | (unfold In64; omega) | trivial | assumption))
    all_goals simp [mkL_zero, subS, subH, wfS, wfH, SV.ren, renL, SObj.ren, SV.wf, SObj.wf, wfL, sget_cons, hget_cons]
  · intro i hi
    have ll : ∀ t, t ≤ m * 3 → (mkL k t ++ L.drop t).length = L.length := fun t ht => by rw [List.length_append, mkL_len, List.length_drop]; omega
    by_cases hlt : i < m
    · have hil : (i : Int) < m := by omega
      have es0 := mkL_set k L (i * 3) (by omega)
      have es1 := mkL_set k L (i * 3 + 1) (by omega)
      have es2 := mkL_set k L (i * 3 + 2) (by omega)
      have l0 := ll (i * 3) (by omega)
      have l1 := ll (i * 3 + 1) (by omega)
      have l2 := ll (i * 3 + 2) (by omega)
      have e3 : k + ((i * 3 : Nat) : Int) + 1 = k + ((i * 3 + 1 : Nat) : Int) := by omega
      have e4 : k + ((i * 3 + 1 : Nat) : Int) + 1 = k + ((i * 3 + 2 : Nat) : Int) := by omega
      simp -implicitDefEqProofs only [lk_normal, hil, l0, l1, l2, es0, es1, es2, e3, e4, ZB, Int.reduceToNat, Nat.reduceLT, Nat.reduceLeDiff, Int.reduceLE, Int.reduceLT, Nat.reduceEqDiff, Nat.reduceSub, SB, SV.known, packR, ne_eq, reduceCtorEq, Nat.reduceEqDiff, ↓reduceIte, if_true, if_false, eq_self, Nat.reduceAdd, Nat.reduceMul, Nat.reduceSub, forall_const, oneCellS, Kd.isSca, flat, TYB]
      (try (and_intros <;> try (first | omega | (unfold In64; omega) | trivial | assumption)))
      have e2 : (i + 1) * 3 = i * 3 + 2 + 1 := by omega
      refine ⟨i + 1, ?_, ?_, Sub.mk_id ?_ ?_ ?_ ?_ ?_⟩
      all_goals (try (simp only [e2, LB, subS, subH, wfS, wfH, SV.ren, renL, SObj.ren, SV.wf, SObj.wf, wfL, SV.known, Nat.reduceEqDiff, ↓reduceIte, if_true, if_false, eq_self, Nat.reduceAdd, Nat.reduceLT, Nat.reduceLeDiff, implies_true, reduceCtorEq, forall_const]; done))
      all_goals (try (simp only [e2, LB, subS, subH, wfS, wfH, SV.ren, renL, SObj.ren, SV.wf, SObj.wf, wfL, SV.known, Nat.reduceEqDiff, ↓reduceIte, if_true, if_false, eq_self, Nat.reduceAdd, Nat.reduceLT, Nat.reduceLeDiff, implies_true, reduceCtorEq, forall_const]; simp; done))
      all_goals (try (simp only [e2, LB, subS, subH, wfS, wfH, SV.ren, renL, SObj.ren, SV.wf, SObj.wf, wfL, SV.known, Nat.reduceEqDiff, ↓reduceIte, if_true, if_false, eq_self, Nat.reduceAdd, Nat.reduceLT, Nat.reduceLeDiff, implies_true, reduceCtorEq, forall_const]; (and_intros <;> (first | omega | rfl | (simp; done) | (simp; omega))); done))
      all_goals (try dsimp only)
      all_goals (and_intros <;> try (first | omega | (unfold In64; omega) | trivial | assumption))
    · have hil : ¬ (i : Int) < m := by omega
      obtain rfl : i = m := by omega
      simp -implicitDefEqProofs only [lk_normal, hil, hget_cons, ZB, Int.reduceToNat, Nat.reduceLT, Nat.reduceLeDiff, Int.reduceLE, Int.reduceLT, Nat.reduceEqDiff, Nat.reduceSub, SB, SV.known, packR, ne_eq, reduceCtorEq, Nat.reduceEqDiff, ↓reduceIte, if_true, if_false, eq_self, Nat.reduceAdd, Nat.reduceMul, Nat.reduceSub, forall_const, oneCellS, Kd.isSca, flat, TYB]
      (try (and_intros <;> try (first | omega | (unfold In64; omega) | trivial | assumption)))
theorem held3_ok (L : List Int) (e cap m : Nat) (k : Int) (hm : m ≤ 2000000) (hk : 0 ≤ k ∧ k ≤ 1000000) : PureH Try.prog 35 [.slice 0 0 m cap, .int k] [(0, .ints (mkL k (m * 3) ++ L) e)] (.int (k + (m * 3 : Nat))) := by
  refine pure_of_vc (X := ⟨Try.prog, tys, [], [], true, true, 1, [], []⟩) fn_35 ⟨tys_ok, .nil, .nil, mixed⟩ (n0 := 1) (Nat.le_of_ble_eq_true rfl) (by simp [wfL, SV.wf]) (wfH_spec (by simp [wfH, SObj.wf])) (Nat.le_refl _) (fun _ => by simp [SV.wf, wfL]) ?_
  simp -implicitDefEqProofs only [Try.f35, Option.getD_some, argS, ZB, Int.reduceToNat, Nat.reduceLT, Nat.reduceLeDiff, Int.reduceLE, Int.reduceLT, Nat.reduceEqDiff, Nat.reduceSub, SB, SV.known, packR, ne_eq, reduceCtorEq, Nat.reduceEqDiff, ↓reduceIte, if_true, if_false, eq_self, Nat.reduceAdd, Nat.reduceMul, Nat.reduceSub, forall_const, oneCellS, Kd.isSca, flat, TYB]
  refine loop_intro (fun i : Nat => [(5, .int i), (0, .slice 0 0 m cap), (1, .int (k + (i * 3 : Nat)))]) (fun i => [(0, .ints (mkL k (m * 3) ++ L) e)]) 1 (fun i => i ≤ m) (fun i => m - i) ?_ ?_
  · refine ⟨0, ?_, Sub.mk_id ?_ ?_ ?_ ?_ ?_⟩
    all_goals (try (simp only [LB, subS, subH, wfS, wfH, SV.ren, renL, SObj.ren, SV.wf, SObj.wf, wfL, SV.known, Nat.reduceEqDiff, ↓reduceIte, if_true, if_false, eq_self, Nat.reduceAdd, Nat.reduceLT, Nat.reduceLeDiff, implies_true, reduceCtorEq, forall_const]; done))
    all_goals (try (simp only [LB, subS, subH, wfS, wfH, SV.ren, renL, SObj.ren, SV.wf, SObj.wf, wfL, SV.known, Nat.reduceEqDiff, ↓reduceIte, if_true, if_false, eq_self, Nat.reduceAdd, Nat.reduceLT, Nat.reduceLeDiff, implies_true, reduceCtorEq, forall_const]; simp; done))
    all_goals (try (simp only [LB, subS, subH, wfS, wfH, SV.ren, renL, SObj.ren, SV.wf, SObj.wf, wfL, SV.known, Nat.reduceEqDiff, ↓reduceIte, if_true, if_false, eq_self, Nat.reduceAdd, Nat.reduceLT, Nat.reduceLeDiff, implies_true, reduceCtorEq, forall_const]; (and_intros <;> (first | omega | rfl | (simp; done) | (simp; omega))); done))
    all_goals (try dsimp only)
    all_goals (and_intros <;> try (first | omega | (unfold In64; omega) | trivial | assumption))
  · intro i hi
    have ll : (mkL k (m * 3) ++ L).length = m * 3 + L.length := by rw [List.length_append, mkL_len]
    by_cases hlt : i < m
    · have hil : (i : Int) < m := by omega
      have es0 : (mkL k (m * 3) ++ L).getD (i * 3) 0 = k + ((i * 3 : Nat) : Int) := by rw [getD_app _ _ _ (by rw [mkL_len]; omega), mkL_getD _ _ _ (by omega)]
      have es1 : (mkL k (m * 3) ++ L).getD (i * 3 + 1) 0 = k + ((i * 3 + 1 : Nat) : Int) := by rw [getD_app _ _ _ (by rw [mkL_len]; omega), mkL_getD _ _ _ (by omega)]
      have es2 : (mkL k (m * 3) ++ L).getD (i * 3 + 2) 0 = k + ((i * 3 + 2 : Nat) : Int) := by rw [getD_app _ _ _ (by rw [mkL_len]; omega), mkL_getD _ _ _ (by omega)]
      have e3 : k + ((i * 3 : Nat) : Int) + 1 = k + ((i * 3 + 1 : Nat) : Int) := by omega
      have e4 : k + ((i * 3 + 1 : Nat) : Int) + 1 = k + ((i * 3 + 2 : Nat) : Int) := by omega
      simp -implicitDefEqProofs only [lk_normal, hil, ll, es0, es1, es2, e3, e4, ZB, Int.reduceToNat, Nat.reduceLT, Nat.reduceLeDiff, Int.reduceLE, Int.reduceLT, Nat.reduceEqDiff, Nat.reduceSub, SB, SV.known, packR, ne_eq, reduceCtorEq, Nat.reduceEqDiff, ↓reduceIte, if_true, if_false, eq_self, Nat.reduceAdd, Nat.reduceMul, Nat.reduceSub, forall_const, oneCellS, Kd.isSca, flat, TYB]
      (try (and_intros <;> try (first | omega | (unfold In64; omega) | trivial | assumption)))
      have e2 : (i + 1) * 3 = i * 3 + 2 + 1 := by omega
      refine ⟨i + 1, ?_, ?_, Sub.mk_id ?_ ?_ ?_ ?_ ?_⟩
      all_goals (try (simp only [e2, LB, subS, subH, wfS, wfH, SV.ren, renL, SObj.ren, SV.wf, SObj.wf, wfL, SV.known, Nat.reduceEqDiff, ↓reduceIte, if_true, if_false, eq_self, Nat.reduceAdd, Nat.reduceLT, Nat.reduceLeDiff, implies_true, reduceCtorEq, forall_const]; done))
      all_goals (try (simp only [e2, LB, subS, subH, wfS, wfH, SV.ren, renL, SObj.ren, SV.wf, SObj.wf, wfL, SV.known, Nat.reduceEqDiff, ↓reduceIte, if_true, if_false, eq_self, Nat.reduceAdd, Nat.reduceLT, Nat.reduceLeDiff, implies_true, reduceCtorEq, forall_const]; simp; done))
      all_goals (try (simp only [e2, LB, subS, subH, wfS, wfH, SV.ren, renL, SObj.ren, SV.wf, SObj.wf, wfL, SV.known, Nat.reduceEqDiff, ↓reduceIte, if_true, if_false, eq_self, Nat.reduceAdd, Nat.reduceLT, Nat.reduceLeDiff, implies_true, reduceCtorEq, forall_const]; (and_intros <;> (first | omega | rfl | (simp; done) | (simp; omega))); done))
      all_goals (try dsimp only)
      all_goals (and_intros <;> try (first | omega | (unfold In64; omega) | trivial | assumption))
    · have hil : ¬ (i : Int) < m := by omega
      obtain rfl : i = m := by omega
      simp -implicitDefEqProofs only [lk_normal, hil, hget_cons, ZB, Int.reduceToNat, Nat.reduceLT, Nat.reduceLeDiff, Int.reduceLE, Int.reduceLT, Nat.reduceEqDiff, Nat.reduceSub, SB, SV.known, packR, ne_eq, reduceCtorEq, Nat.reduceEqDiff, ↓reduceIte, if_true, if_false, eq_self, Nat.reduceAdd, Nat.reduceMul, Nat.reduceSub, forall_const, oneCellS, Kd.isSca, flat, TYB]
theorem mark3_nil (H : Heap) (k : Int) : PureH Try.prog 34 [.nils, .int k] H (.int k) := by
  refine PureH.any ?_ H
  refine pure_of_vc (X := ⟨Try.prog, tys, [], [], true, true, 0, [], []⟩) fn_34 ⟨tys_ok, .nil, .nil, mixed⟩ (n0 := 0) (Nat.le_of_ble_eq_true rfl) (by simp [wfL, SV.wf]) (wfH_spec (by simp [wfH, SObj.wf])) (Nat.le_refl _) (fun _ => by simp [SV.wf, wfL]) ?_
  simp -implicitDefEqProofs only [Try.f34, Option.getD_some, argS, ZB, Int.reduceToNat, Nat.reduceLT, Nat.reduceLeDiff, Int.reduceLE, Int.reduceLT, Nat.reduceEqDiff, Nat.reduceSub, SB, SV.known, packR, ne_eq, reduceCtorEq, Nat.reduceEqDiff, ↓reduceIte, if_true, if_false, eq_self, Nat.reduceAdd, Nat.reduceMul, Nat.reduceSub, forall_const, oneCellS, Kd.isSca, flat, TYB]
  refine loop_intro (fun i : Nat => [(5, .int 0), (0, .nils), (1, .int k)]) (fun _ => []) 0 (fun i => True) (fun i => 0) ?_ ?_
  · refine ⟨0, ?_, Sub.mk_id ?_ ?_ ?_ ?_ ?_⟩
    all_goals (try (simp only [LB, subS, subH, wfS, wfH, SV.ren, renL, SObj.ren, SV.wf, SObj.wf, wfL, SV.known, Nat.reduceEqDiff, ↓reduceIte, if_true, if_false, eq_self, Nat.reduceAdd, Nat.reduceLT, Nat.reduceLeDiff, implies_true, reduceCtorEq, forall_const]; done))
    all_goals (try (simp only [LB, subS, subH, wfS, wfH, SV.ren, renL, SObj.ren, SV.wf, SObj.wf, wfL, SV.known, Nat.reduceEqDiff, ↓reduceIte, if_true, if_false, eq_self, Nat.reduceAdd, Nat.reduceLT, Nat.reduceLeDiff, implies_true, reduceCtorEq, forall_const]; simp; done))
    all_goals (try (simp only [LB, subS, subH, wfS, wfH, SV.ren, renL, SObj.ren, SV.wf, SObj.wf, wfL, SV.known, Nat.reduceEqDiff, ↓reduceIte, if_true, if_false, eq_self, Nat.reduceAdd, Nat.reduceLT, Nat.reduceLeDiff, implies_true, reduceCtorEq, forall_const]; (and_intros <;> (first | omega | rfl | (simp; done) | (simp; omega))); done))
    all_goals (try dsimp only)
    all_goals (and_intros <;> try (first | omega | (unfold In64; omega) | trivial | assumption))
  · intro i hi
    simp -implicitDefEqProofs only [lk_normal, ZB, Int.reduceToNat, Nat.reduceLT, Nat.reduceLeDiff, Int.reduceLE, Int.reduceLT, Nat.reduceEqDiff, Nat.reduceSub, SB, SV.known, packR, ne_eq, reduceCtorEq, Nat.reduceEqDiff, ↓reduceIte, if_true, if_false, eq_self, Nat.reduceAdd, Nat.reduceMul, Nat.reduceSub, forall_const, oneCellS, Kd.isSca, flat, TYB]
theorem held3_nil (H : Heap) (k : Int) : PureH Try.prog 35 [.nils, .int k] H (.int k) := by
  refine PureH.any ?_ H
  refine pure_of_vc (X := ⟨Try.prog, tys, [], [], true, true, 0, [], []⟩) fn_35 ⟨tys_ok, .nil, .nil, mixed⟩ (n0 := 0) (Nat.le_of_ble_eq_true rfl) (by simp [wfL, SV.wf]) (wfH_spec (by simp [wfH, SObj.wf])) (Nat.le_refl _) (fun _ => by simp [SV.wf, wfL]) ?_
  simp -implicitDefEqProofs only [Try.f35, Option.getD_some, argS, ZB, Int.reduceToNat, Nat.reduceLT, Nat.reduceLeDiff, Int.reduceLE, Int.reduceLT, Nat.reduceEqDiff, Nat.reduceSub, SB, SV.known, packR, ne_eq, reduceCtorEq, Nat.reduceEqDiff, ↓reduceIte, if_true, if_false, eq_self, Nat.reduceAdd, Nat.reduceMul, Nat.reduceSub, forall_const, oneCellS, Kd.isSca, flat, TYB]
  refine loop_intro (fun i : Nat => [(5, .int 0), (0, .nils), (1, .int k)]) (fun _ => []) 0 (fun i => True) (fun i => 0) ?_ ?_
  · refine ⟨0, ?_, Sub.mk_id ?_ ?_ ?_ ?_ ?_⟩
    all_goals (try (simp only [LB, subS, subH, wfS, wfH, SV.ren, renL, SObj.ren, SV.wf, SObj.wf, wfL, SV.known, Nat.reduceEqDiff, ↓reduceIte, if_true, if_false, eq_self, Nat.reduceAdd, Nat.reduceLT, Nat.reduceLeDiff, implies_true, reduceCtorEq, forall_const]; done))
    all_goals (try (simp only [LB, subS, subH, wfS, wfH, SV.ren, renL, SObj.ren, SV.wf, SObj.wf, wfL, SV.known, Nat.reduceEqDiff, ↓reduceIte, if_true, if_false, eq_self, Nat.reduceAdd, Nat.reduceLT, Nat.reduceLeDiff, implies_true, reduceCtorEq, forall_const]; simp; done))
    all_goals (try (simp only [LB, subS, subH, wfS, wfH, SV.ren, renL, SObj.ren, SV.wf, SObj.wf, wfL, SV.known, Nat.reduceEqDiff, ↓reduceIte, if_true, if_false, eq_self, Nat.reduceAdd, Nat.reduceLT, Nat.reduceLeDiff, implies_true, reduceCtorEq, forall_const]; (and_intros <;> (first | omega | rfl | (simp; done) | (simp; omega))); done))
    all_goals (try dsimp only)
    all_goals (and_intros <;> try (first | omega | (unfold In64; omega) | trivial | assumption))
  · intro i hi
    simp -implicitDefEqProofs only [lk_normal, ZB, Int.reduceToNat, Nat.reduceLT, Nat.reduceLeDiff, Int.reduceLE, Int.reduceLT, Nat.reduceEqDiff, Nat.reduceSub, SB, SV.known, packR, ne_eq, reduceCtorEq, Nat.reduceEqDiff, ↓reduceIte, if_true, if_false, eq_self, Nat.reduceAdd, Nat.reduceMul, Nat.reduceSub, forall_const, oneCellS, Kd.isSca, flat, TYB]
def mark3_F : List SV → Heap → Nat → Nat → K1 → Prop
  | [.slice b 0 l _, .int k], H, n, m, κ => match hget H b with
    | some (.ints L e) => m ≤ b ∧ l * 3 ≤ L.length ∧ l ≤ 2000000 ∧ (0 ≤ k ∧ k ≤ 1000000) ∧ κ (.int (k + (l * 3 : Nat))) ((b, .ints (mkL k (l * 3) ++ L.drop (l * 3)) e) :: H) n
    | _ => False
  | [.nils, .int k], H, n, _, κ => κ (.int k) H n
  | _, _, _, _, _ => False
theorem mark3_T : ∀ args H n m κ, mark3_F args H n m κ → GenOK Try.prog 34 args H n m κ := by
  intro args H n m κ h
  unfold mark3_F at h
  split at h
  · rename_i b l cap k
    split at h
    · rename_i L e hb
      obtain ⟨h1, h2, h3, h4, h5⟩ := h
      have := gen_of_upd (H := H) (n := n) (m := m) (κ := κ) (mark3_ok L e cap l k h2 h3 h4) (fun _ => b) (fun j o1 hj => by
        rw [hget_cons] at hj
        split at hj
        · cases hj; exact hb
        · cases hj) (fun j1 o1 j2 o2 g1 g2 _ => by
        rw [hget_cons] at g1 g2
        split at g1
        · split at g2
          · omega
          · cases g2
        · cases g1) h1 rfl (fun _ _ => trivial) (by simpa [SV.ren] using h5)
      simpa [renL, SV.ren] using this
    · exact h.elim
  · exact gen_of_pure (mark3_nil _ _) h
  · exact h.elim
def held3_F : List SV → Heap → Option (Prop × SV)
  | [.slice b 0 l _, .int k], H => match hget H b with
    | some (.ints M _) => some (l ≤ 2000000 ∧ (0 ≤ k ∧ k ≤ 1000000) ∧ M.take (l * 3) = mkL k (l * 3), .int (k + (l * 3 : Nat)))
    | _ => none
  | [.nils, .int k], _ => some (True, .int k)
  | _, _ => none
theorem held3_T : ∀ args H p v, held3_F args H = some (p, v) → p → PureH Try.prog 35 args H v := by
  intro args H p v h hp
  unfold held3_F at h
  split at h
  · rename_i b l cap k
    split at h
    · rename_i M e hb
      cases h
      obtain ⟨h1, h2, h3⟩ := hp
      have e1 : M = mkL k (l * 3) ++ M.drop (l * 3) := by rw [← h3, List.take_append_drop]
      have := held3_ok (M.drop (l * 3)) e cap l k h1 h2
      rw [← e1] at this
      exact one_block this hb rfl (fun _ => trivial)
    · cases h
  · cases h; exact held3_nil _ _
  · cases h
/-- What is left of a law that compares lists, marks one, and asks again. -/
theorem lawS3 {L : List Int} {m : Nat} (nl : Bool) (hm : L.length = m * 3) (hb : m ≤ 2000000) : ∀ (cap : Nat) (junk : List Int), junk.length + L.length = cap * 3 →
    (nl = true → L = [] → m = 0 ∧ (nl = true → L = [] → m = 0) ∧ ((nl = true → ¬L = []) → ∀ (cap : Nat) (junk_1 : List Int), junk_1.length + L.length = cap * 3 → m * 3 ≤ (L ++ junk_1).length ∧ m * 3 ≤ (L ++ junk).length ∧ List.take (m * 3) (L ++ junk_1) = List.take (m * 3) (L ++ junk) ∧ m ≤ 3074457345618258602)) ∧
    ((nl = true → ¬L = []) → ∀ (cap : Nat) (junk_1 : List Int), junk_1.length + L.length = cap * 3 →
      (m * 3 ≤ (L ++ junk_1).length ∧ m * 3 ≤ (L ++ junk).length ∧ List.take (m * 3) (L ++ junk_1) = List.take (m * 3) (L ++ junk) ∧ m ≤ 3074457345618258602) ∧ m * 3 ≤ (L ++ junk_1).length ∧ m ≤ 2000000 ∧
      (m ≤ 2000000 ∧ List.take (m * 3) (mkL 1 (m * 3) ++ List.drop (m * 3) (L ++ junk_1)) = mkL 1 (m * 3)) ∧ (1 + ((m * 3 : Nat) : Int) < 0 → False) ∧
      (¬1 + ((m * 3 : Nat) : Int) < 0 → (nl = true → L = [] → m = 0 ∧ (m ≤ 2000000 ∧ List.take (m * 3) (mkL 1 (m * 3) ++ List.drop (m * 3) (L ++ junk_1)) = mkL 1 (m * 3)) ∧ (1 + ((m * 3 : Nat) : Int) < 0 → False) ∧ (¬1 + ((m * 3 : Nat) : Int) < 0 → True)) ∧
        ((nl = true → ¬L = []) → ∀ (cap : Nat) (junk_2 : List Int), junk_2.length + L.length = cap * 3 → (m * 3 ≤ (L ++ junk_2).length ∧ m * 3 ≤ (L ++ junk).length ∧ List.take (m * 3) (L ++ junk_2) = List.take (m * 3) (L ++ junk) ∧ m ≤ 3074457345618258602) ∧
          (m ≤ 2000000 ∧ List.take (m * 3) (mkL 1 (m * 3) ++ List.drop (m * 3) (L ++ junk_1)) = mkL 1 (m * 3)) ∧ (1 + ((m * 3 : Nat) : Int) < 0 → False) ∧ (¬1 + ((m * 3 : Nat) : Int) < 0 → True)))) := by
  have tL : ∀ J : List Int, List.take (m * 3) (L ++ J) = L := fun J => List.take_left' hm
  have lL : ∀ J : List Int, m * 3 ≤ (L ++ J).length := fun J => by rw [List.length_append]; omega
  have l0 : L = [] → m = 0 := fun h => by rw [h] at hm; simp at hm; omega
  have nn : ¬ (1 + ((m * 3 : Nat) : Int) < 0) := by omega
  have e1 : ∀ J : List Int, List.take (m * 3) (mkL 1 (m * 3) ++ J) = mkL 1 (m * 3) := fun J => mkL_take _ _ _
  intro cap junk hj
  refine ⟨fun _ h => ⟨l0 h, fun _ h => l0 h, fun _ cap1 junk1 hj1 => ⟨lL _, lL _, by rw [tL, tL], by omega⟩⟩, fun _ cap1 junk1 hj1 => ⟨⟨lL _, lL _, by rw [tL, tL], by omega⟩, lL _, hb, ⟨hb, e1 _⟩, fun h => nn h, fun _ => ⟨fun _ h => ⟨l0 h, ⟨hb, e1 _⟩, fun h => nn h, fun _ => trivial⟩, fun _ cap2 junk2 hj2 => ⟨⟨lL _, lL _, by rw [tL, tL], by omega⟩, ⟨hb, e1 _⟩, fun h => nn h, fun _ => trivial⟩⟩⟩⟩
/-- The same where the list is nil if it is empty. -/
theorem lawS3' {L : List Int} {m : Nat} (hm : L.length = m * 3) (hb : m ≤ 2000000) : ∀ (cap : Nat) (junk : List Int), junk.length + L.length = cap * 3 →
    (L = [] → m = 0 ∧ (L = [] → m = 0) ∧ (¬L = [] → ∀ (cap : Nat) (junk_1 : List Int), junk_1.length + L.length = cap * 3 → m * 3 ≤ (L ++ junk_1).length ∧ m * 3 ≤ (L ++ junk).length ∧ List.take (m * 3) (L ++ junk_1) = List.take (m * 3) (L ++ junk) ∧ m ≤ 3074457345618258602)) ∧
    (¬L = [] → ∀ (cap : Nat) (junk_1 : List Int), junk_1.length + L.length = cap * 3 →
      (m * 3 ≤ (L ++ junk_1).length ∧ m * 3 ≤ (L ++ junk).length ∧ List.take (m * 3) (L ++ junk_1) = List.take (m * 3) (L ++ junk) ∧ m ≤ 3074457345618258602) ∧ m * 3 ≤ (L ++ junk_1).length ∧ m ≤ 2000000 ∧
      (m ≤ 2000000 ∧ List.take (m * 3) (mkL 1 (m * 3) ++ List.drop (m * 3) (L ++ junk_1)) = mkL 1 (m * 3)) ∧ (1 + ((m * 3 : Nat) : Int) < 0 → False) ∧
      (¬1 + ((m * 3 : Nat) : Int) < 0 → (L = [] → m = 0 ∧ (m ≤ 2000000 ∧ List.take (m * 3) (mkL 1 (m * 3) ++ List.drop (m * 3) (L ++ junk_1)) = mkL 1 (m * 3)) ∧ (1 + ((m * 3 : Nat) : Int) < 0 → False) ∧ (¬1 + ((m * 3 : Nat) : Int) < 0 → True)) ∧
        (¬L = [] → ∀ (cap : Nat) (junk_2 : List Int), junk_2.length + L.length = cap * 3 → (m * 3 ≤ (L ++ junk_2).length ∧ m * 3 ≤ (L ++ junk).length ∧ List.take (m * 3) (L ++ junk_2) = List.take (m * 3) (L ++ junk) ∧ m ≤ 3074457345618258602) ∧
          (m ≤ 2000000 ∧ List.take (m * 3) (mkL 1 (m * 3) ++ List.drop (m * 3) (L ++ junk_1)) = mkL 1 (m * 3)) ∧ (1 + ((m * 3 : Nat) : Int) < 0 → False) ∧ (¬1 + ((m * 3 : Nat) : Int) < 0 → True)))) := by
  have := lawS3 true hm hb
  simpa only [true_implies, forall_const] using this
end Go.Proofs.Ytfdpeenamkpcbaa
