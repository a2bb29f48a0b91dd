/- Walks: runs, boundaries, bounds of racks. -/
import Derived.Test.YtnlbljikbonioaaPour
import Derived.Test.YtnlbljikbonioaaO
import Derived.Test.YtnlbljikbonioaaH
import Derived.Test.YtnlbljikbonioaaQ
import Derived.Test.YtnlbljikbonioaaVal
set_option maxRecDepth 100000
set_option linter.unusedSimpArgs false
set_option linter.unusedVariables false
namespace Go.Proofs.Ytnlbljikbonioaa
open Go Go.RowKit
def sumT (f : List Int → Int) (R : List Int) (k : Nat) : Int := ((List.range k).map fun i => f (tubeAt R i)).sum
theorem sumT_zero (f : List Int → Int) (R : List Int) : sumT f R 0 = 0 := rfl
theorem sumT_succ (f : List Int → Int) (R : List Int) (k : Nat) : sumT f R (k + 1) = sumT f R k + f (tubeAt R k) := by simp [sumT, List.range_succ]
theorem sumT_bd {f : List Int → Int} {R : List Int} {b : Int} (hR : R.length = 24) (h : ∀ t : List Int, t.length = 4 → 0 ≤ f t ∧ f t ≤ b) : ∀ k, k ≤ 6 → 0 ≤ sumT f R k ∧ sumT f R k ≤ k * b
  | 0, _ => by simp [sumT_zero]
  | k + 1, hk => by
    have := sumT_bd hR h k (by omega)
    have h1 := h _ (tubeAt_len hR (i := k) (by omega))
    rw [sumT_succ]
    have : ((k + 1 : Nat) : Int) * b = k * b + b := by rw [Int.natCast_add, Int.add_mul, Int.natCast_one, Int.one_mul]
    omega
def crN (t : List Int) : Int := ((runsL t).length / 2 : Nat)
def cbN (t : List Int) : Int := max (crN t - 1) 0
theorem crN_bd (t : List Int) (ht : t.length = 4) : 0 ≤ crN t ∧ crN t ≤ 4 := by
  obtain ⟨n, h1, h2, _⟩ := runsL_even t ht
  unfold crN
  omega
theorem cbN_bd (t : List Int) (ht : t.length = 4) : 0 ≤ cbN t ∧ cbN t ≤ 4 := by
  have := crN_bd t ht
  unfold cbN
  omega
--@tbl countRuns = impl.countRuns
--@tbl countBoundaries = impl.countBoundaries
theorem countRuns_ok (R : List Int) (hR : R.length = 24) : PureH Try.prog 75 [.arr R] [] (.int (sumT crN R 6)) := by
  have tkR : R.take 24 = R := List.take_of_length_le (by omega)
  refine pure_of_vc (X := ⟨Try.prog, tys, [], [(121, runs_F)], true, true, 0, [], []⟩) fn_75 ⟨tys_ok, .nil, (.cons runs_T .nil), mixed⟩ (n0 := 0) (Nat.le_of_ble_eq_true rfl) (by simp [wfL, SV.wf]) (wfH_spec (by simp [wfH, SObj.wf])) (Nat.le_refl _) (fun _ => by simp [SV.wf, wfL]) ?_
  simp -implicitDefEqProofs only [Try.f75, Option.getD_some, argS, runs_F, hR, tkR, ZB, Int.reduceToNat, Nat.reduceLT, Nat.reduceLeDiff, Int.reduceLE, Int.reduceLT, Nat.reduceEqDiff, Nat.reduceSub, SB, SV.known, packR, ne_eq, reduceCtorEq, Nat.reduceEqDiff, ↓reduceIte, if_true, if_false, eq_self, Nat.reduceAdd, Nat.reduceMul, Nat.reduceSub, forall_const, oneCellS, litOne, flat1, Kd.isSca, flat, TYB]
  refine loop_intro (fun i : Nat => [(8, .int i), (7, .arr R), (3, .int (sumT crN R i)), (1, .ptr 0 0)]) (fun _ => [(0, .ints R 27)]) 1 (fun i => i ≤ 6) (fun i => 6 - i) ?_ ?_
  · refine ⟨0, ?_, Sub.mk_id ?_ ?_ ?_ ?_ ?_⟩
    all_goals (try (simp only [sumT_zero, LB, subS, subH, wfS, wfH, SV.ren, renL, SObj.ren, SV.wf, SObj.wf, wfL, SV.known, Nat.reduceEqDiff, ↓reduceIte, if_true, if_false, eq_self, Nat.reduceAdd, Nat.reduceLT, Nat.reduceLeDiff, implies_true, reduceCtorEq, forall_const]; done))
    all_goals (try (simp only [sumT_zero, LB, subS, subH, wfS, wfH, SV.ren, renL, SObj.ren, SV.wf, SObj.wf, wfL, SV.known, Nat.reduceEqDiff, ↓reduceIte, if_true, if_false, eq_self, Nat.reduceAdd, Nat.reduceLT, Nat.reduceLeDiff, implies_true, reduceCtorEq, forall_const]; simp; done))
    all_goals (try (simp only [sumT_zero, LB, subS, subH, wfS, wfH, SV.ren, renL, SObj.ren, SV.wf, SObj.wf, wfL, SV.known, Nat.reduceEqDiff, ↓reduceIte, if_true, if_false, eq_self, Nat.reduceAdd, Nat.reduceLT, Nat.reduceLeDiff, implies_true, reduceCtorEq, forall_const]; (and_intros <;> (first | omega | rfl | (simp; done) | (simp; omega))); done))
    all_goals (try dsimp only)
    all_goals (and_intros <;> try (first | omega | (unfold In64; omega) | trivial | assumption))
  · intro i hi
    have eT : List.take 4 (List.drop (i * 4) R) = tubeAt R i := rfl
    have bd := sumT_bd hR crN_bd i hi
    by_cases hlt : i < 6
    · have hl := tubeAt_len hR hlt
      have tk4 : (tubeAt R i).take 4 = tubeAt R i := List.take_of_length_le (by omega)
      have es := sumT_succ crN R i
      have cr := crN_bd _ hl
      have cb := crN_bd _ hl
      have ec : (((runsL (tubeAt R i)).length / 2 : Nat) : Int) = crN (tubeAt R i) := rfl
      simp -implicitDefEqProofs only [lk_normal, runs_F, freshK, Wrap.ap, hR, eT, hl, tk4, ec, ZB, Int.reduceToNat, Nat.reduceLT, Nat.reduceLeDiff, Int.reduceLE, Int.reduceLT, Nat.reduceEqDiff, Nat.reduceSub, SB, SV.known, packR, ne_eq, reduceCtorEq, Nat.reduceEqDiff, ↓reduceIte, if_true, if_false, eq_self, Nat.reduceAdd, Nat.reduceMul, Nat.reduceSub, forall_const, oneCellS, litOne, flat1, Kd.isSca, flat, TYB]
      refine ⟨fun _ => ⟨by omega, by omega, fun h0 => ?_, fun h0 cap junk hj => ?_⟩, fun hx => absurd (by omega) hx⟩
      · have c0 : crN (tubeAt R i) = 0 := by simp [crN, h0]
        rw [c0] at es
        (try (and_intros <;> try (first | omega | (unfold In64; omega) | trivial | assumption)))
        refine ⟨i + 1, ?_, ?_, Sub.mk_id ?_ ?_ ?_ ?_ ?_⟩
        all_goals (try (simp only [es, LB, subS, subH, wfS, wfH, SV.ren, renL, SObj.ren, SV.wf, SObj.wf, wfL, SV.known, Nat.reduceEqDiff, ↓reduceIte, if_true, if_false, eq_self, Nat.reduceAdd, Nat.reduceLT, Nat.reduceLeDiff, implies_true, reduceCtorEq, forall_const]; done))
        all_goals (try (simp only [es, LB, subS, subH, wfS, wfH, SV.ren, renL, SObj.ren, SV.wf, SObj.wf, wfL, SV.known, Nat.reduceEqDiff, ↓reduceIte, if_true, if_false, eq_self, Nat.reduceAdd, Nat.reduceLT, Nat.reduceLeDiff, implies_true, reduceCtorEq, forall_const]; simp; done))
        all_goals (try (simp only [es, LB, subS, subH, wfS, wfH, SV.ren, renL, SObj.ren, SV.wf, SObj.wf, wfL, SV.known, Nat.reduceEqDiff, ↓reduceIte, if_true, if_false, eq_self, Nat.reduceAdd, Nat.reduceLT, Nat.reduceLeDiff, implies_true, reduceCtorEq, forall_const]; (and_intros <;> (first | omega | rfl | (simp; done) | (simp; omega))); done))
        all_goals (try dsimp only)
        all_goals (and_intros <;> try (first | omega | (unfold In64; omega) | trivial | assumption))
      · skip
        (try (and_intros <;> try (first | omega | (unfold In64; omega) | trivial | assumption)))
        refine ⟨i + 1, ?_, ?_, Sub.mk_id ?_ ?_ ?_ ?_ ?_⟩
        all_goals (try (simp only [es, LB, subS, subH, wfS, wfH, SV.ren, renL, SObj.ren, SV.wf, SObj.wf, wfL, SV.known, Nat.reduceEqDiff, ↓reduceIte, if_true, if_false, eq_self, Nat.reduceAdd, Nat.reduceLT, Nat.reduceLeDiff, implies_true, reduceCtorEq, forall_const]; done))
        all_goals (try (simp only [es, LB, subS, subH, wfS, wfH, SV.ren, renL, SObj.ren, SV.wf, SObj.wf, wfL, SV.known, Nat.reduceEqDiff, ↓reduceIte, if_true, if_false, eq_self, Nat.reduceAdd, Nat.reduceLT, Nat.reduceLeDiff, implies_true, reduceCtorEq, forall_const]; simp; done))
        all_goals (try (simp only [es, LB, subS, subH, wfS, wfH, SV.ren, renL, SObj.ren, SV.wf, SObj.wf, wfL, SV.known, Nat.reduceEqDiff, ↓reduceIte, if_true, if_false, eq_self, Nat.reduceAdd, Nat.reduceLT, Nat.reduceLeDiff, implies_true, reduceCtorEq, forall_const]; (and_intros <;> (first | omega | rfl | (simp; done) | (simp; omega))); done))
        all_goals (try dsimp only)
        all_goals (and_intros <;> try (first | omega | (unfold In64; omega) | trivial | assumption))
    · obtain rfl : i = 6 := by omega
      simp -implicitDefEqProofs only [lk_normal, runs_F, freshK, Wrap.ap, hR, eT, ZB, Int.reduceToNat, Nat.reduceLT, Nat.reduceLeDiff, Int.reduceLE, Int.reduceLT, Nat.reduceEqDiff, Nat.reduceSub, SB, SV.known, packR, ne_eq, reduceCtorEq, Nat.reduceEqDiff, ↓reduceIte, if_true, if_false, eq_self, Nat.reduceAdd, Nat.reduceMul, Nat.reduceSub, forall_const, oneCellS, litOne, flat1, Kd.isSca, flat, TYB]
      (try (and_intros <;> try (first | omega | (unfold In64; omega) | trivial | assumption)))
def countRuns_F : List SV → Heap → Option (Prop × SV)
  | [.arr R], _ => some (R.length = 24, .int (sumT crN R 6))
  | _, _ => none
theorem countRuns_T : ∀ args H p v, countRuns_F args H = some (p, v) → p → PureH Try.prog 75 args H v := by
  intro args H p v h hp
  unfold countRuns_F at h
  split at h
  · cases h; exact (countRuns_ok _ hp).any _
  · cases h
theorem countBoundaries_ok (R : List Int) (hR : R.length = 24) : PureH Try.prog 76 [.arr R] [] (.int (sumT cbN R 6)) := by
  have tkR : R.take 24 = R := List.take_of_length_le (by omega)
  refine pure_of_vc (X := ⟨Try.prog, tys, [], [(121, runs_F)], true, true, 0, [], []⟩) fn_76 ⟨tys_ok, .nil, (.cons runs_T .nil), mixed⟩ (n0 := 0) (Nat.le_of_ble_eq_true rfl) (by simp [wfL, SV.wf]) (wfH_spec (by simp [wfH, SObj.wf])) (Nat.le_refl _) (fun _ => by simp [SV.wf, wfL]) ?_
  simp -implicitDefEqProofs only [Try.f76, Option.getD_some, argS, runs_F, hR, tkR, ZB, Int.reduceToNat, Nat.reduceLT, Nat.reduceLeDiff, Int.reduceLE, Int.reduceLT, Nat.reduceEqDiff, Nat.reduceSub, SB, SV.known, packR, ne_eq, reduceCtorEq, Nat.reduceEqDiff, ↓reduceIte, if_true, if_false, eq_self, Nat.reduceAdd, Nat.reduceMul, Nat.reduceSub, forall_const, oneCellS, litOne, flat1, Kd.isSca, flat, TYB]
  refine loop_intro (fun i : Nat => [(8, .int i), (7, .arr R), (3, .int (sumT cbN R i)), (1, .ptr 0 0)]) (fun _ => [(0, .ints R 27)]) 1 (fun i => i ≤ 6) (fun i => 6 - i) ?_ ?_
  · refine ⟨0, ?_, Sub.mk_id ?_ ?_ ?_ ?_ ?_⟩
    all_goals (try (simp only [sumT_zero, LB, subS, subH, wfS, wfH, SV.ren, renL, SObj.ren, SV.wf, SObj.wf, wfL, SV.known, Nat.reduceEqDiff, ↓reduceIte, if_true, if_false, eq_self, Nat.reduceAdd, Nat.reduceLT, Nat.reduceLeDiff, implies_true, reduceCtorEq, forall_const]; done))
    all_goals (try (simp only [sumT_zero, LB, subS, subH, wfS, wfH, SV.ren, renL, SObj.ren, SV.wf, SObj.wf, wfL, SV.known, Nat.reduceEqDiff, ↓reduceIte, if_true, if_false, eq_self, Nat.reduceAdd, Nat.reduceLT, Nat.reduceLeDiff, implies_true, reduceCtorEq, forall_const]; simp; done))
    all_goals (try (simp only [sumT_zero, LB, subS, subH, wfS, wfH, SV.ren, renL, SObj.ren, SV.wf, SObj.wf, wfL, SV.known, Nat.reduceEqDiff, ↓reduceIte, if_true, if_false, eq_self, Nat.reduceAdd, Nat.reduceLT, Nat.reduceLeDiff, implies_true, reduceCtorEq, forall_const]; (and_intros <;> (first | omega | rfl | (simp; done) | (simp; omega))); done))
    all_goals (try dsimp only)
    all_goals (and_intros <;> try (first | omega | (unfold In64; omega) | trivial | assumption))
  · intro i hi
    have eT : List.take 4 (List.drop (i * 4) R) = tubeAt R i := rfl
    have bd := sumT_bd hR cbN_bd i hi
    by_cases hlt : i < 6
    · have hl := tubeAt_len hR hlt
      have tk4 : (tubeAt R i).take 4 = tubeAt R i := List.take_of_length_le (by omega)
      have es := sumT_succ cbN R i
      have cr := crN_bd _ hl
      have cb := cbN_bd _ hl
      have ec : (((runsL (tubeAt R i)).length / 2 : Nat) : Int) = crN (tubeAt R i) := rfl
      simp -implicitDefEqProofs only [lk_normal, runs_F, freshK, Wrap.ap, hR, eT, hl, tk4, ec, ZB, Int.reduceToNat, Nat.reduceLT, Nat.reduceLeDiff, Int.reduceLE, Int.reduceLT, Nat.reduceEqDiff, Nat.reduceSub, SB, SV.known, packR, ne_eq, reduceCtorEq, Nat.reduceEqDiff, ↓reduceIte, if_true, if_false, eq_self, Nat.reduceAdd, Nat.reduceMul, Nat.reduceSub, forall_const, oneCellS, litOne, flat1, Kd.isSca, flat, TYB]
      refine ⟨fun _ => ⟨by omega, by omega, fun h0 => ?_, fun h0 cap junk hj => ?_⟩, fun hx => absurd (by omega) hx⟩
      · have c0 : crN (tubeAt R i) = 0 := by simp [crN, h0]
        have c1 : cbN (tubeAt R i) = max (0 - 1) 0 := by rw [cbN, c0]
        rw [c1] at es
        (try (and_intros <;> try (first | omega | (unfold In64; omega) | trivial | assumption)))
        refine ⟨i + 1, ?_, ?_, Sub.mk_id ?_ ?_ ?_ ?_ ?_⟩
        all_goals (try (simp only [es, LB, subS, subH, wfS, wfH, SV.ren, renL, SObj.ren, SV.wf, SObj.wf, wfL, SV.known, Nat.reduceEqDiff, ↓reduceIte, if_true, if_false, eq_self, Nat.reduceAdd, Nat.reduceLT, Nat.reduceLeDiff, implies_true, reduceCtorEq, forall_const]; done))
        all_goals (try (simp only [es, LB, subS, subH, wfS, wfH, SV.ren, renL, SObj.ren, SV.wf, SObj.wf, wfL, SV.known, Nat.reduceEqDiff, ↓reduceIte, if_true, if_false, eq_self, Nat.reduceAdd, Nat.reduceLT, Nat.reduceLeDiff, implies_true, reduceCtorEq, forall_const]; simp; done))
        all_goals (try (simp only [es, LB, subS, subH, wfS, wfH, SV.ren, renL, SObj.ren, SV.wf, SObj.wf, wfL, SV.known, Nat.reduceEqDiff, ↓reduceIte, if_true, if_false, eq_self, Nat.reduceAdd, Nat.reduceLT, Nat.reduceLeDiff, implies_true, reduceCtorEq, forall_const]; (and_intros <;> (first | omega | rfl | (simp; done) | (simp; omega))); done))
        all_goals (try dsimp only)
        all_goals (and_intros <;> try (first | omega | (unfold In64; omega) | trivial | assumption))
      · have c1 : cbN (tubeAt R i) = max (crN (tubeAt R i) - 1) 0 := rfl
        rw [c1] at es
        (try (and_intros <;> try (first | omega | (unfold In64; omega) | trivial | assumption)))
        refine ⟨i + 1, ?_, ?_, Sub.mk_id ?_ ?_ ?_ ?_ ?_⟩
        all_goals (try (simp only [es, LB, subS, subH, wfS, wfH, SV.ren, renL, SObj.ren, SV.wf, SObj.wf, wfL, SV.known, Nat.reduceEqDiff, ↓reduceIte, if_true, if_false, eq_self, Nat.reduceAdd, Nat.reduceLT, Nat.reduceLeDiff, implies_true, reduceCtorEq, forall_const]; done))
        all_goals (try (simp only [es, LB, subS, subH, wfS, wfH, SV.ren, renL, SObj.ren, SV.wf, SObj.wf, wfL, SV.known, Nat.reduceEqDiff, ↓reduceIte, if_true, if_false, eq_self, Nat.reduceAdd, Nat.reduceLT, Nat.reduceLeDiff, implies_true, reduceCtorEq, forall_const]; simp; done))
        all_goals (try (simp only [es, LB, subS, subH, wfS, wfH, SV.ren, renL, SObj.ren, SV.wf, SObj.wf, wfL, SV.known, Nat.reduceEqDiff, ↓reduceIte, if_true, if_false, eq_self, Nat.reduceAdd, Nat.reduceLT, Nat.reduceLeDiff, implies_true, reduceCtorEq, forall_const]; (and_intros <;> (first | omega | rfl | (simp; done) | (simp; omega))); done))
        all_goals (try dsimp only)
        all_goals (and_intros <;> try (first | omega | (unfold In64; omega) | trivial | assumption))
    · obtain rfl : i = 6 := by omega
      simp -implicitDefEqProofs only [lk_normal, runs_F, freshK, Wrap.ap, hR, eT, ZB, Int.reduceToNat, Nat.reduceLT, Nat.reduceLeDiff, Int.reduceLE, Int.reduceLT, Nat.reduceEqDiff, Nat.reduceSub, SB, SV.known, packR, ne_eq, reduceCtorEq, Nat.reduceEqDiff, ↓reduceIte, if_true, if_false, eq_self, Nat.reduceAdd, Nat.reduceMul, Nat.reduceSub, forall_const, oneCellS, litOne, flat1, Kd.isSca, flat, TYB]
      (try (and_intros <;> try (first | omega | (unfold In64; omega) | trivial | assumption)))
def countBoundaries_F : List SV → Heap → Option (Prop × SV)
  | [.arr R], _ => some (R.length = 24, .int (sumT cbN R 6))
  | _, _ => none
theorem countBoundaries_T : ∀ args H p v, countBoundaries_F args H = some (p, v) → p → PureH Try.prog 76 args H v := by
  intro args H p v h hp
  unfold countBoundaries_F at h
  split at h
  · cases h; exact (countBoundaries_ok _ hp).any _
  · cases h
/-! Counts. -/
def incr (L : List Int) (j : Nat) : List Int := L.set j (L.getD j 0 + 1)
def cntL (l : List Int) : List Int := l.foldl (fun c x => incr c x.toNat) (List.replicate 6 0)
theorem cntL_nil : cntL [] = List.replicate 6 0 := rfl
theorem cntL_take_succ (l : List Int) (k : Nat) (h : k < l.length) : cntL (l.take (k + 1)) = incr (cntL (l.take k)) (l.getD k 0).toNat := by
  unfold cntL
  rw [List.take_succ_eq_append_getElem h, List.foldl_append]
  simp [List.getD, List.getElem?_eq_getElem h]
theorem cntL_snoc (l : List Int) (x : Int) : cntL (l ++ [x]) = incr (cntL l) x.toNat := by
  unfold cntL
  rw [List.foldl_append]; rfl
theorem foldl_len (l : List Int) : ∀ c : List Int, (l.foldl (fun c x => incr c x.toNat) c).length = c.length := by
  induction l with
  | nil => intro c; rfl
  | cons x l ih => intro c; rw [List.foldl_cons, ih]; simp [incr]
theorem cntL_len (l : List Int) : (cntL l).length = 6 := by unfold cntL; rw [foldl_len]; rfl
theorem incr_bd {L : List Int} {b : Int} (j : Nat) (h : ∀ k, 0 ≤ L.getD k 0 ∧ L.getD k 0 ≤ b) : ∀ k, 0 ≤ (incr L j).getD k 0 ∧ (incr L j).getD k 0 ≤ b + 1 := by
  intro k
  have h1 := h k
  have h2 := h j
  unfold incr
  simp only [List.getD, List.getElem?_set] at *
  split
  · split
    · simp; omega
    · simp; omega
  · omega
theorem foldl_bd (l : List Int) : ∀ (c : List Int) (b : Int), (∀ k, 0 ≤ c.getD k 0 ∧ c.getD k 0 ≤ b) → ∀ k, 0 ≤ (l.foldl (fun c x => incr c x.toNat) c).getD k 0 ∧ (l.foldl (fun c x => incr c x.toNat) c).getD k 0 ≤ b + l.length := by
  induction l with
  | nil => intro c b h k; simpa using h k
  | cons x l ih =>
    intro c b h k
    have := ih (incr c x.toNat) (b + 1) (incr_bd _ h) k
    rw [List.foldl_cons, List.length_cons]
    omega
theorem cntL_bd (l : List Int) (k : Nat) : 0 ≤ (cntL l).getD k 0 ∧ (cntL l).getD k 0 ≤ l.length := by
  have := foldl_bd l (List.replicate 6 0) 0 (fun k => by
    simp only [List.getD, List.getElem?_replicate]
    split <;> simp) k
  unfold cntL
  omega
def botL (R : List Int) : List Int := (List.range 6).map fun i => R.getD (i * 4) 0
theorem botL_len (R : List Int) : (botL R).length = 6 := by simp [botL]
theorem botL_getD (R : List Int) (i : Nat) (h : i < 6) : (botL R).getD i 0 = R.getD (i * 4) 0 := by simp [botL, List.getD, h]
theorem rack_cell {R : List Int} (hR : R.length = 24) (hr : rackB R = true) {k : Nat} (h : k < 24) : 0 ≤ R.getD k 0 ∧ R.getD k 0 ≤ 5 := by
  have := (rackB_iff R hR).1 hr (k / 4) (k % 4) (by omega) (by omega)
  unfold cB at this
  rw [show k / 4 * 4 + k % 4 = k by omega] at this
  exact this.1
--@tbl bottoms = impl.bottoms
--@tbl l6Bottoms = spec.l6Bottoms
theorem bottoms_ok (R : List Int) (hR : R.length = 24) (hr : rackB R = true) : PureH Try.prog 81 [.arr R] [] (.arr (cntL (botL R))) := by
  have tkR : R.take 24 = R := List.take_of_length_le (by omega)
  refine pure_of_vc (X := ⟨Try.prog, tys, [], [], true, true, 0, [], []⟩) fn_81 ⟨tys_ok, .nil, .nil, mixed⟩ (n0 := 0) (Nat.le_of_ble_eq_true rfl) (by simp [wfL, SV.wf]) (wfH_spec (by simp [wfH, SObj.wf])) (Nat.le_refl _) (fun _ => by simp [SV.wf, wfL]) ?_
  simp -implicitDefEqProofs only [Try.f81, Option.getD_some, argS, hR, tkR, ZB, Int.reduceToNat, Nat.reduceLT, Nat.reduceLeDiff, Int.reduceLE, Int.reduceLT, Nat.reduceEqDiff, Nat.reduceSub, SB, SV.known, packR, ne_eq, reduceCtorEq, Nat.reduceEqDiff, ↓reduceIte, if_true, if_false, eq_self, Nat.reduceAdd, Nat.reduceMul, Nat.reduceSub, forall_const, oneCellS, litOne, flat1, Kd.isSca, flat, TYB]
  refine loop_intro (fun i : Nat => [(8, .int i), (7, .arr R), (3, .ptr 2 0), (2, .ptr 1 0), (1, .ptr 0 0)]) (fun i => [(0, .ints R 27), (1, .ints (List.replicate 6 0) 40), (2, .ints (cntL ((botL R).take i)) 40)]) 3 (fun i => i ≤ 6) (fun i => 6 - i) ?_ ?_
  · refine ⟨0, ?_, Sub.mk_id ?_ ?_ ?_ ?_ ?_⟩
    all_goals (try (simp only [List.take_zero, cntL_nil, LB, subS, subH, wfS, wfH, SV.ren, renL, SObj.ren, SV.wf, SObj.wf, wfL, SV.known, Nat.reduceEqDiff, ↓reduceIte, if_true, if_false, eq_self, Nat.reduceAdd, Nat.reduceLT, Nat.reduceLeDiff, implies_true, reduceCtorEq, forall_const]; done))
    all_goals (try (simp only [List.take_zero, cntL_nil, LB, subS, subH, wfS, wfH, SV.ren, renL, SObj.ren, SV.wf, SObj.wf, wfL, SV.known, Nat.reduceEqDiff, ↓reduceIte, if_true, if_false, eq_self, Nat.reduceAdd, Nat.reduceLT, Nat.reduceLeDiff, implies_true, reduceCtorEq, forall_const]; simp; done))
    all_goals (try (simp only [List.take_zero, cntL_nil, LB, subS, subH, wfS, wfH, SV.ren, renL, SObj.ren, SV.wf, SObj.wf, wfL, SV.known, Nat.reduceEqDiff, ↓reduceIte, if_true, if_false, eq_self, Nat.reduceAdd, Nat.reduceLT, Nat.reduceLeDiff, implies_true, reduceCtorEq, forall_const]; (and_intros <;> (first | omega | rfl | (simp; done) | (simp; omega))); done))
    all_goals (try dsimp only)
    all_goals (and_intros <;> try (first | omega | (unfold In64; omega) | trivial | assumption))
  · intro i hi
    have eT : List.take 4 (List.drop (i * 4) R) = tubeAt R i := rfl
    have cl := cntL_len ((botL R).take i)
    by_cases hlt : i < 6
    · have hl := tubeAt_len hR hlt
      have tk4 : (tubeAt R i).take 4 = tubeAt R i := List.take_of_length_le (by omega)
      have rc := rack_cell hR hr (k := i * 4) (by omega)
      have e0 : (tubeAt R i).getD 0 0 = R.getD (i * 4) 0 := by rw [show i * 4 = i * 4 + 0 by omega]; exact cut_getD R i 0 (by omega)
      have es := cntL_take_succ (botL R) i (by rw [botL_len]; omega)
      rw [botL_getD R i hlt] at es
      have cb := cntL_bd ((botL R).take i) (R.getD (i * 4) 0).toNat
      have ll : ((botL R).take i).length = i := by rw [List.length_take, botL_len]; omega
      rw [ll] at cb
      simp -implicitDefEqProofs only [lk_normal, hR, eT, hl, tk4, cl, e0, ZB, Int.reduceToNat, Nat.reduceLT, Nat.reduceLeDiff, Int.reduceLE, Int.reduceLT, Nat.reduceEqDiff, Nat.reduceSub, SB, SV.known, packR, ne_eq, reduceCtorEq, Nat.reduceEqDiff, ↓reduceIte, if_true, if_false, eq_self, Nat.reduceAdd, Nat.reduceMul, Nat.reduceSub, forall_const, oneCellS, litOne, flat1, Kd.isSca, flat, TYB]
      refine ⟨fun _ => ?_, fun hx => absurd (by omega) hx⟩
      (try (and_intros <;> try (first | omega | (unfold In64; omega) | trivial | assumption)))
      refine ⟨i + 1, ?_, ?_, Sub.mk_id ?_ ?_ ?_ ?_ ?_⟩
      all_goals (try (simp only [es, incr, LB, subS, subH, wfS, wfH, SV.ren, renL, SObj.ren, SV.wf, SObj.wf, wfL, SV.known, Nat.reduceEqDiff, ↓reduceIte, if_true, if_false, eq_self, Nat.reduceAdd, Nat.reduceLT, Nat.reduceLeDiff, implies_true, reduceCtorEq, forall_const]; done))
      all_goals (try (simp only [es, incr, LB, subS, subH, wfS, wfH, SV.ren, renL, SObj.ren, SV.wf, SObj.wf, wfL, SV.known, Nat.reduceEqDiff, ↓reduceIte, if_true, if_false, eq_self, Nat.reduceAdd, Nat.reduceLT, Nat.reduceLeDiff, implies_true, reduceCtorEq, forall_const]; simp; done))
      all_goals (try (simp only [es, incr, LB, subS, subH, wfS, wfH, SV.ren, renL, SObj.ren, SV.wf, SObj.wf, wfL, SV.known, Nat.reduceEqDiff, ↓reduceIte, if_true, if_false, eq_self, Nat.reduceAdd, Nat.reduceLT, Nat.reduceLeDiff, implies_true, reduceCtorEq, forall_const]; (and_intros <;> (first | omega | rfl | (simp; done) | (simp; omega))); done))
      all_goals (try dsimp only)
      all_goals (and_intros <;> try (first | omega | (unfold In64; omega) | trivial | assumption))
    · obtain rfl : i = 6 := by omega
      have tk6 : (botL R).take 6 = botL R := List.take_of_length_le (by rw [botL_len]; omega)
      have cl2 := cntL_len (botL R)
      have tkc : (cntL (botL R)).take 6 = cntL (botL R) := List.take_of_length_le (by omega)
      simp -implicitDefEqProofs only [lk_normal, hR, eT, cl, cl2, tk6, tkc, ZB, Int.reduceToNat, Nat.reduceLT, Nat.reduceLeDiff, Int.reduceLE, Int.reduceLT, Nat.reduceEqDiff, Nat.reduceSub, SB, SV.known, packR, ne_eq, reduceCtorEq, Nat.reduceEqDiff, ↓reduceIte, if_true, if_false, eq_self, Nat.reduceAdd, Nat.reduceMul, Nat.reduceSub, forall_const, oneCellS, litOne, flat1, Kd.isSca, flat, TYB]
      (try (and_intros <;> try (first | omega | (unfold In64; omega) | trivial | assumption)))
def bottoms_F : List SV → Heap → Option (Prop × SV)
  | [.arr R], _ => some (R.length = 24 ∧ rackB R = true, .arr (cntL (botL R)))
  | _, _ => none
theorem bottoms_T : ∀ args H p v, bottoms_F args H = some (p, v) → p → PureH Try.prog 81 args H v := by
  intro args H p v h hp
  unfold bottoms_F at h
  split at h
  · cases h; exact (bottoms_ok _ hp.1 hp.2).any _
  · cases h
theorem l6Bottoms_ok (R : List Int) (hR : R.length = 24) (hr : rackB R = true) : PureH Try.prog 82 [.arr R] [] (.arr (cntL (botL R))) := by
  have tkR : R.take 24 = R := List.take_of_length_le (by omega)
  refine pure_of_vc (X := ⟨Try.prog, tys, [], [], true, true, 0, [], []⟩) fn_82 ⟨tys_ok, .nil, .nil, mixed⟩ (n0 := 0) (Nat.le_of_ble_eq_true rfl) (by simp [wfL, SV.wf]) (wfH_spec (by simp [wfH, SObj.wf])) (Nat.le_refl _) (fun _ => by simp [SV.wf, wfL]) ?_
  simp -implicitDefEqProofs only [Try.f82, Option.getD_some, argS, hR, tkR, ZB, Int.reduceToNat, Nat.reduceLT, Nat.reduceLeDiff, Int.reduceLE, Int.reduceLT, Nat.reduceEqDiff, Nat.reduceSub, SB, SV.known, packR, ne_eq, reduceCtorEq, Nat.reduceEqDiff, ↓reduceIte, if_true, if_false, eq_self, Nat.reduceAdd, Nat.reduceMul, Nat.reduceSub, forall_const, oneCellS, litOne, flat1, Kd.isSca, flat, TYB]
  refine loop_intro (fun i : Nat => [(4, .int i), (3, .ptr 2 0), (2, .ptr 1 0), (1, .ptr 0 0)]) (fun i => [(0, .ints R 27), (1, .ints (List.replicate 6 0) 40), (2, .ints (cntL ((botL R).take i)) 40)]) 3 (fun i => i ≤ 6) (fun i => 6 - i) ?_ ?_
  · refine ⟨0, ?_, Sub.mk_id ?_ ?_ ?_ ?_ ?_⟩
    all_goals (try (simp only [List.take_zero, cntL_nil, LB, subS, subH, wfS, wfH, SV.ren, renL, SObj.ren, SV.wf, SObj.wf, wfL, SV.known, Nat.reduceEqDiff, ↓reduceIte, if_true, if_false, eq_self, Nat.reduceAdd, Nat.reduceLT, Nat.reduceLeDiff, implies_true, reduceCtorEq, forall_const]; done))
    all_goals (try (simp only [List.take_zero, cntL_nil, LB, subS, subH, wfS, wfH, SV.ren, renL, SObj.ren, SV.wf, SObj.wf, wfL, SV.known, Nat.reduceEqDiff, ↓reduceIte, if_true, if_false, eq_self, Nat.reduceAdd, Nat.reduceLT, Nat.reduceLeDiff, implies_true, reduceCtorEq, forall_const]; simp; done))
    all_goals (try (simp only [List.take_zero, cntL_nil, LB, subS, subH, wfS, wfH, SV.ren, renL, SObj.ren, SV.wf, SObj.wf, wfL, SV.known, Nat.reduceEqDiff, ↓reduceIte, if_true, if_false, eq_self, Nat.reduceAdd, Nat.reduceLT, Nat.reduceLeDiff, implies_true, reduceCtorEq, forall_const]; (and_intros <;> (first | omega | rfl | (simp; done) | (simp; omega))); done))
    all_goals (try dsimp only)
    all_goals (and_intros <;> try (first | omega | (unfold In64; omega) | trivial | assumption))
  · intro i hi
    have cl := cntL_len ((botL R).take i)
    by_cases hlt : i < 6
    · have rc := rack_cell hR hr (k := i * 4) (by omega)
      have es := cntL_take_succ (botL R) i (by rw [botL_len]; omega)
      rw [botL_getD R i hlt] at es
      have cb := cntL_bd ((botL R).take i) (R.getD (i * 4) 0).toNat
      have ll : ((botL R).take i).length = i := by rw [List.length_take, botL_len]; omega
      rw [ll] at cb
      simp -implicitDefEqProofs only [lk_normal, hR, cl, ZB, Int.reduceToNat, Nat.reduceLT, Nat.reduceLeDiff, Int.reduceLE, Int.reduceLT, Nat.reduceEqDiff, Nat.reduceSub, SB, SV.known, packR, ne_eq, reduceCtorEq, Nat.reduceEqDiff, ↓reduceIte, if_true, if_false, eq_self, Nat.reduceAdd, Nat.reduceMul, Nat.reduceSub, forall_const, oneCellS, litOne, flat1, Kd.isSca, flat, TYB]
      refine ⟨fun _ => ?_, fun hx => absurd (by omega) hx⟩
      (try (and_intros <;> try (first | omega | (unfold In64; omega) | trivial | assumption)))
      refine ⟨i + 1, ?_, ?_, Sub.mk_id ?_ ?_ ?_ ?_ ?_⟩
      all_goals (try (simp only [es, incr, LB, subS, subH, wfS, wfH, SV.ren, renL, SObj.ren, SV.wf, SObj.wf, wfL, SV.known, Nat.reduceEqDiff, ↓reduceIte, if_true, if_false, eq_self, Nat.reduceAdd, Nat.reduceLT, Nat.reduceLeDiff, implies_true, reduceCtorEq, forall_const]; done))
      all_goals (try (simp only [es, incr, LB, subS, subH, wfS, wfH, SV.ren, renL, SObj.ren, SV.wf, SObj.wf, wfL, SV.known, Nat.reduceEqDiff, ↓reduceIte, if_true, if_false, eq_self, Nat.reduceAdd, Nat.reduceLT, Nat.reduceLeDiff, implies_true, reduceCtorEq, forall_const]; simp; done))
      all_goals (try (simp only [es, incr, LB, subS, subH, wfS, wfH, SV.ren, renL, SObj.ren, SV.wf, SObj.wf, wfL, SV.known, Nat.reduceEqDiff, ↓reduceIte, if_true, if_false, eq_self, Nat.reduceAdd, Nat.reduceLT, Nat.reduceLeDiff, implies_true, reduceCtorEq, forall_const]; (and_intros <;> (first | omega | rfl | (simp; done) | (simp; omega))); done))
      all_goals (try dsimp only)
      all_goals (and_intros <;> try (first | omega | (unfold In64; omega) | trivial | assumption))
    · obtain rfl : i = 6 := by omega
      have tk6 : (botL R).take 6 = botL R := List.take_of_length_le (by rw [botL_len]; omega)
      have cl2 := cntL_len (botL R)
      have tkc : (cntL (botL R)).take 6 = cntL (botL R) := List.take_of_length_le (by omega)
      simp -implicitDefEqProofs only [lk_normal, hR, cl, cl2, tk6, tkc, ZB, Int.reduceToNat, Nat.reduceLT, Nat.reduceLeDiff, Int.reduceLE, Int.reduceLT, Nat.reduceEqDiff, Nat.reduceSub, SB, SV.known, packR, ne_eq, reduceCtorEq, Nat.reduceEqDiff, ↓reduceIte, if_true, if_false, eq_self, Nat.reduceAdd, Nat.reduceMul, Nat.reduceSub, forall_const, oneCellS, litOne, flat1, Kd.isSca, flat, TYB]
      (try (and_intros <;> try (first | omega | (unfold In64; omega) | trivial | assumption)))
def l6Bottoms_F : List SV → Heap → Option (Prop × SV)
  | [.arr R], _ => some (R.length = 24 ∧ rackB R = true, .arr (cntL (botL R)))
  | _, _ => none
theorem l6Bottoms_T : ∀ args H p v, l6Bottoms_F args H = some (p, v) → p → PureH Try.prog 82 args H v := by
  intro args H p v h hp
  unfold l6Bottoms_F at h
  split at h
  · cases h; exact (l6Bottoms_ok _ hp.1 hp.2).any _
  · cases h
/-! The bound. -/
def bndF (R : List Int) : Int := sumT cbN R 6 + besF ((cntL (botL R)).drop 1)
theorem besF_bd (l : List Int) (b : Int) (hb : 0 ≤ b) (h : ∀ x ∈ l, x ≤ b) : 0 ≤ besF l ∧ besF l ≤ l.length * b := by
  induction l with
  | nil => simp [besF]
  | cons x l ih =>
    have := ih fun y hy => h y (by simp [hy])
    have hx := h x (by simp)
    have e : besF (x :: l) = max (x - 1) 0 + besF l := by simp [besF]
    rw [e, List.length_cons]
    have : ((l.length + 1 : Nat) : Int) * b = l.length * b + b := by rw [Int.natCast_add, Int.add_mul, Int.natCast_one, Int.one_mul]
    omega
theorem bots_bd (R : List Int) : ∀ x ∈ (cntL (botL R)).drop 1, x ≤ 6 := by
  intro x hx
  obtain ⟨k, hk, rfl⟩ := List.getElem_of_mem hx
  have := cntL_bd (botL R) (1 + k)
  rw [botL_len] at this
  simp only [List.length_drop] at hk
  simp only [List.getD, List.getElem?_eq_getElem (show 1 + k < (cntL (botL R)).length by omega), Option.getD_some] at this
  simp only [List.getElem_drop]
  exact this.2
theorem bnd_bd (R : List Int) (hR : R.length = 24) : 0 ≤ sumT cbN R 6 ∧ sumT cbN R 6 ≤ 24 ∧ 0 ≤ bndF R ∧ bndF R ≤ 54 ∧ ∀ k, 0 ≤ besF (((cntL (botL R)).drop 1).take k) ∧ besF (((cntL (botL R)).drop 1).take k) ≤ 30 := by
  have h1 := sumT_bd hR cbN_bd 6 (by omega)
  have h2 := besF_bd _ 6 (by omega) (bots_bd R)
  have cl := cntL_len (botL R)
  have h3 : ((cntL (botL R)).drop 1).length = 5 := by rw [List.length_drop, cl]
  rw [h3] at h2
  refine ⟨h1.1, by omega, ?_, ?_, fun k => ?_⟩
  · unfold bndF; omega
  · unfold bndF; omega
  · have h4 := besF_bd (((cntL (botL R)).drop 1).take k) 6 (by omega) fun x hx => bots_bd R x (List.mem_of_mem_take hx)
    have : (((cntL (botL R)).drop 1).take k).length ≤ 5 := by rw [List.length_take]; omega
    have : ((((cntL (botL R)).drop 1).take k).length : Int) * 6 ≤ 5 * 6 := by omega
    omega
--@tbl bound = impl.bound
theorem bound_ok (R : List Int) (hR : R.length = 24) (hr : rackB R = true) : PureH Try.prog 77 [.arr R] [] (.int (bndF R)) := by
  have tkR : R.take 24 = R := List.take_of_length_le (by omega)
  have cl := cntL_len (botL R)
  have tkc : (cntL (botL R)).take 6 = cntL (botL R) := List.take_of_length_le (by omega)
  have bb := bnd_bd R hR
  have c6 : cutOff 6 1 0 1 = 1 := rfl
  have d1 : ∀ k, (cntL (botL R)).getD (1 + k) 0 = ((cntL (botL R)).drop 1).getD k 0 := fun k => by simp [List.getD, Nat.add_comm]
  have l5 : ((cntL (botL R)).drop 1).length = 5 := by rw [List.length_drop, cl]
  refine pure_of_vc (X := ⟨Try.prog, tys, [(76, countBoundaries_F), (81, bottoms_F)], [], true, true, 0, [], []⟩) fn_77 ⟨tys_ok, (.cons countBoundaries_T (.cons bottoms_T .nil)), .nil, mixed⟩ (n0 := 0) (Nat.le_of_ble_eq_true rfl) (by simp [wfL, SV.wf]) (wfH_spec (by simp [wfH, SObj.wf])) (Nat.le_refl _) (fun _ => by simp [SV.wf, wfL]) ?_
  simp -implicitDefEqProofs only [Try.f77, Option.getD_some, argS, countBoundaries_F, bottoms_F, hR, tkR, hr, cl, tkc, ZB, Int.reduceToNat, Nat.reduceLT, Nat.reduceLeDiff, Int.reduceLE, Int.reduceLT, Nat.reduceEqDiff, Nat.reduceSub, SB, SV.known, packR, ne_eq, reduceCtorEq, Nat.reduceEqDiff, ↓reduceIte, if_true, if_false, eq_self, Nat.reduceAdd, Nat.reduceMul, Nat.reduceSub, forall_const, oneCellS, litOne, flat1, Kd.isSca, flat, TYB]
  refine loop_intro (fun i : Nat => [(13, .int i), (12, .int 5), (11, .slice 1 1 5 5), (3, .int (sumT cbN R 6 + besF (((cntL (botL R)).drop 1).take i)))]) (fun i => [(1, .ints (cntL (botL R)) 40)]) 2 (fun i => i ≤ 5) (fun i => 5 - i) ?_ ?_
  · have b0 : besF [] = 0 := rfl
    refine ⟨0, ?_, Sub.mk_id ?_ ?_ ?_ ?_ ?_⟩
    all_goals (try (simp only [List.take_zero, c6, b0, Int.add_zero, LB, subS, subH, wfS, wfH, SV.ren, renL, SObj.ren, SV.wf, SObj.wf, wfL, SV.known, Nat.reduceEqDiff, ↓reduceIte, if_true, if_false, eq_self, Nat.reduceAdd, Nat.reduceLT, Nat.reduceLeDiff, implies_true, reduceCtorEq, forall_const]; done))
    all_goals (try (simp only [List.take_zero, c6, b0, Int.add_zero, LB, subS, subH, wfS, wfH, SV.ren, renL, SObj.ren, SV.wf, SObj.wf, wfL, SV.known, Nat.reduceEqDiff, ↓reduceIte, if_true, if_false, eq_self, Nat.reduceAdd, Nat.reduceLT, Nat.reduceLeDiff, implies_true, reduceCtorEq, forall_const]; simp; done))
    all_goals (try (simp only [List.take_zero, c6, b0, Int.add_zero, LB, subS, subH, wfS, wfH, SV.ren, renL, SObj.ren, SV.wf, SObj.wf, wfL, SV.known, Nat.reduceEqDiff, ↓reduceIte, if_true, if_false, eq_self, Nat.reduceAdd, Nat.reduceLT, Nat.reduceLeDiff, implies_true, reduceCtorEq, forall_const]; (and_intros <;> (first | omega | rfl | (simp; done) | (simp; omega))); done))
    all_goals (try dsimp only)
    all_goals (and_intros <;> try (first | omega | (unfold In64; omega) | trivial | assumption))
  · intro i hi
    by_cases hlt : i < 5
    · have es := besF_take_succ ((cntL (botL R)).drop 1) i (by omega)
      have b1 := bb.2.2.2.2 i
      have b2 := bb.2.2.2.2 (i + 1)
      rw [es] at b2
      have cb := cntL_bd (botL R) (1 + i)
      rw [d1, botL_len] at cb
      simp -implicitDefEqProofs only [lk_normal, d1, cl, Int.add_assoc, ZB, Int.reduceToNat, Nat.reduceLT, Nat.reduceLeDiff, Int.reduceLE, Int.reduceLT, Nat.reduceEqDiff, Nat.reduceSub, SB, SV.known, packR, ne_eq, reduceCtorEq, Nat.reduceEqDiff, ↓reduceIte, if_true, if_false, eq_self, Nat.reduceAdd, Nat.reduceMul, Nat.reduceSub, forall_const, oneCellS, litOne, flat1, Kd.isSca, flat, TYB]
      refine ⟨fun _ => ?_, fun hx => absurd (by omega) hx⟩
      (try (and_intros <;> try (first | omega | (unfold In64; omega) | trivial | assumption)))
      refine ⟨i + 1, ?_, ?_, Sub.mk_id ?_ ?_ ?_ ?_ ?_⟩
      all_goals (try (simp only [es, LB, subS, subH, wfS, wfH, SV.ren, renL, SObj.ren, SV.wf, SObj.wf, wfL, SV.known, Nat.reduceEqDiff, ↓reduceIte, if_true, if_false, eq_self, Nat.reduceAdd, Nat.reduceLT, Nat.reduceLeDiff, implies_true, reduceCtorEq, forall_const]; done))
      all_goals (try (simp only [es, LB, subS, subH, wfS, wfH, SV.ren, renL, SObj.ren, SV.wf, SObj.wf, wfL, SV.known, Nat.reduceEqDiff, ↓reduceIte, if_true, if_false, eq_self, Nat.reduceAdd, Nat.reduceLT, Nat.reduceLeDiff, implies_true, reduceCtorEq, forall_const]; simp; done))
      all_goals (try (simp only [es, LB, subS, subH, wfS, wfH, SV.ren, renL, SObj.ren, SV.wf, SObj.wf, wfL, SV.known, Nat.reduceEqDiff, ↓reduceIte, if_true, if_false, eq_self, Nat.reduceAdd, Nat.reduceLT, Nat.reduceLeDiff, implies_true, reduceCtorEq, forall_const]; (and_intros <;> (first | omega | rfl | (simp; done) | (simp; omega))); done))
      all_goals (try dsimp only)
      all_goals (and_intros <;> try (first | omega | (unfold In64; omega) | trivial | assumption))
    · obtain rfl : i = 5 := by omega
      have tk5 : ((cntL (botL R)).drop 1).take 5 = (cntL (botL R)).drop 1 := List.take_of_length_le (by omega)
      simp -implicitDefEqProofs only [lk_normal, cl, tk5, ZB, Int.reduceToNat, Nat.reduceLT, Nat.reduceLeDiff, Int.reduceLE, Int.reduceLT, Nat.reduceEqDiff, Nat.reduceSub, SB, SV.known, packR, ne_eq, reduceCtorEq, Nat.reduceEqDiff, ↓reduceIte, if_true, if_false, eq_self, Nat.reduceAdd, Nat.reduceMul, Nat.reduceSub, forall_const, oneCellS, litOne, flat1, Kd.isSca, flat, TYB]
      (try (and_intros <;> try (first | omega | (unfold In64; omega) | trivial | assumption)))
def bound_F : List SV → Heap → Option (Prop × SV)
  | [.arr R], _ => some (R.length = 24 ∧ rackB R = true, .int (bndF R))
  | _, _ => none
theorem bound_T : ∀ args H p v, bound_F args H = some (p, v) → p → PureH Try.prog 77 args H v := by
  intro args H p v h hp
  unfold bound_F at h
  split at h
  · cases h; exact (bound_ok _ hp.1 hp.2).any _
  · cases h
--@tbl l6Runs = spec.l6Runs
theorem RL_last (t : List Int) (ht : t.length = 4) : ∀ i, 0 < i → i ≤ 4 → ∃ r n : Nat, (RL t i).length = n * 2 ∧ 0 < n ∧ (RL t i).getD (n * 2 - 2) 0 = t.getD (i - 1) 0 ∧ (RL t i).getD (n * 2 - 1) 0 = r ∧ 0 < r ∧ r ≤ i := by
  intro i
  induction i with
  | zero => intro h; omega
  | succ i ih =>
    intro _ hi
    rw [RL_succ t i (by omega)]
    by_cases hi0 : i = 0
    · subst hi0
      rw [RL_zero]
      exact ⟨1, 1, by simp [stepR], by omega, by simp [stepR], by simp [stepR], by omega, by omega⟩
    · obtain ⟨r, n, h1, h2, h3, h4, h5, h6⟩ := ih (by omega) (by omega)
      by_cases he : (RL t i).getD (n * 2 - 2) 0 = t.getD i 0
      · rw [stepR_eq h1 h2 he]
        refine ⟨r + 1, n, by simpa using h1, h2, ?_, ?_, by omega, by omega⟩
        · rw [show i + 1 - 1 = i by omega, ← he]
          simp only [List.getD, List.getElem?_set]
          rw [if_neg (by omega)]
        · rw [getD_set_self _ _ _ (by omega), h4]; omega
      · rw [stepR_ne h1 he]
        refine ⟨1, n + 1, by simp; omega, by omega, ?_, ?_, by omega, by omega⟩
        · rw [show (n + 1) * 2 - 2 = (RL t i).length + 0 by omega, getD_app_right]; rfl
        · rw [show (n + 1) * 2 - 1 = (RL t i).length + 1 by omega, getD_app_right]; rfl
theorem l2Runs_ok (t : List Int) (ht : t.length = 4) (hb : tubeB t = true) : FreshP Try.prog 122 [.arr t] [] (runsL t) ((runsL t).length / 2) 2 44 false .one := by
  have tk : t.take 4 = t := List.take_of_length_le (by omega)
  have hp := posC_lay t ht hb
  have hle := lay_le t ht
  refine fresh_of_vc (X := ⟨Try.prog, tys, [(85, l2Many_F)], [], true, true, 0, [], []⟩) fn_122 ⟨tys_ok, (.cons l2Many_T .nil), .nil, mixed⟩ (n0 := 0) rfl (Nat.le_of_ble_eq_true rfl) (by simp [wfL, SV.wf]) (wfH_spec (by simp [wfH, SObj.wf])) (Nat.le_refl _) ?_
  simp -implicitDefEqProofs only [Try.f122, Option.getD_some, argS, l2Many_F, ht, tk, hp, ZB, Int.reduceToNat, Nat.reduceLT, Nat.reduceLeDiff, Int.reduceLE, Int.reduceLT, Nat.reduceEqDiff, Nat.reduceSub, SB, SV.known, packR, ne_eq, reduceCtorEq, Nat.reduceEqDiff, ↓reduceIte, if_true, if_false, eq_self, Nat.reduceAdd, Nat.reduceMul, Nat.reduceSub, forall_const, oneCellS, litOne, flat1, Kd.isSca, flat, TYB]
  refine loop_intro (fun s : Nat × Nat × Nat × List Int => [(4, .int s.1), (3, .slice 1 0 s.2.1 s.2.2.1), (1, .ptr 0 0)]) (fun s => [(1, .ints (RL t s.1 ++ s.2.2.2) 44), (0, .ints t 24)]) 2
    (fun s => s.1 ≤ layN t ∧ (RL t s.1).length = s.2.1 * 2 ∧ s.2.1 ≤ s.1 ∧ s.2.2.2.length + s.2.1 * 2 = s.2.2.1 * 2) (fun s => layN t - s.1) ?_ ?_
  · refine ⟨(0, 0, 0, []), ?_, Sub.mk_id ?_ ?_ ?_ ?_ ?_⟩
    all_goals (try (simp only [RL_zero, List.append_nil, LB, subS, subH, wfS, wfH, SV.ren, renL, SObj.ren, SV.wf, SObj.wf, wfL, SV.known, Nat.reduceEqDiff, ↓reduceIte, if_true, if_false, eq_self, Nat.reduceAdd, Nat.reduceLT, Nat.reduceLeDiff, implies_true, reduceCtorEq, forall_const]; done))
    all_goals (try (simp only [RL_zero, List.append_nil, LB, subS, subH, wfS, wfH, SV.ren, renL, SObj.ren, SV.wf, SObj.wf, wfL, SV.known, Nat.reduceEqDiff, ↓reduceIte, if_true, if_false, eq_self, Nat.reduceAdd, Nat.reduceLT, Nat.reduceLeDiff, implies_true, reduceCtorEq, forall_const]; simp; done))
    all_goals (try (simp only [RL_zero, List.append_nil, LB, subS, subH, wfS, wfH, SV.ren, renL, SObj.ren, SV.wf, SObj.wf, wfL, SV.known, Nat.reduceEqDiff, ↓reduceIte, if_true, if_false, eq_self, Nat.reduceAdd, Nat.reduceLT, Nat.reduceLeDiff, implies_true, reduceCtorEq, forall_const]; (and_intros <;> (first | omega | rfl | (simp; done) | (simp; omega))); done))
    all_goals (try dsimp only)
    all_goals (and_intros <;> try (first | omega | (unfold In64; omega) | trivial | assumption))
    all_goals simp [RL_zero]
  · rintro ⟨i, n, cap, junk⟩ ⟨hi, hL, hni, hj⟩
    simp only at hi hL hni hj
    have hlst := RL_last t ht i
    have tkL : (RL t i ++ junk).take (n * 2) = RL t i := List.take_left' hL
    have lenL : (RL t i ++ junk).length = cap * 2 := by rw [List.length_append]; omega
    have ei : ((i : Int) - 1).toNat = i - 1 := by omega
    have e0 : ((n : Int) - 1).toNat * 2 = n * 2 - 2 := by omega
    by_cases hlt : i < layN t
    · have es := RL_succ t i (by omega)
      rcases Nat.eq_zero_or_pos i with h0 | h0
      · subst h0
        have en : n = 0 := by omega
        subst en
        rw [RL_zero] at es
        simp -implicitDefEqProofs only [lk_normal, l2Many_F, ht, tk, hp, tkL, lenL, ei, e0, ZB, Int.reduceToNat, Nat.reduceLT, Nat.reduceLeDiff, Int.reduceLE, Int.reduceLT, Nat.reduceEqDiff, Nat.reduceSub, SB, SV.known, packR, ne_eq, reduceCtorEq, Nat.reduceEqDiff, ↓reduceIte, if_true, if_false, eq_self, Nat.reduceAdd, Nat.reduceMul, Nat.reduceSub, forall_const, oneCellS, litOne, flat1, Kd.isSca, flat, TYB]
        refine ⟨fun _ => ?_, fun hx => absurd (by omega) hx⟩
        (try (and_intros <;> try (first | omega | (unfold In64; omega) | trivial | assumption)))
        intro junk' cap' hj'
        (try (and_intros <;> try (first | omega | (unfold In64; omega) | trivial | assumption)))
        have es1 : RL t 1 = [t.getD 0 0, 1] := RL_one t (by omega)
        refine ⟨(1, 1, cap', junk'), ?_, ?_, Sub.mk_to 1 3 ?_ ?_ ?_ ?_ ?_ ?_ ?_⟩
        all_goals (try (simp only [es1, RL_zero, LB, subS, subH, wfS, wfH, SV.ren, renL, SObj.ren, SV.wf, SObj.wf, wfL, SV.known, Nat.reduceEqDiff, ↓reduceIte, if_true, if_false, eq_self, Nat.reduceAdd, Nat.reduceLT, Nat.reduceLeDiff, implies_true, reduceCtorEq, forall_const]; done))
        all_goals (try (simp only [es1, RL_zero, LB, subS, subH, wfS, wfH, SV.ren, renL, SObj.ren, SV.wf, SObj.wf, wfL, SV.known, Nat.reduceEqDiff, ↓reduceIte, if_true, if_false, eq_self, Nat.reduceAdd, Nat.reduceLT, Nat.reduceLeDiff, implies_true, reduceCtorEq, forall_const]; simp; done))
        all_goals (try (simp only [es1, RL_zero, LB, subS, subH, wfS, wfH, SV.ren, renL, SObj.ren, SV.wf, SObj.wf, wfL, SV.known, Nat.reduceEqDiff, ↓reduceIte, if_true, if_false, eq_self, Nat.reduceAdd, Nat.reduceLT, Nat.reduceLeDiff, implies_true, reduceCtorEq, forall_const]; (and_intros <;> (first | omega | rfl | (simp; done) | (simp; omega))); done))
        all_goals (try dsimp only)
        all_goals (and_intros <;> try (first | omega | (unfold In64; omega) | trivial | assumption))
        all_goals (try (simp [es1, RL_zero]; done))
        all_goals (simp only [es1, RL_zero, LB, subS, subH, wfS, wfH, SV.ren, renL, SObj.ren, SV.wf, SObj.wf, wfL, SV.known, Nat.reduceEqDiff, ↓reduceIte, if_true, if_false, eq_self, Nat.reduceAdd, Nat.reduceLT, Nat.reduceLeDiff, implies_true, reduceCtorEq, forall_const]; simp)
      · obtain ⟨r, n', g1, g2, g3, g4, g5, g6⟩ := hlst h0 (by omega)
        have en : n' = n := by omega
        subst en
        have e1 : n' * 2 - 2 + 1 = n' * 2 - 1 := by omega
        have gd1 := getD_app (RL t i) junk (n' * 2 - 1) (by omega)
        have hs := fun x => set_app (RL t i) junk (n' * 2 - 1) x (by omega)
        simp -implicitDefEqProofs only [lk_normal, l2Many_F, ht, tk, hp, tkL, lenL, ei, e0, e1, gd1, hs, ZB, Int.reduceToNat, Nat.reduceLT, Nat.reduceLeDiff, Int.reduceLE, Int.reduceLT, Nat.reduceEqDiff, Nat.reduceSub, SB, SV.known, packR, ne_eq, reduceCtorEq, Nat.reduceEqDiff, ↓reduceIte, if_true, if_false, eq_self, Nat.reduceAdd, Nat.reduceMul, Nat.reduceSub, forall_const, oneCellS, litOne, flat1, Kd.isSca, flat, TYB]
        refine ⟨fun _ => ⟨fun _ => ?_, fun hx => absurd (by omega) hx⟩, fun hx => absurd (by omega) hx⟩
        (try (and_intros <;> try (first | omega | (unfold In64; omega) | trivial | assumption)))
        · intro he
          rw [stepR_eq g1 g2 (by rw [g3, he])] at es
          (try (and_intros <;> try (first | omega | (unfold In64; omega) | trivial | assumption)))
          refine ⟨(i + 1, n', cap, junk), ?_, ?_, Sub.mk_id ?_ ?_ ?_ ?_ ?_⟩
          all_goals (try (simp only [es, LB, subS, subH, wfS, wfH, SV.ren, renL, SObj.ren, SV.wf, SObj.wf, wfL, SV.known, Nat.reduceEqDiff, ↓reduceIte, if_true, if_false, eq_self, Nat.reduceAdd, Nat.reduceLT, Nat.reduceLeDiff, implies_true, reduceCtorEq, forall_const]; done))
          all_goals (try (simp only [es, LB, subS, subH, wfS, wfH, SV.ren, renL, SObj.ren, SV.wf, SObj.wf, wfL, SV.known, Nat.reduceEqDiff, ↓reduceIte, if_true, if_false, eq_self, Nat.reduceAdd, Nat.reduceLT, Nat.reduceLeDiff, implies_true, reduceCtorEq, forall_const]; simp; done))
          all_goals (try (simp only [es, LB, subS, subH, wfS, wfH, SV.ren, renL, SObj.ren, SV.wf, SObj.wf, wfL, SV.known, Nat.reduceEqDiff, ↓reduceIte, if_true, if_false, eq_self, Nat.reduceAdd, Nat.reduceLT, Nat.reduceLeDiff, implies_true, reduceCtorEq, forall_const]; (and_intros <;> (first | omega | rfl | (simp; done) | (simp; omega))); done))
          all_goals (try dsimp only)
          all_goals (and_intros <;> try (first | omega | (unfold In64; omega) | trivial | assumption))
          all_goals (rw [es]; simp; omega)
        · intro he
          rw [stepR_ne g1 (by rw [g3]; exact fun hx => he hx.symm)] at es
          (try (and_intros <;> try (first | omega | (unfold In64; omega) | trivial | assumption)))
          intro junk' cap' hj'
          (try (and_intros <;> try (first | omega | (unfold In64; omega) | trivial | assumption)))
          refine ⟨(i + 1, n' + 1, cap', junk'), ?_, ?_, Sub.mk_to 1 3 ?_ ?_ ?_ ?_ ?_ ?_ ?_⟩
          all_goals (try (simp only [es, LB, subS, subH, wfS, wfH, SV.ren, renL, SObj.ren, SV.wf, SObj.wf, wfL, SV.known, Nat.reduceEqDiff, ↓reduceIte, if_true, if_false, eq_self, Nat.reduceAdd, Nat.reduceLT, Nat.reduceLeDiff, implies_true, reduceCtorEq, forall_const]; done))
          all_goals (try (simp only [es, LB, subS, subH, wfS, wfH, SV.ren, renL, SObj.ren, SV.wf, SObj.wf, wfL, SV.known, Nat.reduceEqDiff, ↓reduceIte, if_true, if_false, eq_self, Nat.reduceAdd, Nat.reduceLT, Nat.reduceLeDiff, implies_true, reduceCtorEq, forall_const]; simp; done))
          all_goals (try (simp only [es, LB, subS, subH, wfS, wfH, SV.ren, renL, SObj.ren, SV.wf, SObj.wf, wfL, SV.known, Nat.reduceEqDiff, ↓reduceIte, if_true, if_false, eq_self, Nat.reduceAdd, Nat.reduceLT, Nat.reduceLeDiff, implies_true, reduceCtorEq, forall_const]; (and_intros <;> (first | omega | rfl | (simp; done) | (simp; omega))); done))
          all_goals (try dsimp only)
          all_goals (and_intros <;> try (first | omega | (unfold In64; omega) | trivial | assumption))
          all_goals (rw [es, List.length_append, g1]; simp; omega)
    · have hii : i = layN t := by omega
      have hr : runsL t = RL t i := by rw [hii]; rfl
      simp -implicitDefEqProofs only [lk_normal, l2Many_F, ht, tk, hp, tkL, lenL, ei, e0, ZB, Int.reduceToNat, Nat.reduceLT, Nat.reduceLeDiff, Int.reduceLE, Int.reduceLT, Nat.reduceEqDiff, Nat.reduceSub, SB, SV.known, packR, ne_eq, reduceCtorEq, Nat.reduceEqDiff, ↓reduceIte, if_true, if_false, eq_self, Nat.reduceAdd, Nat.reduceMul, Nat.reduceSub, forall_const, oneCellS, litOne, flat1, Kd.isSca, flat, TYB]
      refine ⟨fun hx => absurd hx (by omega), fun _ => ?_⟩
      refine .inr ⟨1, cap, junk, ?_, ?_, by omega, ?_, by simp⟩
      · rw [hr, hL]; simp [Wrap.ap]
      · rw [hr]; simp [hget_cons]
      · rw [hr]; omega
--@tbl l2Runs = spec.l2Runs
def l2Runs_F : List SV → Heap → Nat → Nat → K1 → Prop
  | [.arr t], H, n, _, κ => (t.length = 4 ∧ tubeB t = true) ∧ freshK .one (runsL t) ((runsL t).length / 2) 2 44 false H n κ
  | _, _, _, _, _ => False
theorem l2Runs_T : ∀ args H n m κ, l2Runs_F args H n m κ → GenOK Try.prog 122 args H n m κ := by
  intro args H n m κ h
  unfold l2Runs_F at h
  split at h
  · exact gen_of_fresh (l2Runs_ok _ h.1.1 h.1.2) (fun k o hk => by cases hk) h.2
  · exact h.elim
theorem l6Runs_ok (R : List Int) (hR : R.length = 24) (hr : rackB R = true) : PureH Try.prog 78 [.arr R] [] (.int (sumT crN R 6)) := by
  have tkR : R.take 24 = R := List.take_of_length_le (by omega)
  refine pure_of_vc (X := ⟨Try.prog, tys, [], [(122, l2Runs_F)], true, true, 0, [], []⟩) fn_78 ⟨tys_ok, .nil, (.cons l2Runs_T .nil), mixed⟩ (n0 := 0) (Nat.le_of_ble_eq_true rfl) (by simp [wfL, SV.wf]) (wfH_spec (by simp [wfH, SObj.wf])) (Nat.le_refl _) (fun _ => by simp [SV.wf, wfL]) ?_
  simp -implicitDefEqProofs only [Try.f78, Option.getD_some, argS, l2Runs_F, hR, tkR, ZB, Int.reduceToNat, Nat.reduceLT, Nat.reduceLeDiff, Int.reduceLE, Int.reduceLT, Nat.reduceEqDiff, Nat.reduceSub, SB, SV.known, packR, ne_eq, reduceCtorEq, Nat.reduceEqDiff, ↓reduceIte, if_true, if_false, eq_self, Nat.reduceAdd, Nat.reduceMul, Nat.reduceSub, forall_const, oneCellS, litOne, flat1, Kd.isSca, flat, TYB]
  refine loop_intro (fun i : Nat => [(4, .int i), (3, .int (sumT crN R i)), (1, .ptr 0 0)]) (fun _ => [(0, .ints R 27)]) 1 (fun i => i ≤ 6) (fun i => 6 - i) ?_ ?_
  · refine ⟨0, ?_, Sub.mk_id ?_ ?_ ?_ ?_ ?_⟩
    all_goals (try (simp only [sumT_zero, LB, subS, subH, wfS, wfH, SV.ren, renL, SObj.ren, SV.wf, SObj.wf, wfL, SV.known, Nat.reduceEqDiff, ↓reduceIte, if_true, if_false, eq_self, Nat.reduceAdd, Nat.reduceLT, Nat.reduceLeDiff, implies_true, reduceCtorEq, forall_const]; done))
    all_goals (try (simp only [sumT_zero, LB, subS, subH, wfS, wfH, SV.ren, renL, SObj.ren, SV.wf, SObj.wf, wfL, SV.known, Nat.reduceEqDiff, ↓reduceIte, if_true, if_false, eq_self, Nat.reduceAdd, Nat.reduceLT, Nat.reduceLeDiff, implies_true, reduceCtorEq, forall_const]; simp; done))
    all_goals (try (simp only [sumT_zero, LB, subS, subH, wfS, wfH, SV.ren, renL, SObj.ren, SV.wf, SObj.wf, wfL, SV.known, Nat.reduceEqDiff, ↓reduceIte, if_true, if_false, eq_self, Nat.reduceAdd, Nat.reduceLT, Nat.reduceLeDiff, implies_true, reduceCtorEq, forall_const]; (and_intros <;> (first | omega | rfl | (simp; done) | (simp; omega))); done))
    all_goals (try dsimp only)
    all_goals (and_intros <;> try (first | omega | (unfold In64; omega) | trivial | assumption))
  · intro i hi
    have eT : List.take 4 (List.drop (i * 4) R) = tubeAt R i := rfl
    have bd := sumT_bd hR crN_bd i hi
    by_cases hlt : i < 6
    · have hl := tubeAt_len hR hlt
      have hb := tubeAt_ok hr hlt
      have es := sumT_succ crN R i
      have cr := crN_bd _ hl
      have ec : (((runsL (tubeAt R i)).length / 2 : Nat) : Int) = crN (tubeAt R i) := rfl
      simp -implicitDefEqProofs only [lk_normal, l2Runs_F, freshK, Wrap.ap, hR, eT, hl, hb, ec, ZB, Int.reduceToNat, Nat.reduceLT, Nat.reduceLeDiff, Int.reduceLE, Int.reduceLT, Nat.reduceEqDiff, Nat.reduceSub, SB, SV.known, packR, ne_eq, reduceCtorEq, Nat.reduceEqDiff, ↓reduceIte, if_true, if_false, eq_self, Nat.reduceAdd, Nat.reduceMul, Nat.reduceSub, forall_const, oneCellS, litOne, flat1, Kd.isSca, flat, TYB]
      refine ⟨fun _ => ⟨by omega, by omega, ?_⟩, fun hx => absurd (by omega) hx⟩
      (try (and_intros <;> try (first | omega | (unfold In64; omega) | trivial | assumption)))
      intro cap junk hj
      (try (and_intros <;> try (first | omega | (unfold In64; omega) | trivial | assumption)))
      refine ⟨i + 1, ?_, ?_, Sub.mk_id ?_ ?_ ?_ ?_ ?_⟩
      all_goals (try (simp only [es, LB, subS, subH, wfS, wfH, SV.ren, renL, SObj.ren, SV.wf, SObj.wf, wfL, SV.known, Nat.reduceEqDiff, ↓reduceIte, if_true, if_false, eq_self, Nat.reduceAdd, Nat.reduceLT, Nat.reduceLeDiff, implies_true, reduceCtorEq, forall_const]; done))
      all_goals (try (simp only [es, LB, subS, subH, wfS, wfH, SV.ren, renL, SObj.ren, SV.wf, SObj.wf, wfL, SV.known, Nat.reduceEqDiff, ↓reduceIte, if_true, if_false, eq_self, Nat.reduceAdd, Nat.reduceLT, Nat.reduceLeDiff, implies_true, reduceCtorEq, forall_const]; simp; done))
      all_goals (try (simp only [es, LB, subS, subH, wfS, wfH, SV.ren, renL, SObj.ren, SV.wf, SObj.wf, wfL, SV.known, Nat.reduceEqDiff, ↓reduceIte, if_true, if_false, eq_self, Nat.reduceAdd, Nat.reduceLT, Nat.reduceLeDiff, implies_true, reduceCtorEq, forall_const]; (and_intros <;> (first | omega | rfl | (simp; done) | (simp; omega))); done))
      all_goals (try dsimp only)
      all_goals (and_intros <;> try (first | omega | (unfold In64; omega) | trivial | assumption))
    · obtain rfl : i = 6 := by omega
      simp -implicitDefEqProofs only [lk_normal, hR, eT, ZB, Int.reduceToNat, Nat.reduceLT, Nat.reduceLeDiff, Int.reduceLE, Int.reduceLT, Nat.reduceEqDiff, Nat.reduceSub, SB, SV.known, packR, ne_eq, reduceCtorEq, Nat.reduceEqDiff, ↓reduceIte, if_true, if_false, eq_self, Nat.reduceAdd, Nat.reduceMul, Nat.reduceSub, forall_const, oneCellS, litOne, flat1, Kd.isSca, flat, TYB]
      (try (and_intros <;> try (first | omega | (unfold In64; omega) | trivial | assumption)))
def l6Runs_F : List SV → Heap → Option (Prop × SV)
  | [.arr R], _ => some (R.length = 24 ∧ rackB R = true, .int (sumT crN R 6))
  | _, _ => none
theorem l6Runs_T : ∀ args H p v, l6Runs_F args H = some (p, v) → p → PureH Try.prog 78 args H v := by
  intro args H p v h hp
  unfold l6Runs_F at h
  split at h
  · cases h; exact (l6Runs_ok _ hp.1 hp.2).any _
  · cases h
/-! The model's boundaries. -/
theorem cnt0_sum : ∀ (l : List Int), (∀ x ∈ l, 0 ≤ x) → (cntL l).getD 0 0 = (l.map fun x => if x = 0 then (1 : Int) else 0).sum := by
  intro l
  have key : ∀ (l : List Int) (c : List Int), c.length = 6 → (∀ x ∈ l, 0 ≤ x) → (l.foldl (fun c x => incr c x.toNat) c).getD 0 0 = c.getD 0 0 + (l.map fun x => if x = 0 then (1 : Int) else 0).sum := by
    intro l
    induction l with
    | nil => intro c _ _; simp
    | cons x l ih =>
      intro c hc h
      have hx := h x (by simp)
      rw [List.foldl_cons, ih (incr c x.toNat) (by simp [incr, hc]) fun y hy => h y (by simp [hy])]
      simp only [List.map_cons, List.sum_cons]
      by_cases h0 : x = 0
      · subst h0
        rw [if_pos rfl, incr, show (0 : Int).toNat = 0 from rfl, getD_set_self _ _ _ (by omega)]
        omega
      · rw [if_neg h0]
        have : (incr c x.toNat).getD 0 0 = c.getD 0 0 := by
          simp only [incr, List.getD, List.getElem?_set]
          rw [if_neg (by omega)]
        rw [this]; omega
  intro h
  unfold cntL
  rw [key l _ (by simp) h]
  simp
theorem runs_bottom (t : List Int) (ht : t.length = 4) (hb : tubeB t = true) : (0 < layN t ↔ 0 < crN t) ∧ (t.getD 0 0 = 0 ↔ layN t = 0) := by
  have hle := lay_le t ht
  constructor
  · constructor
    · intro h
      obtain ⟨n, h1, h2, h3⟩ := runsL_even t ht
      have := h3 h
      unfold crN
      omega
    · intro h
      rcases Nat.eq_zero_or_pos (layN t) with h0 | h0
      · have : crN t = 0 := by simp [crN, runsL, h0]
        omega
      · exact h0
  · obtain ⟨a, b, c, d, rfl⟩ : ∃ a b c d, t = [a, b, c, d] := by
      match t, ht with
      | [a, b, c, d], _ => exact ⟨a, b, c, d, rfl⟩
    by_cases ha : a = 0
    · subst ha; simp [layN, isZ0, List.findIdx?_cons]
    · simp [layN, isZ0, List.findIdx?_cons, ha, Ne.symm ha]
theorem bnd_link (R : List Int) (hR : R.length = 24) (hr : rackB R = true) : sumT crN R 6 - 6 + (cntL (botL R)).getD 0 0 = sumT cbN R 6 := by
  rw [cnt0_sum (botL R) (by
    intro x hx
    obtain ⟨i, hi, rfl⟩ := List.mem_map.1 hx
    exact (rack_cell hR hr (k := i * 4) (by have := List.mem_range.1 hi; omega)).1)]
  have key : ∀ k, k ≤ 6 → sumT crN R k - k + (((List.range k).map fun i => R.getD (i * 4) 0).map fun x => if x = 0 then (1 : Int) else 0).sum = sumT cbN R k := by
    intro k
    induction k with
    | zero => intro _; simp [sumT_zero]
    | succ k ih =>
      intro hk
      have h1 := ih (by omega)
      have hl := tubeAt_len hR (i := k) (by omega)
      have hb := tubeAt_ok hr (i := k) (by omega)
      have rb := runs_bottom _ hl hb
      have e0 : (tubeAt R k).getD 0 0 = R.getD (k * 4) 0 := by rw [show k * 4 = k * 4 + 0 by omega]; exact cut_getD R k 0 (by omega)
      rw [e0] at rb
      have cb : cbN (tubeAt R k) = max (crN (tubeAt R k) - 1) 0 := rfl
      have c0 := (crN_bd _ hl).1
      rw [sumT_succ, sumT_succ, List.range_succ, List.map_append, List.map_append, List.sum_append]
      simp only [List.map_cons, List.map_nil, List.sum_cons, List.sum_nil]
      by_cases hz : R.getD (k * 4) 0 = 0
      · rw [if_pos hz]
        have := rb.2.1 hz
        have : ¬ 0 < crN (tubeAt R k) := fun h => by have := rb.1.2 h; omega
        omega
      · rw [if_neg hz]
        have : ¬ layN (tubeAt R k) = 0 := fun h => hz (rb.2.2 h)
        have := rb.1.1 (by omega)
        omega
  exact key 6 (by omega)
--@tbl l6Boundaries = spec.l6Boundaries
theorem l6Boundaries_ok (R : List Int) (hR : R.length = 24) (hr : rackB R = true) : PureH Try.prog 79 [.arr R] [] (.int (sumT cbN R 6)) := by
  have tkR : R.take 24 = R := List.take_of_length_le (by omega)
  have cl := cntL_len (botL R)
  have tkc : (cntL (botL R)).take 6 = cntL (botL R) := List.take_of_length_le (by omega)
  have bd := sumT_bd hR crN_bd 6 (by omega)
  have cb := cntL_bd (botL R) 0
  rw [botL_len] at cb
  have lk := bnd_link R hR hr
  refine pure_of_vc (X := ⟨Try.prog, tys, [(78, l6Runs_F), (82, l6Bottoms_F)], [], true, true, 0, [], []⟩) fn_79 ⟨tys_ok, (.cons l6Runs_T (.cons l6Bottoms_T .nil)), .nil, mixed⟩ (n0 := 0) (Nat.le_of_ble_eq_true rfl) (by simp [wfL, SV.wf]) (wfH_spec (by simp [wfH, SObj.wf])) (Nat.le_refl _) (fun _ => by simp [SV.wf, wfL]) ?_
  simp -implicitDefEqProofs only [Try.f79, Option.getD_some, argS, l6Runs_F, l6Bottoms_F, hR, tkR, hr, cl, tkc, ZB, Int.reduceToNat, Nat.reduceLT, Nat.reduceLeDiff, Int.reduceLE, Int.reduceLT, Nat.reduceEqDiff, Nat.reduceSub, SB, SV.known, packR, ne_eq, reduceCtorEq, Nat.reduceEqDiff, ↓reduceIte, if_true, if_false, eq_self, Nat.reduceAdd, Nat.reduceMul, Nat.reduceSub, forall_const, oneCellS, litOne, flat1, Kd.isSca, flat, TYB]
  (try (and_intros <;> try (first | omega | (unfold In64; omega) | trivial | assumption)))
def l6Boundaries_F : List SV → Heap → Option (Prop × SV)
  | [.arr R], _ => some (R.length = 24 ∧ rackB R = true, .int (sumT cbN R 6))
  | _, _ => none
theorem l6Boundaries_T : ∀ args H p v, l6Boundaries_F args H = some (p, v) → p → PureH Try.prog 79 args H v := by
  intro args H p v h hp
  unfold l6Boundaries_F at h
  split at h
  · cases h; exact (l6Boundaries_ok _ hp.1 hp.2).any _
  · cases h
--@tbl l6Bound = spec.l6Bound
theorem l6Bound_ok (R : List Int) (hR : R.length = 24) (hr : rackB R = true) : PureH Try.prog 80 [.arr R] [] (.int (bndF R)) := by
  have tkR : R.take 24 = R := List.take_of_length_le (by omega)
  have cl := cntL_len (botL R)
  have tkc : (cntL (botL R)).take 6 = cntL (botL R) := List.take_of_length_le (by omega)
  have bb := bnd_bd R hR
  have d1 : ∀ k, (cntL (botL R)).getD (1 + k) 0 = ((cntL (botL R)).drop 1).getD k 0 := fun k => by simp [List.getD, Nat.add_comm]
  have l5 : ((cntL (botL R)).drop 1).length = 5 := by rw [List.length_drop, cl]
  refine pure_of_vc (X := ⟨Try.prog, tys, [(79, l6Boundaries_F), (82, l6Bottoms_F), (125, l1Most_F)], [], true, true, 0, [], []⟩) fn_80 ⟨tys_ok, (.cons l6Boundaries_T (.cons l6Bottoms_T (.cons l1Most_T .nil))), .nil, mixed⟩ (n0 := 0) (Nat.le_of_ble_eq_true rfl) (by simp [wfL, SV.wf]) (wfH_spec (by simp [wfH, SObj.wf])) (Nat.le_refl _) (fun _ => by simp [SV.wf, wfL]) ?_
  simp -implicitDefEqProofs only [Try.f80, Option.getD_some, argS, l6Boundaries_F, l6Bottoms_F, l1Most_F, hR, tkR, hr, cl, tkc, ZB, Int.reduceToNat, Nat.reduceLT, Nat.reduceLeDiff, Int.reduceLE, Int.reduceLT, Nat.reduceEqDiff, Nat.reduceSub, SB, SV.known, packR, ne_eq, reduceCtorEq, Nat.reduceEqDiff, ↓reduceIte, if_true, if_false, eq_self, Nat.reduceAdd, Nat.reduceMul, Nat.reduceSub, forall_const, oneCellS, litOne, flat1, Kd.isSca, flat, TYB]
  refine loop_intro (fun i : Nat => [(5, .int (1 + i)), (3, .int (sumT cbN R 6 + besF (((cntL (botL R)).drop 1).take i))), (4, .ptr 1 0)]) (fun i => [(1, .ints (cntL (botL R)) 40)]) 2 (fun i => i ≤ 5) (fun i => 5 - i) ?_ ?_
  · have b0 : besF [] = 0 := rfl
    refine ⟨0, ?_, Sub.mk_id ?_ ?_ ?_ ?_ ?_⟩
    all_goals (try (simp only [List.take_zero, b0, Int.add_zero, LB, subS, subH, wfS, wfH, SV.ren, renL, SObj.ren, SV.wf, SObj.wf, wfL, SV.known, Nat.reduceEqDiff, ↓reduceIte, if_true, if_false, eq_self, Nat.reduceAdd, Nat.reduceLT, Nat.reduceLeDiff, implies_true, reduceCtorEq, forall_const]; done))
    all_goals (try (simp only [List.take_zero, b0, Int.add_zero, LB, subS, subH, wfS, wfH, SV.ren, renL, SObj.ren, SV.wf, SObj.wf, wfL, SV.known, Nat.reduceEqDiff, ↓reduceIte, if_true, if_false, eq_self, Nat.reduceAdd, Nat.reduceLT, Nat.reduceLeDiff, implies_true, reduceCtorEq, forall_const]; simp; done))
    all_goals (try (simp only [List.take_zero, b0, Int.add_zero, LB, subS, subH, wfS, wfH, SV.ren, renL, SObj.ren, SV.wf, SObj.wf, wfL, SV.known, Nat.reduceEqDiff, ↓reduceIte, if_true, if_false, eq_self, Nat.reduceAdd, Nat.reduceLT, Nat.reduceLeDiff, implies_true, reduceCtorEq, forall_const]; (and_intros <;> (first | omega | rfl | (simp; done) | (simp; omega))); done))
    all_goals (try dsimp only)
    all_goals (and_intros <;> try (first | omega | (unfold In64; omega) | trivial | assumption))
  · intro i hi
    have e1 : (1 + (i : Int)).toNat = 1 + i := by omega
    by_cases hlt : i < 5
    · have es := besF_take_succ ((cntL (botL R)).drop 1) i (by omega)
      have b1 := bb.2.2.2.2 i
      have b2 := bb.2.2.2.2 (i + 1)
      rw [es, Int.max_comm] at b2
      rw [Int.max_comm] at es
      have cb := cntL_bd (botL R) (1 + i)
      rw [d1, botL_len] at cb
      simp -implicitDefEqProofs only [lk_normal, l1Most_F, e1, d1, cl, Int.add_assoc, ZB, Int.reduceToNat, Nat.reduceLT, Nat.reduceLeDiff, Int.reduceLE, Int.reduceLT, Nat.reduceEqDiff, Nat.reduceSub, SB, SV.known, packR, ne_eq, reduceCtorEq, Nat.reduceEqDiff, ↓reduceIte, if_true, if_false, eq_self, Nat.reduceAdd, Nat.reduceMul, Nat.reduceSub, forall_const, oneCellS, litOne, flat1, Kd.isSca, flat, TYB]
      refine ⟨fun _ => ?_, fun hx => absurd (by omega) hx⟩
      (try (and_intros <;> try (first | omega | (unfold In64; omega) | trivial | assumption)))
      refine ⟨i + 1, ?_, ?_, Sub.mk_id ?_ ?_ ?_ ?_ ?_⟩
      all_goals (try (simp only [es, LB, subS, subH, wfS, wfH, SV.ren, renL, SObj.ren, SV.wf, SObj.wf, wfL, SV.known, Nat.reduceEqDiff, ↓reduceIte, if_true, if_false, eq_self, Nat.reduceAdd, Nat.reduceLT, Nat.reduceLeDiff, implies_true, reduceCtorEq, forall_const]; done))
      all_goals (try (simp only [es, LB, subS, subH, wfS, wfH, SV.ren, renL, SObj.ren, SV.wf, SObj.wf, wfL, SV.known, Nat.reduceEqDiff, ↓reduceIte, if_true, if_false, eq_self, Nat.reduceAdd, Nat.reduceLT, Nat.reduceLeDiff, implies_true, reduceCtorEq, forall_const]; simp; done))
      all_goals (try (simp only [es, LB, subS, subH, wfS, wfH, SV.ren, renL, SObj.ren, SV.wf, SObj.wf, wfL, SV.known, Nat.reduceEqDiff, ↓reduceIte, if_true, if_false, eq_self, Nat.reduceAdd, Nat.reduceLT, Nat.reduceLeDiff, implies_true, reduceCtorEq, forall_const]; (and_intros <;> (first | omega | rfl | (simp; done) | (simp; omega))); done))
      all_goals (try dsimp only)
      all_goals (and_intros <;> try (first | omega | (unfold In64; omega) | trivial | assumption))
    · obtain rfl : i = 5 := by omega
      have tk5 : ((cntL (botL R)).drop 1).take 5 = (cntL (botL R)).drop 1 := List.take_of_length_le (by omega)
      simp -implicitDefEqProofs only [lk_normal, cl, tk5, ZB, Int.reduceToNat, Nat.reduceLT, Nat.reduceLeDiff, Int.reduceLE, Int.reduceLT, Nat.reduceEqDiff, Nat.reduceSub, SB, SV.known, packR, ne_eq, reduceCtorEq, Nat.reduceEqDiff, ↓reduceIte, if_true, if_false, eq_self, Nat.reduceAdd, Nat.reduceMul, Nat.reduceSub, forall_const, oneCellS, litOne, flat1, Kd.isSca, flat, TYB]
      (try (and_intros <;> try (first | omega | (unfold In64; omega) | trivial | assumption)))
      intro _
      rfl
def l6Bound_F : List SV → Heap → Option (Prop × SV)
  | [.arr R], _ => some (R.length = 24 ∧ rackB R = true, .int (bndF R))
  | _, _ => none
theorem l6Bound_T : ∀ args H p v, l6Bound_F args H = some (p, v) → p → PureH Try.prog 80 args H v := by
  intro args H p v h hp
  unfold l6Bound_F at h
  split at h
  · cases h; exact (l6Bound_ok _ hp.1 hp.2).any _
  · cases h
theorem pourB_facts {R : List Int} {i j : Int} (hR : R.length = 24) (h : pourB R i j = true) : rackB R = true ∧ (0 ≤ i ∧ i ≤ 5) ∧ (0 ≤ j ∧ j ≤ 5) ∧ canF R i j = true ∧ rackB (pourF R i.toNat j.toNat) = true ∧ pourT R i j = pourF R i.toNat j.toNat ∧ pourM R i j = pmN R i.toNat j.toNat := by
  have h0 := h
  simp only [pourB, Bool.and_eq_true] at h
  have bi := pl_bd h.1.1.2
  have bj := pl_bd h.1.2
  exact ⟨h.1.1.1, bi, bj, h.2, pour_rack hR h.1.1.1 bi bj h.2, by rw [pourT, if_pos h0], by rw [pourM, if_pos h0]⟩
--@tbl PourChange = impl.PourChange
--@tbl sPourChange = spec.PourChange
def pchF (R : List Int) (i j : Int) : List Int := if pourB R i j = true then [sumT crN (pourF R i.toNat j.toNat) 6 - sumT crN R 6, sumT cbN (pourF R i.toNat j.toNat) 6 - sumT cbN R 6, bndF (pourF R i.toNat j.toNat) - bndF R] else [0, 0, 0]
theorem pchF_len (R : List Int) (i j : Int) : (pchF R i j).length = 3 := by unfold pchF; split <;> rfl
theorem PourChange_ok (R : List Int) (i j : Int) (hR : R.length = 24) : PureH Try.prog 27 [.arr R, .int i, .int j] [] (.tup [.arr (pchF R i j), .bool (pourB R i j)]) := by
  have tkR : R.take 24 = R := List.take_of_length_le (by omega)
  have r2 : List.replicate 2 (0 : Int) = [0, 0] := rfl
  have r3 : List.replicate 3 (0 : Int) = [0, 0, 0] := rfl
  have t3 : List.take 3 [(0 : Int), 0, 0] = [0, 0, 0] := rfl
  unfold pchF pourB
  cases hr : rackB R <;> cases hi : plF i <;> cases hj : plF j
  case true.true.true =>
    have bi := pl_bd hi
    have bj := pl_bd hj
    cases hc : canF R i j
    · refine pure_of_vc (X := ⟨Try.prog, tys, [(56, isAt_F), (57, canPour_F), (58, pour_F)], [], true, true, 0, [], []⟩) fn_27 ⟨tys_ok, (.cons isAt_T (.cons canPour_T (.cons pour_T .nil))), .nil, mixed⟩ (n0 := 0) (Nat.le_of_ble_eq_true rfl) (by simp [wfL, SV.wf]) (wfH_spec (by simp [wfH, SObj.wf])) (Nat.le_refl _) (fun _ => by simp [SV.wf, wfL]) ?_
      simp -implicitDefEqProofs only [Try.f27, Option.getD_some, argS, isAt_F, canPour_F, pour_F, hR, tkR, hr, hi, hj, hc, r2, r3, t3, List.set_cons_zero, List.set_cons_succ, List.drop_zero, List.all_cons, List.all_nil, ZB, Int.reduceToNat, Nat.reduceLT, Nat.reduceLeDiff, Int.reduceLE, Int.reduceLT, Nat.reduceEqDiff, Nat.reduceSub, SB, SV.known, packR, ne_eq, reduceCtorEq, Nat.reduceEqDiff, ↓reduceIte, if_true, if_false, eq_self, Nat.reduceAdd, Nat.reduceMul, Nat.reduceSub, forall_const, oneCellS, litOne, flat1, Kd.isSca, flat, TYB]
      (try (and_intros <;> try (first | omega | (unfold In64; omega) | trivial | assumption)))
    · have hr' := pour_rack hR hr bi bj hc
      have pl := pourF_len hR i.toNat j.toNat
      have tkP : (pourF R i.toNat j.toNat).take 24 = pourF R i.toNat j.toNat := List.take_of_length_le (by omega)
      have b1 := sumT_bd hR crN_bd 6 (by omega)
      have b2 := sumT_bd pl crN_bd 6 (by omega)
      have b3 := bnd_bd R hR
      have b4 := bnd_bd _ pl
      refine pure_of_vc (X := ⟨Try.prog, tys, [(56, isAt_F), (57, canPour_F), (58, pour_F), (75, countRuns_F), (76, countBoundaries_F), (77, bound_F)], [], true, true, 0, [], []⟩) fn_27 ⟨tys_ok, (.cons isAt_T (.cons canPour_T (.cons pour_T (.cons countRuns_T (.cons countBoundaries_T (.cons bound_T .nil)))))), .nil, mixed⟩ (n0 := 0) (Nat.le_of_ble_eq_true rfl) (by simp [wfL, SV.wf]) (wfH_spec (by simp [wfH, SObj.wf])) (Nat.le_refl _) (fun _ => by simp [SV.wf, wfL]) ?_
      simp -implicitDefEqProofs only [Try.f27, Option.getD_some, argS, isAt_F, canPour_F, pour_F, countRuns_F, countBoundaries_F, bound_F, hR, tkR, hr, hi, hj, hc, r2, r3, t3, hr', pl, tkP, List.set_cons_zero, List.set_cons_succ, List.drop_zero, List.all_cons, List.all_nil, ZB, Int.reduceToNat, Nat.reduceLT, Nat.reduceLeDiff, Int.reduceLE, Int.reduceLT, Nat.reduceEqDiff, Nat.reduceSub, SB, SV.known, packR, ne_eq, reduceCtorEq, Nat.reduceEqDiff, ↓reduceIte, if_true, if_false, eq_self, Nat.reduceAdd, Nat.reduceMul, Nat.reduceSub, forall_const, oneCellS, litOne, flat1, Kd.isSca, flat, TYB]
      (try (and_intros <;> try (first | omega | (unfold In64; omega) | trivial | assumption)))
  all_goals
    refine pure_of_vc (X := ⟨Try.prog, tys, [(56, isAt_F), (57, canPour_F), (58, pour_F)], [], true, true, 0, [], []⟩) fn_27 ⟨tys_ok, (.cons isAt_T (.cons canPour_T (.cons pour_T .nil))), .nil, mixed⟩ (n0 := 0) (Nat.le_of_ble_eq_true rfl) (by simp [wfL, SV.wf]) (wfH_spec (by simp [wfH, SObj.wf])) (Nat.le_refl _) (fun _ => by simp [SV.wf, wfL]) ?_
    simp -implicitDefEqProofs only [Try.f27, Option.getD_some, argS, isAt_F, canPour_F, pour_F, hR, tkR, hr, hi, hj, r2, r3, t3, List.set_cons_zero, List.set_cons_succ, List.drop_zero, List.all_cons, List.all_nil, ZB, Int.reduceToNat, Nat.reduceLT, Nat.reduceLeDiff, Int.reduceLE, Int.reduceLT, Nat.reduceEqDiff, Nat.reduceSub, SB, SV.known, packR, ne_eq, reduceCtorEq, Nat.reduceEqDiff, ↓reduceIte, if_true, if_false, eq_self, Nat.reduceAdd, Nat.reduceMul, Nat.reduceSub, forall_const, oneCellS, litOne, flat1, Kd.isSca, flat, TYB]
theorem sPourChange_ok (R : List Int) (i j : Int) (hR : R.length = 24) : PureH Try.prog 28 [.arr R, .int i, .int j] [] (.tup [.arr (pchF R i j), .bool (pourB R i j)]) := by
  have tkR : R.take 24 = R := List.take_of_length_le (by omega)
  have r3 : List.replicate 3 (0 : Int) = [0, 0, 0] := rfl
  have t3 : List.take 3 [(0 : Int), 0, 0] = [0, 0, 0] := rfl
  have ptl := pourT_len hR i j
  have tkT : (pourT R i j).take 24 = pourT R i j := List.take_of_length_le (by omega)
  unfold pchF
  cases hp : pourB R i j
  · refine pure_of_vc (X := ⟨Try.prog, tys, [(9, sPour_F)], [], true, true, 0, [], []⟩) fn_28 ⟨tys_ok, (.cons sPour_T .nil), .nil, mixed⟩ (n0 := 0) (Nat.le_of_ble_eq_true rfl) (by simp [wfL, SV.wf]) (wfH_spec (by simp [wfH, SObj.wf])) (Nat.le_refl _) (fun _ => by simp [SV.wf, wfL]) ?_
    simp -implicitDefEqProofs only [Try.f28, Option.getD_some, argS, sPour_F, hR, tkR, hp, ptl, tkT, r3, t3, ZB, Int.reduceToNat, Nat.reduceLT, Nat.reduceLeDiff, Int.reduceLE, Int.reduceLT, Nat.reduceEqDiff, Nat.reduceSub, SB, SV.known, packR, ne_eq, reduceCtorEq, Nat.reduceEqDiff, ↓reduceIte, if_true, if_false, eq_self, Nat.reduceAdd, Nat.reduceMul, Nat.reduceSub, forall_const, oneCellS, litOne, flat1, Kd.isSca, flat, TYB]
  · obtain ⟨hr, bi, bj, hc, hr', pe, _⟩ := pourB_facts hR hp
    have pl := pourF_len hR i.toNat j.toNat
    have tkP : (pourF R i.toNat j.toNat).take 24 = pourF R i.toNat j.toNat := List.take_of_length_le (by omega)
    have b1 := sumT_bd hR crN_bd 6 (by omega)
    have b2 := sumT_bd pl crN_bd 6 (by omega)
    have b3 := bnd_bd R hR
    have b4 := bnd_bd _ pl
    refine pure_of_vc (X := ⟨Try.prog, tys, [(9, sPour_F), (78, l6Runs_F), (79, l6Boundaries_F), (80, l6Bound_F)], [], true, true, 0, [], []⟩) fn_28 ⟨tys_ok, (.cons sPour_T (.cons l6Runs_T (.cons l6Boundaries_T (.cons l6Bound_T .nil)))), .nil, mixed⟩ (n0 := 0) (Nat.le_of_ble_eq_true rfl) (by simp [wfL, SV.wf]) (wfH_spec (by simp [wfH, SObj.wf])) (Nat.le_refl _) (fun _ => by simp [SV.wf, wfL]) ?_
    simp -implicitDefEqProofs only [Try.f28, Option.getD_some, argS, sPour_F, l6Runs_F, l6Boundaries_F, l6Bound_F, hR, tkR, hr, hp, pe, hr', pl, tkP, r3, t3, ZB, Int.reduceToNat, Nat.reduceLT, Nat.reduceLeDiff, Int.reduceLE, Int.reduceLT, Nat.reduceEqDiff, Nat.reduceSub, SB, SV.known, packR, ne_eq, reduceCtorEq, Nat.reduceEqDiff, ↓reduceIte, if_true, if_false, eq_self, Nat.reduceAdd, Nat.reduceMul, Nat.reduceSub, forall_const, oneCellS, litOne, flat1, Kd.isSca, flat, TYB]
    (try (and_intros <;> try (first | omega | (unfold In64; omega) | trivial | assumption)))
    all_goals simp
def PourChange_F : List SV → Heap → Option (Prop × SV)
  | [.arr R, .int i, .int j], _ => some (R.length = 24, .tup [.arr (pchF R i j), .bool (pourB R i j)])
  | _, _ => none
theorem PourChange_T : ∀ args H p v, PourChange_F args H = some (p, v) → p → PureH Try.prog 27 args H v := by
  intro args H p v h hp
  unfold PourChange_F at h
  split at h
  · cases h; exact (PourChange_ok _ _ _ hp).any _
  · cases h
def sPourChange_F : List SV → Heap → Option (Prop × SV)
  | [.arr R, .int i, .int j], _ => some (R.length = 24, .tup [.arr (pchF R i j), .bool (pourB R i j)])
  | _, _ => none
theorem sPourChange_T : ∀ args H p v, sPourChange_F args H = some (p, v) → p → PureH Try.prog 28 args H v := by
  intro args H p v h hp
  unfold sPourChange_F at h
  split at h
  · cases h; exact (sPourChange_ok _ _ _ hp).any _
  · cases h
end Go.Proofs.Ytnlbljikbonioaa
