/- Texts of this claim, joined (Bnd, View, Upd, Del, Use, Sort, Sl, UPours, FP1, GL, FP0, BH0, BH1, BH2, BH3, Draw). -/
import Derived.Test.YtopfnkmlgcjpbaaQ1
import Derived.Test.YtopfnkmlgcjpbaaQ2
import Derived.Test.YtopfnkmlgcjpbaaQ3
import Derived.Test.YtopfnkmlgcjpbaaQ4
set_option maxRecDepth 100000
set_option linter.unusedSimpArgs false
set_option linter.unusedVariables false
namespace Go.Proofs.Ytopfnkmlgcjpbaa
open Go Go.RowKit
def sumT (f : List Int → Int) (R : List Int) (k : Nat) : Int := ((List.range k).map fun i => f (tubeAt R i)).sum
theorem sumT_zero (f : List Int → Int) (R : List Int) : sumT f R 0 = 0 := rfl
theorem sumT_succ (f : List Int → Int) (R : List Int) (k : Nat) : sumT f R (k + 1) = sumT f R k + f (tubeAt R k) := by simp [sumT, List.range_succ]
theorem sumT_bd {f : List Int → Int} {R : List Int} {b : Int} (hR : R.length = 24) (h : ∀ t : List Int, t.length = 4 → 0 ≤ f t ∧ f t ≤ b) : ∀ k, k ≤ 6 → 0 ≤ sumT f R k ∧ sumT f R k ≤ k * b
  | 0, _ => by simp [sumT_zero]
  | k + 1, hk => by
    have := sumT_bd hR h k (by omega)
    have h1 := h _ (tubeAt_len hR (i := k) (by omega))
    rw [sumT_succ]
    have : ((k + 1 : Nat) : Int) * b = k * b + b := by rw [Int.natCast_add, Int.add_mul, Int.natCast_one, Int.one_mul]
    omega
def crN (t : List Int) : Int := ((runsL t).length / 2 : Nat)
def cbN (t : List Int) : Int := max (crN t - 1) 0
theorem crN_bd (t : List Int) (ht : t.length = 4) : 0 ≤ crN t ∧ crN t ≤ 4 := by
  obtain ⟨n, h1, h2, _⟩ := runsL_even t ht
  unfold crN
  omega
theorem cbN_bd (t : List Int) (ht : t.length = 4) : 0 ≤ cbN t ∧ cbN t ≤ 4 := by
  have := crN_bd t ht
  unfold cbN
  omega
--@tbl countRuns = impl.countRuns
--@tbl countBoundaries = impl.countBoundaries
theorem countBoundaries_ok (R : List Int) (hR : R.length = 24) : PureH Try.prog 124 [.arr R] [] (.int (sumT cbN R 6)) := by
  have tkR : R.take 24 = R := List.take_of_length_le (by omega)
  refine pure_of_vc (X := ⟨Try.prog, tys, [], [(152, runs_F)], true, true, 0, [], []⟩) fn_124 ⟨tys_ok, .nil, (.cons runs_T .nil), mixed⟩ (n0 := 0) (Nat.le_of_ble_eq_true rfl) (by simp [wfL, SV.wf]) (wfH_spec (by simp [wfH, SObj.wf])) (Nat.le_refl _) (fun _ => by simp [SV.wf, wfL]) ?_
  simp -implicitDefEqProofs only [Try.f124, Option.getD_some, argS, runs_F, hR, tkR, ZB, Int.reduceToNat, Nat.reduceLT, Nat.reduceLeDiff, Int.reduceLE, Int.reduceLT, Nat.reduceEqDiff, Nat.reduceSub, SB, SV.known, packR, ne_eq, reduceCtorEq, Nat.reduceEqDiff, ↓reduceIte, if_true, if_false, eq_self, Nat.reduceAdd, Nat.reduceMul, Nat.reduceSub, forall_const, oneCellS, litOne, flat1, Kd.isSca, flat, TYB]
  refine loop_intro (fun i : Nat => [(8, .int i), (7, .arr R), (3, .int (sumT cbN R i)), (1, .ptr 0 0)]) (fun _ => [(0, .ints R 27)]) 1 (fun i => i ≤ 6) (fun i => 6 - i) ?_ ?_
  · refine ⟨0, ?_, Sub.mk_id ?_ ?_ ?_ ?_ ?_⟩
    all_goals (try (simp only [sumT_zero, LB, subS, subH, wfS, wfH, SV.ren, renL, SObj.ren, SV.wf, SObj.wf, wfL, SV.known, Nat.reduceEqDiff, ↓reduceIte, if_true, if_false, eq_self, Nat.reduceAdd, Nat.reduceLT, Nat.reduceLeDiff, implies_true, reduceCtorEq, forall_const]; done))
    all_goals (try (simp only [sumT_zero, LB, subS, subH, wfS, wfH, SV.ren, renL, SObj.ren, SV.wf, SObj.wf, wfL, SV.known, Nat.reduceEqDiff, ↓reduceIte, if_true, if_false, eq_self, Nat.reduceAdd, Nat.reduceLT, Nat.reduceLeDiff, implies_true, reduceCtorEq, forall_const]; simp; done))
    all_goals (try (simp only [sumT_zero, LB, subS, subH, wfS, wfH, SV.ren, renL, SObj.ren, SV.wf, SObj.wf, wfL, SV.known, Nat.reduceEqDiff, ↓reduceIte, if_true, if_false, eq_self, Nat.reduceAdd, Nat.reduceLT, Nat.reduceLeDiff, implies_true, reduceCtorEq, forall_const]; (and_intros <;> (first | omega | rfl | (simp; done) | (simp; omega))); done))
    all_goals (try dsimp only)
    all_goals (and_intros <;> try (first | omega | (unfold In64; omega) | trivial | assumption))
  · intro i hi
    have eT : List.take 4 (List.drop (i * 4) R) = tubeAt R i := rfl
    have bd := sumT_bd hR cbN_bd i hi
    by_cases hlt : i < 6
    · have hl := tubeAt_len hR hlt
      have tk4 : (tubeAt R i).take 4 = tubeAt R i := List.take_of_length_le (by omega)
      have es := sumT_succ cbN R i
      have cr := crN_bd _ hl
      have cb := cbN_bd _ hl
      have ec : (((runsL (tubeAt R i)).length / 2 : Nat) : Int) = crN (tubeAt R i) := rfl
      simp -implicitDefEqProofs only [lk_normal, runs_F, freshK, Wrap.ap, hR, eT, hl, tk4, ec, ZB, Int.reduceToNat, Nat.reduceLT, Nat.reduceLeDiff, Int.reduceLE, Int.reduceLT, Nat.reduceEqDiff, Nat.reduceSub, SB, SV.known, packR, ne_eq, reduceCtorEq, Nat.reduceEqDiff, ↓reduceIte, if_true, if_false, eq_self, Nat.reduceAdd, Nat.reduceMul, Nat.reduceSub, forall_const, oneCellS, litOne, flat1, Kd.isSca, flat, TYB]
      refine ⟨fun _ => ⟨by omega, by omega, fun h0 => ?_, fun h0 cap junk hj => ?_⟩, fun hx => absurd (by omega) hx⟩
      · have c0 : crN (tubeAt R i) = 0 := by simp [crN, h0]
        have c1 : cbN (tubeAt R i) = max (0 - 1) 0 := by rw [cbN, c0]
        rw [c1] at es
        (try (and_intros <;> try (first | omega | (unfold In64; omega) | trivial | assumption)))
        refine ⟨i + 1, ?_, ?_, Sub.mk_id ?_ ?_ ?_ ?_ ?_⟩
        all_goals (try (simp only [es, LB, subS, subH, wfS, wfH, SV.ren, renL, SObj.ren, SV.wf, SObj.wf, wfL, SV.known, Nat.reduceEqDiff, ↓reduceIte, if_true, if_false, eq_self, Nat.reduceAdd, Nat.reduceLT, Nat.reduceLeDiff, implies_true, reduceCtorEq, forall_const]; done))
        all_goals (try (simp only [es, LB, subS, subH, wfS, wfH, SV.ren, renL, SObj.ren, SV.wf, SObj.wf, wfL, SV.known, Nat.reduceEqDiff, ↓reduceIte, if_true, if_false, eq_self, Nat.reduceAdd, Nat.reduceLT, Nat.reduceLeDiff, implies_true, reduceCtorEq, forall_const]; simp; done))
        all_goals (try (simp only [es, LB, subS, subH, wfS, wfH, SV.ren, renL, SObj.ren, SV.wf, SObj.wf, wfL, SV.known, Nat.reduceEqDiff, ↓reduceIte, if_true, if_false, eq_self, Nat.reduceAdd, Nat.reduceLT, Nat.reduceLeDiff, implies_true, reduceCtorEq, forall_const]; (and_intros <;> (first | omega | rfl | (simp; done) | (simp; omega))); done))
        all_goals (try dsimp only)
        all_goals (and_intros <;> try (first | omega | (unfold In64; omega) | trivial | assumption))
      · have c1 : cbN (tubeAt R i) = max (crN (tubeAt R i) - 1) 0 := rfl
        rw [c1] at es
        (try (and_intros <;> try (first | omega | (unfold In64; omega) | trivial | assumption)))
        refine ⟨i + 1, ?_, ?_, Sub.mk_id ?_ ?_ ?_ ?_ ?_⟩
        all_goals (try (simp only [es, LB, subS, subH, wfS, wfH, SV.ren, renL, SObj.ren, SV.wf, SObj.wf, wfL, SV.known, Nat.reduceEqDiff, ↓reduceIte, if_true, if_false, eq_self, Nat.reduceAdd, Nat.reduceLT, Nat.reduceLeDiff, implies_true, reduceCtorEq, forall_const]; done))
        all_goals (try (simp only [es, LB, subS, subH, wfS, wfH, SV.ren, renL, SObj.ren, SV.wf, SObj.wf, wfL, SV.known, Nat.reduceEqDiff, ↓reduceIte, if_true, if_false, eq_self, Nat.reduceAdd, Nat.reduceLT, Nat.reduceLeDiff, implies_true, reduceCtorEq, forall_const]; simp; done))
        all_goals (try (simp only [es, LB, subS, subH, wfS, wfH, SV.ren, renL, SObj.ren, SV.wf, SObj.wf, wfL, SV.known, Nat.reduceEqDiff, ↓reduceIte, if_true, if_false, eq_self, Nat.reduceAdd, Nat.reduceLT, Nat.reduceLeDiff, implies_true, reduceCtorEq, forall_const]; (and_intros <;> (first | omega | rfl | (simp; done) | (simp; omega))); done))
        all_goals (try dsimp only)
        all_goals (and_intros <;> try (first | omega | (unfold In64; omega) | trivial | assumption))
    · obtain rfl : i = 6 := by omega
      simp -implicitDefEqProofs only [lk_normal, runs_F, freshK, Wrap.ap, hR, eT, ZB, Int.reduceToNat, Nat.reduceLT, Nat.reduceLeDiff, Int.reduceLE, Int.reduceLT, Nat.reduceEqDiff, Nat.reduceSub, SB, SV.known, packR, ne_eq, reduceCtorEq, Nat.reduceEqDiff, ↓reduceIte, if_true, if_false, eq_self, Nat.reduceAdd, Nat.reduceMul, Nat.reduceSub, forall_const, oneCellS, litOne, flat1, Kd.isSca, flat, TYB]
      (try (and_intros <;> try (first | omega | (unfold In64; omega) | trivial | assumption)))
def countBoundaries_F : List SV → Heap → Option (Prop × SV)
  | [.arr R], _ => some (R.length = 24, .int (sumT cbN R 6))
  | _, _ => none
theorem countBoundaries_T : ∀ args H p v, countBoundaries_F args H = some (p, v) → p → PureH Try.prog 124 args H v := by
  intro args H p v h hp
  unfold countBoundaries_F at h
  split at h
  · cases h; exact (countBoundaries_ok _ hp).any _
  · cases h
/-! Counts. -/
def incr (L : List Int) (j : Nat) : List Int := L.set j (L.getD j 0 + 1)
def cntL (l : List Int) : List Int := l.foldl (fun c x => incr c x.toNat) (List.replicate 6 0)
theorem cntL_nil : cntL [] = List.replicate 6 0 := rfl
theorem cntL_take_succ (l : List Int) (k : Nat) (h : k < l.length) : cntL (l.take (k + 1)) = incr (cntL (l.take k)) (l.getD k 0).toNat := by
  unfold cntL
  rw [List.take_succ_eq_append_getElem h, List.foldl_append]
  simp [List.getD, List.getElem?_eq_getElem h]
theorem foldl_len (l : List Int) : ∀ c : List Int, (l.foldl (fun c x => incr c x.toNat) c).length = c.length := by
  induction l with
  | nil => intro c; rfl
  | cons x l ih => intro c; rw [List.foldl_cons, ih]; simp [incr]
theorem cntL_len (l : List Int) : (cntL l).length = 6 := by unfold cntL; rw [foldl_len]; rfl
theorem incr_bd {L : List Int} {b : Int} (j : Nat) (h : ∀ k, 0 ≤ L.getD k 0 ∧ L.getD k 0 ≤ b) : ∀ k, 0 ≤ (incr L j).getD k 0 ∧ (incr L j).getD k 0 ≤ b + 1 := by
  intro k
  have h1 := h k
  have h2 := h j
  unfold incr
  simp only [List.getD, List.getElem?_set] at *
  split
  · split
    · simp; omega
    · simp; omega
  · omega
theorem foldl_bd (l : List Int) : ∀ (c : List Int) (b : Int), (∀ k, 0 ≤ c.getD k 0 ∧ c.getD k 0 ≤ b) → ∀ k, 0 ≤ (l.foldl (fun c x => incr c x.toNat) c).getD k 0 ∧ (l.foldl (fun c x => incr c x.toNat) c).getD k 0 ≤ b + l.length := by
  induction l with
  | nil => intro c b h k; simpa using h k
  | cons x l ih =>
    intro c b h k
    have := ih (incr c x.toNat) (b + 1) (incr_bd _ h) k
    rw [List.foldl_cons, List.length_cons]
    omega
theorem cntL_bd (l : List Int) (k : Nat) : 0 ≤ (cntL l).getD k 0 ∧ (cntL l).getD k 0 ≤ l.length := by
  have := foldl_bd l (List.replicate 6 0) 0 (fun k => by
    simp only [List.getD, List.getElem?_replicate]
    split <;> simp) k
  unfold cntL
  omega
def botL (R : List Int) : List Int := (List.range 6).map fun i => R.getD (i * 4) 0
theorem botL_len (R : List Int) : (botL R).length = 6 := by simp [botL]
theorem botL_getD (R : List Int) (i : Nat) (h : i < 6) : (botL R).getD i 0 = R.getD (i * 4) 0 := by simp [botL, List.getD, h]
theorem rack_cell {R : List Int} (hR : R.length = 24) (hr : rackB R = true) {k : Nat} (h : k < 24) : 0 ≤ R.getD k 0 ∧ R.getD k 0 ≤ 5 := by
  have := (rackB_iff R hR).1 hr (k / 4) (k % 4) (by omega) (by omega)
  unfold cB at this
  rw [show k / 4 * 4 + k % 4 = k by omega] at this
  exact this.1
--@tbl bottoms = impl.bottoms
--@tbl l6Bottoms = spec.l6Bottoms
theorem bottoms_ok (R : List Int) (hR : R.length = 24) (hr : rackB R = true) : PureH Try.prog 130 [.arr R] [] (.arr (cntL (botL R))) := by
  have tkR : R.take 24 = R := List.take_of_length_le (by omega)
  refine pure_of_vc (X := ⟨Try.prog, tys, [], [], true, true, 0, [], []⟩) fn_130 ⟨tys_ok, .nil, .nil, mixed⟩ (n0 := 0) (Nat.le_of_ble_eq_true rfl) (by simp [wfL, SV.wf]) (wfH_spec (by simp [wfH, SObj.wf])) (Nat.le_refl _) (fun _ => by simp [SV.wf, wfL]) ?_
  simp -implicitDefEqProofs only [Try.f130, Option.getD_some, argS, hR, tkR, ZB, Int.reduceToNat, Nat.reduceLT, Nat.reduceLeDiff, Int.reduceLE, Int.reduceLT, Nat.reduceEqDiff, Nat.reduceSub, SB, SV.known, packR, ne_eq, reduceCtorEq, Nat.reduceEqDiff, ↓reduceIte, if_true, if_false, eq_self, Nat.reduceAdd, Nat.reduceMul, Nat.reduceSub, forall_const, oneCellS, litOne, flat1, Kd.isSca, flat, TYB]
  refine loop_intro (fun i : Nat => [(8, .int i), (7, .arr R), (3, .ptr 2 0), (2, .ptr 1 0), (1, .ptr 0 0)]) (fun i => [(0, .ints R 27), (1, .ints (List.replicate 6 0) 51), (2, .ints (cntL ((botL R).take i)) 51)]) 3 (fun i => i ≤ 6) (fun i => 6 - i) ?_ ?_
  · refine ⟨0, ?_, Sub.mk_id ?_ ?_ ?_ ?_ ?_⟩
    all_goals (try (simp only [List.take_zero, cntL_nil, LB, subS, subH, wfS, wfH, SV.ren, renL, SObj.ren, SV.wf, SObj.wf, wfL, SV.known, Nat.reduceEqDiff, ↓reduceIte, if_true, if_false, eq_self, Nat.reduceAdd, Nat.reduceLT, Nat.reduceLeDiff, implies_true, reduceCtorEq, forall_const]; done))
    all_goals (try (simp only [List.take_zero, cntL_nil, LB, subS, subH, wfS, wfH, SV.ren, renL, SObj.ren, SV.wf, SObj.wf, wfL, SV.known, Nat.reduceEqDiff, ↓reduceIte, if_true, if_false, eq_self, Nat.reduceAdd, Nat.reduceLT, Nat.reduceLeDiff, implies_true, reduceCtorEq, forall_const]; simp; done))
    all_goals (try (simp only [List.take_zero, cntL_nil, LB, subS, subH, wfS, wfH, SV.ren, renL, SObj.ren, SV.wf, SObj.wf, wfL, SV.known, Nat.reduceEqDiff, ↓reduceIte, if_true, if_false, eq_self, Nat.reduceAdd, Nat.reduceLT, Nat.reduceLeDiff, implies_true, reduceCtorEq, forall_const]; (and_intros <;> (first | omega | rfl | (simp; done) | (simp; omega))); done))
    all_goals (try dsimp only)
    all_goals (and_intros <;> try (first | omega | (unfold In64; omega) | trivial | assumption))
  · intro i hi
    have eT : List.take 4 (List.drop (i * 4) R) = tubeAt R i := rfl
    have cl := cntL_len ((botL R).take i)
    by_cases hlt : i < 6
    · have hl := tubeAt_len hR hlt
      have tk4 : (tubeAt R i).take 4 = tubeAt R i := List.take_of_length_le (by omega)
      have rc := rack_cell hR hr (k := i * 4) (by omega)
      have e0 : (tubeAt R i).getD 0 0 = R.getD (i * 4) 0 := by rw [show i * 4 = i * 4 + 0 by omega]; exact cut_getD R i 0 (by omega)
      have es := cntL_take_succ (botL R) i (by rw [botL_len]; omega)
      rw [botL_getD R i hlt] at es
      have cb := cntL_bd ((botL R).take i) (R.getD (i * 4) 0).toNat
      have ll : ((botL R).take i).length = i := by rw [List.length_take, botL_len]; omega
      rw [ll] at cb
      simp -implicitDefEqProofs only [lk_normal, hR, eT, hl, tk4, cl, e0, ZB, Int.reduceToNat, Nat.reduceLT, Nat.reduceLeDiff, Int.reduceLE, Int.reduceLT, Nat.reduceEqDiff, Nat.reduceSub, SB, SV.known, packR, ne_eq, reduceCtorEq, Nat.reduceEqDiff, ↓reduceIte, if_true, if_false, eq_self, Nat.reduceAdd, Nat.reduceMul, Nat.reduceSub, forall_const, oneCellS, litOne, flat1, Kd.isSca, flat, TYB]
      refine ⟨fun _ => ?_, fun hx => absurd (by omega) hx⟩
      (try (and_intros <;> try (first | omega | (unfold In64; omega) | trivial | assumption)))
      refine ⟨i + 1, ?_, ?_, Sub.mk_id ?_ ?_ ?_ ?_ ?_⟩
      all_goals (try (simp only [es, incr, LB, subS, subH, wfS, wfH, SV.ren, renL, SObj.ren, SV.wf, SObj.wf, wfL, SV.known, Nat.reduceEqDiff, ↓reduceIte, if_true, if_false, eq_self, Nat.reduceAdd, Nat.reduceLT, Nat.reduceLeDiff, implies_true, reduceCtorEq, forall_const]; done))
      all_goals (try (simp only [es, incr, LB, subS, subH, wfS, wfH, SV.ren, renL, SObj.ren, SV.wf, SObj.wf, wfL, SV.known, Nat.reduceEqDiff, ↓reduceIte, if_true, if_false, eq_self, Nat.reduceAdd, Nat.reduceLT, Nat.reduceLeDiff, implies_true, reduceCtorEq, forall_const]; simp; done))
      all_goals (try (simp only [es, incr, LB, subS, subH, wfS, wfH, SV.ren, renL, SObj.ren, SV.wf, SObj.wf, wfL, SV.known, Nat.reduceEqDiff, ↓reduceIte, if_true, if_false, eq_self, Nat.reduceAdd, Nat.reduceLT, Nat.reduceLeDiff, implies_true, reduceCtorEq, forall_const]; (and_intros <;> (first | omega | rfl | (simp; done) | (simp; omega))); done))
      all_goals (try dsimp only)
      all_goals (and_intros <;> try (first | omega | (unfold In64; omega) | trivial | assumption))
    · obtain rfl : i = 6 := by omega
      have tk6 : (botL R).take 6 = botL R := List.take_of_length_le (by rw [botL_len]; omega)
      have cl2 := cntL_len (botL R)
      have tkc : (cntL (botL R)).take 6 = cntL (botL R) := List.take_of_length_le (by omega)
      simp -implicitDefEqProofs only [lk_normal, hR, eT, cl, cl2, tk6, tkc, ZB, Int.reduceToNat, Nat.reduceLT, Nat.reduceLeDiff, Int.reduceLE, Int.reduceLT, Nat.reduceEqDiff, Nat.reduceSub, SB, SV.known, packR, ne_eq, reduceCtorEq, Nat.reduceEqDiff, ↓reduceIte, if_true, if_false, eq_self, Nat.reduceAdd, Nat.reduceMul, Nat.reduceSub, forall_const, oneCellS, litOne, flat1, Kd.isSca, flat, TYB]
      (try (and_intros <;> try (first | omega | (unfold In64; omega) | trivial | assumption)))
def bottoms_F : List SV → Heap → Option (Prop × SV)
  | [.arr R], _ => some (R.length = 24 ∧ rackB R = true, .arr (cntL (botL R)))
  | _, _ => none
theorem bottoms_T : ∀ args H p v, bottoms_F args H = some (p, v) → p → PureH Try.prog 130 args H v := by
  intro args H p v h hp
  unfold bottoms_F at h
  split at h
  · cases h; exact (bottoms_ok _ hp.1 hp.2).any _
  · cases h
theorem l6Bottoms_ok (R : List Int) (hR : R.length = 24) (hr : rackB R = true) : PureH Try.prog 131 [.arr R] [] (.arr (cntL (botL R))) := by
  have tkR : R.take 24 = R := List.take_of_length_le (by omega)
  refine pure_of_vc (X := ⟨Try.prog, tys, [], [], true, true, 0, [], []⟩) fn_131 ⟨tys_ok, .nil, .nil, mixed⟩ (n0 := 0) (Nat.le_of_ble_eq_true rfl) (by simp [wfL, SV.wf]) (wfH_spec (by simp [wfH, SObj.wf])) (Nat.le_refl _) (fun _ => by simp [SV.wf, wfL]) ?_
  simp -implicitDefEqProofs only [Try.f131, Option.getD_some, argS, hR, tkR, ZB, Int.reduceToNat, Nat.reduceLT, Nat.reduceLeDiff, Int.reduceLE, Int.reduceLT, Nat.reduceEqDiff, Nat.reduceSub, SB, SV.known, packR, ne_eq, reduceCtorEq, Nat.reduceEqDiff, ↓reduceIte, if_true, if_false, eq_self, Nat.reduceAdd, Nat.reduceMul, Nat.reduceSub, forall_const, oneCellS, litOne, flat1, Kd.isSca, flat, TYB]
  refine loop_intro (fun i : Nat => [(4, .int i), (3, .ptr 2 0), (2, .ptr 1 0), (1, .ptr 0 0)]) (fun i => [(0, .ints R 27), (1, .ints (List.replicate 6 0) 51), (2, .ints (cntL ((botL R).take i)) 51)]) 3 (fun i => i ≤ 6) (fun i => 6 - i) ?_ ?_
  · refine ⟨0, ?_, Sub.mk_id ?_ ?_ ?_ ?_ ?_⟩
    all_goals (try (simp only [List.take_zero, cntL_nil, LB, subS, subH, wfS, wfH, SV.ren, renL, SObj.ren, SV.wf, SObj.wf, wfL, SV.known, Nat.reduceEqDiff, ↓reduceIte, if_true, if_false, eq_self, Nat.reduceAdd, Nat.reduceLT, Nat.reduceLeDiff, implies_true, reduceCtorEq, forall_const]; done))
    all_goals (try (simp only [List.take_zero, cntL_nil, LB, subS, subH, wfS, wfH, SV.ren, renL, SObj.ren, SV.wf, SObj.wf, wfL, SV.known, Nat.reduceEqDiff, ↓reduceIte, if_true, if_false, eq_self, Nat.reduceAdd, Nat.reduceLT, Nat.reduceLeDiff, implies_true, reduceCtorEq, forall_const]; simp; done))
    all_goals (try (simp only [List.take_zero, cntL_nil, LB, subS, subH, wfS, wfH, SV.ren, renL, SObj.ren, SV.wf, SObj.wf, wfL, SV.known, Nat.reduceEqDiff, ↓reduceIte, if_true, if_false, eq_self, Nat.reduceAdd, Nat.reduceLT, Nat.reduceLeDiff, implies_true, reduceCtorEq, forall_const]; (and_intros <;> (first | omega | rfl | (simp; done) | (simp; omega))); done))
    all_goals (try dsimp only)
    all_goals (and_intros <;> try (first | omega | (unfold In64; omega) | trivial | assumption))
  · intro i hi
    have cl := cntL_len ((botL R).take i)
    by_cases hlt : i < 6
    · have rc := rack_cell hR hr (k := i * 4) (by omega)
      have es := cntL_take_succ (botL R) i (by rw [botL_len]; omega)
      rw [botL_getD R i hlt] at es
      have cb := cntL_bd ((botL R).take i) (R.getD (i * 4) 0).toNat
      have ll : ((botL R).take i).length = i := by rw [List.length_take, botL_len]; omega
      rw [ll] at cb
      simp -implicitDefEqProofs only [lk_normal, hR, cl, ZB, Int.reduceToNat, Nat.reduceLT, Nat.reduceLeDiff, Int.reduceLE, Int.reduceLT, Nat.reduceEqDiff, Nat.reduceSub, SB, SV.known, packR, ne_eq, reduceCtorEq, Nat.reduceEqDiff, ↓reduceIte, if_true, if_false, eq_self, Nat.reduceAdd, Nat.reduceMul, Nat.reduceSub, forall_const, oneCellS, litOne, flat1, Kd.isSca, flat, TYB]
      refine ⟨fun _ => ?_, fun hx => absurd (by omega) hx⟩
      (try (and_intros <;> try (first | omega | (unfold In64; omega) | trivial | assumption)))
      refine ⟨i + 1, ?_, ?_, Sub.mk_id ?_ ?_ ?_ ?_ ?_⟩
      all_goals (try (simp only [es, incr, LB, subS, subH, wfS, wfH, SV.ren, renL, SObj.ren, SV.wf, SObj.wf, wfL, SV.known, Nat.reduceEqDiff, ↓reduceIte, if_true, if_false, eq_self, Nat.reduceAdd, Nat.reduceLT, Nat.reduceLeDiff, implies_true, reduceCtorEq, forall_const]; done))
      all_goals (try (simp only [es, incr, LB, subS, subH, wfS, wfH, SV.ren, renL, SObj.ren, SV.wf, SObj.wf, wfL, SV.known, Nat.reduceEqDiff, ↓reduceIte, if_true, if_false, eq_self, Nat.reduceAdd, Nat.reduceLT, Nat.reduceLeDiff, implies_true, reduceCtorEq, forall_const]; simp; done))
      all_goals (try (simp only [es, incr, LB, subS, subH, wfS, wfH, SV.ren, renL, SObj.ren, SV.wf, SObj.wf, wfL, SV.known, Nat.reduceEqDiff, ↓reduceIte, if_true, if_false, eq_self, Nat.reduceAdd, Nat.reduceLT, Nat.reduceLeDiff, implies_true, reduceCtorEq, forall_const]; (and_intros <;> (first | omega | rfl | (simp; done) | (simp; omega))); done))
      all_goals (try dsimp only)
      all_goals (and_intros <;> try (first | omega | (unfold In64; omega) | trivial | assumption))
    · obtain rfl : i = 6 := by omega
      have tk6 : (botL R).take 6 = botL R := List.take_of_length_le (by rw [botL_len]; omega)
      have cl2 := cntL_len (botL R)
      have tkc : (cntL (botL R)).take 6 = cntL (botL R) := List.take_of_length_le (by omega)
      simp -implicitDefEqProofs only [lk_normal, hR, cl, cl2, tk6, tkc, ZB, Int.reduceToNat, Nat.reduceLT, Nat.reduceLeDiff, Int.reduceLE, Int.reduceLT, Nat.reduceEqDiff, Nat.reduceSub, SB, SV.known, packR, ne_eq, reduceCtorEq, Nat.reduceEqDiff, ↓reduceIte, if_true, if_false, eq_self, Nat.reduceAdd, Nat.reduceMul, Nat.reduceSub, forall_const, oneCellS, litOne, flat1, Kd.isSca, flat, TYB]
      (try (and_intros <;> try (first | omega | (unfold In64; omega) | trivial | assumption)))
def l6Bottoms_F : List SV → Heap → Option (Prop × SV)
  | [.arr R], _ => some (R.length = 24 ∧ rackB R = true, .arr (cntL (botL R)))
  | _, _ => none
theorem l6Bottoms_T : ∀ args H p v, l6Bottoms_F args H = some (p, v) → p → PureH Try.prog 131 args H v := by
  intro args H p v h hp
  unfold l6Bottoms_F at h
  split at h
  · cases h; exact (l6Bottoms_ok _ hp.1 hp.2).any _
  · cases h
/-! The bound. -/
def bndF (R : List Int) : Int := sumT cbN R 6 + besF ((cntL (botL R)).drop 1)
theorem besF_bd (l : List Int) (b : Int) (hb : 0 ≤ b) (h : ∀ x ∈ l, x ≤ b) : 0 ≤ besF l ∧ besF l ≤ l.length * b := by
  induction l with
  | nil => simp [besF]
  | cons x l ih =>
    have := ih fun y hy => h y (by simp [hy])
    have hx := h x (by simp)
    have e : besF (x :: l) = max (x - 1) 0 + besF l := by simp [besF]
    rw [e, List.length_cons]
    have : ((l.length + 1 : Nat) : Int) * b = l.length * b + b := by rw [Int.natCast_add, Int.add_mul, Int.natCast_one, Int.one_mul]
    omega
theorem bots_bd (R : List Int) : ∀ x ∈ (cntL (botL R)).drop 1, x ≤ 6 := by
  intro x hx
  obtain ⟨k, hk, rfl⟩ := List.getElem_of_mem hx
  have := cntL_bd (botL R) (1 + k)
  rw [botL_len] at this
  simp only [List.length_drop] at hk
  simp only [List.getD, List.getElem?_eq_getElem (show 1 + k < (cntL (botL R)).length by omega), Option.getD_some] at this
  simp only [List.getElem_drop]
  exact this.2
theorem bnd_bd (R : List Int) (hR : R.length = 24) : 0 ≤ sumT cbN R 6 ∧ sumT cbN R 6 ≤ 24 ∧ 0 ≤ bndF R ∧ bndF R ≤ 54 ∧ ∀ k, 0 ≤ besF (((cntL (botL R)).drop 1).take k) ∧ besF (((cntL (botL R)).drop 1).take k) ≤ 30 := by
  have h1 := sumT_bd hR cbN_bd 6 (by omega)
  have h2 := besF_bd _ 6 (by omega) (bots_bd R)
  have cl := cntL_len (botL R)
  have h3 : ((cntL (botL R)).drop 1).length = 5 := by rw [List.length_drop, cl]
  rw [h3] at h2
  refine ⟨h1.1, by omega, ?_, ?_, fun k => ?_⟩
  · unfold bndF; omega
  · unfold bndF; omega
  · have h4 := besF_bd (((cntL (botL R)).drop 1).take k) 6 (by omega) fun x hx => bots_bd R x (List.mem_of_mem_take hx)
    have : (((cntL (botL R)).drop 1).take k).length ≤ 5 := by rw [List.length_take]; omega
    have : ((((cntL (botL R)).drop 1).take k).length : Int) * 6 ≤ 5 * 6 := by omega
    omega
--@tbl bound = impl.bound
theorem bound_ok (R : List Int) (hR : R.length = 24) (hr : rackB R = true) : PureH Try.prog 83 [.arr R] [] (.int (bndF R)) := by
  have tkR : R.take 24 = R := List.take_of_length_le (by omega)
  have cl := cntL_len (botL R)
  have tkc : (cntL (botL R)).take 6 = cntL (botL R) := List.take_of_length_le (by omega)
  have bb := bnd_bd R hR
  have c6 : cutOff 6 1 0 1 = 1 := rfl
  have d1 : ∀ k, (cntL (botL R)).getD (1 + k) 0 = ((cntL (botL R)).drop 1).getD k 0 := fun k => by simp [List.getD, Nat.add_comm]
  have l5 : ((cntL (botL R)).drop 1).length = 5 := by rw [List.length_drop, cl]
  refine pure_of_vc (X := ⟨Try.prog, tys, [(124, countBoundaries_F), (130, bottoms_F)], [], true, true, 0, [], []⟩) fn_83 ⟨tys_ok, (.cons countBoundaries_T (.cons bottoms_T .nil)), .nil, mixed⟩ (n0 := 0) (Nat.le_of_ble_eq_true rfl) (by simp [wfL, SV.wf]) (wfH_spec (by simp [wfH, SObj.wf])) (Nat.le_refl _) (fun _ => by simp [SV.wf, wfL]) ?_
  simp -implicitDefEqProofs only [Try.f83, Option.getD_some, argS, countBoundaries_F, bottoms_F, hR, tkR, hr, cl, tkc, ZB, Int.reduceToNat, Nat.reduceLT, Nat.reduceLeDiff, Int.reduceLE, Int.reduceLT, Nat.reduceEqDiff, Nat.reduceSub, SB, SV.known, packR, ne_eq, reduceCtorEq, Nat.reduceEqDiff, ↓reduceIte, if_true, if_false, eq_self, Nat.reduceAdd, Nat.reduceMul, Nat.reduceSub, forall_const, oneCellS, litOne, flat1, Kd.isSca, flat, TYB]
  refine loop_intro (fun i : Nat => [(13, .int i), (12, .int 5), (11, .slice 1 1 5 5), (3, .int (sumT cbN R 6 + besF (((cntL (botL R)).drop 1).take i)))]) (fun i => [(1, .ints (cntL (botL R)) 51)]) 2 (fun i => i ≤ 5) (fun i => 5 - i) ?_ ?_
  · have b0 : besF [] = 0 := rfl
    refine ⟨0, ?_, Sub.mk_id ?_ ?_ ?_ ?_ ?_⟩
    all_goals (try (simp only [List.take_zero, c6, b0, Int.add_zero, LB, subS, subH, wfS, wfH, SV.ren, renL, SObj.ren, SV.wf, SObj.wf, wfL, SV.known, Nat.reduceEqDiff, ↓reduceIte, if_true, if_false, eq_self, Nat.reduceAdd, Nat.reduceLT, Nat.reduceLeDiff, implies_true, reduceCtorEq, forall_const]; done))
    all_goals (try (simp only [List.take_zero, c6, b0, Int.add_zero, LB, subS, subH, wfS, wfH, SV.ren, renL, SObj.ren, SV.wf, SObj.wf, wfL, SV.known, Nat.reduceEqDiff, ↓reduceIte, if_true, if_false, eq_self, Nat.reduceAdd, Nat.reduceLT, Nat.reduceLeDiff, implies_true, reduceCtorEq, forall_const]; simp; done))
    all_goals (try (simp only [List.take_zero, c6, b0, Int.add_zero, LB, subS, subH, wfS, wfH, SV.ren, renL, SObj.ren, SV.wf, SObj.wf, wfL, SV.known, Nat.reduceEqDiff, ↓reduceIte, if_true, if_false, eq_self, Nat.reduceAdd, Nat.reduceLT, Nat.reduceLeDiff, implies_true, reduceCtorEq, forall_const]; (and_intros <;> (first | omega | rfl | (simp; done) | (simp; omega))); done))
    all_goals (try dsimp only)
    all_goals (and_intros <;> try (first | omega | (unfold In64; omega) | trivial | assumption))
  · intro i hi
    by_cases hlt : i < 5
    · have es := besF_take_succ ((cntL (botL R)).drop 1) i (by omega)
      have b1 := bb.2.2.2.2 i
      have b2 := bb.2.2.2.2 (i + 1)
      rw [es] at b2
      have cb := cntL_bd (botL R) (1 + i)
      rw [d1, botL_len] at cb
      simp -implicitDefEqProofs only [lk_normal, d1, cl, Int.add_assoc, ZB, Int.reduceToNat, Nat.reduceLT, Nat.reduceLeDiff, Int.reduceLE, Int.reduceLT, Nat.reduceEqDiff, Nat.reduceSub, SB, SV.known, packR, ne_eq, reduceCtorEq, Nat.reduceEqDiff, ↓reduceIte, if_true, if_false, eq_self, Nat.reduceAdd, Nat.reduceMul, Nat.reduceSub, forall_const, oneCellS, litOne, flat1, Kd.isSca, flat, TYB]
      refine ⟨fun _ => ?_, fun hx => absurd (by omega) hx⟩
      (try (and_intros <;> try (first | omega | (unfold In64; omega) | trivial | assumption)))
      refine ⟨i + 1, ?_, ?_, Sub.mk_id ?_ ?_ ?_ ?_ ?_⟩
      all_goals (try (simp only [es, LB, subS, subH, wfS, wfH, SV.ren, renL, SObj.ren, SV.wf, SObj.wf, wfL, SV.known, Nat.reduceEqDiff, ↓reduceIte, if_true, if_false, eq_self, Nat.reduceAdd, Nat.reduceLT, Nat.reduceLeDiff, implies_true, reduceCtorEq, forall_const]; done))
      all_goals (try (simp only [es, LB, subS, subH, wfS, wfH, SV.ren, renL, SObj.ren, SV.wf, SObj.wf, wfL, SV.known, Nat.reduceEqDiff, ↓reduceIte, if_true, if_false, eq_self, Nat.reduceAdd, Nat.reduceLT, Nat.reduceLeDiff, implies_true, reduceCtorEq, forall_const]; simp; done))
      all_goals (try (simp only [es, LB, subS, subH, wfS, wfH, SV.ren, renL, SObj.ren, SV.wf, SObj.wf, wfL, SV.known, Nat.reduceEqDiff, ↓reduceIte, if_true, if_false, eq_self, Nat.reduceAdd, Nat.reduceLT, Nat.reduceLeDiff, implies_true, reduceCtorEq, forall_const]; (and_intros <;> (first | omega | rfl | (simp; done) | (simp; omega))); done))
      all_goals (try dsimp only)
      all_goals (and_intros <;> try (first | omega | (unfold In64; omega) | trivial | assumption))
    · obtain rfl : i = 5 := by omega
      have tk5 : ((cntL (botL R)).drop 1).take 5 = (cntL (botL R)).drop 1 := List.take_of_length_le (by omega)
      simp -implicitDefEqProofs only [lk_normal, cl, tk5, ZB, Int.reduceToNat, Nat.reduceLT, Nat.reduceLeDiff, Int.reduceLE, Int.reduceLT, Nat.reduceEqDiff, Nat.reduceSub, SB, SV.known, packR, ne_eq, reduceCtorEq, Nat.reduceEqDiff, ↓reduceIte, if_true, if_false, eq_self, Nat.reduceAdd, Nat.reduceMul, Nat.reduceSub, forall_const, oneCellS, litOne, flat1, Kd.isSca, flat, TYB]
      (try (and_intros <;> try (first | omega | (unfold In64; omega) | trivial | assumption)))
def bound_F : List SV → Heap → Option (Prop × SV)
  | [.arr R], _ => some (R.length = 24 ∧ rackB R = true, .int (bndF R))
  | _, _ => none
theorem bound_T : ∀ args H p v, bound_F args H = some (p, v) → p → PureH Try.prog 83 args H v := by
  intro args H p v h hp
  unfold bound_F at h
  split at h
  · cases h; exact (bound_ok _ hp.1 hp.2).any _
  · cases h
--@tbl l6Runs = spec.l6Runs
theorem RL_last (t : List Int) (ht : t.length = 4) : ∀ i, 0 < i → i ≤ 4 → ∃ r n : Nat, (RL t i).length = n * 2 ∧ 0 < n ∧ (RL t i).getD (n * 2 - 2) 0 = t.getD (i - 1) 0 ∧ (RL t i).getD (n * 2 - 1) 0 = r ∧ 0 < r ∧ r ≤ i := by
  intro i
  induction i with
  | zero => intro h; omega
  | succ i ih =>
    intro _ hi
    rw [RL_succ t i (by omega)]
    by_cases hi0 : i = 0
    · subst hi0
      rw [RL_zero]
      exact ⟨1, 1, by simp [stepR], by omega, by simp [stepR], by simp [stepR], by omega, by omega⟩
    · obtain ⟨r, n, h1, h2, h3, h4, h5, h6⟩ := ih (by omega) (by omega)
      by_cases he : (RL t i).getD (n * 2 - 2) 0 = t.getD i 0
      · rw [stepR_eq h1 h2 he]
        refine ⟨r + 1, n, by simpa using h1, h2, ?_, ?_, by omega, by omega⟩
        · rw [show i + 1 - 1 = i by omega, ← he]
          simp only [List.getD, List.getElem?_set]
          rw [if_neg (by omega)]
        · rw [getD_set_self _ _ _ (by omega), h4]; omega
      · rw [stepR_ne h1 he]
        refine ⟨1, n + 1, by simp; omega, by omega, ?_, ?_, by omega, by omega⟩
        · rw [show (n + 1) * 2 - 2 = (RL t i).length + 0 by omega, getD_app_right]; rfl
        · rw [show (n + 1) * 2 - 1 = (RL t i).length + 1 by omega, getD_app_right]; rfl
theorem l2Runs_ok (t : List Int) (ht : t.length = 4) (hb : tubeB t = true) : FreshP Try.prog 154 [.arr t] [] (runsL t) ((runsL t).length / 2) 2 44 false .one := by
  have tk : t.take 4 = t := List.take_of_length_le (by omega)
  have hp := posC_lay t ht hb
  have hle := lay_le t ht
  refine fresh_of_vc (X := ⟨Try.prog, tys, [(135, l2Many_F)], [], true, true, 0, [], []⟩) fn_154 ⟨tys_ok, (.cons l2Many_T .nil), .nil, mixed⟩ (n0 := 0) rfl (Nat.le_of_ble_eq_true rfl) (by simp [wfL, SV.wf]) (wfH_spec (by simp [wfH, SObj.wf])) (Nat.le_refl _) ?_
  simp -implicitDefEqProofs only [Try.f154, Option.getD_some, argS, l2Many_F, ht, tk, hp, ZB, Int.reduceToNat, Nat.reduceLT, Nat.reduceLeDiff, Int.reduceLE, Int.reduceLT, Nat.reduceEqDiff, Nat.reduceSub, SB, SV.known, packR, ne_eq, reduceCtorEq, Nat.reduceEqDiff, ↓reduceIte, if_true, if_false, eq_self, Nat.reduceAdd, Nat.reduceMul, Nat.reduceSub, forall_const, oneCellS, litOne, flat1, Kd.isSca, flat, TYB]
  refine loop_intro (fun s : Nat × Nat × Nat × List Int => [(4, .int s.1), (3, .slice 1 0 s.2.1 s.2.2.1), (1, .ptr 0 0)]) (fun s => [(1, .ints (RL t s.1 ++ s.2.2.2) 44), (0, .ints t 24)]) 2
    (fun s => s.1 ≤ layN t ∧ (RL t s.1).length = s.2.1 * 2 ∧ s.2.1 ≤ s.1 ∧ s.2.2.2.length + s.2.1 * 2 = s.2.2.1 * 2) (fun s => layN t - s.1) ?_ ?_
  · refine ⟨(0, 0, 0, []), ?_, Sub.mk_id ?_ ?_ ?_ ?_ ?_⟩
    all_goals (try (simp only [RL_zero, List.append_nil, LB, subS, subH, wfS, wfH, SV.ren, renL, SObj.ren, SV.wf, SObj.wf, wfL, SV.known, Nat.reduceEqDiff, ↓reduceIte, if_true, if_false, eq_self, Nat.reduceAdd, Nat.reduceLT, Nat.reduceLeDiff, implies_true, reduceCtorEq, forall_const]; done))
    all_goals (try (simp only [RL_zero, List.append_nil, LB, subS, subH, wfS, wfH, SV.ren, renL, SObj.ren, SV.wf, SObj.wf, wfL, SV.known, Nat.reduceEqDiff, ↓reduceIte, if_true, if_false, eq_self, Nat.reduceAdd, Nat.reduceLT, Nat.reduceLeDiff, implies_true, reduceCtorEq, forall_const]; simp; done))
    all_goals (try (simp only [RL_zero, List.append_nil, LB, subS, subH, wfS, wfH, SV.ren, renL, SObj.ren, SV.wf, SObj.wf, wfL, SV.known, Nat.reduceEqDiff, ↓reduceIte, if_true, if_false, eq_self, Nat.reduceAdd, Nat.reduceLT, Nat.reduceLeDiff, implies_true, reduceCtorEq, forall_const]; (and_intros <;> (first | omega | rfl | (simp; done) | (simp; omega))); done))
    all_goals (try dsimp only)
    all_goals (and_intros <;> try (first | omega | (unfold In64; omega) | trivial | assumption))
    all_goals simp [RL_zero]
  · rintro ⟨i, n, cap, junk⟩ ⟨hi, hL, hni, hj⟩
    simp only at hi hL hni hj
    have hlst := RL_last t ht i
    have tkL : (RL t i ++ junk).take (n * 2) = RL t i := List.take_left' hL
    have lenL : (RL t i ++ junk).length = cap * 2 := by rw [List.length_append]; omega
    have ei : ((i : Int) - 1).toNat = i - 1 := by omega
    have e0 : ((n : Int) - 1).toNat * 2 = n * 2 - 2 := by omega
    by_cases hlt : i < layN t
    · have es := RL_succ t i (by omega)
      rcases Nat.eq_zero_or_pos i with h0 | h0
      · subst h0
        have en : n = 0 := by omega
        subst en
        rw [RL_zero] at es
        simp -implicitDefEqProofs only [lk_normal, l2Many_F, ht, tk, hp, tkL, lenL, ei, e0, ZB, Int.reduceToNat, Nat.reduceLT, Nat.reduceLeDiff, Int.reduceLE, Int.reduceLT, Nat.reduceEqDiff, Nat.reduceSub, SB, SV.known, packR, ne_eq, reduceCtorEq, Nat.reduceEqDiff, ↓reduceIte, if_true, if_false, eq_self, Nat.reduceAdd, Nat.reduceMul, Nat.reduceSub, forall_const, oneCellS, litOne, flat1, Kd.isSca, flat, TYB]
        refine ⟨fun _ => ?_, fun hx => absurd (by omega) hx⟩
        (try (and_intros <;> try (first | omega | (unfold In64; omega) | trivial | assumption)))
        intro junk' cap' hj'
        (try (and_intros <;> try (first | omega | (unfold In64; omega) | trivial | assumption)))
        have es1 : RL t 1 = [t.getD 0 0, 1] := RL_one t (by omega)
        refine ⟨(1, 1, cap', junk'), ?_, ?_, Sub.mk_to 1 3 ?_ ?_ ?_ ?_ ?_ ?_ ?_⟩
        all_goals (try (simp only [es1, RL_zero, LB, subS, subH, wfS, wfH, SV.ren, renL, SObj.ren, SV.wf, SObj.wf, wfL, SV.known, Nat.reduceEqDiff, ↓reduceIte, if_true, if_false, eq_self, Nat.reduceAdd, Nat.reduceLT, Nat.reduceLeDiff, implies_true, reduceCtorEq, forall_const]; done))
        all_goals (try (simp only [es1, RL_zero, LB, subS, subH, wfS, wfH, SV.ren, renL, SObj.ren, SV.wf, SObj.wf, wfL, SV.known, Nat.reduceEqDiff, ↓reduceIte, if_true, if_false, eq_self, Nat.reduceAdd, Nat.reduceLT, Nat.reduceLeDiff, implies_true, reduceCtorEq, forall_const]; simp; done))
        all_goals (try (simp only [es1, RL_zero, LB, subS, subH, wfS, wfH, SV.ren, renL, SObj.ren, SV.wf, SObj.wf, wfL, SV.known, Nat.reduceEqDiff, ↓reduceIte, if_true, if_false, eq_self, Nat.reduceAdd, Nat.reduceLT, Nat.reduceLeDiff, implies_true, reduceCtorEq, forall_const]; (and_intros <;> (first | omega | rfl | (simp; done) | (simp; omega))); done))
        all_goals (try dsimp only)
        all_goals (and_intros <;> try (first | omega | (unfold In64; omega) | trivial | assumption))
        all_goals (try (simp [es1, RL_zero]; done))
        all_goals (simp only [es1, RL_zero, LB, subS, subH, wfS, wfH, SV.ren, renL, SObj.ren, SV.wf, SObj.wf, wfL, SV.known, Nat.reduceEqDiff, ↓reduceIte, if_true, if_false, eq_self, Nat.reduceAdd, Nat.reduceLT, Nat.reduceLeDiff, implies_true, reduceCtorEq, forall_const]; simp)
      · obtain ⟨r, n', g1, g2, g3, g4, g5, g6⟩ := hlst h0 (by omega)
        have en : n' = n := by omega
        subst en
        have e1 : n' * 2 - 2 + 1 = n' * 2 - 1 := by omega
        have gd1 := getD_app (RL t i) junk (n' * 2 - 1) (by omega)
        have hs := fun x => set_app (RL t i) junk (n' * 2 - 1) x (by omega)
        simp -implicitDefEqProofs only [lk_normal, l2Many_F, ht, tk, hp, tkL, lenL, ei, e0, e1, gd1, hs, ZB, Int.reduceToNat, Nat.reduceLT, Nat.reduceLeDiff, Int.reduceLE, Int.reduceLT, Nat.reduceEqDiff, Nat.reduceSub, SB, SV.known, packR, ne_eq, reduceCtorEq, Nat.reduceEqDiff, ↓reduceIte, if_true, if_false, eq_self, Nat.reduceAdd, Nat.reduceMul, Nat.reduceSub, forall_const, oneCellS, litOne, flat1, Kd.isSca, flat, TYB]
        refine ⟨fun _ => ⟨fun _ => ?_, fun hx => absurd (by omega) hx⟩, fun hx => absurd (by omega) hx⟩
        (try (and_intros <;> try (first | omega | (unfold In64; omega) | trivial | assumption)))
        · intro he
          rw [stepR_eq g1 g2 (by rw [g3, he])] at es
          (try (and_intros <;> try (first | omega | (unfold In64; omega) | trivial | assumption)))
          refine ⟨(i + 1, n', cap, junk), ?_, ?_, Sub.mk_id ?_ ?_ ?_ ?_ ?_⟩
          all_goals (try (simp only [es, LB, subS, subH, wfS, wfH, SV.ren, renL, SObj.ren, SV.wf, SObj.wf, wfL, SV.known, Nat.reduceEqDiff, ↓reduceIte, if_true, if_false, eq_self, Nat.reduceAdd, Nat.reduceLT, Nat.reduceLeDiff, implies_true, reduceCtorEq, forall_const]; done))
          all_goals (try (simp only [es, LB, subS, subH, wfS, wfH, SV.ren, renL, SObj.ren, SV.wf, SObj.wf, wfL, SV.known, Nat.reduceEqDiff, ↓reduceIte, if_true, if_false, eq_self, Nat.reduceAdd, Nat.reduceLT, Nat.reduceLeDiff, implies_true, reduceCtorEq, forall_const]; simp; done))
          all_goals (try (simp only [es, LB, subS, subH, wfS, wfH, SV.ren, renL, SObj.ren, SV.wf, SObj.wf, wfL, SV.known, Nat.reduceEqDiff, ↓reduceIte, if_true, if_false, eq_self, Nat.reduceAdd, Nat.reduceLT, Nat.reduceLeDiff, implies_true, reduceCtorEq, forall_const]; (and_intros <;> (first | omega | rfl | (simp; done) | (simp; omega))); done))
          all_goals (try dsimp only)
          all_goals (and_intros <;> try (first | omega | (unfold In64; omega) | trivial | assumption))
          all_goals (rw [es]; simp; omega)
        · intro he
          rw [stepR_ne g1 (by rw [g3]; exact fun hx => he hx.symm)] at es
          (try (and_intros <;> try (first | omega | (unfold In64; omega) | trivial | assumption)))
          intro junk' cap' hj'
          (try (and_intros <;> try (first | omega | (unfold In64; omega) | trivial | assumption)))
          refine ⟨(i + 1, n' + 1, cap', junk'), ?_, ?_, Sub.mk_to 1 3 ?_ ?_ ?_ ?_ ?_ ?_ ?_⟩
          all_goals (try (simp only [es, LB, subS, subH, wfS, wfH, SV.ren, renL, SObj.ren, SV.wf, SObj.wf, wfL, SV.known, Nat.reduceEqDiff, ↓reduceIte, if_true, if_false, eq_self, Nat.reduceAdd, Nat.reduceLT, Nat.reduceLeDiff, implies_true, reduceCtorEq, forall_const]; done))
          all_goals (try (simp only [es, LB, subS, subH, wfS, wfH, SV.ren, renL, SObj.ren, SV.wf, SObj.wf, wfL, SV.known, Nat.reduceEqDiff, ↓reduceIte, if_true, if_false, eq_self, Nat.reduceAdd, Nat.reduceLT, Nat.reduceLeDiff, implies_true, reduceCtorEq, forall_const]; simp; done))
          all_goals (try (simp only [es, LB, subS, subH, wfS, wfH, SV.ren, renL, SObj.ren, SV.wf, SObj.wf, wfL, SV.known, Nat.reduceEqDiff, ↓reduceIte, if_true, if_false, eq_self, Nat.reduceAdd, Nat.reduceLT, Nat.reduceLeDiff, implies_true, reduceCtorEq, forall_const]; (and_intros <;> (first | omega | rfl | (simp; done) | (simp; omega))); done))
          all_goals (try dsimp only)
          all_goals (and_intros <;> try (first | omega | (unfold In64; omega) | trivial | assumption))
          all_goals (rw [es, List.length_append, g1]; simp; omega)
    · have hii : i = layN t := by omega
      have hr : runsL t = RL t i := by rw [hii]; rfl
      simp -implicitDefEqProofs only [lk_normal, l2Many_F, ht, tk, hp, tkL, lenL, ei, e0, ZB, Int.reduceToNat, Nat.reduceLT, Nat.reduceLeDiff, Int.reduceLE, Int.reduceLT, Nat.reduceEqDiff, Nat.reduceSub, SB, SV.known, packR, ne_eq, reduceCtorEq, Nat.reduceEqDiff, ↓reduceIte, if_true, if_false, eq_self, Nat.reduceAdd, Nat.reduceMul, Nat.reduceSub, forall_const, oneCellS, litOne, flat1, Kd.isSca, flat, TYB]
      refine ⟨fun hx => absurd hx (by omega), fun _ => ?_⟩
      refine .inr ⟨1, cap, junk, ?_, ?_, by omega, ?_, by simp⟩
      · rw [hr, hL]; simp [Wrap.ap]
      · rw [hr]; simp [hget_cons]
      · rw [hr]; omega
--@tbl l2Runs = spec.l2Runs
def l2Runs_F : List SV → Heap → Nat → Nat → K1 → Prop
  | [.arr t], H, n, _, κ => (t.length = 4 ∧ tubeB t = true) ∧ freshK .one (runsL t) ((runsL t).length / 2) 2 44 false H n κ
  | _, _, _, _, _ => False
theorem l2Runs_T : ∀ args H n m κ, l2Runs_F args H n m κ → GenOK Try.prog 154 args H n m κ := by
  intro args H n m κ h
  unfold l2Runs_F at h
  split at h
  · exact gen_of_fresh (l2Runs_ok _ h.1.1 h.1.2) (fun k o hk => by cases hk) h.2
  · exact h.elim
theorem l6Runs_ok (R : List Int) (hR : R.length = 24) (hr : rackB R = true) : PureH Try.prog 126 [.arr R] [] (.int (sumT crN R 6)) := by
  have tkR : R.take 24 = R := List.take_of_length_le (by omega)
  refine pure_of_vc (X := ⟨Try.prog, tys, [], [(154, l2Runs_F)], true, true, 0, [], []⟩) fn_126 ⟨tys_ok, .nil, (.cons l2Runs_T .nil), mixed⟩ (n0 := 0) (Nat.le_of_ble_eq_true rfl) (by simp [wfL, SV.wf]) (wfH_spec (by simp [wfH, SObj.wf])) (Nat.le_refl _) (fun _ => by simp [SV.wf, wfL]) ?_
  simp -implicitDefEqProofs only [Try.f126, Option.getD_some, argS, l2Runs_F, hR, tkR, ZB, Int.reduceToNat, Nat.reduceLT, Nat.reduceLeDiff, Int.reduceLE, Int.reduceLT, Nat.reduceEqDiff, Nat.reduceSub, SB, SV.known, packR, ne_eq, reduceCtorEq, Nat.reduceEqDiff, ↓reduceIte, if_true, if_false, eq_self, Nat.reduceAdd, Nat.reduceMul, Nat.reduceSub, forall_const, oneCellS, litOne, flat1, Kd.isSca, flat, TYB]
  refine loop_intro (fun i : Nat => [(4, .int i), (3, .int (sumT crN R i)), (1, .ptr 0 0)]) (fun _ => [(0, .ints R 27)]) 1 (fun i => i ≤ 6) (fun i => 6 - i) ?_ ?_
  · refine ⟨0, ?_, Sub.mk_id ?_ ?_ ?_ ?_ ?_⟩
    all_goals (try (simp only [sumT_zero, LB, subS, subH, wfS, wfH, SV.ren, renL, SObj.ren, SV.wf, SObj.wf, wfL, SV.known, Nat.reduceEqDiff, ↓reduceIte, if_true, if_false, eq_self, Nat.reduceAdd, Nat.reduceLT, Nat.reduceLeDiff, implies_true, reduceCtorEq, forall_const]; done))
    all_goals (try (simp only [sumT_zero, LB, subS, subH, wfS, wfH, SV.ren, renL, SObj.ren, SV.wf, SObj.wf, wfL, SV.known, Nat.reduceEqDiff, ↓reduceIte, if_true, if_false, eq_self, Nat.reduceAdd, Nat.reduceLT, Nat.reduceLeDiff, implies_true, reduceCtorEq, forall_const]; simp; done))
    all_goals (try (simp only [sumT_zero, LB, subS, subH, wfS, wfH, SV.ren, renL, SObj.ren, SV.wf, SObj.wf, wfL, SV.known, Nat.reduceEqDiff, ↓reduceIte, if_true, if_false, eq_self, Nat.reduceAdd, Nat.reduceLT, Nat.reduceLeDiff, implies_true, reduceCtorEq, forall_const]; (and_intros <;> (first | omega | rfl | (simp; done) | (simp; omega))); done))
    all_goals (try dsimp only)
    all_goals (and_intros <;> try (first | omega | (unfold In64; omega) | trivial | assumption))
  · intro i hi
    have eT : List.take 4 (List.drop (i * 4) R) = tubeAt R i := rfl
    have bd := sumT_bd hR crN_bd i hi
    by_cases hlt : i < 6
    · have hl := tubeAt_len hR hlt
      have hb := tubeAt_ok hr hlt
      have es := sumT_succ crN R i
      have cr := crN_bd _ hl
      have ec : (((runsL (tubeAt R i)).length / 2 : Nat) : Int) = crN (tubeAt R i) := rfl
      simp -implicitDefEqProofs only [lk_normal, l2Runs_F, freshK, Wrap.ap, hR, eT, hl, hb, ec, ZB, Int.reduceToNat, Nat.reduceLT, Nat.reduceLeDiff, Int.reduceLE, Int.reduceLT, Nat.reduceEqDiff, Nat.reduceSub, SB, SV.known, packR, ne_eq, reduceCtorEq, Nat.reduceEqDiff, ↓reduceIte, if_true, if_false, eq_self, Nat.reduceAdd, Nat.reduceMul, Nat.reduceSub, forall_const, oneCellS, litOne, flat1, Kd.isSca, flat, TYB]
      refine ⟨fun _ => ⟨by omega, by omega, ?_⟩, fun hx => absurd (by omega) hx⟩
      (try (and_intros <;> try (first | omega | (unfold In64; omega) | trivial | assumption)))
      intro cap junk hj
      (try (and_intros <;> try (first | omega | (unfold In64; omega) | trivial | assumption)))
      refine ⟨i + 1, ?_, ?_, Sub.mk_id ?_ ?_ ?_ ?_ ?_⟩
      all_goals (try (simp only [es, LB, subS, subH, wfS, wfH, SV.ren, renL, SObj.ren, SV.wf, SObj.wf, wfL, SV.known, Nat.reduceEqDiff, ↓reduceIte, if_true, if_false, eq_self, Nat.reduceAdd, Nat.reduceLT, Nat.reduceLeDiff, implies_true, reduceCtorEq, forall_const]; done))
      all_goals (try (simp only [es, LB, subS, subH, wfS, wfH, SV.ren, renL, SObj.ren, SV.wf, SObj.wf, wfL, SV.known, Nat.reduceEqDiff, ↓reduceIte, if_true, if_false, eq_self, Nat.reduceAdd, Nat.reduceLT, Nat.reduceLeDiff, implies_true, reduceCtorEq, forall_const]; simp; done))
      all_goals (try (simp only [es, LB, subS, subH, wfS, wfH, SV.ren, renL, SObj.ren, SV.wf, SObj.wf, wfL, SV.known, Nat.reduceEqDiff, ↓reduceIte, if_true, if_false, eq_self, Nat.reduceAdd, Nat.reduceLT, Nat.reduceLeDiff, implies_true, reduceCtorEq, forall_const]; (and_intros <;> (first | omega | rfl | (simp; done) | (simp; omega))); done))
      all_goals (try dsimp only)
      all_goals (and_intros <;> try (first | omega | (unfold In64; omega) | trivial | assumption))
    · obtain rfl : i = 6 := by omega
      simp -implicitDefEqProofs only [lk_normal, hR, eT, ZB, Int.reduceToNat, Nat.reduceLT, Nat.reduceLeDiff, Int.reduceLE, Int.reduceLT, Nat.reduceEqDiff, Nat.reduceSub, SB, SV.known, packR, ne_eq, reduceCtorEq, Nat.reduceEqDiff, ↓reduceIte, if_true, if_false, eq_self, Nat.reduceAdd, Nat.reduceMul, Nat.reduceSub, forall_const, oneCellS, litOne, flat1, Kd.isSca, flat, TYB]
      (try (and_intros <;> try (first | omega | (unfold In64; omega) | trivial | assumption)))
def l6Runs_F : List SV → Heap → Option (Prop × SV)
  | [.arr R], _ => some (R.length = 24 ∧ rackB R = true, .int (sumT crN R 6))
  | _, _ => none
theorem l6Runs_T : ∀ args H p v, l6Runs_F args H = some (p, v) → p → PureH Try.prog 126 args H v := by
  intro args H p v h hp
  unfold l6Runs_F at h
  split at h
  · cases h; exact (l6Runs_ok _ hp.1 hp.2).any _
  · cases h
/-! The model's boundaries. -/
theorem cnt0_sum : ∀ (l : List Int), (∀ x ∈ l, 0 ≤ x) → (cntL l).getD 0 0 = (l.map fun x => if x = 0 then (1 : Int) else 0).sum := by
  intro l
  have key : ∀ (l : List Int) (c : List Int), c.length = 6 → (∀ x ∈ l, 0 ≤ x) → (l.foldl (fun c x => incr c x.toNat) c).getD 0 0 = c.getD 0 0 + (l.map fun x => if x = 0 then (1 : Int) else 0).sum := by
    intro l
    induction l with
    | nil => intro c _ _; simp
    | cons x l ih =>
      intro c hc h
      have hx := h x (by simp)
      rw [List.foldl_cons, ih (incr c x.toNat) (by simp [incr, hc]) fun y hy => h y (by simp [hy])]
      simp only [List.map_cons, List.sum_cons]
      by_cases h0 : x = 0
      · subst h0
        rw [if_pos rfl, incr, show (0 : Int).toNat = 0 from rfl, getD_set_self _ _ _ (by omega)]
        omega
      · rw [if_neg h0]
        have : (incr c x.toNat).getD 0 0 = c.getD 0 0 := by
          simp only [incr, List.getD, List.getElem?_set]
          rw [if_neg (by omega)]
        rw [this]; omega
  intro h
  unfold cntL
  rw [key l _ (by simp) h]
  simp
theorem runs_bottom (t : List Int) (ht : t.length = 4) (hb : tubeB t = true) : (0 < layN t ↔ 0 < crN t) ∧ (t.getD 0 0 = 0 ↔ layN t = 0) := by
  have hle := lay_le t ht
  constructor
  · constructor
    · intro h
      obtain ⟨n, h1, h2, h3⟩ := runsL_even t ht
      have := h3 h
      unfold crN
      omega
    · intro h
      rcases Nat.eq_zero_or_pos (layN t) with h0 | h0
      · have : crN t = 0 := by simp [crN, runsL, h0]
        omega
      · exact h0
  · obtain ⟨a, b, c, d, rfl⟩ : ∃ a b c d, t = [a, b, c, d] := by
      match t, ht with
      | [a, b, c, d], _ => exact ⟨a, b, c, d, rfl⟩
    by_cases ha : a = 0
    · subst ha; simp [layN, isZ0, List.findIdx?_cons]
    · simp [layN, isZ0, List.findIdx?_cons, ha, Ne.symm ha]
theorem bnd_link (R : List Int) (hR : R.length = 24) (hr : rackB R = true) : sumT crN R 6 - 6 + (cntL (botL R)).getD 0 0 = sumT cbN R 6 := by
  rw [cnt0_sum (botL R) (by
    intro x hx
    obtain ⟨i, hi, rfl⟩ := List.mem_map.1 hx
    exact (rack_cell hR hr (k := i * 4) (by have := List.mem_range.1 hi; omega)).1)]
  have key : ∀ k, k ≤ 6 → sumT crN R k - k + (((List.range k).map fun i => R.getD (i * 4) 0).map fun x => if x = 0 then (1 : Int) else 0).sum = sumT cbN R k := by
    intro k
    induction k with
    | zero => intro _; simp [sumT_zero]
    | succ k ih =>
      intro hk
      have h1 := ih (by omega)
      have hl := tubeAt_len hR (i := k) (by omega)
      have hb := tubeAt_ok hr (i := k) (by omega)
      have rb := runs_bottom _ hl hb
      have e0 : (tubeAt R k).getD 0 0 = R.getD (k * 4) 0 := by rw [show k * 4 = k * 4 + 0 by omega]; exact cut_getD R k 0 (by omega)
      rw [e0] at rb
      have cb : cbN (tubeAt R k) = max (crN (tubeAt R k) - 1) 0 := rfl
      have c0 := (crN_bd _ hl).1
      rw [sumT_succ, sumT_succ, List.range_succ, List.map_append, List.map_append, List.sum_append]
      simp only [List.map_cons, List.map_nil, List.sum_cons, List.sum_nil]
      by_cases hz : R.getD (k * 4) 0 = 0
      · rw [if_pos hz]
        have := rb.2.1 hz
        have : ¬ 0 < crN (tubeAt R k) := fun h => by have := rb.1.2 h; omega
        omega
      · rw [if_neg hz]
        have : ¬ layN (tubeAt R k) = 0 := fun h => hz (rb.2.2 h)
        have := rb.1.1 (by omega)
        omega
  exact key 6 (by omega)
--@tbl l6Boundaries = spec.l6Boundaries
theorem l6Boundaries_ok (R : List Int) (hR : R.length = 24) (hr : rackB R = true) : PureH Try.prog 127 [.arr R] [] (.int (sumT cbN R 6)) := by
  have tkR : R.take 24 = R := List.take_of_length_le (by omega)
  have cl := cntL_len (botL R)
  have tkc : (cntL (botL R)).take 6 = cntL (botL R) := List.take_of_length_le (by omega)
  have bd := sumT_bd hR crN_bd 6 (by omega)
  have cb := cntL_bd (botL R) 0
  rw [botL_len] at cb
  have lk := bnd_link R hR hr
  refine pure_of_vc (X := ⟨Try.prog, tys, [(126, l6Runs_F), (131, l6Bottoms_F)], [], true, true, 0, [], []⟩) fn_127 ⟨tys_ok, (.cons l6Runs_T (.cons l6Bottoms_T .nil)), .nil, mixed⟩ (n0 := 0) (Nat.le_of_ble_eq_true rfl) (by simp [wfL, SV.wf]) (wfH_spec (by simp [wfH, SObj.wf])) (Nat.le_refl _) (fun _ => by simp [SV.wf, wfL]) ?_
  simp -implicitDefEqProofs only [Try.f127, Option.getD_some, argS, l6Runs_F, l6Bottoms_F, hR, tkR, hr, cl, tkc, ZB, Int.reduceToNat, Nat.reduceLT, Nat.reduceLeDiff, Int.reduceLE, Int.reduceLT, Nat.reduceEqDiff, Nat.reduceSub, SB, SV.known, packR, ne_eq, reduceCtorEq, Nat.reduceEqDiff, ↓reduceIte, if_true, if_false, eq_self, Nat.reduceAdd, Nat.reduceMul, Nat.reduceSub, forall_const, oneCellS, litOne, flat1, Kd.isSca, flat, TYB]
  (try (and_intros <;> try (first | omega | (unfold In64; omega) | trivial | assumption)))
def l6Boundaries_F : List SV → Heap → Option (Prop × SV)
  | [.arr R], _ => some (R.length = 24 ∧ rackB R = true, .int (sumT cbN R 6))
  | _, _ => none
theorem l6Boundaries_T : ∀ args H p v, l6Boundaries_F args H = some (p, v) → p → PureH Try.prog 127 args H v := by
  intro args H p v h hp
  unfold l6Boundaries_F at h
  split at h
  · cases h; exact (l6Boundaries_ok _ hp.1 hp.2).any _
  · cases h
--@tbl l6Bound = spec.l6Bound
theorem l6Bound_ok (R : List Int) (hR : R.length = 24) (hr : rackB R = true) : PureH Try.prog 82 [.arr R] [] (.int (bndF R)) := by
  have tkR : R.take 24 = R := List.take_of_length_le (by omega)
  have cl := cntL_len (botL R)
  have tkc : (cntL (botL R)).take 6 = cntL (botL R) := List.take_of_length_le (by omega)
  have bb := bnd_bd R hR
  have d1 : ∀ k, (cntL (botL R)).getD (1 + k) 0 = ((cntL (botL R)).drop 1).getD k 0 := fun k => by simp [List.getD, Nat.add_comm]
  have l5 : ((cntL (botL R)).drop 1).length = 5 := by rw [List.length_drop, cl]
  refine pure_of_vc (X := ⟨Try.prog, tys, [(127, l6Boundaries_F), (131, l6Bottoms_F), (145, l1Most_F)], [], true, true, 0, [], []⟩) fn_82 ⟨tys_ok, (.cons l6Boundaries_T (.cons l6Bottoms_T (.cons l1Most_T .nil))), .nil, mixed⟩ (n0 := 0) (Nat.le_of_ble_eq_true rfl) (by simp [wfL, SV.wf]) (wfH_spec (by simp [wfH, SObj.wf])) (Nat.le_refl _) (fun _ => by simp [SV.wf, wfL]) ?_
  simp -implicitDefEqProofs only [Try.f82, Option.getD_some, argS, l6Boundaries_F, l6Bottoms_F, l1Most_F, hR, tkR, hr, cl, tkc, ZB, Int.reduceToNat, Nat.reduceLT, Nat.reduceLeDiff, Int.reduceLE, Int.reduceLT, Nat.reduceEqDiff, Nat.reduceSub, SB, SV.known, packR, ne_eq, reduceCtorEq, Nat.reduceEqDiff, ↓reduceIte, if_true, if_false, eq_self, Nat.reduceAdd, Nat.reduceMul, Nat.reduceSub, forall_const, oneCellS, litOne, flat1, Kd.isSca, flat, TYB]
  refine loop_intro (fun i : Nat => [(5, .int (1 + i)), (3, .int (sumT cbN R 6 + besF (((cntL (botL R)).drop 1).take i))), (4, .ptr 1 0)]) (fun i => [(1, .ints (cntL (botL R)) 51)]) 2 (fun i => i ≤ 5) (fun i => 5 - i) ?_ ?_
  · have b0 : besF [] = 0 := rfl
    refine ⟨0, ?_, Sub.mk_id ?_ ?_ ?_ ?_ ?_⟩
    all_goals (try (simp only [List.take_zero, b0, Int.add_zero, LB, subS, subH, wfS, wfH, SV.ren, renL, SObj.ren, SV.wf, SObj.wf, wfL, SV.known, Nat.reduceEqDiff, ↓reduceIte, if_true, if_false, eq_self, Nat.reduceAdd, Nat.reduceLT, Nat.reduceLeDiff, implies_true, reduceCtorEq, forall_const]; done))
    all_goals (try (simp only [List.take_zero, b0, Int.add_zero, LB, subS, subH, wfS, wfH, SV.ren, renL, SObj.ren, SV.wf, SObj.wf, wfL, SV.known, Nat.reduceEqDiff, ↓reduceIte, if_true, if_false, eq_self, Nat.reduceAdd, Nat.reduceLT, Nat.reduceLeDiff, implies_true, reduceCtorEq, forall_const]; simp; done))
    all_goals (try (simp only [List.take_zero, b0, Int.add_zero, LB, subS, subH, wfS, wfH, SV.ren, renL, SObj.ren, SV.wf, SObj.wf, wfL, SV.known, Nat.reduceEqDiff, ↓reduceIte, if_true, if_false, eq_self, Nat.reduceAdd, Nat.reduceLT, Nat.reduceLeDiff, implies_true, reduceCtorEq, forall_const]; (and_intros <;> (first | omega | rfl | (simp; done) | (simp; omega))); done))
    all_goals (try dsimp only)
    all_goals (and_intros <;> try (first | omega | (unfold In64; omega) | trivial | assumption))
  · intro i hi
    have e1 : (1 + (i : Int)).toNat = 1 + i := by omega
    by_cases hlt : i < 5
    · have es := besF_take_succ ((cntL (botL R)).drop 1) i (by omega)
      have b1 := bb.2.2.2.2 i
      have b2 := bb.2.2.2.2 (i + 1)
      rw [es, Int.max_comm] at b2
      rw [Int.max_comm] at es
      have cb := cntL_bd (botL R) (1 + i)
      rw [d1, botL_len] at cb
      simp -implicitDefEqProofs only [lk_normal, l1Most_F, e1, d1, cl, Int.add_assoc, ZB, Int.reduceToNat, Nat.reduceLT, Nat.reduceLeDiff, Int.reduceLE, Int.reduceLT, Nat.reduceEqDiff, Nat.reduceSub, SB, SV.known, packR, ne_eq, reduceCtorEq, Nat.reduceEqDiff, ↓reduceIte, if_true, if_false, eq_self, Nat.reduceAdd, Nat.reduceMul, Nat.reduceSub, forall_const, oneCellS, litOne, flat1, Kd.isSca, flat, TYB]
      refine ⟨fun _ => ?_, fun hx => absurd (by omega) hx⟩
      (try (and_intros <;> try (first | omega | (unfold In64; omega) | trivial | assumption)))
      refine ⟨i + 1, ?_, ?_, Sub.mk_id ?_ ?_ ?_ ?_ ?_⟩
      all_goals (try (simp only [es, LB, subS, subH, wfS, wfH, SV.ren, renL, SObj.ren, SV.wf, SObj.wf, wfL, SV.known, Nat.reduceEqDiff, ↓reduceIte, if_true, if_false, eq_self, Nat.reduceAdd, Nat.reduceLT, Nat.reduceLeDiff, implies_true, reduceCtorEq, forall_const]; done))
      all_goals (try (simp only [es, LB, subS, subH, wfS, wfH, SV.ren, renL, SObj.ren, SV.wf, SObj.wf, wfL, SV.known, Nat.reduceEqDiff, ↓reduceIte, if_true, if_false, eq_self, Nat.reduceAdd, Nat.reduceLT, Nat.reduceLeDiff, implies_true, reduceCtorEq, forall_const]; simp; done))
      all_goals (try (simp only [es, LB, subS, subH, wfS, wfH, SV.ren, renL, SObj.ren, SV.wf, SObj.wf, wfL, SV.known, Nat.reduceEqDiff, ↓reduceIte, if_true, if_false, eq_self, Nat.reduceAdd, Nat.reduceLT, Nat.reduceLeDiff, implies_true, reduceCtorEq, forall_const]; (and_intros <;> (first | omega | rfl | (simp; done) | (simp; omega))); done))
      all_goals (try dsimp only)
      all_goals (and_intros <;> try (first | omega | (unfold In64; omega) | trivial | assumption))
    · obtain rfl : i = 5 := by omega
      have tk5 : ((cntL (botL R)).drop 1).take 5 = (cntL (botL R)).drop 1 := List.take_of_length_le (by omega)
      simp -implicitDefEqProofs only [lk_normal, cl, tk5, ZB, Int.reduceToNat, Nat.reduceLT, Nat.reduceLeDiff, Int.reduceLE, Int.reduceLT, Nat.reduceEqDiff, Nat.reduceSub, SB, SV.known, packR, ne_eq, reduceCtorEq, Nat.reduceEqDiff, ↓reduceIte, if_true, if_false, eq_self, Nat.reduceAdd, Nat.reduceMul, Nat.reduceSub, forall_const, oneCellS, litOne, flat1, Kd.isSca, flat, TYB]
      (try (and_intros <;> try (first | omega | (unfold In64; omega) | trivial | assumption)))
      intro _
      rfl
def l6Bound_F : List SV → Heap → Option (Prop × SV)
  | [.arr R], _ => some (R.length = 24 ∧ rackB R = true, .int (bndF R))
  | _, _ => none
theorem l6Bound_T : ∀ args H p v, l6Bound_F args H = some (p, v) → p → PureH Try.prog 82 args H v := by
  intro args H p v h hp
  unfold l6Bound_F at h
  split at h
  · cases h; exact (l6Bound_ok _ hp.1 hp.2).any _
  · cases h
end Go.Proofs.Ytopfnkmlgcjpbaa
set_option maxRecDepth 100000
set_option linter.unusedSimpArgs false
set_option linter.unusedVariables false
namespace Go.Proofs.Ytopfnkmlgcjpbaa
open Go Go.RowKit
/-! Colors counted. -/
--@tbl countColors = impl.countColors
--@tbl l2Counts = spec.l2Counts
/-! Views. -/
end Go.Proofs.Ytopfnkmlgcjpbaa
set_option maxRecDepth 100000
set_option linter.unusedSimpArgs false
set_option linter.unusedVariables false
namespace Go.Proofs.Ytopfnkmlgcjpbaa
open Go Go.RowKit

structure UpdP (P : Program) (f : FuncId) (args : List SV) (b : Nat) (H0 : Heap) (o o' : SObj) (r : SV) : Prop where
  ent : Entd P f
  lo : o.live = true
  wo : ∀ n, o'.wf n
  call : ∀ B w, HR B ((b, o) :: H0) w → Calls P f (denL B args).toArray w fun e w' => e = .returned (r.den B) ∧ Kept (fun i => i = B b ∨ w.heap.size ≤ i) w w' ∧ w'.heap[B b]? = some (o'.den B)

theorem upd_of_vc {X : Cx} {f : FuncId} {fn : Func} {c : Code} (hf : FnOK X.P f fn c X.sx X.hr) (hX : CxOK X) {n0 b : Nat} {args : List SV} {H0 : Heap} {o o' : SObj} {r : SV} (hb : b < n0) (hN : args.length ≤ fn.ntmps) (hwa : wfL n0 args) (hwH : hwf n0 ((b, o) :: H0)) (hm : ∀ k o1, hget H0 k = some o1 → k < X.m) (hlo : o.live = true) (hlo' : o'.live = true) (hwo : ∀ n, o'.wf n) (hwr : r.wf n0)
    (h : codeVC X n0 c (argS 0 args) ((b, o) :: H0) n0 (retK X.τ fn.results.toList fun v H' _ => v = r ∧ hget H' b = some o')) (hfo' : o'.full = true := by rfl) : UpdP X.P f args b H0 o o' r := by
  refine ⟨hf.ent, hlo, hwo, fun B w hH => ?_⟩
  have hown : Own (fun i => i = B b ∨ w.heap.size ≤ i) X.m B ((b, o) :: H0) := by
    intro k o1 hl _ hmk
    rw [hget_cons] at hl
    split at hl
    · rename_i hkb; subst hkb; exact .inl rfl
    · have := hm k o1 hl; omega
  refine (run_of_vc hf hX hN hwa hwH (Nat.le_refl _) h B (fun i => i = B b ∨ w.heap.size ≤ i) w hH hown (fun _ h => .inr h)).mono fun e w' hh => ?_
  obtain ⟨v, H', n', B', rfl, ⟨rfl, h2⟩, g1, g2, g3, g4, g5, g6, g7⟩ := hh
  refine ⟨?_, g5, ?_⟩
  · rw [SV.den_congr (n := n0) g6 v hwr]
  · have := SObj.den_of_sat hfo' (g3.at_ b o' h2 hlo')
    rw [g6 b hb] at this
    rw [this, SObj.den_congr (n := 0) (fun k hk => by omega) o' (hwo 0)]

theorem gen_of_upd {P : Program} {f : FuncId} {args : List SV} {b : Nat} {H0 H : Heap} {o o' : SObj} {r : SV} {n m : Nat} {κ : K1} (h : UpdP P f args b H0 o o' r) (ρ : Nat → Nat) (hs : ∀ k o1, hget ((b, o) :: H0) k = some o1 → hget H (ρ k) = some (o1.ren ρ))
    (hi : ∀ k o1 j o2, hget ((b, o) :: H0) k = some o1 → hget ((b, o) :: H0) j = some o2 → ρ k = ρ j → k = j) (hm : m ≤ ρ b) (hlo' : o'.live = true) (hwr : ∀ n, ρ b < n → (r.ren ρ).wf n) (hk : κ (r.ren ρ) ((ρ b, o') :: H) n) (hfo' : o'.full = true := by rfl) : GenOK P f (renL ρ args) H n m κ := by
  refine ⟨h.ent, fun B M w hH hwH hwa hown hM => ?_⟩
  have hb0 : hget H (ρ b) = some (o.ren ρ) := hs b o (by rw [hget_cons, if_pos rfl])
  have hlive : (o.ren ρ).live = true := by rw [SObj.live_ren]; exact h.lo
  have hR : HR (fun k => B (ρ k)) ((b, o) :: H0) w := ⟨fun k o1 hl hk1 => by
    have := hH.at_ _ _ (hs k o1 hl) (by rw [SObj.live_ren]; exact hk1)
    rw [SObj.sat_ren] at this
    exact this, fun k j o1 o2 h1 h2 h3 h4 he => hi k o1 j o2 h1 h3 (hH.inj _ _ _ _ (hs k o1 h1) (by rw [SObj.live_ren]; exact h2) (hs j o2 h3) (by rw [SObj.live_ren]; exact h4) he)⟩
  rw [denL_ren]
  refine (h.call _ w hR).mono fun e w' hh => ?_
  obtain ⟨rfl, hkept, hblk⟩ := hh
  have hbn := (hwH (ρ b) _ hb0).1
  have hden : o'.den (fun k => B (ρ k)) = o'.den B := by
    rw [SObj.den_congr (n := 0) (B := B) (B' := fun k => B (ρ k)) (fun k hk => by omega) o' (h.wo 0)]
  have off : ∀ k o1, hget H k = some o1 → o1.live = true → k ≠ ρ b → o1.sat B w' (B k) := fun k o1 hl hk1 hne => by
    have hlt := hH.lt hl hk1
    exact SObj.sat_heap (hkept.block (B k) hlt (fun hc => by
      rcases hc with hc | hc
      · exact hne (hH.inj k (ρ b) _ _ hl hk1 hb0 hlive hc)
      · omega)) (hH.at_ k o1 hl hk1)
  refine ⟨r.ren ρ, (ρ b, o') :: H, n, B, by rw [SV.den_ren], hk, Nat.le_refl _, hwr n hbn, hwf_cons hwH hbn (h.wo n), fun _ _ => rfl, ⟨fun k o1 hl hk1 => ?_, fun k j o1 o2 h1 h2 h3 h4 he => ?_⟩, ?_, ?_⟩
  · rw [hget_cons] at hl
    split at hl
    · rename_i hkb
      subst hkb
      cases hl
      exact SObj.sat_of_den hfo' (by rw [hblk, hden])
    · rename_i hkb
      exact off k o1 hl hk1 hkb
  · rw [hget_cons] at h1 h3
    have up : ∀ k o1, (if k = ρ b then some o' else hget H k) = some o1 → o1.live = true → ∃ o2, hget H k = some o2 ∧ o2.live = true := fun k o1 hl hk1 => by
      split at hl
      · rename_i hkb; rw [hkb]; exact ⟨_, hb0, hlive⟩
      · exact ⟨o1, hl, hk1⟩
    obtain ⟨p1, q1, r1⟩ := up k o1 h1 h2
    obtain ⟨p2, q2, r2⟩ := up j o2 h3 h4
    exact hH.inj k j p1 p2 q1 r1 q2 r2 he
  · intro k o1 hl hk1 hmk
    rw [hget_cons] at hl
    split at hl
    · rename_i hkb; rw [hkb]; exact hown (ρ b) _ hb0 hlive hm
    · exact hown k o1 hl hk1 hmk
  · refine ⟨hkept.os, hkept.tape, hkept.output, hkept.size, fun i hi1 hi2 => hkept.block i hi1 fun hc => ?_, hkept.drawn⟩
    rcases hc with hc | hc
    · rw [hc] at hi2; exact hi2 (hown (ρ b) _ hb0 hlive hm)
    · omega

/-- A heap that holds another one. -/
def Ext (Hc H : Heap) : Prop := ∀ k o, hget Hc k = some o → hget H k = some o
theorem Ext.refl (H : Heap) : Ext H H := fun _ _ h => h
theorem Ext.cons {Hc H : Heap} {b : Nat} {o : SObj} {n : Nat} (hw : hwf n Hc) (hb : n ≤ b) (h : Ext Hc H) : Ext Hc ((b, o) :: H) := fun k o1 hk => by
  have := (hw k o1 hk).1
  rw [hget_cons, if_neg (by omega)]
  exact h k o1 hk
theorem hget_app (l Hc : Heap) (k : Nat) : hget (l ++ Hc) k = (hget l k).or (hget Hc k) := by
  induction l with
  | nil => simp [hget]
  | cons q l ih =>
    obtain ⟨b, o⟩ := q
    rw [List.cons_append, hget_cons, hget_cons, ih]
    split <;> rfl
theorem Sub.mk_ext {p m : Nat} {S S' : Env} {H l Hc : Heap} {n' : Nat} (h1 : subS (fun k => k) S S') (h2 : subH (fun k => k) m H l) (h3 : wfS n' S') (h4 : wfH n' l) (h5 : p ≤ n') (hE : Ext Hc H) (hw : hwf n' Hc) : Sub p m S H S' (l ++ Hc) n' := by
  refine ⟨fun k => k, h1, fun k o hk => ?_, h3, fun k o hk => ?_, fun _ _ _ _ h => h, fun _ _ => rfl, h5⟩
  · rw [hget_app] at hk
    cases hl : hget l k with
    | none =>
      rw [hl] at hk
      simp at hk
      exact ⟨by rw [SObj.ren_id]; exact hE k o hk, fun h => h, by
        have := mem_keys hk
        simp only [List.map_append, List.mem_append]
        exact .inr this⟩
    | some o1 =>
      rw [hl] at hk
      simp at hk
      subst hk
      obtain ⟨g1, g2, g3⟩ := subH_spec h2 k o1 hl
      exact ⟨g1, g2, by simp only [List.map_append, List.mem_append]; exact .inl g3⟩
  · rw [hget_app] at hk
    cases hl : hget l k with
    | none => rw [hl] at hk; simp at hk; exact hw k o hk
    | some o1 => rw [hl] at hk; simp at hk; subst hk; exact wfH_spec h4 k o1 hl
end Go.Proofs.Ytopfnkmlgcjpbaa
set_option maxRecDepth 100000
set_option linter.unusedSimpArgs false
set_option linter.unusedVariables false
namespace Go.Proofs.Ytopfnkmlgcjpbaa
open Go Go.RowKit
def chk (L : List Int) (off len : Nat) : List (List Int) := (List.range len).map fun i => (L.drop (off + i * 2)).take 2
theorem chk_len (L : List Int) (off len : Nat) : (chk L off len).length = len := by simp [chk]
theorem chk_getD (L : List Int) (off len k : Nat) (h : k < len) : (chk L off len).getD k [] = (L.drop (off + k * 2)).take 2 := by simp [chk, List.getD, h]
theorem chk_succ (L : List Int) (off k : Nat) : chk L off (k + 1) = chk L off k ++ [(L.drop (off + k * 2)).take 2] := by
  unfold chk
  rw [List.range_succ, List.map_append]; rfl
/-- What is kept. -/
def kept (np : List Int → Bool) (L : List Int) (k : Nat) : List Int := ((chk L 0 k).filter np).flatten
theorem kept_zero (np : List Int → Bool) (L : List Int) : kept np L 0 = [] := rfl
theorem kept_succ (np : List Int → Bool) (L : List Int) (k : Nat) : kept np L (k + 1) = kept np L k ++ if np ((L.drop (k * 2)).take 2) = true then (L.drop (k * 2)).take 2 else [] := by
  unfold kept
  rw [chk_succ, List.filter_append, List.flatten_append, Nat.zero_add]
  congr 1
  simp only [List.filter_cons, List.filter_nil]
  split <;> simp
theorem kept_even (np : List Int → Bool) (L : List Int) : ∀ k, k * 2 ≤ L.length → ∃ i, (kept np L k).length = i * 2 ∧ i ≤ k
  | 0, _ => ⟨0, rfl, by omega⟩
  | k + 1, h => by
    obtain ⟨i, h1, h2⟩ := kept_even np L k (by omega)
    rw [kept_succ, List.length_append, h1]
    split
    · exact ⟨i + 1, by rw [List.length_take, List.length_drop]; omega, by omega⟩
    · exact ⟨i, by simp, by omega⟩
theorem kept_all {np : List Int → Bool} {L : List Int} : ∀ k, k * 2 ≤ L.length → (∀ i, i < k → np ((L.drop (i * 2)).take 2) = true) → kept np L k = L.take (k * 2)
  | 0, _, _ => by simp [kept_zero]
  | k + 1, h, hn => by
    rw [kept_succ, if_pos (hn k (by omega)), kept_all k (by omega) fun i hi => hn i (by omega), show (k + 1) * 2 = k * 2 + 2 by omega, List.take_add]
theorem kept_app (np : List Int → Bool) (L M : List Int) : ∀ k, k * 2 ≤ L.length → kept np (L ++ M) k = kept np L k
  | 0, _ => rfl
  | k + 1, h => by
    have e : ((L ++ M).drop (k * 2)).take 2 = (L.drop (k * 2)).take 2 := by
      rw [List.drop_append_of_le_length (by omega), List.take_append_of_le_length (by rw [List.length_drop]; omega)]
    rw [kept_succ, kept_succ, kept_app np L M k (by omega), e]

theorem indexFuncP_ok (g : Nat) (caps : List SV) (H Hc : Heap) (pr : List Int → Bool) (n0 b : Nat) (L : List Int) (e len cap : Nat) (hb : hget H b = some (.ints L e)) (hl : len * 2 ≤ L.length) (hm : len ≤ 9223372036854775806)
    (Q : List Int → Prop) (hQ : ∀ i, i < len → Q ((L.drop (i * 2)).take 2)) (hc : ∀ x : List Int, Q x → PureH Try.prog g (.arr x :: caps) Hc (.bool (pr x))) (hE : Ext Hc H) (hw : wfL n0 caps) (hwH : hwf n0 H) :
    PureH Try.prog 150 [.slice b 0 len cap, .fn g caps] H (.int (idxG pr (chk L 0 len))) := by
  have hE2 := chk_len L 0 len
  have h00 : b < n0 := (hwH b _ hb).1
  refine pure_of_vc (X := ⟨Try.prog, tys, [(g, fun args H' => match args with | .arr x :: r => some (r = caps ∧ Ext Hc H' ∧ Q x, .bool (pr x)) | _ => none)], [], true, true, n0, [], []⟩) fn_150
    ⟨tys_ok, .cons (fun args H' p v h hp => ?_) .nil, .nil, mixed⟩ (n0 := n0) (Nat.le_of_ble_eq_true rfl) ⟨by simpa [SV.wf] using h00, by simpa [SV.wf] using hw, trivial⟩ hwH (Nat.le_refl _) (fun _ => trivial) ?_
  · split at h
    · cases h
      obtain ⟨rfl, hx1, hx⟩ := hp
      exact (hc _ hx).weaken hx1 (fun _ => trivial)
    · cases h
  simp -implicitDefEqProofs only [Try.f150, Option.getD_some, argS, hb, SB, SV.known, packR, ne_eq, reduceCtorEq, Nat.reduceEqDiff, ↓reduceIte, if_true, if_false, eq_self, Nat.reduceAdd, Nat.reduceMul, Nat.reduceSub, forall_const, oneCellS, litOne, flat1, Kd.isSca, flat, TYB]
  refine loop_intro (fun i : Nat => [(0, .slice b 0 len cap), (1, .fn g caps), (7, .int len), (8, .int i)]) (fun i => H) n0 (fun i => i ≤ len ∧ ∀ k, k < i → pr ((chk L 0 len).getD k []) = false) (fun i => len - i) ?_ ?_
  · refine ⟨0, ⟨by omega, by simp⟩, Sub.same ?_ ?_ hwH (Nat.le_refl _)⟩
    · simp [subS, subH, wfS, wfH, SV.ren, renL, SObj.ren, SV.wf, SObj.wf, wfL, sget_cons, hget_cons, SV.known, renL_id]
    · simp [subS, subH, wfS, wfH, SV.ren, renL, SObj.ren, SV.wf, SObj.wf, wfL, sget_cons, hget_cons, hw, h00]
  · intro i hi
    obtain ⟨hi1, hi2⟩ := hi
    simp -implicitDefEqProofs only [lk_normal, hb, SB, SV.known, packR, ne_eq, reduceCtorEq, Nat.reduceEqDiff, ↓reduceIte, if_true, if_false, eq_self, Nat.reduceAdd, Nat.reduceMul, Nat.reduceSub, forall_const, oneCellS, litOne, flat1, Kd.isSca, flat, TYB]
    refine ⟨fun h => ?_, fun h => ?_⟩
    · have hlt : i < len := by omega
      have e1 : 0 + (i : Int).toNat * 2 = i * 2 := by simp
      have e2 : (L.drop (i * 2)).take 2 = (chk L 0 len).getD i [] := by rw [chk_getD L 0 len i hlt, Nat.zero_add]
      have e3 : Q ((chk L 0 len).getD i []) := by rw [← e2]; exact hQ i hlt
      simp only [Int.toNat_natCast, Nat.zero_add, e2]
      refine ⟨by omega, by omega, by omega, ⟨hE, e3⟩, ?_⟩
      cases hp : pr ((chk L 0 len).getD i []) with
      | true =>
        simp -implicitDefEqProofs only [SB, SV.known, packR, ne_eq, reduceCtorEq, Nat.reduceEqDiff, ↓reduceIte, if_true, if_false, eq_self, Nat.reduceAdd, Nat.reduceMul, Nat.reduceSub, forall_const, oneCellS, litOne, flat1, Kd.isSca, flat, TYB]
        rw [idxG_hit (by omega) hp hi2]
      | false =>
        simp -implicitDefEqProofs only [lk_normal, SB, SV.known, packR, ne_eq, reduceCtorEq, Nat.reduceEqDiff, ↓reduceIte, if_true, if_false, eq_self, Nat.reduceAdd, Nat.reduceMul, Nat.reduceSub, forall_const, oneCellS, litOne, flat1, Kd.isSca, flat, TYB]
        refine ⟨by unfold In64; omega, i + 1, ⟨by omega, fun k hk => ?_⟩, by omega, Sub.same ?_ ?_ hwH (Nat.le_refl _)⟩
        · by_cases hki : k = i
          · subst hki; exact hp
          · exact hi2 k (by omega)
        · simp [subS, subH, wfS, wfH, SV.ren, renL, SObj.ren, SV.wf, SObj.wf, wfL, sget_cons, hget_cons, SV.known, renL_id]
        · simp [subS, subH, wfS, wfH, SV.ren, renL, SObj.ren, SV.wf, SObj.wf, wfL, sget_cons, hget_cons, hw, h00]
    · obtain rfl : i = len := by omega
      rw [idxG_none (by rw [hE2]; exact hi2)]
theorem idxG_none' {α : Type} {pr : α → Bool} {l : List α} (d : α) (h : idxG pr l < 0) : idxG pr l = -1 ∧ ∀ k, k < l.length → pr (l.getD k d) = false := by
  unfold idxG at h ⊢
  cases hf : l.findIdx? pr with
  | none =>
    refine ⟨rfl, fun k hk => ?_⟩
    have := (List.findIdx?_eq_none_iff).1 hf l[k] (List.getElem_mem hk)
    simpa [List.getD, List.getElem?_eq_getElem hk] using this
  | some k => rw [hf] at h; simp at h; omega
theorem idxG_some' {α : Type} {pr : α → Bool} {l : List α} (d : α) (h : ¬ idxG pr l < 0) : ∃ i : Nat, idxG pr l = (i : Int) ∧ i < l.length ∧ pr (l.getD i d) = true ∧ ∀ k : Nat, k < i → pr (l.getD k d) = false := by
  unfold idxG at h ⊢
  cases hf : l.findIdx? pr with
  | none => rw [hf] at h; simp at h
  | some k =>
    obtain ⟨hk, hp, hn⟩ := List.findIdx?_eq_some_iff_getElem.1 hf
    refine ⟨k, rfl, hk, by simpa [List.getD, List.getElem?_eq_getElem hk] using hp, fun j hj => ?_⟩
    have := hn j hj
    simpa [List.getD, List.getElem?_eq_getElem (show j < l.length by omega)] using this
theorem deleteFunc_ok (g : Nat) (hg : g ≠ 150) (caps : List SV) (Hc : Heap) (pr : List Int → Bool) (b : Nat) (L : List Int) (e len cap : Nat) (hlen : L.length = cap * 2) (hlc : len ≤ cap) (hm : len ≤ 4611686018427387903)
    (Q : List Int → Prop) (hQ : ∀ i, i < len → Q ((L.drop (i * 2)).take 2)) (hc : ∀ x : List Int, Q x → PureH Try.prog g (.arr x :: caps) Hc (.bool (pr x))) (hw : wfL b caps) (hwH : hwf b Hc) :
    UpdP Try.prog 110 [.slice b 0 len cap, .fn g caps] b Hc (.ints L e)
      (.ints (kept (fun x => !pr x) L len ++ List.replicate (len * 2 - (kept (fun x => !pr x) L len).length) 0 ++ L.drop (len * 2)) e) (.slice b 0 ((kept (fun x => !pr x) L len).length / 2) cap) := by
  have hl2 : len * 2 ≤ L.length := by omega
  have hb0 : hget ((b, SObj.ints L e) :: Hc) b = some (.ints L e) := by rw [hget_cons, if_pos rfl]
  have hwf1 : ∀ o : SObj, (∀ n, o.wf n) → hwf (b + 1) ((b, o) :: Hc) := fun o ho => hwf_cons (hwf_mono (by omega) hwH) (by omega) (ho _)
  have hw1 : wfL (b + 1) caps := wfL_mono (by omega) caps hw
  have hE : ∀ o : SObj, Ext Hc ((b, o) :: Hc) := fun o => Ext.cons hwH (Nat.le_refl _) (Ext.refl Hc)
  refine upd_of_vc (X := ⟨Try.prog, tys, [(150, fun args H' => some (args = [.slice b 0 len cap, .fn g caps] ∧ H' = (b, .ints L e) :: Hc, .int (idxG pr (chk L 0 len)))),
      (g, fun args H' => match args with | .arr x :: r => some (r = caps ∧ Ext Hc H' ∧ Q x, .bool (pr x)) | _ => none)], [], true, true, b, [], []⟩) fn_110
    ⟨tys_ok, .cons (fun args H' p v h hp => ?_) (.cons (fun args H' p v h hp => ?_) .nil), .nil, mixed⟩ (n0 := b + 1) (by omega) (Nat.le_of_ble_eq_true rfl) ⟨by simp [SV.wf], by simpa [SV.wf] using hw1, trivial⟩ (hwf1 _ fun _ => trivial) (fun k o1 hk => (hwH k o1 hk).1) rfl rfl (fun _ => trivial) (by simp [SV.wf]) ?_
  · cases h
    obtain ⟨rfl, rfl⟩ := hp
    exact indexFuncP_ok g caps _ Hc pr (b + 1) b L e len cap hb0 hl2 (by omega) Q hQ hc (hE _) hw1 (hwf1 _ fun _ => trivial)
  · split at h
    · cases h
      obtain ⟨rfl, hx1, hx⟩ := hp
      exact (hc _ hx).weaken hx1 (fun _ => trivial)
    · cases h
  simp -implicitDefEqProofs only [Try.f110, Option.getD_some, argS, hb0, hg, SB, SV.known, packR, ne_eq, reduceCtorEq, Nat.reduceEqDiff, ↓reduceIte, if_true, if_false, eq_self, Nat.reduceAdd, Nat.reduceMul, Nat.reduceSub, forall_const, oneCellS, litOne, flat1, Kd.isSca, flat, TYB]
  have hkl := kept_even (fun x => !pr x) L len hl2
  have hwc : hwf (b + 1) Hc := hwf_mono (by omega) hwH
  by_cases hneg : idxG pr (chk L 0 len) < 0
  · obtain ⟨h1, h2⟩ := idxG_none' [] hneg
    have hk : kept (fun x => !pr x) L len = L.take (len * 2) := kept_all len hl2 fun i hi => by
      have := h2 i (by rw [chk_len]; exact hi)
      rw [chk_getD L 0 len i hi, Nat.zero_add] at this
      simp [this]
    have hkl : (L.take (len * 2)).length = len * 2 := by rw [List.length_take]; omega
    rw [h1, hk, hkl]
    refine ⟨fun _ => ⟨?_, ?_⟩, fun hx => absurd rfl hx⟩
    · rw [show len * 2 / 2 = len by omega]
    · simp
  · obtain ⟨i0, h1, h2, h3, h4⟩ := idxG_some' [] hneg
    rw [chk_len] at h2
    rw [chk_getD L 0 len i0 h2, Nat.zero_add] at h3
    have hk0 : kept (fun x => !pr x) L i0 = L.take (i0 * 2) := kept_all i0 (by omega) fun i hi => by
      have := h4 i hi
      rw [chk_getD L 0 len i (by omega), Nat.zero_add] at this
      simp [this]
    have hk1 : kept (fun x => !pr x) L (i0 + 1) = L.take (i0 * 2) := by
      rw [kept_succ, hk0, h3]; simp
    rw [h1]
    refine ⟨fun hx => absurd hx (by omega), fun _ => ?_⟩
    (try (and_intros <;> try (first | omega | (unfold In64; omega) | trivial | assumption)))
    refine loop_intro (fun s : Nat × Nat × List Int => [(6, .int s.1), (5, .int s.2.1), (0, .slice b 0 len cap), (1, .fn g caps)]) (fun s => [(b, .ints (kept (fun x => !pr x) L s.1 ++ s.2.2 ++ L.drop (s.1 * 2)) e)] ++ Hc) (b + 1)
      (fun s => s.1 ≤ len ∧ (kept (fun x => !pr x) L s.1).length = s.2.1 * 2 ∧ s.2.1 < s.1 ∧ s.2.2.length + s.2.1 * 2 = s.1 * 2) (fun s => len - s.1) ?_ ?_
    · have e1 : (L.drop (i0 * 2)).take 2 ++ L.drop ((i0 + 1) * 2) = L.drop (i0 * 2) := by
        rw [show (i0 + 1) * 2 = i0 * 2 + 2 by omega, ← List.drop_drop]; exact List.take_append_drop 2 _
      refine ⟨(i0 + 1, i0, (L.drop (i0 * 2)).take 2), ⟨by simp only; omega, by simp only; rw [hk1, List.length_take]; omega, by simp only; omega, by simp only; rw [List.length_take, List.length_drop]; omega⟩, Sub.mk_ext ?_ ?_ ?_ ?_ (Nat.le_refl _) (hE _) hwc⟩
      · simp [subS, subH, wfS, wfH, SV.ren, renL, SObj.ren, SV.wf, SObj.wf, wfL, sget_cons, hget_cons, SV.known, renL_id]
      · rw [hk1, List.append_assoc, e1, List.take_append_drop]
        simp [subS, subH, wfS, wfH, SV.ren, renL, SObj.ren, SV.wf, SObj.wf, wfL, sget_cons, hget_cons]
      · simp [subS, subH, wfS, wfH, SV.ren, renL, SObj.ren, SV.wf, SObj.wf, wfL, sget_cons, hget_cons, hw1]
      · simp [subS, subH, wfS, wfH, SV.ren, renL, SObj.ren, SV.wf, SObj.wf, wfL, sget_cons, hget_cons]
    · rintro ⟨j, i, mid⟩ ⟨g1, g2, g3, g4⟩
      simp only at g1 g2 g3 g4
      have lenL : (kept (fun x => !pr x) L j ++ mid ++ L.drop (j * 2)).length = cap * 2 := by
        rw [List.length_append, List.length_append, List.length_drop]; omega
      by_cases hlt : j < len
      · have ex : ((kept (fun x => !pr x) L j ++ mid ++ L.drop (j * 2)).drop (j * 2)).take 2 = (L.drop (j * 2)).take 2 := by
          rw [List.drop_left' (by rw [List.length_append]; omega)]
        have l2 : ((L.drop (j * 2)).take 2).length = 2 := by rw [List.length_take, List.length_drop]; omega
        have es := kept_succ (fun x => !pr x) L j
        have tt : List.take 2 ((L.drop (j * 2)).take 2) = (L.drop (j * 2)).take 2 := by simp [List.take_take]
        have hjl : (j : Int) < len := by omega
        have hQj := hQ j hlt
        have dl : (L.drop (j * 2)).take 2 ++ L.drop ((j + 1) * 2) = L.drop (j * 2) := by
          rw [show (j + 1) * 2 = j * 2 + 2 by omega, ← List.drop_drop]; exact List.take_append_drop 2 _
        have hE2 : ∀ o1 o2 o3 : SObj, Ext Hc ((b + 1, o1) :: (b + 1, o2) :: (b, o3) :: Hc) := fun o1 o2 o3 => Ext.cons hwH (by omega) (Ext.cons hwH (by omega) (hE _))
        cases hp : pr ((L.drop (j * 2)).take 2) with
        | true =>
          rw [hp] at es
          simp only [Bool.not_true, Bool.false_eq_true, if_false, List.append_nil] at es
          simp -implicitDefEqProofs only [lk_normal, hget_cons, List.cons_append, List.nil_append, hg, lenL, ex, l2, tt, hp, hjl, hE2, hQj, ZB, Int.reduceToNat, Nat.reduceLT, Nat.reduceLeDiff, Int.reduceLE, Int.reduceLT, Nat.reduceEqDiff, Nat.reduceSub, SB, SV.known, packR, ne_eq, reduceCtorEq, Nat.reduceEqDiff, ↓reduceIte, if_true, if_false, eq_self, Nat.reduceAdd, Nat.reduceMul, Nat.reduceSub, forall_const, oneCellS, litOne, flat1, Kd.isSca, flat, TYB]
          (try (and_intros <;> try (first | omega | (unfold In64; omega) | trivial | assumption)))
          refine ⟨(j + 1, i, mid ++ (L.drop (j * 2)).take 2), ⟨by simp only; omega, by simp only; rw [es]; exact g2, by simp only; omega, by simp only; rw [List.length_append, l2]; omega⟩, by simp only; omega, Sub.mk_ext (l := [(b, _)]) ?_ ?_ ?_ ?_ (Nat.le_refl _) (hE2 _ _ _) hwc⟩
          · simp [subS, subH, wfS, wfH, SV.ren, renL, SObj.ren, SV.wf, SObj.wf, wfL, sget_cons, hget_cons, SV.known, renL_id]
          · rw [es]
            simp only [List.append_assoc, dl]
            simp [subS, subH, wfS, wfH, SV.ren, renL, SObj.ren, SV.wf, SObj.wf, wfL, sget_cons, hget_cons]
          · simp [subS, subH, wfS, wfH, SV.ren, renL, SObj.ren, SV.wf, SObj.wf, wfL, sget_cons, hget_cons, hw1]
          · simp [subS, subH, wfS, wfH, SV.ren, renL, SObj.ren, SV.wf, SObj.wf, wfL, sget_cons, hget_cons]
        | false =>
          rw [hp] at es
          simp only [Bool.not_false, if_true] at es
          have hbb : ¬ b = b + 1 := by omega
          have st : List.take (i * 2) (kept (fun x => !pr x) L j ++ mid ++ L.drop (j * 2)) ++ (L.drop (j * 2)).take 2 ++ List.drop (i * 2 + 2) (kept (fun x => !pr x) L j ++ mid ++ L.drop (j * 2)) = kept (fun x => !pr x) L (j + 1) ++ (mid.drop 2 ++ (L.drop (j * 2)).take 2) ++ L.drop ((j + 1) * 2) := by
            rw [es, ← List.drop_drop, List.append_assoc (kept (fun x => !pr x) L j), List.take_left' g2, List.drop_left' g2, List.drop_append_of_le_length (by omega)]
            simp only [List.append_assoc, dl]
          simp -implicitDefEqProofs only [lk_normal, hget_cons, List.cons_append, List.nil_append, hg, lenL, ex, l2, tt, hp, hjl, hE2, hQj, hbb, st, ZB, Int.reduceToNat, Nat.reduceLT, Nat.reduceLeDiff, Int.reduceLE, Int.reduceLT, Nat.reduceEqDiff, Nat.reduceSub, SB, SV.known, packR, ne_eq, reduceCtorEq, Nat.reduceEqDiff, ↓reduceIte, if_true, if_false, eq_self, Nat.reduceAdd, Nat.reduceMul, Nat.reduceSub, forall_const, oneCellS, litOne, flat1, Kd.isSca, flat, TYB]
          (try (and_intros <;> try (first | omega | (unfold In64; omega) | trivial | assumption)))
          refine ⟨(j + 1, i + 1, mid.drop 2 ++ (L.drop (j * 2)).take 2), ⟨by simp only; omega, by simp only; rw [es, List.length_append, g2, l2]; omega, by simp only; omega, by simp only; rw [List.length_append, l2, List.length_drop]; omega⟩, by simp only; omega, Sub.mk_ext (l := [(b, _)]) ?_ ?_ ?_ ?_ (Nat.le_refl _) (Ext.cons hwH (Nat.le_refl _) (hE2 _ _ _)) hwc⟩
          · simp [subS, subH, wfS, wfH, SV.ren, renL, SObj.ren, SV.wf, SObj.wf, wfL, sget_cons, hget_cons, SV.known, renL_id]
          · simp [subS, subH, wfS, wfH, SV.ren, renL, SObj.ren, SV.wf, SObj.wf, wfL, sget_cons, hget_cons]
          · simp [subS, subH, wfS, wfH, SV.ren, renL, SObj.ren, SV.wf, SObj.wf, wfL, sget_cons, hget_cons, hw1]
          · simp [subS, subH, wfS, wfH, SV.ren, renL, SObj.ren, SV.wf, SObj.wf, wfL, sget_cons, hget_cons]
      · have hjl : ¬ (j : Int) < len := by omega
        obtain rfl : j = len := by omega
        simp -implicitDefEqProofs only [lk_normal, hget_cons, List.cons_append, List.nil_append, hg, lenL, hjl, ZB, Int.reduceToNat, Nat.reduceLT, Nat.reduceLeDiff, Int.reduceLE, Int.reduceLT, Nat.reduceEqDiff, Nat.reduceSub, SB, SV.known, packR, ne_eq, reduceCtorEq, Nat.reduceEqDiff, ↓reduceIte, if_true, if_false, eq_self, Nat.reduceAdd, Nat.reduceMul, Nat.reduceSub, forall_const, oneCellS, litOne, flat1, Kd.isSca, flat, TYB]
        have c1 : cutOff cap i 0 2 = i * 2 := by unfold cutOff; rw [if_neg (by omega)]; omega
        have c2 : i * 2 + (j - i) * 2 = j * 2 := by omega
        rw [c1, c2, g2]
        refine ⟨by omega, by omega, by omega, by omega, by omega, by omega, ?_, ?_⟩
        · rw [show i * 2 / 2 = i by omega]
        · rw [List.append_assoc (kept (fun x => !pr x) L j), List.take_left' g2, ← List.append_assoc, List.drop_left' (by rw [List.length_append]; omega), show (j - i) * 2 = j * 2 - i * 2 by omega]
/-- On a slice that is nil. -/
theorem deleteFunc_nil (g : Nat) (caps : List SV) (H : Heap) (n0 : Nat) (hw : wfL n0 caps) (hwH : hwf n0 H) : PureH Try.prog 110 [.nils, .fn g caps] H .nils := by
  have h1 : PureH Try.prog 150 [.nils, .fn g caps] H (.int (-1)) := by
    refine pure_of_vc (X := ⟨Try.prog, tys, [], [], true, true, n0, [], []⟩) fn_150 ⟨tys_ok, .nil, .nil, mixed⟩ (n0 := n0) (Nat.le_of_ble_eq_true rfl) ⟨trivial, by simpa [SV.wf] using hw, trivial⟩ hwH (Nat.le_refl _) (fun _ => trivial) ?_
    simp -implicitDefEqProofs only [Try.f150, Option.getD_some, argS, SB, SV.known, packR, ne_eq, reduceCtorEq, Nat.reduceEqDiff, ↓reduceIte, if_true, if_false, eq_self, Nat.reduceAdd, Nat.reduceMul, Nat.reduceSub, forall_const, oneCellS, litOne, flat1, Kd.isSca, flat, TYB]
    refine loop_intro (fun i : Unit => [(0, .nils), (1, .fn g caps), (7, .int 0), (8, .int 0)]) (fun i => H) n0 (fun i => True) (fun i => 0) ?_ ?_
    · refine ⟨(), trivial, Sub.same ?_ ?_ hwH (Nat.le_refl _)⟩
      · simp [subS, subH, wfS, wfH, SV.ren, renL, SObj.ren, SV.wf, SObj.wf, wfL, sget_cons, hget_cons, SV.known, renL_id]
      · simp [subS, subH, wfS, wfH, SV.ren, renL, SObj.ren, SV.wf, SObj.wf, wfL, sget_cons, hget_cons, hw]
    · intro _ _
      simp -implicitDefEqProofs only [lk_normal, SB, SV.known, packR, ne_eq, reduceCtorEq, Nat.reduceEqDiff, ↓reduceIte, if_true, if_false, eq_self, Nat.reduceAdd, Nat.reduceMul, Nat.reduceSub, forall_const, oneCellS, litOne, flat1, Kd.isSca, flat, TYB]
      simp
  refine pure_of_vc (X := ⟨Try.prog, tys, [(150, fun args H' => some (args = [.nils, .fn g caps] ∧ H' = H, .int (-1)))], [], true, true, n0, [], []⟩) fn_110 ⟨tys_ok, .cons (fun args H' p v h hp => ?_) .nil, .nil, mixed⟩ (n0 := n0) (Nat.le_of_ble_eq_true rfl) ⟨trivial, by simpa [SV.wf] using hw, trivial⟩ hwH (Nat.le_refl _) (fun _ => trivial) ?_
  · cases h
    obtain ⟨rfl, rfl⟩ := hp
    exact h1
  simp -implicitDefEqProofs only [Try.f110, Option.getD_some, argS, SB, SV.known, packR, ne_eq, reduceCtorEq, Nat.reduceEqDiff, ↓reduceIte, if_true, if_false, eq_self, Nat.reduceAdd, Nat.reduceMul, Nat.reduceSub, forall_const, oneCellS, litOne, flat1, Kd.isSca, flat, TYB]
end Go.Proofs.Ytopfnkmlgcjpbaa
set_option maxRecDepth 100000
set_option linter.unusedSimpArgs false
set_option linter.unusedVariables false
namespace Go.Proofs.Ytopfnkmlgcjpbaa
open Go Go.RowKit
def okP (p : List Int) : Prop := p.length = 2 ∧ (0 ≤ p.getD 0 0 ∧ p.getD 0 0 ≤ 5) ∧ (0 ≤ p.getD 1 0 ∧ p.getD 1 0 ≤ 5)
theorem okP_take {p : List Int} (h : okP p) : p.take 2 = p := List.take_of_length_le (by have := h.1; omega)
--@tbl isIdle = impl.isIdle
/-! DeleteFunc with a closure over one rack. -/
--@tbl delR = slices.DeleteFunc[[][2]int,[2]int]
def delR_F (g : Nat) (pr : List Int → List Int → Bool) (Q : List Int → List Int → Prop) : List SV → Heap → Nat → Nat → K1 → Prop
  | [.slice b 0 len cap, .fn f [.ptr k 0]], H, n, m, κ => match hget H b, hget H k with
    | some (.ints L e), some (.ints R _) => f = g ∧ R.length = 24 ∧ L.length = cap * 2 ∧ len ≤ cap ∧ len ≤ 4611686018427387903 ∧ b ≠ k ∧ m ≤ b ∧ (∀ i, i < len → Q R ((L.drop (i * 2)).take 2)) ∧
        κ (.slice b 0 ((kept (fun x => !pr R x) L len).length / 2) cap) ((b, .ints (kept (fun x => !pr R x) L len ++ List.replicate (len * 2 - (kept (fun x => !pr R x) L len).length) 0 ++ L.drop (len * 2)) e) :: H) n
    | _, _ => False
  | [.nils, .fn _ [.ptr k 0]], H, n, _, κ => match hget H k with
    | some (.ints _ _) => κ .nils H n
    | _ => False
  | _, _, _, _, _ => False
theorem delR_T (g : Nat) (pr : List Int → List Int → Bool) (Q : List Int → List Int → Prop) (hg : g ≠ 150) (hc : ∀ (R : List Int) (e : Nat) (p : List Int), R.length = 24 → Q R p → PureH Try.prog g [.arr p, .ptr 0 0] [(0, .ints R e)] (.bool (pr R p))) :
    ∀ args H n m κ, delR_F g pr Q args H n m κ → GenOK Try.prog 110 args H n m κ := by
  intro args H n m κ h
  unfold delR_F at h
  split at h
  · rename_i b len cap f k
    split at h
    · rename_i L e R e2 h1 h2
      obtain ⟨rfl, hR, hL, hlc, hm, hbk, hmb, hQ, h⟩ := h
      have hu := deleteFunc_ok f hg [.ptr 0 0] [(0, .ints R e2)] (pr R) 1 L e len cap hL hlc hm (Q R) hQ (fun x hx => hc R e2 x hR hx) (by simp [wfL, SV.wf]) (wfH_spec (by simp [wfH, SObj.wf]))
      have := gen_of_upd (H := H) (n := n) (m := m) (κ := κ) hu (fun j => if j = 1 then b else k) (fun j o1 hj => by
        simp only [hget_cons] at hj
        split at hj
        · rename_i hj1; cases hj; rw [if_pos hj1]; exact h1
        · rename_i hj1
          split at hj
          · cases hj; rw [if_neg hj1]; exact h2
          · cases hj) (fun j1 o1 j2 o2 g1 g2 he => by
        simp only [hget_cons] at g1 g2
        by_cases q1 : j1 = 1
        · by_cases q2 : j2 = 1
          · omega
          · simp only [q1, q2, if_true, if_false] at he; omega
        · by_cases q2 : j2 = 1
          · simp only [q1, q2, if_true, if_false] at he; omega
          · rw [if_neg q1] at g1
            rw [if_neg q2] at g2
            split at g1
            · split at g2
              · omega
              · cases g2
            · cases g1) (by simpa using hmb) rfl (fun n hn => by simpa [SV.wf, SV.ren] using hn) (by simpa [SV.ren] using h)
      simpa [renL, SV.ren] using this
    · exact h.elim
  · rename_i f k
    split at h
    · rename_i R e2 h2
      refine ⟨(deleteFunc_nil f [.ptr k 0] [] (k + 1) (by simp [wfL, SV.wf]) (hwf_nil _)).ent, fun B M w hH hwH hwa hown hM => ?_⟩
      have hp := deleteFunc_nil f [.ptr k 0] [] (k + 1) (by simp [wfL, SV.wf]) (hwf_nil _)
      refine (hp.call B w (HR.nil B w)).mono fun e w' hh => ?_
      exact ⟨.nils, H, n, B, hh.1, h, Nat.le_refl _, trivial, hwH, fun _ _ => rfl, hH.of_below hh.2, hown, Kept.of_below hh.2⟩
    · exact h.elim
  · exact h.elim
--@tbl useful = impl.useful
--@tbl uDel = slices.DeleteFunc[[][2]int,[2]int]
/-! The model's. -/
--@tbl l2Idle = spec.l2Idle
--@tbl l2Useful = spec.l2Useful
end Go.Proofs.Ytopfnkmlgcjpbaa
set_option maxRecDepth 100000
set_option linter.unusedSimpArgs false
set_option linter.unusedVariables false
namespace Go.Proofs.Ytopfnkmlgcjpbaa
open Go Go.RowKit
/-! IsStuck. -/
end Go.Proofs.Ytopfnkmlgcjpbaa
set_option maxRecDepth 100000
set_option linter.unusedSimpArgs false
set_option linter.unusedVariables false
namespace Go.Proofs.Ytopfnkmlgcjpbaa
open Go Go.RowKit
--@tbl eqS2 = laws.eqIntA2S
/-! Marks. -/
end Go.Proofs.Ytopfnkmlgcjpbaa
set_option maxRecDepth 100000
set_option linter.unusedSimpArgs false
set_option linter.unusedVariables false
namespace Go.Proofs.Ytopfnkmlgcjpbaa
open Go Go.RowKit
end Go.Proofs.Ytopfnkmlgcjpbaa
set_option maxRecDepth 100000
set_option linter.unusedSimpArgs false
set_option linter.unusedVariables false
namespace Go.Proofs.Ytopfnkmlgcjpbaa
open Go Go.RowKit
def cpO (R : List Int) (i j : Int) : Bool := rackB R && plF i && plF j && !decide (i = j)
end Go.Proofs.Ytopfnkmlgcjpbaa
set_option maxRecDepth 100000
set_option linter.unusedSimpArgs false
set_option linter.unusedVariables false
namespace Go.Proofs.Ytopfnkmlgcjpbaa
open Go Go.RowKit
def prG (c : Nat → Nat → Bool) (k : Nat) : List Int := if c (k / 6) (k % 6) = true then [((k / 6 : Nat) : Int), ((k % 6 : Nat) : Int)] else []
def GL (c : Nat → Nat → Bool) (m : Nat) : List Int := (List.range m).flatMap (prG c)
theorem GL_zero (c : Nat → Nat → Bool) : GL c 0 = [] := rfl
theorem GL_succ (c : Nat → Nat → Bool) (m : Nat) : GL c (m + 1) = GL c m ++ prG c m := by simp [GL, List.range_succ]
theorem GL_even (c : Nat → Nat → Bool) : ∀ m, ∃ n, (GL c m).length = n * 2 ∧ n ≤ m
  | 0 => ⟨0, rfl, by omega⟩
  | m + 1 => by
    obtain ⟨n, h1, h2⟩ := GL_even c m
    rw [GL_succ, List.length_append, h1]
    unfold prG
    split
    · exact ⟨n + 1, by simp; omega, by omega⟩
    · exact ⟨n, by simp, by omega⟩
theorem PL_GL (R : List Int) (m : Nat) : PL R m = GL (fun i j => canF R i j) m := rfl
/-- Pairs that are kept out of pairs by a condition: pairs by both. -/
theorem kept_GL (c d : Nat → Nat → Bool) (np : List Int → Bool) (h : ∀ i j, i < 6 → j < 6 → c i j = true → np [(i : Int), (j : Int)] = d i j) (hd : ∀ i j, i < 6 → j < 6 → d i j = true → c i j = true) :
    ∀ m, m ≤ 36 → ∃ n, (GL c m).length = n * 2 ∧ kept np (GL c m) n = GL d m
  | 0, _ => ⟨0, rfl, rfl⟩
  | m + 1, hm => by
    obtain ⟨n, h1, h2⟩ := kept_GL c d np h hd m (by omega)
    have a1 : m / 6 < 6 := by omega
    have a2 : m % 6 < 6 := by omega
    rw [GL_succ c, GL_succ d]
    unfold prG
    cases hc : c (m / 6) (m % 6) with
    | false =>
      have : d (m / 6) (m % 6) = false := by
        cases hdd : d (m / 6) (m % 6) with
        | false => rfl
        | true => rw [hd _ _ a1 a2 hdd] at hc; cases hc
      rw [this]
      exact ⟨n, by simpa using h1, by simpa using h2⟩
    | true =>
      refine ⟨n + 1, by simp [h1]; omega, ?_⟩
      have e0 : (((GL c m ++ [((m / 6 : Nat) : Int), ((m % 6 : Nat) : Int)]).drop (n * 2)).take 2) = [((m / 6 : Nat) : Int), ((m % 6 : Nat) : Int)] := by rw [List.drop_left' h1]; rfl
      simp only [if_true]
      rw [kept_succ, kept_app _ _ _ _ (by omega), h2, e0, h _ _ a1 a2 hc]
/-- A slice that grows: nothing yet, or block b. -/
def outVn (b i len cap : Nat) : SV := match i with
  | 0 => .nils
  | _ + 1 => .slice b 0 len cap
def outHn (b i : Nat) (L : List Int) (e : Nat) (base : Heap) : Heap := match i with
  | 0 => base
  | _ + 1 => (b, .ints L e) :: base
theorem outVn_zero (b len cap : Nat) : outVn b 0 len cap = .nils := rfl
theorem outVn_succ (b i len cap : Nat) : outVn b (i + 1) len cap = .slice b 0 len cap := rfl
theorem outHn_zero (b : Nat) (L : List Int) (e : Nat) (base : Heap) : outHn b 0 L e base = base := rfl
theorem outHn_succ (b i : Nat) (L : List Int) (e : Nat) (base : Heap) : outHn b (i + 1) L e base = (b, .ints L e) :: base := rfl
theorem GL_pair (c : Nat → Nat → Bool) : ∀ m, m ≤ 36 → ∀ i, i * 2 + 2 ≤ (GL c m).length → ∃ a b : Nat, a < 6 ∧ b < 6 ∧ c a b = true ∧ ((GL c m).drop (i * 2)).take 2 = [(a : Int), (b : Int)]
  | 0, _, i, h => by simp [GL_zero] at h
  | m + 1, hm, i, h => by
    obtain ⟨n, hn, _⟩ := GL_even c m
    rw [GL_succ, List.length_append, hn] at h
    by_cases hi : i * 2 + 2 ≤ n * 2
    · obtain ⟨a, b, h1, h2, h3, h4⟩ := GL_pair c m (by omega) i (by omega)
      refine ⟨a, b, h1, h2, h3, ?_⟩
      rw [GL_succ, List.drop_append_of_le_length (by omega), List.take_append_of_le_length (by rw [List.length_drop]; omega)]
      exact h4
    · unfold prG at h
      split at h
      · rename_i hc
        simp at h
        have : i = n := by omega
        subst this
        refine ⟨m / 6, m % 6, by omega, by omega, hc, ?_⟩
        rw [GL_succ, List.drop_left' hn]
        unfold prG
        rw [if_pos hc]; rfl
      · simp at h; omega
end Go.Proofs.Ytopfnkmlgcjpbaa
set_option maxRecDepth 100000
set_option linter.unusedSimpArgs false
set_option linter.unusedVariables false
namespace Go.Proofs.Ytopfnkmlgcjpbaa
open Go Go.RowKit
theorem pl_of {R : List Int} {x y : Int} (h : cpO R x y = true) : rackB R = true ∧ (0 ≤ x ∧ x ≤ 5) ∧ (0 ≤ y ∧ y ≤ 5) ∧ x ≠ y := by
  unfold cpO at h
  simp only [Bool.and_eq_true, Bool.not_eq_true', decide_eq_false_iff_not] at h
  exact ⟨h.1.1.1, pl_bd h.1.1.2, pl_bd h.1.2, h.2⟩
/-! A pour exchanges cells. -/
/-! Sorted racks. -/
end Go.Proofs.Ytopfnkmlgcjpbaa
set_option maxRecDepth 100000
set_option linter.unusedSimpArgs false
set_option linter.unusedVariables false
namespace Go.Proofs.Ytopfnkmlgcjpbaa
open Go Go.RowKit
theorem incr_getD (L : List Int) (j k : Nat) (hj : j < L.length) : (incr L j).getD k 0 = L.getD k 0 + if j = k then 1 else 0 := by
  unfold incr
  by_cases hjk : j = k
  · subst hjk
    rw [getD_set_self _ _ _ hj]; simp
  · rw [if_neg hjk, Int.add_zero]
    simp only [List.getD_eq_getElem?_getD, List.getElem?_set]
    rw [if_neg hjk]
theorem bot_step {R : List Int} (hR : R.length = 24) (hr : rackB R = true) {k : Nat} (hk : k < 6) (c : Nat) : (cntL ((botL R).take (k + 1))).getD c 0 = (cntL ((botL R).take k)).getD c 0 + if ((tubeAt R k).getD 0 0).toNat = c then 1 else 0 := by
  have rc := rack_cell hR hr (k := k * 4) (by omega)
  have e0 : (botL R).getD k 0 = (tubeAt R k).getD 0 0 := by rw [botL_getD _ _ hk, tubeAt_getD _ _ _ (by omega)]; rfl
  have e1 : (botL R).getD k 0 = R.getD (k * 4) 0 := botL_getD _ _ hk
  rw [cntL_take_succ _ _ (by rw [botL_len]; omega), incr_getD _ _ _ (by rw [cntL_len, e1]; omega), e0]
end Go.Proofs.Ytopfnkmlgcjpbaa
set_option maxRecDepth 100000
set_option linter.unusedSimpArgs false
set_option linter.unusedVariables false
namespace Go.Proofs.Ytopfnkmlgcjpbaa
open Go Go.RowKit
def boF (R : List Int) : Int := if rackB R = true then bndF R else 0
theorem BoundOf_ok (R : List Int) (hR : R.length = 24) : PureH Try.prog 24 [.arr R] [] (.tup [.int (boF R), .bool (rackB R)]) := by
  have tkR : R.take 24 = R := List.take_of_length_le (by omega)
  unfold boF
  cases hr : rackB R
  all_goals
    refine pure_of_vc (X := ⟨Try.prog, tys, [(11, IsRack_F), (83, bound_F)], [], true, true, 0, [], []⟩) fn_24 ⟨tys_ok, (.cons IsRack_T (.cons bound_T .nil)), .nil, mixed⟩ (n0 := 0) (Nat.le_of_ble_eq_true rfl) (by simp [wfL, SV.wf]) (wfH_spec (by simp [wfH, SObj.wf])) (Nat.le_refl _) (fun _ => by simp [SV.wf, wfL]) ?_
    simp -implicitDefEqProofs only [Try.f24, Option.getD_some, argS, IsRack_F, bound_F, hR, tkR, hr, ZB, Int.reduceToNat, Nat.reduceLT, Nat.reduceLeDiff, Int.reduceLE, Int.reduceLT, Nat.reduceEqDiff, Nat.reduceSub, SB, SV.known, packR, ne_eq, reduceCtorEq, Nat.reduceEqDiff, ↓reduceIte, if_true, if_false, eq_self, Nat.reduceAdd, Nat.reduceMul, Nat.reduceSub, forall_const, oneCellS, litOne, flat1, Kd.isSca, flat, TYB]
def BoundOf_F : List SV → Heap → Option (Prop × SV)
  | [.arr R], _ => some (R.length = 24, .tup [.int (boF R), .bool (rackB R)])
  | _, _ => none
theorem BoundOf_T : ∀ args H p v, BoundOf_F args H = some (p, v) → p → PureH Try.prog 24 args H v := by
  intro args H p v h hp
  unfold BoundOf_F at h
  split at h
  · cases h; exact (BoundOf_ok _ hp).any _
  · cases h
end Go.Proofs.Ytopfnkmlgcjpbaa
set_option maxRecDepth 100000
set_option linter.unusedSimpArgs false
set_option linter.unusedVariables false
namespace Go.Proofs.Ytopfnkmlgcjpbaa
open Go Go.RowKit
def b2i (b : Bool) : Int := if b = true then 1 else 0
def ndC (P : Int → Bool) : Int := b2i (P 1) + b2i (P 2) + b2i (P 3) + b2i (P 4) + b2i (P 5)
theorem b2i_bd (b : Bool) : 0 ≤ b2i b ∧ b2i b ≤ 1 := by cases b <;> simp [b2i]
theorem ndC_mono {P Q : Int → Bool} (h : ∀ c, P c = true → Q c = true) : ndC P ≤ ndC Q := by
  have g : ∀ c, b2i (P c) ≤ b2i (Q c) := fun c => by
    cases hp : P c
    · have := b2i_bd (Q c); simp [b2i] at *; omega
    · rw [h c hp]; exact Int.le_refl _
  have g1 := g 1; have g2 := g 2; have g3 := g 3; have g4 := g 4; have g5 := g 5
  unfold ndC; omega
theorem ndC_add {P Q : Int → Bool} {a : Int} (h : ∀ c, Q c = true → P c = true ∨ c = a) : ndC Q ≤ ndC P + 1 := by
  have g : ∀ c, b2i (Q c) ≤ b2i (P c) + if c = a then 1 else 0 := fun c => by
    have hp := b2i_bd (P c)
    cases hq : Q c
    · have e : b2i false = 0 := rfl
      rw [e]; split <;> omega
    · rcases h c hq with h | h
      · rw [h]
        split <;> omega
      · rw [if_pos h]
        have e : b2i true = 1 := rfl
        rw [e]; omega
  have g1 := g 1; have g2 := g 2; have g3 := g 3; have g4 := g 4; have g5 := g 5
  unfold ndC
  by_cases a1 : (1 : Int) = a
  · subst a1; simp at g1 g2 g3 g4 g5; omega
  · by_cases a2 : (2 : Int) = a
    · subst a2; simp at g1 g2 g3 g4 g5; omega
    · by_cases a3 : (3 : Int) = a
      · subst a3; simp at g1 g2 g3 g4 g5; omega
      · by_cases a4 : (4 : Int) = a
        · subst a4; simp at g1 g2 g3 g4 g5; omega
        · simp only [a1, a2, a3, a4, if_false] at g1 g2 g3 g4
          split at g5 <;> omega
theorem nd_runs (t : List Int) (ht : t.length = 4) : ∀ i, i ≤ 4 → ndC (fun c => decide (c ∈ t.take i)) ≤ ((RL t i).length / 2 : Nat) ∧ (0 < i → (RL t i).getD ((RL t i).length - 2) 0 = t.getD (i - 1) 0)
  | 0, _ => by
    refine ⟨?_, fun h => absurd h (by omega)⟩
    have e : ndC (fun c => decide (c ∈ t.take 0)) = 0 := by simp [ndC, b2i]
    rw [e]; omega
  | i + 1, hi => by
    obtain ⟨h1, h2⟩ := nd_runs t ht i (by omega)
    obtain ⟨n, n1, n2, n3⟩ := RL_even t ht i (by omega)
    have hm : ∀ c, c ∈ t.take (i + 1) ↔ c ∈ t.take i ∨ c = t.getD i 0 := fun c => by
      rw [List.take_succ_eq_append_getElem (by omega), List.mem_append, List.mem_singleton, List.getD_eq_getElem?_getD, List.getElem?_eq_getElem (by omega)]; rfl
    rw [RL_succ t i (by omega)]
    unfold stepR
    by_cases hc : 0 < (RL t i).length ∧ (RL t i).getD ((RL t i).length - 2) 0 = t.getD i 0
    · rw [if_pos hc]
      have i0 : 0 < i := by
        rcases Nat.eq_zero_or_pos i with h | h
        · subst h; rw [RL_zero] at hc; simp at hc
        · exact h
      have e := h2 i0
      have hin : t.getD i 0 ∈ t.take i := by
        rw [← hc.2, e, List.getD_eq_getElem?_getD, List.getElem?_eq_getElem (by omega)]
        exact List.mem_take_iff_getElem.2 ⟨i - 1, by omega, rfl⟩
      rw [List.length_set]
      refine ⟨Int.le_trans (ndC_mono fun c hcc => ?_) h1, fun _ => ?_⟩
      · have := of_decide_eq_true hcc
        rcases (hm c).1 this with h | h
        · exact decide_eq_true h
        · exact decide_eq_true (h ▸ hin)
      · rw [getD_set' _ _ _ _ (by omega), if_neg (by omega), hc.2]; rfl
    · rw [if_neg hc]
      refine ⟨?_, fun _ => ?_⟩
      · have := ndC_add (P := fun c => decide (c ∈ t.take i)) (Q := fun c => decide (c ∈ t.take (i + 1))) (a := t.getD i 0) fun c hcc => by
          rcases (hm c).1 (of_decide_eq_true hcc) with h | h
          · exact .inl (decide_eq_true h)
          · exact .inr h
        rw [List.length_append]
        simp only [List.length_cons, List.length_nil]
        omega
      · rw [List.length_append]
        simp only [List.length_cons, List.length_nil]
        rw [show (RL t i).length + (0 + 1 + 1) - 2 = (RL t i).length + 0 by omega, getD_app_right]; rfl
end Go.Proofs.Ytopfnkmlgcjpbaa
set_option maxRecDepth 100000
set_option linter.unusedSimpArgs false
set_option linter.unusedVariables false
namespace Go.Proofs.Ytopfnkmlgcjpbaa
open Go Go.RowKit
theorem RLlast (t : List Int) (ht : t.length = 4) : ∀ i, 0 < i → i ≤ 4 → (RL t i).getD ((RL t i).length - 2) 0 = t.getD (i - 1) 0 := fun i h0 hi => (nd_runs t ht i hi).2 h0
def RLn (t : List Int) (i : Nat) : Nat := (RL t i).length / 2
theorem RLn_zero (t : List Int) : RLn t 0 = 0 := by simp [RLn, RL_zero]
theorem RLn_succ (t : List Int) (ht : t.length = 4) (i : Nat) (hi : i < 4) : RLn t (i + 1) = RLn t i + if 0 < i ∧ t.getD (i - 1) 0 = t.getD i 0 then 0 else 1 := by
  obtain ⟨n, n1, n2, n3⟩ := RL_even t ht i (by omega)
  unfold RLn
  rw [RL_succ t i (by omega)]
  unfold stepR
  by_cases h : 0 < i ∧ t.getD (i - 1) 0 = t.getD i 0
  · have hl := RLlast t ht i h.1 (by omega)
    have := n3 h.1
    rw [if_pos h, if_pos ⟨by omega, by rw [hl]; exact h.2⟩, List.length_set]; omega
  · rw [if_neg h, if_neg, List.length_append, n1]
    · simp only [List.length_cons, List.length_nil]; omega
    · rintro ⟨h1, h2⟩
      rcases Nat.eq_zero_or_pos i with h0 | h0
      · subst h0; rw [RL_zero] at h1; simp at h1
      · rw [RLlast t ht i h0 (by omega)] at h2
        exact h ⟨h0, h2⟩
theorem RLn_congr {t s : List Int} (ht : t.length = 4) (hs : s.length = 4) : ∀ i, i ≤ 4 → (∀ k, k < i → t.getD k 0 = s.getD k 0) → RLn t i = RLn s i
  | 0, _, _ => by rw [RLn_zero, RLn_zero]
  | i + 1, hi, h => by
    rw [RLn_succ t ht i (by omega), RLn_succ s hs i (by omega), RLn_congr ht hs i (by omega) fun k hk => h k (by omega), h i (by omega), h (i - 1) (by omega)]
theorem crN_RL (t : List Int) : crN t = (RLn t (layN t) : Nat) := rfl
/-- A top run taken off, in parts or whole. -/
theorem RLn_off {t : List Int} (ht : t.length = 4) {a r : Nat} (ha : a ≤ 4) (h : isRun t a r) : ∀ m, m ≤ r → RLn t (a - m) + (if m = r then 1 else 0) = RLn t a
  | 0, _ => by
    have := h.1
    rw [if_neg (by omega)]; rfl
  | m + 1, hm => by
    have ih := RLn_off ht ha h m (by omega)
    have hr := h.2.1
    rw [if_neg (by omega)] at ih
    have e : a - m = a - (m + 1) + 1 := by omega
    rw [e, RLn_succ t ht _ (by omega)] at ih
    have g1 := h.2.2.1 m (by omega)
    have e1 : a - 1 - m = a - (m + 1) := by omega
    rw [e1] at g1
    by_cases hmr : m + 1 = r
    · rw [if_pos hmr]
      rw [if_neg, ] at ih
      · omega
      · rintro ⟨p0, p1⟩
        rcases h.2.2.2 with q | q
        · omega
        · rw [g1, show a - (m + 1) - 1 = a - 1 - r by omega] at p1
          exact q p1
    · rw [if_neg hmr]
      have g2 := h.2.2.1 (m + 1) (by omega)
      rw [if_pos ⟨by omega, by rw [g1, show a - (m + 1) - 1 = a - 1 - (m + 1) by omega]; exact g2⟩] at ih
      omega
/-- Layers of one color put on top. -/
theorem RLn_on {t s : List Int} (ht : t.length = 4) (hs : s.length = 4) {b : Nat} {c : Int} (h1 : ∀ k, k < b → s.getD k 0 = t.getD k 0) (h0 : b = 0 ∨ t.getD (b - 1) 0 = c) : ∀ m, b + m ≤ 4 → (∀ k, b ≤ k → k < b + m → s.getD k 0 = c) → RLn s (b + m) = RLn t b + if b = 0 ∧ 0 < m then 1 else 0
  | 0, hm, _ => by
    rw [if_neg (by omega), Nat.add_zero, Nat.add_zero]
    exact RLn_congr hs ht b (by omega) h1
  | m + 1, hm, h => by
    have ih := RLn_on ht hs h1 h0 m (by omega) fun k k1 k2 => h k k1 (by omega)
    rw [← Nat.add_assoc, RLn_succ s hs _ (by omega), ih]
    have e := h (b + m) (by omega) (by omega)
    by_cases hb : b = 0
    · subst hb
      by_cases hm0 : m = 0
      · subst hm0; simp
      · have q1 : 0 < 0 + m ∧ s.getD (0 + m - 1) 0 = s.getD (0 + m) 0 := ⟨by omega, by rw [e]; exact h (0 + m - 1) (by omega) (by omega)⟩
        have q2 : 0 = 0 ∧ 0 < m := ⟨rfl, by omega⟩
        have q3 : 0 = 0 ∧ 0 < m + 1 := ⟨rfl, by omega⟩
        rw [if_pos q1, if_pos q2, if_pos q3]
    · have q1 : 0 < b + m ∧ s.getD (b + m - 1) 0 = s.getD (b + m) 0 := by
        refine ⟨by omega, ?_⟩
        rw [e]
        by_cases hm0 : m = 0
        · subst hm0
          rw [Nat.add_zero, h1 _ (by omega)]
          rcases h0 with q | q
          · exact absurd q hb
          · exact q
        · exact h _ (by omega) (by omega)
      have q2 : ¬ (b = 0 ∧ 0 < m) := fun q => hb q.1
      have q3 : ¬ (b = 0 ∧ 0 < m + 1) := fun q => hb q.1
      rw [if_pos q1, if_neg q2, if_neg q3]
theorem sumT_two {f : List Int → Int} {R N : List Int} {i j : Nat} (hij : i ≠ j) (h : ∀ k, k < 6 → k ≠ i → k ≠ j → tubeAt N k = tubeAt R k) : ∀ k, k ≤ 6 → sumT f N k = sumT f R k + (if i < k then f (tubeAt N i) - f (tubeAt R i) else 0) + (if j < k then f (tubeAt N j) - f (tubeAt R j) else 0)
  | 0, _ => by simp [sumT_zero]
  | k + 1, hk => by
    have ih := sumT_two (f := f) hij h k (by omega)
    rw [sumT_succ, sumT_succ, ih]
    by_cases hi : k = i
    · subst hi
      rw [if_neg (show ¬ k < k by omega), if_pos (show k < k + 1 by omega)]
      by_cases hj : j < k
      · rw [if_pos hj, if_pos (show j < k + 1 by omega)]; omega
      · rw [if_neg hj, if_neg (show ¬ j < k + 1 by omega)]; omega
    · by_cases hj : k = j
      · subst hj
        rw [if_neg (show ¬ k < k by omega), if_pos (show k < k + 1 by omega)]
        by_cases h2 : i < k
        · rw [if_pos h2, if_pos (show i < k + 1 by omega)]; omega
        · rw [if_neg h2, if_neg (show ¬ i < k + 1 by omega)]; omega
      · rw [h k (by omega) hi hj]
        have e1 : (i < k + 1) = (i < k) := by apply propext; omega
        have e2 : (j < k + 1) = (j < k) := by apply propext; omega
        simp only [e1, e2]
        omega
/-- Is this the bottom's color? -/
def gB (c : Nat) (t : List Int) : Int := if (t.getD 0 0).toNat = c then 1 else 0
theorem bot_sum {R : List Int} (hR : R.length = 24) (hr : rackB R = true) (c : Nat) : ∀ k, k ≤ 6 → (cntL ((botL R).take k)).getD c 0 = sumT (gB c) R k
  | 0, _ => by
    have z : (List.replicate 6 (0 : Int)).getD c 0 = 0 := by
      rw [List.getD_eq_getElem?_getD, List.getElem?_replicate]
      split <;> rfl
    rw [List.take_zero, cntL_nil, z]; rfl
  | k + 1, hk => by
    rw [bot_step hR hr (by omega), bot_sum hR hr c k (by omega), sumT_succ]; rfl
theorem bes5 {R : List Int} (hR : R.length = 24) (hr : rackB R = true) : besF ((cntL (botL R)).drop 1) = max (sumT (gB 1) R 6 - 1) 0 + max (sumT (gB 2) R 6 - 1) 0 + max (sumT (gB 3) R 6 - 1) 0 + max (sumT (gB 4) R 6 - 1) 0 + max (sumT (gB 5) R 6 - 1) 0 := by
  have tk6 : (botL R).take 6 = botL R := List.take_of_length_le (by rw [botL_len]; omega)
  have g : ∀ c, (cntL (botL R)).getD c 0 = sumT (gB c) R 6 := fun c => by
    have := bot_sum hR hr c 6 (Nat.le_refl _)
    rwa [tk6] at this
  have hl := cntL_len (botL R)
  rw [← g 1, ← g 2, ← g 3, ← g 4, ← g 5]
  generalize cntL (botL R) = L at hl
  match L, hl with
  | [a, b, c, d, e, f], _ => simp [besF]; omega
theorem bes_chg {T : Nat} (hT : 1 ≤ T ∧ T ≤ 5) {d w1 w2 w3 w4 w5 q1 q2 q3 q4 q5 : Int} (k1 : w1 = q1 + if T = 1 then d else 0) (k2 : w2 = q2 + if T = 2 then d else 0) (k3 : w3 = q3 + if T = 3 then d else 0) (k4 : w4 = q4 + if T = 4 then d else 0) (k5 : w5 = q5 + if T = 5 then d else 0) :
    min d 0 ≤ max (w1 - 1) 0 + max (w2 - 1) 0 + max (w3 - 1) 0 + max (w4 - 1) 0 + max (w5 - 1) 0 - (max (q1 - 1) 0 + max (q2 - 1) 0 + max (q3 - 1) 0 + max (q4 - 1) 0 + max (q5 - 1) 0) := by
  rcases (show T = 1 ∨ T = 2 ∨ T = 3 ∨ T = 4 ∨ T = 5 by omega) with h | h | h | h | h <;> subst h <;> simp at k1 k2 k3 k4 k5 <;> omega
theorem bnd_arith {A B M r z1 z2 z3 z4 : Nat} {u1 u2 v1 v2 a1 a2 a3 a4 Q W d : Int} (hA : M ≤ A) (hr : M ≤ r) (hrA : r ≤ A) (M1 : 1 ≤ M) (h4 : M = r ∨ 0 < B) (sj : z1 = z4 + if B = 0 ∧ 0 < M then 1 else 0) (si : z2 + (if M = r then 1 else 0) = z3) (e1 : a1 = z2) (e2 : a2 = z1) (e3 : a3 = z3) (e4 : a4 = z4)
    (zi : A - M = 0 → z2 = 0) (pi : 0 < A - M → 0 < z2) (pj : 0 < B → 0 < z4) (zj : B = 0 → z4 = 0) (s1 : v2 = v1 + (a1 - a3) + (a2 - a4)) (s2 : u2 = u1 + (max (a1 - 1) 0 - max (a3 - 1) 0) + (max (a2 - 1) 0 - max (a4 - 1) 0)) (hd : d = (if M = A then -1 else 0) + if B = 0 then 1 else 0) (hk : min d 0 ≤ W - Q) :
    (v2 - v1 ≤ 0 ∧ -1 ≤ v2 - v1) ∧ u2 - u1 ≤ 0 ∧ -1 ≤ (u2 + W) - (u1 + Q) := by
  by_cases hB : B = 0
  · have hr2 : M = r := by omega
    rw [if_pos ⟨hB, by omega⟩] at sj
    rw [if_pos hr2] at si
    rw [if_pos hB] at hd
    have := zj hB
    by_cases hM : M = A
    · rw [if_pos hM] at hd
      have := zi (by omega)
      omega
    · rw [if_neg hM] at hd
      have := pi (by omega)
      omega
  · have hB' : 0 < B := by omega
    have hz := pj hB'
    rw [if_neg (fun h => hB h.1)] at sj
    rw [if_neg hB] at hd
    by_cases hr2 : M = r
    · rw [if_pos hr2] at si
      by_cases hM : M = A
      · rw [if_pos hM] at hd
        have := zi (by omega)
        omega
      · rw [if_neg hM] at hd
        have := pi (by omega)
        omega
    · rw [if_neg hr2] at si
      rw [if_neg (show ¬ M = A by omega)] at hd
      omega

/-- A tube that gives. -/
theorem src_facts {t s : List Int} (ht : t.length = 4) (hs : s.length = 4) (hb : tubeB s = true) {r M : Nat} (hr : isRun t (layN t) r) (h0 : 0 < layN t) (hM : M ≤ r) (hl : layN s = layN t - M) (hc : ∀ k, k < layN t - M → s.getD k 0 = t.getD k 0) :
    crN s = (RLn t (layN t - M) : Nat) ∧ RLn t (layN t - M) + (if M = r then 1 else 0) = RLn t (layN t) ∧ (layN t - M = 0 → RLn t (layN t - M) = 0) ∧ (0 < layN t - M → 0 < RLn t (layN t - M)) ∧
    (s.getD 0 0 = if M = layN t then 0 else t.getD 0 0) ∧ (M = layN t → t.getD 0 0 = t.getD (layN t - 1) 0) := by
  have ai := lay_le _ ht
  have rle := hr.2.1
  refine ⟨?_, RLn_off ht ai hr M hM, fun h => by rw [h, RLn_zero], fun h => ?_, ?_, fun h => ?_⟩
  · rw [crN_RL, hl]
    congr 1
    exact RLn_congr hs ht _ (by omega) hc
  · obtain ⟨n, n1, n2, n3⟩ := RL_even _ ht (layN t - M) (by omega)
    have := n3 h
    unfold RLn; omega
  · by_cases h : M = layN t
    · rw [if_pos h]
      exact (tube_cells hs hb).2 0 (by omega)
    · rw [if_neg h]; exact hc 0 (by omega)
  · have := hr.2.2.1 (layN t - 1) (by omega)
    rw [show layN t - 1 - (layN t - 1) = 0 by omega] at this
    exact this
/-- A tube that takes. -/
theorem tgt_facts {t s : List Int} (ht : t.length = 4) (hs : s.length = 4) (hb : tubeB t = true) {M : Nat} {c : Int} (M1 : 1 ≤ M) (hM : M + layN t ≤ 4) (hl : layN s = layN t + M) (hc : ∀ k, k < layN t → s.getD k 0 = t.getD k 0) (hc2 : ∀ k, layN t ≤ k → k < layN t + M → s.getD k 0 = c) (hj : layN t = 0 ∨ t.getD (layN t - 1) 0 = c) :
    crN s = (RLn s (layN t + M) : Nat) ∧ RLn s (layN t + M) = RLn t (layN t) + (if layN t = 0 ∧ 0 < M then 1 else 0) ∧ (layN t = 0 → RLn t (layN t) = 0) ∧ (0 < layN t → 0 < RLn t (layN t)) ∧
    (s.getD 0 0 = if layN t = 0 then c else t.getD 0 0) ∧ (layN t = 0 → t.getD 0 0 = 0) := by
  have ai := lay_le _ ht
  refine ⟨?_, RLn_on ht hs hc hj M (by omega) hc2, fun h => by rw [h, RLn_zero], fun h => ?_, ?_, fun h => ?_⟩
  · rw [crN_RL, hl]
  · obtain ⟨n, n1, n2, n3⟩ := RL_even _ ht (layN t) (by omega)
    have := n3 h
    unfold RLn; omega
  · by_cases h : layN t = 0
    · rw [if_pos h]; exact hc2 0 (by omega) (by omega)
    · rw [if_neg h]; exact hc 0 (by omega)
  · exact (tube_cells ht hb).2 0 (by omega)
theorem g_chg {p1 p2 : Prop} [Decidable p1] [Decidable p2] {c T : Nat} {x1 x2 y1 y2 v d : Int} (hc : 1 ≤ c) (h1 : x2 = if p1 then 0 else x1) (h2 : p1 → x1 = v) (h3 : y2 = if p2 then v else y1) (h4 : p2 → y1 = 0) (hT : v.toNat = T) (hd : d = (if p1 then -1 else 0) + if p2 then 1 else 0) :
    ((if x2.toNat = c then (1 : Int) else 0) - if x1.toNat = c then 1 else 0) + ((if y2.toNat = c then (1 : Int) else 0) - if y1.toNat = c then 1 else 0) = if T = c then d else 0 := by
  have z0 : ¬ ((0 : Int).toNat = c) := by rw [Int.toNat_zero]; omega
  subst hd h1 h3 hT
  by_cases q1 : p1 <;> by_cases q2 : p2
  · rw [if_pos q1, if_pos q2, if_pos q1, if_pos q2, h2 q1, h4 q2, if_neg z0]; split <;> rfl
  · rw [if_pos q1, if_neg q2, if_pos q1, if_neg q2, h2 q1, if_neg z0]; split <;> split <;> rfl
  · rw [if_neg q1, if_pos q2, if_neg q1, if_pos q2, h4 q2, if_neg z0]; split <;> split <;> rfl
  · rw [if_neg q1, if_neg q2, if_neg q1, if_neg q2]; split <;> split <;> split <;> rfl
theorem can_top2 {R : List Int} (hR : R.length = 24) (hr : rackB R = true) {x y : Int} (hy : 0 ≤ y ∧ y ≤ 5) (hc : canF R x y = true) : layN (tubeAt R y.toNat) = 0 ∨ (tubeAt R y.toNat).getD (layN (tubeAt R y.toNat) - 1) 0 = (topF (tubeAt R x.toNat)).1 := by
  have hj : y.toNat < 6 := by omega
  have lj := tubeAt_len hR hj
  rcases Nat.eq_zero_or_pos (layN (tubeAt R y.toNat)) with h | h
  · exact .inl h
  · right
    obtain ⟨s, f1, f2⟩ := topF_run _ lj h
    have tp := (top_co lj (tubeAt_ok hr hj) h).1
    simp only [canF, Bool.and_eq_true, Bool.or_eq_true, decide_eq_true_eq] at hc
    rw [f1] at hc tp
    rcases hc.2 with q | q
    · exact absurd q (by dsimp only at tp ⊢; omega)
    · exact q
theorem pour_bnd0 {R N : List Int} (hR : R.length = 24) (hN : N.length = 24) (hr : rackB R = true) (hrN : rackB N = true) {i j : Nat} (hi : i < 6) (hj : j < 6) (hij : i ≠ j) (h5 : ∀ k, k < 6 → k ≠ i → k ≠ j → tubeAt N k = tubeAt R k) {M r : Nat} {c : Int} (hM : M ≤ r) (h4 : M = r ∨ 0 < layN (tubeAt R j)) (M1 : 1 ≤ M) (hMj : M + layN (tubeAt R j) ≤ 4)
    (hru : isRun (tubeAt R i) (layN (tubeAt R i)) r) (h0 : 0 < layN (tubeAt R i)) (hct : (tubeAt R i).getD (layN (tubeAt R i) - 1) 0 = c) (hc5 : 1 ≤ c ∧ c ≤ 5) (l1 : layN (tubeAt N i) = layN (tubeAt R i) - M) (l2 : layN (tubeAt N j) = layN (tubeAt R j) + M)
    (c1 : ∀ k, k < layN (tubeAt R i) - M → (tubeAt N i).getD k 0 = (tubeAt R i).getD k 0) (c2 : ∀ k, k < layN (tubeAt R j) → (tubeAt N j).getD k 0 = (tubeAt R j).getD k 0) (c3 : ∀ k, layN (tubeAt R j) ≤ k → k < layN (tubeAt R j) + M → (tubeAt N j).getD k 0 = c) (tj : layN (tubeAt R j) = 0 ∨ (tubeAt R j).getD (layN (tubeAt R j) - 1) 0 = c) :
    (sumT crN N 6 - sumT crN R 6 ≤ 0 ∧ -1 ≤ sumT crN N 6 - sumT crN R 6) ∧ sumT cbN N 6 - sumT cbN R 6 ≤ 0 ∧ -1 ≤ bndF N - bndF R := by
  obtain ⟨a1, a2, a3, a4, a5, a6⟩ := src_facts (tubeAt_len hR hi) (tubeAt_len hN hi) (tubeAt_ok hrN hi) hru h0 hM l1 c1
  obtain ⟨b1, b2, b3, b4, b5, b6⟩ := tgt_facts (tubeAt_len hR hj) (tubeAt_len hN hj) (tubeAt_ok hr hj) M1 hMj l2 c2 c3 tj
  rw [hct] at a6
  have s1 := sumT_two (f := crN) hij h5 6 (Nat.le_refl _)
  have s2 := sumT_two (f := cbN) hij h5 6 (Nat.le_refl _)
  have s3 := fun c => sumT_two (f := gB c) hij h5 6 (Nat.le_refl _)
  simp only [if_pos hi, if_pos hj] at s1 s2 s3
  obtain ⟨d, hd⟩ : ∃ d : Int, d = (if M = layN (tubeAt R i) then -1 else 0) + if layN (tubeAt R j) = 0 then 1 else 0 := ⟨_, rfl⟩
  have key : ∀ q : Nat, 1 ≤ q → sumT (gB q) N 6 = sumT (gB q) R 6 + if c.toNat = q then d else 0 := fun q hq => by
    have := g_chg hq a5 a6 b5 b6 rfl hd
    rw [s3 q, ← this]
    unfold gB
    rw [Int.add_assoc]
  have kk := bes_chg (T := c.toNat) (by omega) (key 1 (by omega)) (key 2 (by omega)) (key 3 (by omega)) (key 4 (by omega)) (key 5 (by omega))
  rw [← bes5 hR hr, ← bes5 hN hrN] at kk
  have rle := hru.2.1
  exact bnd_arith (Nat.le_trans hM rle) hM rle M1 h4 b2 a2 a1 b1 (crN_RL _) (crN_RL _) a3 a4 b4 b3 s1 s2 hd kk
/-- What a pour does to runs, boundaries and the bound. -/
theorem pour_bnd {R : List Int} (hR : R.length = 24) (hr : rackB R = true) {x y : Int} (ho : cpO R x y = true) (hc : canF R x y = true) :
    (sumT crN (pourF R x.toNat y.toNat) 6 - sumT crN R 6 ≤ 0 ∧ -1 ≤ sumT crN (pourF R x.toNat y.toNat) 6 - sumT crN R 6) ∧ sumT cbN (pourF R x.toNat y.toNat) 6 - sumT cbN R 6 ≤ 0 ∧ -1 ≤ bndF (pourF R x.toNat y.toNat) - bndF R := by
  obtain ⟨_, hx, hy, hxy⟩ := pl_of ho
  obtain ⟨g1, g2, g3, g4, g5, g6, g7⟩ := can_facts hR hr hx hy hc
  have hi : x.toNat < 6 := by omega
  have hj : y.toNat < 6 := by omega
  have hij : x.toNat ≠ y.toNat := by omega
  have li := tubeAt_len hR hi
  obtain ⟨r, e1, e2⟩ := topF_run _ li g2
  have hrN := pour_rack hR hr hx hy hc
  have et1 : (topF (tubeAt R x.toNat)).1 = (tubeAt R x.toNat).getD (layN (tubeAt R x.toNat) - 1) 0 := by rw [e1]
  have et2 : (topF (tubeAt R x.toNat)).2 = (r : Int) := by rw [e1]
  obtain ⟨M, hM⟩ : ∃ M : Nat, pmN R x.toNat y.toNat = M := ⟨(pmN R x.toNat y.toNat).toNat, by omega⟩
  have hMd : (M : Int) = min (r : Int) (4 - (layN (tubeAt R y.toNat) : Int)) := by rw [← hM, ← et2]; rfl
  have eM' : (pmN R x.toNat y.toNat).toNat = M := by omega
  have eN : pourF R x.toNat y.toNat = pmR R x.toNat y.toNat M := by unfold pourF; rw [eM']
  rw [eN] at hrN ⊢
  have ai := lay_le _ li
  have hMi : M ≤ layN (tubeAt R x.toNat) := by omega
  have hMj : M + layN (tubeAt R y.toNat) ≤ 4 := by omega
  obtain ⟨⟨p1, p2⟩, ⟨p3, p4⟩, p5⟩ := pm_facts hR hr hi hj hij hMi hMj
  have cell := pmR_cell hR hi hj hij M hMi hMj
  have hN : (pmR R x.toNat y.toNat M).length = 24 := by rw [pmR_len, hR]
  have rle := e2.2.1
  have q1 : M ≤ r := by omega
  have q2 : M = r ∨ 0 < layN (tubeAt R y.toNat) := by omega
  have q3 : 1 ≤ M := by omega
  clear hMd hM eM' g4 g5 g6 g7
  refine pour_bnd0 hR hN hr hrN hi hj hij p5 q1 q2 q3 hMj e2 g2 et1.symm (top_co li (tubeAt_ok hr hi) g2) p2 p4 (fun k hk => ?_) (fun k hk => ?_) (fun k h1 h2 => ?_) (can_top2 hR hr hy hc)
  · rw [tubeAt_getD _ _ _ (by omega), cell x.toNat k hi (by omega), if_neg (by omega), if_neg (by omega), tubeAt_getD _ _ _ (by omega)]
  · rw [tubeAt_getD _ _ _ (by omega), cell y.toNat k hj (by omega), if_neg (by omega), if_neg (by omega), tubeAt_getD _ _ _ (by omega)]
  · rw [tubeAt_getD _ _ _ (by omega), cell y.toNat k hj (by omega), if_neg (by omega), if_pos ⟨rfl, h1, h2⟩]
end Go.Proofs.Ytopfnkmlgcjpbaa
set_option maxRecDepth 100000
set_option linter.unusedSimpArgs false
set_option linter.unusedVariables false
namespace Go.Proofs.Ytopfnkmlgcjpbaa
open Go Go.RowKit
/-- A code of bytes: nil, or a window of a block. -/
def BytV (kc : Nat) (v : SV) (H : Heap) : Prop := (v = .nils ∧ ∃ o, hget H kc = some o) ∨ ∃ (off len cap : Nat) (L : List Int), v = .slice kc off len cap ∧ hget H kc = some (.winU off L) ∧ L.length = len ∧ len ≤ 1000000000 ∧ ∀ x ∈ L, 0 ≤ x ∧ x ≤ 255
theorem BytV.wf {kc n : Nat} {v : SV} {H : Heap} (h : BytV kc v H) (hw : hwf n H) : v.wf n ∧ kc < n := by
  rcases h with ⟨rfl, o, h⟩ | ⟨off, len, cap, L, rfl, h, _⟩
  · exact ⟨trivial, (hw _ _ h).1⟩
  · exact ⟨(hw _ _ h).1, (hw _ _ h).1⟩
theorem BytV.one {kc : Nat} {v : SV} {H : Heap} (h : BytV kc v H) : oneCellS v = true := by
  rcases h with ⟨rfl, o, h⟩ | ⟨off, len, cap, L, rfl, h, _⟩ <;> rfl
theorem BytV.at {kc : Nat} {v : SV} {H H' : Heap} (h : BytV kc v H) (hf : ∀ o, hget H kc = some o → hget H' kc = some o) : BytV kc v H' := by
  rcases h with ⟨rfl, o, h⟩ | ⟨off, len, cap, L, rfl, h, h2⟩
  · exact .inl ⟨rfl, o, hf _ h⟩
  · exact .inr ⟨off, len, cap, L, rfl, hf _ h, h2⟩
/-- A cursor, its bytes, and the number of draws. -/
def CurH (c kc a : Nat) (H : Heap) : Prop := ∃ (v : SV) (s : Int), hget H c = some (.cells [v, .int a, .lit (.int .u64 s)] 88) ∧ BytV kc v H ∧ kc ≠ c
/-- What draws leave. -/
structure Drawn (c kc a k n : Nat) (H H' : Heap) (n' : Nat) : Prop where
  le : n ≤ n'
  wf : hwf n' H'
  cur : ∃ a', a ≤ a' ∧ a' ≤ a + k ∧ CurH c kc a' H'
  fr : ∀ i o, i < n → i ≠ c → hget H i = some o → hget H' i = some o
theorem u8_in {x : Int} (h : 0 ≤ x ∧ x ≤ 255) : In64 x := by unfold In64; omega
theorem and_255 (x : Int) : 0 ≤ IntKind.u64.wrap ((BitVec.ofInt IntKind.u64.bits x &&& BitVec.ofInt IntKind.u64.bits 255).toNat : Int) ∧ IntKind.u64.wrap ((BitVec.ofInt IntKind.u64.bits x &&& BitVec.ofInt IntKind.u64.bits 255).toNat : Int) ≤ 255 := by
  have h : (BitVec.ofInt IntKind.u64.bits x &&& BitVec.ofInt IntKind.u64.bits 255).toNat ≤ 255 := by
    rw [BitVec.toNat_and]
    exact Nat.le_trans Nat.and_le_right (by decide)
  generalize (BitVec.ofInt IntKind.u64.bits x &&& BitVec.ofInt IntKind.u64.bits 255).toNat = y at h ⊢
  have e : IntKind.u64.wrap (y : Int) = y := by
    unfold IntKind.wrap
    have h2 : ((y : Int) % (2 ^ IntKind.u64.bits : Int)) = y := Int.emod_eq_of_lt (by omega) (by show (y : Int) < 18446744073709551616; omega)
    simp only [h2]
    rfl
  rw [e]; omega
def next_F : List SV → Heap → Nat → Nat → K1 → Prop
  | [.ptr c 0], H, n, m, κ => ∃ kc a, CurH c kc a H ∧ m ≤ c ∧ a ≤ 1000000 ∧ ∀ x H', 0 ≤ x → x ≤ 255 → Drawn c kc a 1 n H H' n → κ (.int x) H' n
  | _, _, _, _, _ => False
theorem next_vc (c kc a m n : Nat) (H : Heap) (hC : CurH c kc a H) (hm : m ≤ c) (ha : a ≤ 1000000) (hwH : hwf n H) :
    codeVC (⟨Try.prog, tys, [], [], true, true, m, [], []⟩ : Cx) n (Try.f147.body.getD .skip) (argS 0 [.ptr c 0]) H n
      (retK tys Try.f147.results.toList fun v H' n' => ∃ x : Int, v = .int x ∧ 0 ≤ x ∧ x ≤ 255 ∧ Drawn c kc a 1 n H H' n ∧ n' = n) := by
  obtain ⟨v, s, h1, h2, h6⟩ := hC
  have hc := (hwH _ _ h1).1
  obtain ⟨hvw, hk⟩ := h2.wf hwH
  have fin : ∀ s', Drawn c kc a 1 n H ((c, .cells [v, .int ((a : Int) + 1), .lit (.int .u64 s')] 88) :: (c, .cells [v, .int ((a : Int) + 1), .lit (.int .u64 s)] 88) :: H) n := fun s' =>
    ⟨Nat.le_refl _, hwf_cons (hwf_cons hwH hc (by simp [SObj.wf, wfL, SV.wf]; exact hvw)) hc (by simp [SObj.wf, wfL, SV.wf]; exact hvw),
      ⟨a + 1, by omega, by omega, v, s', by simp [hget_cons], h2.at (fun o ho => by rw [hget_cons, if_neg h6, hget_cons, if_neg h6]; exact ho), h6⟩,
      fun i o _ hi ho => by rw [hget_cons, if_neg hi, hget_cons, if_neg hi]; exact ho⟩
  rcases h2 with ⟨rfl, o, h2⟩ | ⟨off, len, cap, L, rfl, h2, h3, h4, h5⟩
  · have hil : ¬ (a : Int) < 0 := by omega
    have hil2 : ¬ (a : Int) + 1 ≤ 0 := by omega
    simp -implicitDefEqProofs only [Try.f147, Option.getD_some, argS, h1, hil, hil2, ZB, Int.reduceToNat, Nat.reduceLT, Nat.reduceLeDiff, Int.reduceLE, Int.reduceLT, Nat.reduceEqDiff, Nat.reduceSub, SB, SV.known, packR, ne_eq, reduceCtorEq, Nat.reduceEqDiff, ↓reduceIte, if_true, if_false, eq_self, Nat.reduceAdd, Nat.reduceMul, Nat.reduceSub, forall_const, oneCellS, litOne, flat1, Kd.isSca, flat, TYB]
    exact ⟨by unfold In64; omega, hm, hm, u8_in (and_255 _), _, rfl, (and_255 _).1, (and_255 _).2, fin _⟩
  by_cases hal : a < len
  · have hil : (a : Int) < len := by omega
    have hil2 : (a : Int) + 1 ≤ len := by omega
    have gL : off ≤ off + a ∧ off + a < off + L.length := by omega
    have ga : off + a - off = a := by omega
    have bL : 0 ≤ L.getD a 0 ∧ L.getD a 0 ≤ 255 := by
      rw [List.getD_eq_getElem?_getD, List.getElem?_eq_getElem (by omega)]
      exact h5 _ (List.getElem_mem _)
    have iL := u8_in bL
    simp -implicitDefEqProofs only [Try.f147, Option.getD_some, argS, h1, h2, hil, hil2, gL, ga, iL, ZB, Int.reduceToNat, Nat.reduceLT, Nat.reduceLeDiff, Int.reduceLE, Int.reduceLT, Nat.reduceEqDiff, Nat.reduceSub, SB, SV.known, packR, ne_eq, reduceCtorEq, Nat.reduceEqDiff, ↓reduceIte, if_true, if_false, eq_self, Nat.reduceAdd, Nat.reduceMul, Nat.reduceSub, forall_const, oneCellS, litOne, flat1, Kd.isSca, flat, TYB]
    exact ⟨by omega, by unfold In64; omega, hm, hm, _, rfl, bL.1, bL.2, fin _⟩
  · have hil : ¬ (a : Int) < len := by omega
    have hil2 : ¬ (a : Int) + 1 ≤ len := by omega
    simp -implicitDefEqProofs only [Try.f147, Option.getD_some, argS, h1, h2, hil, hil2, ZB, Int.reduceToNat, Nat.reduceLT, Nat.reduceLeDiff, Int.reduceLE, Int.reduceLT, Nat.reduceEqDiff, Nat.reduceSub, SB, SV.known, packR, ne_eq, reduceCtorEq, Nat.reduceEqDiff, ↓reduceIte, if_true, if_false, eq_self, Nat.reduceAdd, Nat.reduceMul, Nat.reduceSub, forall_const, oneCellS, litOne, flat1, Kd.isSca, flat, TYB]
    exact ⟨by unfold In64; omega, hm, hm, u8_in (and_255 _), _, rfl, (and_255 _).1, (and_255 _).2, fin _⟩
theorem fnx_next : FnOK Try.prog 147 Try.f147 (Try.f147.body.getD .skip) [] [] := ⟨Try.func147, rfl, by kernel_rfl, by kernel_rfl⟩
theorem next_T : ∀ args H n m κ, next_F args H n m κ → GenOK Try.prog 147 args H n m κ := by
  intro args H n m κ h
  unfold next_F at h
  split at h
  · rename_i c
    obtain ⟨kc, a, hC, hm, ha, h1⟩ := h
    exact gen_direct (X := ⟨Try.prog, tys, [], [], true, true, m, [], []⟩) fnx_next ⟨tys_ok, .nil, .nil, mixed⟩ rfl (Nat.le_of_ble_eq_true rfl) (fun hwH hwa => next_vc c kc a m n H hC hm ha hwH) fun hwH v H' n' hψ h3 h4 h5 => by
      obtain ⟨x, rfl, g1, g2, g3, rfl⟩ := hψ
      exact h1 x H' g1 g2 g3
  · exact h.elim
theorem Drawn.trans {c kc a k a' k' n n1 n2 : Nat} {H H1 H2 : Heap} (h1 : Drawn c kc a k n H H1 n1) (h2 : Drawn c kc a' k' n1 H1 H2 n2) (h : a' ≤ a + k) (h' : a ≤ a') : Drawn c kc a (k + k') n H H2 n2 :=
  ⟨Nat.le_trans h1.le h2.le, h2.wf, by
    obtain ⟨b, g1, g2, g3⟩ := h2.cur
    exact ⟨b, by omega, by omega, g3⟩, fun i o hi hc ho => h2.fr i o (Nat.lt_of_lt_of_le hi h1.le) hc (h1.fr i o hi hc ho)⟩
theorem Drawn.more {c kc a k k' n n1 : Nat} {H H1 : Heap} (h1 : Drawn c kc a k n H H1 n1) (h : k ≤ k') : Drawn c kc a k' n H H1 n1 :=
  ⟨h1.le, h1.wf, by
    obtain ⟨b, g1, g2, g3⟩ := h1.cur
    exact ⟨b, g1, by omega, g3⟩, h1.fr⟩
/-- A number below another one. -/
def pick_F : List SV → Heap → Nat → Nat → K1 → Prop
  | [.ptr c 0, .int k], H, n, m, κ => ∃ kc a, CurH c kc a H ∧ m ≤ c ∧ a ≤ 999990 ∧ ∀ (x : Int) H', 0 ≤ x → (x < k ∨ x = 0) → Drawn c kc a 2 n H H' n → κ (.int x) H' n
  | _, _, _, _, _ => False
theorem pick_vc (c kc a m n : Nat) (k : Int) (H : Heap) (hC : CurH c kc a H) (hm : m ≤ c) (ha : a ≤ 999990) (hwH : hwf n H) :
    codeVC (⟨Try.prog, tys, [], [(147, next_F)], true, true, m, [147], []⟩ : Cx) n (Try.f94.body.getD .skip) (argS 0 [.ptr c 0, .int k]) H n
      (retK tys Try.f94.results.toList fun v H' n' => ∃ x : Int, v = .int x ∧ 0 ≤ x ∧ (x < k ∨ x = 0) ∧ Drawn c kc a 2 n H H' n ∧ n' = n) := by
  have d0 : Drawn c kc a 2 n H H n := ⟨Nat.le_refl _, hwH, ⟨a, Nat.le_refl _, by omega, hC⟩, fun i o _ _ h => h⟩
  by_cases hk : k ≤ 1
  · simp -implicitDefEqProofs only [Try.f94, Option.getD_some, argS, hk, ZB, Int.reduceToNat, Nat.reduceLT, Nat.reduceLeDiff, Int.reduceLE, Int.reduceLT, Nat.reduceEqDiff, Nat.reduceSub, SB, SV.known, packR, ne_eq, reduceCtorEq, Nat.reduceEqDiff, ↓reduceIte, if_true, if_false, eq_self, Nat.reduceAdd, Nat.reduceMul, Nat.reduceSub, forall_const, oneCellS, litOne, flat1, Kd.isSca, flat, TYB]
    exact ⟨0, rfl, Int.le_refl _, .inr rfl, d0⟩
  · simp -implicitDefEqProofs only [Try.f94, Option.getD_some, argS, next_F, hk, ZB, Int.reduceToNat, Nat.reduceLT, Nat.reduceLeDiff, Int.reduceLE, Int.reduceLT, Nat.reduceEqDiff, Nat.reduceSub, SB, SV.known, packR, ne_eq, reduceCtorEq, Nat.reduceEqDiff, ↓reduceIte, if_true, if_false, eq_self, Nat.reduceAdd, Nat.reduceMul, Nat.reduceSub, forall_const, oneCellS, litOne, flat1, Kd.isSca, flat, TYB]
    refine ⟨kc, a, hC, hm, by omega, fun x H1 hx0 hx1 hd1 => ?_⟩
    obtain ⟨a1, ha1, ha1', hC1⟩ := hd1.cur
    by_cases hk2 : 200 < k
    · simp -implicitDefEqProofs only [next_F, hk2, ZB, Int.reduceToNat, Nat.reduceLT, Nat.reduceLeDiff, Int.reduceLE, Int.reduceLT, Nat.reduceEqDiff, Nat.reduceSub, SB, SV.known, packR, ne_eq, reduceCtorEq, Nat.reduceEqDiff, ↓reduceIte, if_true, if_false, eq_self, Nat.reduceAdd, Nat.reduceMul, Nat.reduceSub, forall_const, oneCellS, litOne, flat1, Kd.isSca, flat, TYB]
      refine ⟨⟨by unfold In64; omega, kc, a1, hC1, hm, by omega, fun y H2 hy0 hy1 hd2 => ?_⟩, fun h => absurd trivial h⟩
      have hr := Int.tmod_lt_of_pos (x * 256 + y) (show 0 < k by omega)
      have hr0 := Int.tmod_nonneg k (show 0 ≤ x * 256 + y by omega)
      exact ⟨by unfold In64; omega, by omega, _, rfl, hr0, .inl hr, hd1.trans hd2 ha1' ha1⟩
    · simp -implicitDefEqProofs only [next_F, hk2, ZB, Int.reduceToNat, Nat.reduceLT, Nat.reduceLeDiff, Int.reduceLE, Int.reduceLT, Nat.reduceEqDiff, Nat.reduceSub, SB, SV.known, packR, ne_eq, reduceCtorEq, Nat.reduceEqDiff, ↓reduceIte, if_true, if_false, eq_self, Nat.reduceAdd, Nat.reduceMul, Nat.reduceSub, forall_const, oneCellS, litOne, flat1, Kd.isSca, flat, TYB]
      exact ⟨by omega, _, rfl, Int.tmod_nonneg k hx0, .inl (Int.tmod_lt_of_pos x (show 0 < k by omega)), hd1.more (by omega)⟩
theorem fnx_pick : FnOK Try.prog 94 Try.f94 (Try.f94.body.getD .skip) [147] [] := ⟨Try.func94, rfl, by kernel_rfl, by kernel_rfl⟩
theorem pick_T : ∀ args H n m κ, pick_F args H n m κ → GenOK Try.prog 94 args H n m κ := by
  intro args H n m κ h
  unfold pick_F at h
  split at h
  · rename_i c k
    obtain ⟨kc, a, hC, hm, ha, h1⟩ := h
    exact gen_direct (X := ⟨Try.prog, tys, [], [(147, next_F)], true, true, m, [147], []⟩) fnx_pick ⟨tys_ok, .nil, .cons next_T .nil, mixed⟩ rfl (Nat.le_of_ble_eq_true rfl) (fun hwH hwa => pick_vc c kc a m n k H hC hm ha hwH) fun hwH v H' n' hψ h3 h4 h5 => by
      obtain ⟨x, rfl, g1, g2, g3, rfl⟩ := hψ
      exact h1 x H' g1 g2 g3
  · exact h.elim
def one_F : List SV → Heap → Nat → Nat → K1 → Prop
  | [.ptr c 0, .int _], H, n, m, κ => ∃ kc a, CurH c kc a H ∧ m ≤ c ∧ a ≤ 999990 ∧ ∀ (b : Bool) H', Drawn c kc a 2 n H H' n → κ (.bool b) H' n
  | _, _, _, _, _ => False
theorem one_vc (c kc a m n : Nat) (k : Int) (H : Heap) (hC : CurH c kc a H) (hm : m ≤ c) (ha : a ≤ 999990) (hwH : hwf n H) :
    codeVC (⟨Try.prog, tys, [], [(94, pick_F)], true, true, m, [94], []⟩ : Cx) n (Try.f92.body.getD .skip) (argS 0 [.ptr c 0, .int k]) H n
      (retK tys Try.f92.results.toList fun v H' n' => ∃ b : Bool, v = .bool b ∧ Drawn c kc a 2 n H H' n ∧ n' = n) := by
  simp -implicitDefEqProofs only [Try.f92, Option.getD_some, argS, pick_F, ZB, Int.reduceToNat, Nat.reduceLT, Nat.reduceLeDiff, Int.reduceLE, Int.reduceLT, Nat.reduceEqDiff, Nat.reduceSub, SB, SV.known, packR, ne_eq, reduceCtorEq, Nat.reduceEqDiff, ↓reduceIte, if_true, if_false, eq_self, Nat.reduceAdd, Nat.reduceMul, Nat.reduceSub, forall_const, oneCellS, litOne, flat1, Kd.isSca, flat, TYB]
  exact ⟨kc, a, hC, hm, ha, fun x H1 _ _ hd1 => ⟨_, rfl, hd1⟩⟩
theorem fnx_one : FnOK Try.prog 92 Try.f92 (Try.f92.body.getD .skip) [94] [] := ⟨Try.func92, rfl, by kernel_rfl, by kernel_rfl⟩
theorem one_T : ∀ args H n m κ, one_F args H n m κ → GenOK Try.prog 92 args H n m κ := by
  intro args H n m κ h
  unfold one_F at h
  split at h
  · rename_i c k
    obtain ⟨kc, a, hC, hm, ha, h1⟩ := h
    exact gen_direct (X := ⟨Try.prog, tys, [], [(94, pick_F)], true, true, m, [94], []⟩) fnx_one ⟨tys_ok, .nil, .cons pick_T .nil, mixed⟩ rfl (Nat.le_of_ble_eq_true rfl) (fun hwH hwa => one_vc c kc a m n k H hC hm ha hwH) fun hwH v H' n' hψ h3 h4 h5 => by
      obtain ⟨b, rfl, g3, rfl⟩ := hψ
      exact h1 b H' g3
  · exact h.elim
/-- One of some numbers. -/
def among_F : List SV → Heap → Nat → Nat → K1 → Prop
  | [.ptr c 0, .slice b 0 len _], H, n, m, κ => match hget H b with
    | some (.ints L _) => 0 < len ∧ len ≤ L.length ∧ len ≤ 1000 ∧ b < n ∧ b ≠ c ∧ ∃ kc a, CurH c kc a H ∧ m ≤ c ∧ a ≤ 999990 ∧ ∀ (i : Nat) H', i < len → Drawn c kc a 2 n H H' n → κ (.int (L.getD i 0)) H' n
    | _ => False
  | _, _, _, _, _ => False
theorem among_vc (c kc a m n b len cap e : Nat) (L : List Int) (H : Heap) (hb : hget H b = some (.ints L e)) (hl : 0 < len ∧ len ≤ L.length) (hl2 : len ≤ 1000) (hbn : b < n) (hbc : b ≠ c) (hC : CurH c kc a H) (hm : m ≤ c) (ha : a ≤ 999990) (hwH : hwf n H) :
    codeVC (⟨Try.prog, tys, [], [(94, pick_F)], true, true, m, [94], []⟩ : Cx) n (Try.f119.body.getD .skip) (argS 0 [.ptr c 0, .slice b 0 len cap]) H n
      (retK tys Try.f119.results.toList fun v H' n' => ∃ i : Nat, v = .int (L.getD i 0) ∧ i < len ∧ Drawn c kc a 2 n H H' n ∧ n' = n) := by
  simp -implicitDefEqProofs only [Try.f119, Option.getD_some, argS, pick_F, hb, ZB, Int.reduceToNat, Nat.reduceLT, Nat.reduceLeDiff, Int.reduceLE, Int.reduceLT, Nat.reduceEqDiff, Nat.reduceSub, SB, SV.known, packR, ne_eq, reduceCtorEq, Nat.reduceEqDiff, ↓reduceIte, if_true, if_false, eq_self, Nat.reduceAdd, Nat.reduceMul, Nat.reduceSub, forall_const, oneCellS, litOne, flat1, Kd.isSca, flat, TYB]
  refine ⟨kc, a, hC, hm, ha, fun x H1 hx0 hx1 hd1 => ?_⟩
  obtain ⟨i, rfl⟩ : ∃ i : Nat, x = i := ⟨x.toNat, by omega⟩
  have hi : i < len := by omega
  have hil : (i : Int) < len := by omega
  have hb1 := hd1.fr b _ hbn hbc hb
  simp -implicitDefEqProofs only [hb1, hil, ZB, Int.reduceToNat, Nat.reduceLT, Nat.reduceLeDiff, Int.reduceLE, Int.reduceLT, Nat.reduceEqDiff, Nat.reduceSub, SB, SV.known, packR, ne_eq, reduceCtorEq, Nat.reduceEqDiff, ↓reduceIte, if_true, if_false, eq_self, Nat.reduceAdd, Nat.reduceMul, Nat.reduceSub, forall_const, oneCellS, litOne, flat1, Kd.isSca, flat, TYB]
  exact ⟨by omega, by omega, i, rfl, hi, hd1⟩
theorem fnx_among : FnOK Try.prog 119 Try.f119 (Try.f119.body.getD .skip) [94] [] := ⟨Try.func119, rfl, by kernel_rfl, by kernel_rfl⟩
theorem among_T : ∀ args H n m κ, among_F args H n m κ → GenOK Try.prog 119 args H n m κ := by
  intro args H n m κ h
  unfold among_F at h
  split at h
  · rename_i c b len cap
    split at h
    · rename_i L e hb
      obtain ⟨g1, g2, g3, g4, g5, kc, a, hC, hm, ha, h1⟩ := h
      exact gen_direct (X := ⟨Try.prog, tys, [], [(94, pick_F)], true, true, m, [94], []⟩) fnx_among ⟨tys_ok, .nil, .cons pick_T .nil, mixed⟩ rfl (Nat.le_of_ble_eq_true rfl) (fun hwH hwa => among_vc c kc a m n b len cap e L H hb ⟨g1, g2⟩ g3 g4 g5 hC hm ha hwH) fun hwH v H' n' hψ h3 h4 h5 => by
        obtain ⟨i, rfl, hi, g6, rfl⟩ := hψ
        exact h1 i H' hi g6
    · exact h.elim
  · exact h.elim
theorem CurH.lt {c kc a n : Nat} {H : Heap} (h : CurH c kc a H) (hw : hwf n H) : c < n ∧ kc < n ∧ kc ≠ c := by
  obtain ⟨v, s, h1, h2, h6⟩ := h
  exact ⟨(hw _ _ h1).1, (h2.wf hw).2, h6⟩
theorem CurH.cons {c kc a k : Nat} {H : Heap} (h : CurH c kc a H) (o : SObj) (h1 : k ≠ c) (h2 : k ≠ kc) : CurH c kc a ((k, o) :: H) := by
  obtain ⟨v, s, g1, g2, g6⟩ := h
  exact ⟨v, s, by rw [hget_cons, if_neg (fun e => h1 e.symm)]; exact g1, g2.at (fun o ho => by rw [hget_cons, if_neg (fun e => h2 e.symm)]; exact ho), g6⟩
/-- A block put beside. -/
theorem Drawn.put {c kc a k n0 n n' k0 : Nat} {H0 H : Heap} (h : Drawn c kc a k n0 H0 H n) (hc : c < n0 ∧ kc < n0 ∧ kc ≠ c) (o : SObj) (h0 : n0 ≤ k0) (hk : k0 < n') (hn : n ≤ n') (ho : o.wf n') : Drawn c kc a k n0 H0 ((k0, o) :: H) n' := by
  obtain ⟨b, g1, g2, g3⟩ := h.cur
  exact ⟨Nat.le_trans h.le hn, hwf_cons (hwf_mono hn h.wf) hk ho, ⟨b, g1, g2, g3.cons o (by omega) (by omega)⟩, fun i o' hi hic ho' => by
    rw [hget_cons, if_neg (by omega)]
    exact h.fr i o' hi hic ho'⟩
theorem Drawn.start {c kc a n : Nat} {H : Heap} (h : CurH c kc a H) (hw : hwf n H) : Drawn c kc a 0 n H H n := ⟨Nat.le_refl _, hw, ⟨a, Nat.le_refl _, Nat.le_refl _, h⟩, fun _ _ _ _ h => h⟩
/-- One of a few numbers, drawn from a list just made. -/
theorem among_new {c kc a k n0 n m : Nat} {H0 H : Heap} {κ : K1} (h : Drawn c kc a k n0 H0 H n) (hC : CurH c kc a H0) (hw0 : hwf n0 H0) (hm : m ≤ c) (ha : a + k ≤ 999980) (L : List Int) (e len cap : Nat) (hl : 0 < len ∧ len ≤ L.length) (hl2 : len ≤ 1000)
    (hκ : ∀ (i : Nat) H', i < len → Drawn c kc a (k + 2) n0 H0 H' (n + 1) → κ (.int (L.getD i 0)) H' (n + 1)) : among_F [.ptr c 0, .slice n 0 len cap] ((n, .ints L e) :: H) (n + 1) m κ := by
  obtain ⟨q1, q2, q3⟩ := hC.lt hw0
  have h2 := h.put (hC.lt hw0) (k0 := n) (n' := n + 1) (.ints L e) h.le (by omega) (by omega) trivial
  obtain ⟨b, g1, g2, g3⟩ := h2.cur
  have hle := h.le
  simp only [among_F, hget_cons, if_true]
  exact ⟨hl.1, hl.2, hl2, by omega, by omega, kc, b, g3, hm, by omega, fun i H' hi hd => hκ i H' hi (h2.trans hd g2 g1)⟩
def place_F : List SV → Heap → Nat → Nat → K1 → Prop
  | [.ptr c 0], H, n, m, κ => ∃ kc a, CurH c kc a H ∧ m ≤ c ∧ a ≤ 999900 ∧ ∀ (x : Int) H' n', In64 x → Drawn c kc a 4 n H H' n' → κ (.int x) H' n'
  | _, _, _, _, _ => False
theorem place_vc (c kc a m n : Nat) (H : Heap) (hC : CurH c kc a H) (hm : m ≤ c) (ha : a ≤ 999900) (hwH : hwf n H) :
    codeVC (⟨Try.prog, tys, [], [(94, pick_F), (92, one_F), (119, among_F)], true, true, m, [94, 92, 119], []⟩ : Cx) n (Try.f146.body.getD .skip) (argS 0 [.ptr c 0]) H n
      (retK tys Try.f146.results.toList fun v H' n' => ∃ x : Int, v = .int x ∧ In64 x ∧ Drawn c kc a 4 n H H' n') := by
  simp -implicitDefEqProofs only [Try.f146, Option.getD_some, argS, one_F, ZB, Int.reduceToNat, Nat.reduceLT, Nat.reduceLeDiff, Int.reduceLE, Int.reduceLT, Nat.reduceEqDiff, Nat.reduceSub, SB, SV.known, packR, ne_eq, reduceCtorEq, Nat.reduceEqDiff, ↓reduceIte, if_true, if_false, eq_self, Nat.reduceAdd, Nat.reduceMul, Nat.reduceSub, forall_const, oneCellS, litOne, flat1, Kd.isSca, flat, TYB]
  refine ⟨kc, a, hC, hm, by omega, fun b H1 hd1 => ?_⟩
  obtain ⟨a1, ha1, ha1', hC1⟩ := hd1.cur
  cases b
  · simp -implicitDefEqProofs only [pick_F, ZB, Int.reduceToNat, Nat.reduceLT, Nat.reduceLeDiff, Int.reduceLE, Int.reduceLT, Nat.reduceEqDiff, Nat.reduceSub, SB, SV.known, packR, ne_eq, reduceCtorEq, Nat.reduceEqDiff, ↓reduceIte, if_true, if_false, eq_self, Nat.reduceAdd, Nat.reduceMul, Nat.reduceSub, forall_const, oneCellS, litOne, flat1, Kd.isSca, flat, TYB]
    exact ⟨kc, a1, hC1, hm, by omega, fun x H2 hx0 hx1 hd2 => ⟨x, rfl, by unfold In64; omega, hd1.trans hd2 ha1' ha1⟩⟩
  · simp -implicitDefEqProofs only [ZB, Int.reduceToNat, Nat.reduceLT, Nat.reduceLeDiff, Int.reduceLE, Int.reduceLT, Nat.reduceEqDiff, Nat.reduceSub, SB, SV.known, packR, ne_eq, reduceCtorEq, Nat.reduceEqDiff, ↓reduceIte, if_true, if_false, eq_self, Nat.reduceAdd, Nat.reduceMul, Nat.reduceSub, forall_const, oneCellS, litOne, flat1, Kd.isSca, flat, TYB]
    refine among_new hd1 hC hwH hm (by omega) _ _ _ _ (by simp) (by omega) fun i H' hi hd => ?_
    have hI : In64 (([-1, 6, 4611686018427387904] : List Int).getD i 0) := by
      match i, hi with
      | 0, _ => simp [In64]
      | 1, _ => simp [In64]
      | 2, _ => simp [In64]
    simp -implicitDefEqProofs only [ZB, Int.reduceToNat, Nat.reduceLT, Nat.reduceLeDiff, Int.reduceLE, Int.reduceLT, Nat.reduceEqDiff, Nat.reduceSub, SB, SV.known, packR, ne_eq, reduceCtorEq, Nat.reduceEqDiff, ↓reduceIte, if_true, if_false, eq_self, Nat.reduceAdd, Nat.reduceMul, Nat.reduceSub, forall_const, oneCellS, litOne, flat1, Kd.isSca, flat, TYB]
    exact ⟨_, rfl, hI, hd⟩
theorem fnx_place : FnOK Try.prog 146 Try.f146 (Try.f146.body.getD .skip) [94, 92, 119] [] := ⟨Try.func146, rfl, by kernel_rfl, by kernel_rfl⟩
theorem place_T : ∀ args H n m κ, place_F args H n m κ → GenOK Try.prog 146 args H n m κ := by
  intro args H n m κ h
  unfold place_F at h
  split at h
  · rename_i c
    obtain ⟨kc, a, hC, hm, ha, h1⟩ := h
    exact gen_direct (X := ⟨Try.prog, tys, [], [(94, pick_F), (92, one_F), (119, among_F)], true, true, m, [94, 92, 119], []⟩) fnx_place ⟨tys_ok, .nil, .cons pick_T (.cons one_T (.cons among_T .nil)), mixed⟩ rfl (Nat.le_of_ble_eq_true rfl) (fun hwH hwa => place_vc c kc a m n H hC hm ha hwH) fun hwH v H' n' hψ h3 h4 h5 => by
      obtain ⟨x, rfl, hI, g3⟩ := hψ
      exact h1 x H' n' hI g3
  · exact h.elim
theorem Drawn.push {c kc a k n0 n : Nat} {H0 H : Heap} (h : Drawn c kc a k n0 H0 H n) (hc : c < n0 ∧ kc < n0 ∧ kc ≠ c) (o : SObj) (ho : o.wf (n + 1)) : Drawn c kc a k n0 H0 ((n, o) :: H) (n + 1) := h.put hc o h.le (by omega) (by omega) ho
theorem Drawn.pushI {c kc a k n0 n : Nat} {H0 H : Heap} (h : Drawn c kc a k n0 H0 H n) (hc : c < n0 ∧ kc < n0 ∧ kc ≠ c) {L : List Int} {e : Nat} : Drawn c kc a k n0 H0 ((n, .ints L e) :: H) (n + 1) := h.push hc _ trivial
theorem Drawn.putI {c kc a k n0 n k0 : Nat} {H0 H : Heap} (h : Drawn c kc a k n0 H0 H n) (hc : c < n0 ∧ kc < n0 ∧ kc ≠ c) {L : List Int} {e : Nat} (h0 : n0 ≤ k0) (hk : k0 < n) : Drawn c kc a k n0 H0 ((k0, .ints L e) :: H) n := h.put hc _ h0 hk (Nat.le_refl _) trivial
/-- What is kept of one's own blocks. -/
def Fr (n0 n : Nat) (H H' : Heap) : Prop := ∀ j o, n0 ≤ j → j < n → hget H j = some o → hget H' j = some o
theorem Fr.use {n0 n j : Nat} {H H' : Heap} {o : SObj} (h : Fr n0 n H H') (h1 : n0 ≤ j) (h2 : j < n) (h3 : hget H j = some o) : hget H' j = some o := h j o h1 h2 h3
theorem Drawn.own {c kc a k n0 n n' : Nat} {H H' : Heap} (h : Drawn c kc a k n H H' n') (hc : c < n0) : Fr n0 n H H' := fun j o h1 h2 h3 => h.fr j o h2 (by omega) h3
theorem among_use {c kc a k n0 n m b len cap e : Nat} {H0 H : Heap} {κ : K1} {L : List Int} (h : Drawn c kc a k n0 H0 H n) (hc : c < n0 ∧ kc < n0 ∧ kc ≠ c) (hm : m ≤ c) (ha : a + k ≤ 999980) (hb : hget H b = some (.ints L e)) (h0 : n0 ≤ b) (hl : 0 < len ∧ len ≤ L.length ∧ len ≤ 1000)
    (hκ : ∀ (x : Int) H', x ∈ L → Drawn c kc a (k + 2) n0 H0 H' n → Fr n0 n H H' → κ (.int x) H' n) : among_F [.ptr c 0, .slice b 0 len cap] H n m κ := by
  obtain ⟨b', g1, g2, g3⟩ := h.cur
  have hbn := (h.wf _ _ hb).1
  simp only [among_F, hb]
  refine ⟨hl.1, hl.2.1, hl.2.2, hbn, by omega, kc, b', g3, hm, by omega, fun i H' hi hd => hκ _ H' ?_ (h.trans hd g2 g1) (hd.own hc.1)⟩
  rw [List.getD_eq_getElem?_getD, List.getElem?_eq_getElem (by omega)]
  exact List.getElem_mem _
theorem pick_use {c kc a k n0 n m : Nat} {H0 H : Heap} {κ : K1} (h : Drawn c kc a k n0 H0 H n) (hc : c < n0 ∧ kc < n0 ∧ kc ≠ c) (hm : m ≤ c) (ha : a + k ≤ 999980) {z : Int}
    (hκ : ∀ (x : Int) H', 0 ≤ x → (x < z ∨ x = 0) → Drawn c kc a (k + 2) n0 H0 H' n → Fr n0 n H H' → κ (.int x) H' n) : pick_F [.ptr c 0, .int z] H n m κ := by
  obtain ⟨b', g1, g2, g3⟩ := h.cur
  exact ⟨kc, b', g3, hm, by omega, fun x H' h1 h2 hd => hκ x H' h1 h2 (h.trans hd g2 g1) (hd.own hc.1)⟩
theorem one_use {c kc a k n0 n m : Nat} {H0 H : Heap} {κ : K1} (h : Drawn c kc a k n0 H0 H n) (hc : c < n0 ∧ kc < n0 ∧ kc ≠ c) (hm : m ≤ c) (ha : a + k ≤ 999980) {z : Int}
    (hκ : ∀ (x : Bool) H', Drawn c kc a (k + 2) n0 H0 H' n → Fr n0 n H H' → κ (.bool x) H' n) : one_F [.ptr c 0, .int z] H n m κ := by
  obtain ⟨b', g1, g2, g3⟩ := h.cur
  exact ⟨kc, b', g3, hm, by omega, fun x H' hd => hκ x H' (h.trans hd g2 g1) (hd.own hc.1)⟩
theorem place_use {c kc a k n0 n m : Nat} {H0 H : Heap} {κ : K1} (h : Drawn c kc a k n0 H0 H n) (hc : c < n0 ∧ kc < n0 ∧ kc ≠ c) (hm : m ≤ c) (ha : a + k ≤ 999900)
    (hκ : ∀ (x : Int) H' n', In64 x → Drawn c kc a (k + 4) n0 H0 H' n' → n ≤ n' → Fr n0 n H H' → κ (.int x) H' n') : place_F [.ptr c 0] H n m κ := by
  obtain ⟨b', g1, g2, g3⟩ := h.cur
  exact ⟨kc, b', g3, hm, by omega, fun x H' n' hI hd => hκ x H' n' hI (h.trans hd g2 g1) hd.le (hd.own hc.1)⟩
end Go.Proofs.Ytopfnkmlgcjpbaa
