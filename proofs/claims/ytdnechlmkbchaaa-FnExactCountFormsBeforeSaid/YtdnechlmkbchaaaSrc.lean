/- Walks: sources. -/
import Derived.Test.YtdnechlmkbchaaaBack
import Derived.Test.YtdnechlmkbchaaaGL
set_option maxRecDepth 100000
set_option linter.unusedSimpArgs false
set_option linter.unusedVariables false
namespace Go.Proofs.Ytdnechlmkbchaaa
open Go Go.RowKit
def srK (R : List Int) (q : Nat) : List Int := if bkB R ((q / 24 : Nat) : Int) ((q / 4 % 6 : Nat) : Int) ((q % 4 + 1 : Nat) : Int) = true then [((q / 24 : Nat) : Int), ((q / 4 % 6 : Nat) : Int), ((q % 4 + 1 : Nat) : Int)] else []
def SrL (R : List Int) (m : Nat) : List Int := (List.range m).flatMap (srK R)
theorem SrL_zero (R : List Int) : SrL R 0 = [] := rfl
theorem SrL_succ (R : List Int) (m : Nat) : SrL R (m + 1) = SrL R m ++ srK R m := by simp [SrL, List.range_succ]
theorem SrL_at (R : List Int) (i j k : Nat) (hj : j < 6) (hk : k < 4) : SrL R ((i * 6 + j) * 4 + k + 1) = SrL R ((i * 6 + j) * 4 + k) ++ if bkB R i j ((k + 1 : Nat) : Int) = true then [(i : Int), (j : Int), ((k + 1 : Nat) : Int)] else [] := by
  rw [SrL_succ]
  have e1 : ((i * 6 + j) * 4 + k) / 24 = i := by omega
  have e2 : ((i * 6 + j) * 4 + k) / 4 % 6 = j := by omega
  have e3 : ((i * 6 + j) * 4 + k) % 4 = k := by omega
  simp only [srK, e1, e2, e3]
theorem SrL_three (R : List Int) : ∀ m, ∃ n, (SrL R m).length = n * 3 ∧ n ≤ m
  | 0 => ⟨0, rfl, by omega⟩
  | m + 1 => by
    obtain ⟨n, h1, h2⟩ := SrL_three R m
    rw [SrL_succ, List.length_append, h1]
    unfold srK
    split
    · exact ⟨n + 1, by simp; omega, by omega⟩
    · exact ⟨n, by simp, by omega⟩
theorem SrL_trip (R : List Int) : ∀ m, ∀ i, i * 3 + 3 ≤ (SrL R m).length → ∃ a b c : Int, bkB R a b c = true ∧ ((SrL R m).drop (i * 3)).take 3 = [a, b, c]
  | 0, i, h => by simp [SrL_zero] at h
  | m + 1, i, h => by
    obtain ⟨n, hn, _⟩ := SrL_three R m
    rw [SrL_succ, List.length_append, hn] at h
    by_cases hi : i * 3 + 3 ≤ n * 3
    · obtain ⟨a, b, c, h1, h2⟩ := SrL_trip R m i (by omega)
      refine ⟨a, b, c, h1, ?_⟩
      rw [SrL_succ, List.drop_append_of_le_length (by omega), List.take_append_of_le_length (by rw [List.length_drop]; omega)]
      exact h2
    · unfold srK at h
      split at h
      · rename_i hc
        simp at h
        have : i = n := by omega
        subst this
        refine ⟨_, _, _, hc, ?_⟩
        rw [SrL_succ, List.drop_left' hn]
        unfold srK
        rw [if_pos hc]; rfl
      · simp at h; omega
--@tbl isPossible = impl.isPossible
theorem isPossible_ok (R s : List Int) (hR : R.length = 24) (hs : s.length = 3) (hr : rackB R = true) : PureH Try.prog 133 [.arr R, .arr s] [] (.bool (bkB R (s.getD 0 0) (s.getD 1 0) (s.getD 2 0))) := by
  have tkR : R.take 24 = R := List.take_of_length_le (by omega)
  have tks : s.take 3 = s := List.take_of_length_le (by omega)
  have bR := bkR_len hR (s.getD 0 0) (s.getD 1 0) (s.getD 2 0)
  cases h2 : bk2 R (s.getD 0 0) (s.getD 1 0) (s.getD 2 0)
  all_goals
    refine pure_of_vc (X := ⟨Try.prog, tys, [(106, back_F)], [], true, true, 0, [], []⟩) fn_133 ⟨tys_ok, (.cons back_T .nil), .nil, mixed⟩ (n0 := 0) (Nat.le_of_ble_eq_true rfl) (by simp [wfL, SV.wf]) (wfH_spec (by simp [wfH, SObj.wf])) (Nat.le_refl _) (fun _ => by simp [SV.wf, wfL]) ?_
    simp -implicitDefEqProofs only [Try.f133, Option.getD_some, argS, back_F, hR, hs, tkR, tks, hr, h2, bR, ZB, Int.reduceToNat, Nat.reduceLT, Nat.reduceLeDiff, Int.reduceLE, Int.reduceLT, Nat.reduceEqDiff, Nat.reduceSub, SB, SV.known, packR, ne_eq, reduceCtorEq, Nat.reduceEqDiff, ↓reduceIte, if_true, if_false, eq_self, Nat.reduceAdd, Nat.reduceMul, Nat.reduceSub, forall_const, oneCellS, Kd.isSca, flat, TYB]
def isPossible_F : List SV → Heap → Option (Prop × SV)
  | [.arr R, .arr s], _ => some (R.length = 24 ∧ s.length = 3 ∧ rackB R = true, .bool (bkB R (s.getD 0 0) (s.getD 1 0) (s.getD 2 0)))
  | _, _ => none
theorem isPossible_T : ∀ args H p v, isPossible_F args H = some (p, v) → p → PureH Try.prog 133 args H v := by
  intro args H p v h hp
  unfold isPossible_F at h
  split at h
  · cases h; exact (isPossible_ok _ _ hp.1 hp.2.1 hp.2.2).any _
  · cases h
theorem l5Sources_ok (R : List Int) (hR : R.length = 24) (hr : rackB R = true) : FreshP Try.prog 67 [.arr R] [] (SrL R 144) ((SrL R 144).length / 3) 3 108 false .one := by
  have tkR : R.take 24 = R := List.take_of_length_le (by omega)
  refine fresh_of_vc (X := ⟨Try.prog, tys, [(103, l5Back_F)], [], true, true, 0, [], []⟩) fn_67 ⟨tys_ok, (.cons l5Back_T .nil), .nil, mixed⟩ (n0 := 0) rfl (Nat.le_of_ble_eq_true rfl) (by simp [wfL, SV.wf]) (wfH_spec (by simp [wfH, SObj.wf])) (Nat.le_refl _) ?_
  simp -implicitDefEqProofs only [Try.f67, Option.getD_some, argS, l5Back_F, hR, hr, tkR, ZB, Int.reduceToNat, Nat.reduceLT, Nat.reduceLeDiff, Int.reduceLE, Int.reduceLT, Nat.reduceEqDiff, Nat.reduceSub, SB, SV.known, packR, ne_eq, reduceCtorEq, Nat.reduceEqDiff, ↓reduceIte, if_true, if_false, eq_self, Nat.reduceAdd, Nat.reduceMul, Nat.reduceSub, forall_const, oneCellS, Kd.isSca, flat, TYB]
  refine loop_intro (fun s : Nat × Nat × Nat × List Int => [(4, .int s.1), (3, .slice 1 0 s.2.1 s.2.2.1), (1, .ptr 0 0)]) (fun s => [(1, .ints (SrL R (s.1 * 6 * 4) ++ s.2.2.2) 108), (0, .ints R 29)]) 2
    (fun s => s.1 ≤ 6 ∧ (SrL R (s.1 * 6 * 4)).length = s.2.1 * 3 ∧ s.2.1 ≤ s.1 * 24 ∧ s.2.2.2.length + s.2.1 * 3 = s.2.2.1 * 3) (fun s => 6 - s.1) ?_ ?_
  · refine ⟨(0, 0, 0, []), ⟨by omega, by simp [SrL_zero], by simp, by simp⟩, Sub.mk_id ?_ ?_ ?_ ?_ ?_⟩
    all_goals simp only [Nat.zero_mul, SrL_zero, List.append_nil, LB, subS, subH, wfS, wfH, SV.ren, renL, SObj.ren, SV.wf, SObj.wf, wfL, SV.known, Nat.reduceEqDiff, ↓reduceIte, if_true, if_false, eq_self, Nat.reduceAdd, Nat.reduceLT, Nat.reduceLeDiff, implies_true, reduceCtorEq, forall_const]
    all_goals (try simp)
  · rintro ⟨i, n, cap, junk⟩ ⟨hi, hL, hn, hj⟩
    simp only at hi hL hn hj
    by_cases hlt : i < 6
    · have hil : (i : Int) < 6 := by omega
      simp -implicitDefEqProofs only [lk_normal, hil, ZB, Int.reduceToNat, Nat.reduceLT, Nat.reduceLeDiff, Int.reduceLE, Int.reduceLT, Nat.reduceEqDiff, Nat.reduceSub, SB, SV.known, packR, ne_eq, reduceCtorEq, Nat.reduceEqDiff, ↓reduceIte, if_true, if_false, eq_self, Nat.reduceAdd, Nat.reduceMul, Nat.reduceSub, forall_const, oneCellS, Kd.isSca, flat, TYB]
      refine loop_intro (fun s : Nat × Nat × Nat × List Int => [(4, .int i), (5, .int s.1), (3, .slice 1 0 s.2.1 s.2.2.1), (1, .ptr 0 0)]) (fun s => [(1, .ints (SrL R ((i * 6 + s.1) * 4) ++ s.2.2.2) 108), (0, .ints R 29)]) 2
        (fun s => s.1 ≤ 6 ∧ (SrL R ((i * 6 + s.1) * 4)).length = s.2.1 * 3 ∧ s.2.1 ≤ i * 24 + s.1 * 4 ∧ s.2.2.2.length + s.2.1 * 3 = s.2.2.1 * 3) (fun s => 6 - s.1) ?_ ?_
      · refine ⟨(0, n, cap, junk), ⟨by simp, by simpa using hL, by simpa using hn, by simpa using hj⟩, Sub.mk_id ?_ ?_ ?_ ?_ ?_⟩
        all_goals simp only [Nat.add_zero, LB, subS, subH, wfS, wfH, SV.ren, renL, SObj.ren, SV.wf, SObj.wf, wfL, SV.known, Nat.reduceEqDiff, ↓reduceIte, if_true, if_false, eq_self, Nat.reduceAdd, Nat.reduceLT, Nat.reduceLeDiff, implies_true, reduceCtorEq, forall_const]
        all_goals (try simp)
      · rintro ⟨j, n, cap, junk⟩ ⟨gj, gL, gn, gk⟩
        simp only at gj gL gn gk
        by_cases hjt : j < 6
        · have hjl : (j : Int) < 6 := by omega
          simp -implicitDefEqProofs only [lk_normal, hil, hjl, ZB, Int.reduceToNat, Nat.reduceLT, Nat.reduceLeDiff, Int.reduceLE, Int.reduceLT, Nat.reduceEqDiff, Nat.reduceSub, SB, SV.known, packR, ne_eq, reduceCtorEq, Nat.reduceEqDiff, ↓reduceIte, if_true, if_false, eq_self, Nat.reduceAdd, Nat.reduceMul, Nat.reduceSub, forall_const, oneCellS, Kd.isSca, flat, TYB]
          refine loop_intro (fun s : Nat × Nat × Nat × List Int => [(4, .int i), (5, .int j), (6, .int ((s.1 + 1 : Nat) : Int)), (3, .slice 1 0 s.2.1 s.2.2.1), (1, .ptr 0 0)]) (fun s => [(1, .ints (SrL R ((i * 6 + j) * 4 + s.1) ++ s.2.2.2) 108), (0, .ints R 29)]) 2
            (fun s => s.1 ≤ 4 ∧ (SrL R ((i * 6 + j) * 4 + s.1)).length = s.2.1 * 3 ∧ s.2.1 ≤ i * 24 + j * 4 + s.1 ∧ s.2.2.2.length + s.2.1 * 3 = s.2.2.1 * 3) (fun s => 4 - s.1) ?_ ?_
          · refine ⟨(0, n, cap, junk), ⟨by simp, by simpa using gL, by simpa using gn, by simpa using gk⟩, Sub.mk_id ?_ ?_ ?_ ?_ ?_⟩
            all_goals simp only [Nat.add_zero, LB, subS, subH, wfS, wfH, SV.ren, renL, SObj.ren, SV.wf, SObj.wf, wfL, SV.known, Nat.reduceEqDiff, ↓reduceIte, if_true, if_false, eq_self, Nat.reduceAdd, Nat.reduceLT, Nat.reduceLeDiff, implies_true, reduceCtorEq, forall_const]
            all_goals (try simp)
          · rintro ⟨k, n, cap, junk⟩ ⟨qk, qL, qn, qj⟩
            simp only at qk qL qn qj
            have tkL : (SrL R ((i * 6 + j) * 4 + k) ++ junk).take (n * 3) = SrL R ((i * 6 + j) * 4 + k) := List.take_left' qL
            have lenL : (SrL R ((i * 6 + j) * 4 + k) ++ junk).length = cap * 3 := by rw [List.length_append]; omega
            by_cases hkt : k < 4
            · have hkl : ((k + 1 : Nat) : Int) ≤ 4 := by omega
              have es := SrL_at R i j k hjt hkt
              have bT := bkT_len hR i j ((k + 1 : Nat) : Int)
              have g0 : List.getD [(i : Int), (j : Int), ((k + 1 : Nat) : Int)] 0 0 = i := rfl
              have g1 : List.getD [(i : Int), (j : Int), ((k + 1 : Nat) : Int)] 1 0 = j := rfl
              have g2 : List.getD [(i : Int), (j : Int), ((k + 1 : Nat) : Int)] 2 0 = ((k + 1 : Nat) : Int) := rfl
              cases hc : bkB R i j ((k + 1 : Nat) : Int) with
              | false =>
                rw [hc] at es
                simp only [Bool.false_eq_true, if_false, List.append_nil] at es
                simp -implicitDefEqProofs only [lk_normal, l5Back_F, hil, hjl, hkl, hR, hr, tkR, g0, g1, g2, bT, hc, tkL, lenL, ZB, Int.reduceToNat, Nat.reduceLT, Nat.reduceLeDiff, Int.reduceLE, Int.reduceLT, Nat.reduceEqDiff, Nat.reduceSub, SB, SV.known, packR, ne_eq, reduceCtorEq, Nat.reduceEqDiff, ↓reduceIte, if_true, if_false, eq_self, Nat.reduceAdd, Nat.reduceMul, Nat.reduceSub, forall_const, oneCellS, Kd.isSca, flat, TYB]
                (try (and_intros <;> try (first | omega | (unfold In64; omega) | trivial | assumption)))
                refine ⟨(k + 1, n, cap, junk), ?_, ?_, Sub.mk_id ?_ ?_ ?_ ?_ ?_⟩
                all_goals (try (simp only [es, ← Nat.add_assoc, LB, subS, subH, wfS, wfH, SV.ren, renL, SObj.ren, SV.wf, SObj.wf, wfL, SV.known, Nat.reduceEqDiff, ↓reduceIte, if_true, if_false, eq_self, Nat.reduceAdd, Nat.reduceLT, Nat.reduceLeDiff, implies_true, reduceCtorEq, forall_const]; done))
                all_goals (try (simp only [es, ← Nat.add_assoc, LB, subS, subH, wfS, wfH, SV.ren, renL, SObj.ren, SV.wf, SObj.wf, wfL, SV.known, Nat.reduceEqDiff, ↓reduceIte, if_true, if_false, eq_self, Nat.reduceAdd, Nat.reduceLT, Nat.reduceLeDiff, implies_true, reduceCtorEq, forall_const]; simp; done))
                all_goals (try (simp only [es, ← Nat.add_assoc, LB, subS, subH, wfS, wfH, SV.ren, renL, SObj.ren, SV.wf, SObj.wf, wfL, SV.known, Nat.reduceEqDiff, ↓reduceIte, if_true, if_false, eq_self, Nat.reduceAdd, Nat.reduceLT, Nat.reduceLeDiff, implies_true, reduceCtorEq, forall_const]; (and_intros <;> (first | omega | rfl | (simp; done) | (simp; omega))); done))
                all_goals (try dsimp only)
                all_goals (and_intros <;> try (first | omega | (unfold In64; omega) | trivial | assumption))
                all_goals (try (rw [← Nat.add_assoc, es]; exact qL))
              | true =>
                rw [hc] at es
                simp only [if_true] at es
                simp -implicitDefEqProofs only [lk_normal, l5Back_F, hil, hjl, hkl, hR, hr, tkR, g0, g1, g2, bT, hc, tkL, lenL, ZB, Int.reduceToNat, Nat.reduceLT, Nat.reduceLeDiff, Int.reduceLE, Int.reduceLT, Nat.reduceEqDiff, Nat.reduceSub, SB, SV.known, packR, ne_eq, reduceCtorEq, Nat.reduceEqDiff, ↓reduceIte, if_true, if_false, eq_self, Nat.reduceAdd, Nat.reduceMul, Nat.reduceSub, forall_const, oneCellS, Kd.isSca, flat, TYB]
                (try (and_intros <;> try (first | omega | (unfold In64; omega) | trivial | assumption)))
                intro junk' cap' hj'
                (try (and_intros <;> try (first | omega | (unfold In64; omega) | trivial | assumption)))
                refine ⟨(k + 1, n + 1, cap', junk'), ?_, ?_, Sub.mk_to 1 5 ?_ ?_ ?_ ?_ ?_ ?_ ?_⟩
                all_goals (try (simp only [es, ← Nat.add_assoc, LB, subS, subH, wfS, wfH, SV.ren, renL, SObj.ren, SV.wf, SObj.wf, wfL, SV.known, Nat.reduceEqDiff, ↓reduceIte, if_true, if_false, eq_self, Nat.reduceAdd, Nat.reduceLT, Nat.reduceLeDiff, implies_true, reduceCtorEq, forall_const]; done))
                all_goals (try (simp only [es, ← Nat.add_assoc, LB, subS, subH, wfS, wfH, SV.ren, renL, SObj.ren, SV.wf, SObj.wf, wfL, SV.known, Nat.reduceEqDiff, ↓reduceIte, if_true, if_false, eq_self, Nat.reduceAdd, Nat.reduceLT, Nat.reduceLeDiff, implies_true, reduceCtorEq, forall_const]; simp; done))
                all_goals (try (simp only [es, ← Nat.add_assoc, LB, subS, subH, wfS, wfH, SV.ren, renL, SObj.ren, SV.wf, SObj.wf, wfL, SV.known, Nat.reduceEqDiff, ↓reduceIte, if_true, if_false, eq_self, Nat.reduceAdd, Nat.reduceLT, Nat.reduceLeDiff, implies_true, reduceCtorEq, forall_const]; (and_intros <;> (first | omega | rfl | (simp; done) | (simp; omega))); done))
                all_goals (try dsimp only)
                all_goals (and_intros <;> try (first | omega | (unfold In64; omega) | trivial | assumption))
                all_goals (try (rw [← Nat.add_assoc, es, List.length_append, qL]; simp; omega))
            · have hkl : ¬ ((k + 1 : Nat) : Int) ≤ 4 := by omega
              obtain rfl : k = 4 := by omega
              have e4 : (i * 6 + (j + 1)) * 4 = (i * 6 + j) * 4 + 4 := by omega
              simp -implicitDefEqProofs only [lk_normal, hkl, ZB, Int.reduceToNat, Nat.reduceLT, Nat.reduceLeDiff, Int.reduceLE, Int.reduceLT, Nat.reduceEqDiff, Nat.reduceSub, SB, SV.known, packR, ne_eq, reduceCtorEq, Nat.reduceEqDiff, ↓reduceIte, if_true, if_false, eq_self, Nat.reduceAdd, Nat.reduceMul, Nat.reduceSub, forall_const, oneCellS, Kd.isSca, flat, TYB]
              (try (and_intros <;> try (first | omega | (unfold In64; omega) | trivial | assumption)))
              refine ⟨(j + 1, n, cap, junk), ?_, ?_, Sub.mk_id ?_ ?_ ?_ ?_ ?_⟩
              all_goals (try (simp only [e4, LB, subS, subH, wfS, wfH, SV.ren, renL, SObj.ren, SV.wf, SObj.wf, wfL, SV.known, Nat.reduceEqDiff, ↓reduceIte, if_true, if_false, eq_self, Nat.reduceAdd, Nat.reduceLT, Nat.reduceLeDiff, implies_true, reduceCtorEq, forall_const]; done))
              all_goals (try (simp only [e4, LB, subS, subH, wfS, wfH, SV.ren, renL, SObj.ren, SV.wf, SObj.wf, wfL, SV.known, Nat.reduceEqDiff, ↓reduceIte, if_true, if_false, eq_self, Nat.reduceAdd, Nat.reduceLT, Nat.reduceLeDiff, implies_true, reduceCtorEq, forall_const]; simp; done))
              all_goals (try (simp only [e4, LB, subS, subH, wfS, wfH, SV.ren, renL, SObj.ren, SV.wf, SObj.wf, wfL, SV.known, Nat.reduceEqDiff, ↓reduceIte, if_true, if_false, eq_self, Nat.reduceAdd, Nat.reduceLT, Nat.reduceLeDiff, implies_true, reduceCtorEq, forall_const]; (and_intros <;> (first | omega | rfl | (simp; done) | (simp; omega))); done))
              all_goals (try dsimp only)
              all_goals (and_intros <;> try (first | omega | (unfold In64; omega) | trivial | assumption))
              all_goals (try (rw [e4]; exact qL))
        · have hjl : ¬ (j : Int) < 6 := by omega
          obtain rfl : j = 6 := by omega
          have e6 : (i + 1) * 6 * 4 = (i * 6 + 6) * 4 := by omega
          simp -implicitDefEqProofs only [lk_normal, hjl, ZB, Int.reduceToNat, Nat.reduceLT, Nat.reduceLeDiff, Int.reduceLE, Int.reduceLT, Nat.reduceEqDiff, Nat.reduceSub, SB, SV.known, packR, ne_eq, reduceCtorEq, Nat.reduceEqDiff, ↓reduceIte, if_true, if_false, eq_self, Nat.reduceAdd, Nat.reduceMul, Nat.reduceSub, forall_const, oneCellS, Kd.isSca, flat, TYB]
          (try (and_intros <;> try (first | omega | (unfold In64; omega) | trivial | assumption)))
          refine ⟨(i + 1, n, cap, junk), ?_, ?_, Sub.mk_id ?_ ?_ ?_ ?_ ?_⟩
          all_goals (try (simp only [e6, LB, subS, subH, wfS, wfH, SV.ren, renL, SObj.ren, SV.wf, SObj.wf, wfL, SV.known, Nat.reduceEqDiff, ↓reduceIte, if_true, if_false, eq_self, Nat.reduceAdd, Nat.reduceLT, Nat.reduceLeDiff, implies_true, reduceCtorEq, forall_const]; done))
          all_goals (try (simp only [e6, LB, subS, subH, wfS, wfH, SV.ren, renL, SObj.ren, SV.wf, SObj.wf, wfL, SV.known, Nat.reduceEqDiff, ↓reduceIte, if_true, if_false, eq_self, Nat.reduceAdd, Nat.reduceLT, Nat.reduceLeDiff, implies_true, reduceCtorEq, forall_const]; simp; done))
          all_goals (try (simp only [e6, LB, subS, subH, wfS, wfH, SV.ren, renL, SObj.ren, SV.wf, SObj.wf, wfL, SV.known, Nat.reduceEqDiff, ↓reduceIte, if_true, if_false, eq_self, Nat.reduceAdd, Nat.reduceLT, Nat.reduceLeDiff, implies_true, reduceCtorEq, forall_const]; (and_intros <;> (first | omega | rfl | (simp; done) | (simp; omega))); done))
          all_goals (try dsimp only)
          all_goals (and_intros <;> try (first | omega | (unfold In64; omega) | trivial | assumption))
          all_goals (try (rw [e6]; exact gL))
    · have hil : ¬ (i : Int) < 6 := by omega
      obtain rfl : i = 6 := by omega
      have hL' : (SrL R 144).length = n * 3 := hL
      simp -implicitDefEqProofs only [lk_normal, hil, ZB, Int.reduceToNat, Nat.reduceLT, Nat.reduceLeDiff, Int.reduceLE, Int.reduceLT, Nat.reduceEqDiff, Nat.reduceSub, SB, SV.known, packR, ne_eq, reduceCtorEq, Nat.reduceEqDiff, ↓reduceIte, if_true, if_false, eq_self, Nat.reduceAdd, Nat.reduceMul, Nat.reduceSub, forall_const, oneCellS, Kd.isSca, flat, TYB]
      refine .inr ⟨1, cap, junk, ?_, ?_, by omega, ?_, by simp⟩
      · rw [hL']; simp [Wrap.ap]
      · simp [hget_cons]
      · omega

theorem sources_ok (R : List Int) (hR : R.length = 24) (hr : rackB R = true) : FreshP Try.prog 105 [.arr R] [] (SrL R 144) ((SrL R 144).length / 3) 3 108 true .one := by
  have tkR : R.take 24 = R := List.take_of_length_le (by omega)
  refine fresh_of_vc (X := ⟨Try.prog, tys, [(133, isPossible_F)], [], true, true, 0, [], []⟩) fn_105 ⟨tys_ok, (.cons isPossible_T .nil), .nil, mixed⟩ (n0 := 0) rfl (Nat.le_of_ble_eq_true rfl) (by simp [wfL, SV.wf]) (wfH_spec (by simp [wfH, SObj.wf])) (Nat.le_refl _) ?_
  simp -implicitDefEqProofs only [Try.f105, Option.getD_some, argS, isPossible_F, hR, hr, tkR, ZB, Int.reduceToNat, Nat.reduceLT, Nat.reduceLeDiff, Int.reduceLE, Int.reduceLT, Nat.reduceEqDiff, Nat.reduceSub, SB, SV.known, packR, ne_eq, reduceCtorEq, Nat.reduceEqDiff, ↓reduceIte, if_true, if_false, eq_self, Nat.reduceAdd, Nat.reduceMul, Nat.reduceSub, forall_const, oneCellS, Kd.isSca, flat, TYB]
  refine loop_intro (fun s : Nat × Nat × Nat × List Int => [(1, .ptr 0 0), (3, outV s.2.1 s.2.1 s.2.2.1), (8, .int s.1)]) (fun s => outH s.2.1 (SrL R (s.1 * 6 * 4) ++ s.2.2.2) 108 [(0, .ints R 29)]) 2
    (fun s => s.1 ≤ 6 ∧ (SrL R (s.1 * 6 * 4)).length = s.2.1 * 3 ∧ s.2.1 ≤ s.1 * 24 ∧ s.2.2.2.length + s.2.1 * 3 = s.2.2.1 * 3) (fun s => 6 - s.1) ?_ ?_
  · refine ⟨(0, 0, 0, []), ⟨by omega, by simp [SrL_zero], by simp, by simp⟩, Sub.mk_id ?_ ?_ ?_ ?_ ?_⟩
    all_goals simp only [outV_zero, outH_zero, LB, subS, subH, wfS, wfH, SV.ren, renL, SObj.ren, SV.wf, SObj.wf, wfL, SV.known, Nat.reduceEqDiff, ↓reduceIte, if_true, if_false, eq_self, Nat.reduceAdd, Nat.reduceLT, Nat.reduceLeDiff, implies_true, reduceCtorEq, forall_const]
    all_goals (try simp)
  · rintro ⟨i, n, cap, junk⟩ ⟨hi, hL, hn, hj⟩
    simp only at hi hL hn hj
    by_cases hlt : i < 6
    · have hil : (i : Int) < 6 := by omega
      simp -implicitDefEqProofs only [lk_normal, hil, ZB, Int.reduceToNat, Nat.reduceLT, Nat.reduceLeDiff, Int.reduceLE, Int.reduceLT, Nat.reduceEqDiff, Nat.reduceSub, SB, SV.known, packR, ne_eq, reduceCtorEq, Nat.reduceEqDiff, ↓reduceIte, if_true, if_false, eq_self, Nat.reduceAdd, Nat.reduceMul, Nat.reduceSub, forall_const, oneCellS, Kd.isSca, flat, TYB]
      refine loop_intro (fun s : Nat × Nat × Nat × List Int => [(1, .ptr 0 0), (3, outV s.2.1 s.2.1 s.2.2.1), (4, .int i), (8, .int i), (11, .int s.1)]) (fun s => outH s.2.1 (SrL R ((i * 6 + s.1) * 4) ++ s.2.2.2) 108 [(0, .ints R 29)]) 2
        (fun s => s.1 ≤ 6 ∧ (SrL R ((i * 6 + s.1) * 4)).length = s.2.1 * 3 ∧ s.2.1 ≤ i * 24 + s.1 * 4 ∧ s.2.2.2.length + s.2.1 * 3 = s.2.2.1 * 3) (fun s => 6 - s.1) ?_ ?_
      · refine ⟨(0, n, cap, junk), ⟨by simp, by simpa using hL, by simpa using hn, by simpa using hj⟩, ?_⟩
        cases n with
        | zero =>
          refine Sub.mk_id ?_ ?_ ?_ ?_ ?_
          all_goals simp only [outV_zero, outH_zero, LB, subS, subH, wfS, wfH, SV.ren, renL, SObj.ren, SV.wf, SObj.wf, wfL, SV.known, Nat.reduceEqDiff, ↓reduceIte, if_true, if_false, eq_self, Nat.reduceAdd, Nat.reduceLT, Nat.reduceLeDiff, implies_true, reduceCtorEq, forall_const]
          all_goals (try simp)
        | succ n =>
          refine Sub.mk_id ?_ ?_ ?_ ?_ ?_
          all_goals simp only [outV_succ, outH_succ, Nat.add_zero, LB, subS, subH, wfS, wfH, SV.ren, renL, SObj.ren, SV.wf, SObj.wf, wfL, SV.known, Nat.reduceEqDiff, ↓reduceIte, if_true, if_false, eq_self, Nat.reduceAdd, Nat.reduceLT, Nat.reduceLeDiff, implies_true, reduceCtorEq, forall_const]
          all_goals (try simp)
      · rintro ⟨j, n, cap, junk⟩ ⟨gj, gL, gn, gk⟩
        simp only at gj gL gn gk
        by_cases hjt : j < 6
        · have hjl : (j : Int) < 6 := by omega
          simp -implicitDefEqProofs only [lk_normal, hil, hjl, ZB, Int.reduceToNat, Nat.reduceLT, Nat.reduceLeDiff, Int.reduceLE, Int.reduceLT, Nat.reduceEqDiff, Nat.reduceSub, SB, SV.known, packR, ne_eq, reduceCtorEq, Nat.reduceEqDiff, ↓reduceIte, if_true, if_false, eq_self, Nat.reduceAdd, Nat.reduceMul, Nat.reduceSub, forall_const, oneCellS, Kd.isSca, flat, TYB]
          refine loop_intro (fun s : Nat × Nat × Nat × List Int => [(1, .ptr 0 0), (3, outV s.2.1 s.2.1 s.2.2.1), (4, .int i), (8, .int i), (5, .int j), (11, .int j), (6, .int ((s.1 + 1 : Nat) : Int))]) (fun s => outH s.2.1 (SrL R ((i * 6 + j) * 4 + s.1) ++ s.2.2.2) 108 [(0, .ints R 29)]) 2
            (fun s => s.1 ≤ 4 ∧ (SrL R ((i * 6 + j) * 4 + s.1)).length = s.2.1 * 3 ∧ s.2.1 ≤ i * 24 + j * 4 + s.1 ∧ s.2.2.2.length + s.2.1 * 3 = s.2.2.1 * 3) (fun s => 4 - s.1) ?_ ?_
          · refine ⟨(0, n, cap, junk), ⟨by simp, by simpa using gL, by simpa using gn, by simpa using gk⟩, ?_⟩
            cases n with
            | zero =>
              refine Sub.mk_id ?_ ?_ ?_ ?_ ?_
              all_goals simp only [outV_zero, outH_zero, LB, subS, subH, wfS, wfH, SV.ren, renL, SObj.ren, SV.wf, SObj.wf, wfL, SV.known, Nat.reduceEqDiff, ↓reduceIte, if_true, if_false, eq_self, Nat.reduceAdd, Nat.reduceLT, Nat.reduceLeDiff, implies_true, reduceCtorEq, forall_const]
              all_goals (try simp)
            | succ n =>
              refine Sub.mk_id ?_ ?_ ?_ ?_ ?_
              all_goals simp only [outV_succ, outH_succ, Nat.add_zero, LB, subS, subH, wfS, wfH, SV.ren, renL, SObj.ren, SV.wf, SObj.wf, wfL, SV.known, Nat.reduceEqDiff, ↓reduceIte, if_true, if_false, eq_self, Nat.reduceAdd, Nat.reduceLT, Nat.reduceLeDiff, implies_true, reduceCtorEq, forall_const]
              all_goals (try simp)
          · rintro ⟨k, n, cap, junk⟩ ⟨qk, qL, qn, qj⟩
            simp only at qk qL qn qj
            by_cases hkt : k < 4
            · have hkl : ((k + 1 : Nat) : Int) ≤ 4 := by omega
              have es := SrL_at R i j k hjt hkt
              have g0 : List.getD [(i : Int), (j : Int), ((k + 1 : Nat) : Int)] 0 0 = i := rfl
              have g1 : List.getD [(i : Int), (j : Int), ((k + 1 : Nat) : Int)] 1 0 = j := rfl
              have g2 : List.getD [(i : Int), (j : Int), ((k + 1 : Nat) : Int)] 2 0 = ((k + 1 : Nat) : Int) := rfl
              cases hc : bkB R i j ((k + 1 : Nat) : Int) with
              | false =>
                rw [hc] at es
                simp only [Bool.false_eq_true, if_false, List.append_nil] at es
                cases n with
                | zero =>
                  simp -implicitDefEqProofs only [lk_normal, isPossible_F, outV_zero, outH_zero, hil, hjl, hkl, hR, hr, tkR, g0, g1, g2, hc, ZB, Int.reduceToNat, Nat.reduceLT, Nat.reduceLeDiff, Int.reduceLE, Int.reduceLT, Nat.reduceEqDiff, Nat.reduceSub, SB, SV.known, packR, ne_eq, reduceCtorEq, Nat.reduceEqDiff, ↓reduceIte, if_true, if_false, eq_self, Nat.reduceAdd, Nat.reduceMul, Nat.reduceSub, forall_const, oneCellS, Kd.isSca, flat, TYB]
                  (try (and_intros <;> try (first | omega | (unfold In64; omega) | trivial | assumption)))
                  refine ⟨(k + 1, 0, cap, junk), ?_, ?_, Sub.mk_id ?_ ?_ ?_ ?_ ?_⟩
                  all_goals (try (simp only [outV_zero, outH_zero, es, ← Nat.add_assoc, LB, subS, subH, wfS, wfH, SV.ren, renL, SObj.ren, SV.wf, SObj.wf, wfL, SV.known, Nat.reduceEqDiff, ↓reduceIte, if_true, if_false, eq_self, Nat.reduceAdd, Nat.reduceLT, Nat.reduceLeDiff, implies_true, reduceCtorEq, forall_const]; done))
                  all_goals (try (simp only [outV_zero, outH_zero, es, ← Nat.add_assoc, LB, subS, subH, wfS, wfH, SV.ren, renL, SObj.ren, SV.wf, SObj.wf, wfL, SV.known, Nat.reduceEqDiff, ↓reduceIte, if_true, if_false, eq_self, Nat.reduceAdd, Nat.reduceLT, Nat.reduceLeDiff, implies_true, reduceCtorEq, forall_const]; simp; done))
                  all_goals (try (simp only [outV_zero, outH_zero, es, ← Nat.add_assoc, LB, subS, subH, wfS, wfH, SV.ren, renL, SObj.ren, SV.wf, SObj.wf, wfL, SV.known, Nat.reduceEqDiff, ↓reduceIte, if_true, if_false, eq_self, Nat.reduceAdd, Nat.reduceLT, Nat.reduceLeDiff, implies_true, reduceCtorEq, forall_const]; (and_intros <;> (first | omega | rfl | (simp; done) | (simp; omega))); done))
                  all_goals (try dsimp only)
                  all_goals (and_intros <;> try (first | omega | (unfold In64; omega) | trivial | assumption))
                  all_goals (try (rw [← Nat.add_assoc, es]; exact qL))
                | succ n =>
                  simp -implicitDefEqProofs only [lk_normal, isPossible_F, outV_succ, outH_succ, hil, hjl, hkl, hR, hr, tkR, g0, g1, g2, hc, ZB, Int.reduceToNat, Nat.reduceLT, Nat.reduceLeDiff, Int.reduceLE, Int.reduceLT, Nat.reduceEqDiff, Nat.reduceSub, SB, SV.known, packR, ne_eq, reduceCtorEq, Nat.reduceEqDiff, ↓reduceIte, if_true, if_false, eq_self, Nat.reduceAdd, Nat.reduceMul, Nat.reduceSub, forall_const, oneCellS, Kd.isSca, flat, TYB]
                  (try (and_intros <;> try (first | omega | (unfold In64; omega) | trivial | assumption)))
                  refine ⟨(k + 1, n + 1, cap, junk), ?_, ?_, Sub.mk_id ?_ ?_ ?_ ?_ ?_⟩
                  all_goals (try (simp only [outV_succ, outH_succ, es, ← Nat.add_assoc, LB, subS, subH, wfS, wfH, SV.ren, renL, SObj.ren, SV.wf, SObj.wf, wfL, SV.known, Nat.reduceEqDiff, ↓reduceIte, if_true, if_false, eq_self, Nat.reduceAdd, Nat.reduceLT, Nat.reduceLeDiff, implies_true, reduceCtorEq, forall_const]; done))
                  all_goals (try (simp only [outV_succ, outH_succ, es, ← Nat.add_assoc, LB, subS, subH, wfS, wfH, SV.ren, renL, SObj.ren, SV.wf, SObj.wf, wfL, SV.known, Nat.reduceEqDiff, ↓reduceIte, if_true, if_false, eq_self, Nat.reduceAdd, Nat.reduceLT, Nat.reduceLeDiff, implies_true, reduceCtorEq, forall_const]; simp; done))
                  all_goals (try (simp only [outV_succ, outH_succ, es, ← Nat.add_assoc, LB, subS, subH, wfS, wfH, SV.ren, renL, SObj.ren, SV.wf, SObj.wf, wfL, SV.known, Nat.reduceEqDiff, ↓reduceIte, if_true, if_false, eq_self, Nat.reduceAdd, Nat.reduceLT, Nat.reduceLeDiff, implies_true, reduceCtorEq, forall_const]; (and_intros <;> (first | omega | rfl | (simp; done) | (simp; omega))); done))
                  all_goals (try dsimp only)
                  all_goals (and_intros <;> try (first | omega | (unfold In64; omega) | trivial | assumption))
                  all_goals (try (rw [← Nat.add_assoc, es]; exact qL))
              | true =>
                rw [hc] at es
                simp only [if_true] at es
                cases n with
                | zero =>
                  have e0 : SrL R ((i * 6 + j) * 4 + k) = [] := List.length_eq_zero_iff.1 (by simpa using qL)
                  rw [e0, List.nil_append] at es
                  simp -implicitDefEqProofs only [lk_normal, isPossible_F, outV_zero, outH_zero, hil, hjl, hkl, hR, hr, tkR, g0, g1, g2, hc, ZB, Int.reduceToNat, Nat.reduceLT, Nat.reduceLeDiff, Int.reduceLE, Int.reduceLT, Nat.reduceEqDiff, Nat.reduceSub, SB, SV.known, packR, ne_eq, reduceCtorEq, Nat.reduceEqDiff, ↓reduceIte, if_true, if_false, eq_self, Nat.reduceAdd, Nat.reduceMul, Nat.reduceSub, forall_const, oneCellS, Kd.isSca, flat, TYB]
                  (try (and_intros <;> try (first | omega | (unfold In64; omega) | trivial | assumption)))
                  intro junk' cap' hj'
                  (try (and_intros <;> try (first | omega | (unfold In64; omega) | trivial | assumption)))
                  refine ⟨(k + 1, 1, cap', junk'), ?_, ?_, Sub.mk_to 1 4 ?_ ?_ ?_ ?_ ?_ ?_ ?_⟩
                  all_goals (try (simp only [outV_succ, outH_succ, es, ← Nat.add_assoc, LB, subS, subH, wfS, wfH, SV.ren, renL, SObj.ren, SV.wf, SObj.wf, wfL, SV.known, Nat.reduceEqDiff, ↓reduceIte, if_true, if_false, eq_self, Nat.reduceAdd, Nat.reduceLT, Nat.reduceLeDiff, implies_true, reduceCtorEq, forall_const]; done))
                  all_goals (try (simp only [outV_succ, outH_succ, es, ← Nat.add_assoc, LB, subS, subH, wfS, wfH, SV.ren, renL, SObj.ren, SV.wf, SObj.wf, wfL, SV.known, Nat.reduceEqDiff, ↓reduceIte, if_true, if_false, eq_self, Nat.reduceAdd, Nat.reduceLT, Nat.reduceLeDiff, implies_true, reduceCtorEq, forall_const]; simp; done))
                  all_goals (try (simp only [outV_succ, outH_succ, es, ← Nat.add_assoc, LB, subS, subH, wfS, wfH, SV.ren, renL, SObj.ren, SV.wf, SObj.wf, wfL, SV.known, Nat.reduceEqDiff, ↓reduceIte, if_true, if_false, eq_self, Nat.reduceAdd, Nat.reduceLT, Nat.reduceLeDiff, implies_true, reduceCtorEq, forall_const]; (and_intros <;> (first | omega | rfl | (simp; done) | (simp; omega))); done))
                  all_goals (try dsimp only)
                  all_goals (and_intros <;> try (first | omega | (unfold In64; omega) | trivial | assumption))
                  all_goals (try (rw [← Nat.add_assoc, es]; rfl))
                | succ n =>
                  have tkL : (SrL R ((i * 6 + j) * 4 + k) ++ junk).take ((n + 1) * 3) = SrL R ((i * 6 + j) * 4 + k) := List.take_left' qL
                  have lenL : (SrL R ((i * 6 + j) * 4 + k) ++ junk).length = cap * 3 := by rw [List.length_append]; omega
                  simp -implicitDefEqProofs only [lk_normal, isPossible_F, outV_succ, outH_succ, hil, hjl, hkl, hR, hr, tkR, g0, g1, g2, hc, tkL, lenL, ZB, Int.reduceToNat, Nat.reduceLT, Nat.reduceLeDiff, Int.reduceLE, Int.reduceLT, Nat.reduceEqDiff, Nat.reduceSub, SB, SV.known, packR, ne_eq, reduceCtorEq, Nat.reduceEqDiff, ↓reduceIte, if_true, if_false, eq_self, Nat.reduceAdd, Nat.reduceMul, Nat.reduceSub, forall_const, oneCellS, Kd.isSca, flat, TYB]
                  (try (and_intros <;> try (first | omega | (unfold In64; omega) | trivial | assumption)))
                  intro junk' cap' hj'
                  (try (and_intros <;> try (first | omega | (unfold In64; omega) | trivial | assumption)))
                  refine ⟨(k + 1, n + 1 + 1, cap', junk'), ?_, ?_, Sub.mk_to 1 4 ?_ ?_ ?_ ?_ ?_ ?_ ?_⟩
                  all_goals (try (simp only [outV_succ, outH_succ, es, ← Nat.add_assoc, LB, subS, subH, wfS, wfH, SV.ren, renL, SObj.ren, SV.wf, SObj.wf, wfL, SV.known, Nat.reduceEqDiff, ↓reduceIte, if_true, if_false, eq_self, Nat.reduceAdd, Nat.reduceLT, Nat.reduceLeDiff, implies_true, reduceCtorEq, forall_const]; done))
                  all_goals (try (simp only [outV_succ, outH_succ, es, ← Nat.add_assoc, LB, subS, subH, wfS, wfH, SV.ren, renL, SObj.ren, SV.wf, SObj.wf, wfL, SV.known, Nat.reduceEqDiff, ↓reduceIte, if_true, if_false, eq_self, Nat.reduceAdd, Nat.reduceLT, Nat.reduceLeDiff, implies_true, reduceCtorEq, forall_const]; simp; done))
                  all_goals (try (simp only [outV_succ, outH_succ, es, ← Nat.add_assoc, LB, subS, subH, wfS, wfH, SV.ren, renL, SObj.ren, SV.wf, SObj.wf, wfL, SV.known, Nat.reduceEqDiff, ↓reduceIte, if_true, if_false, eq_self, Nat.reduceAdd, Nat.reduceLT, Nat.reduceLeDiff, implies_true, reduceCtorEq, forall_const]; (and_intros <;> (first | omega | rfl | (simp; done) | (simp; omega))); done))
                  all_goals (try dsimp only)
                  all_goals (and_intros <;> try (first | omega | (unfold In64; omega) | trivial | assumption))
                  all_goals (try (rw [← Nat.add_assoc, es, List.length_append, qL]; simp; omega))
            · have hkl : ¬ ((k + 1 : Nat) : Int) ≤ 4 := by omega
              obtain rfl : k = 4 := by omega
              have e4 : (i * 6 + (j + 1)) * 4 = (i * 6 + j) * 4 + 4 := by omega
              cases n with
              | zero =>
                simp -implicitDefEqProofs only [lk_normal, outV_zero, outH_zero, hkl, ZB, Int.reduceToNat, Nat.reduceLT, Nat.reduceLeDiff, Int.reduceLE, Int.reduceLT, Nat.reduceEqDiff, Nat.reduceSub, SB, SV.known, packR, ne_eq, reduceCtorEq, Nat.reduceEqDiff, ↓reduceIte, if_true, if_false, eq_self, Nat.reduceAdd, Nat.reduceMul, Nat.reduceSub, forall_const, oneCellS, Kd.isSca, flat, TYB]
                (try (and_intros <;> try (first | omega | (unfold In64; omega) | trivial | assumption)))
                refine ⟨(j + 1, 0, cap, junk), ?_, ?_, Sub.mk_id ?_ ?_ ?_ ?_ ?_⟩
                all_goals (try (simp only [outV_zero, outH_zero, e4, LB, subS, subH, wfS, wfH, SV.ren, renL, SObj.ren, SV.wf, SObj.wf, wfL, SV.known, Nat.reduceEqDiff, ↓reduceIte, if_true, if_false, eq_self, Nat.reduceAdd, Nat.reduceLT, Nat.reduceLeDiff, implies_true, reduceCtorEq, forall_const]; done))
                all_goals (try (simp only [outV_zero, outH_zero, e4, LB, subS, subH, wfS, wfH, SV.ren, renL, SObj.ren, SV.wf, SObj.wf, wfL, SV.known, Nat.reduceEqDiff, ↓reduceIte, if_true, if_false, eq_self, Nat.reduceAdd, Nat.reduceLT, Nat.reduceLeDiff, implies_true, reduceCtorEq, forall_const]; simp; done))
                all_goals (try (simp only [outV_zero, outH_zero, e4, LB, subS, subH, wfS, wfH, SV.ren, renL, SObj.ren, SV.wf, SObj.wf, wfL, SV.known, Nat.reduceEqDiff, ↓reduceIte, if_true, if_false, eq_self, Nat.reduceAdd, Nat.reduceLT, Nat.reduceLeDiff, implies_true, reduceCtorEq, forall_const]; (and_intros <;> (first | omega | rfl | (simp; done) | (simp; omega))); done))
                all_goals (try dsimp only)
                all_goals (and_intros <;> try (first | omega | (unfold In64; omega) | trivial | assumption))
                all_goals (try (rw [e4]; exact qL))
              | succ n =>
                simp -implicitDefEqProofs only [lk_normal, outV_succ, outH_succ, hkl, ZB, Int.reduceToNat, Nat.reduceLT, Nat.reduceLeDiff, Int.reduceLE, Int.reduceLT, Nat.reduceEqDiff, Nat.reduceSub, SB, SV.known, packR, ne_eq, reduceCtorEq, Nat.reduceEqDiff, ↓reduceIte, if_true, if_false, eq_self, Nat.reduceAdd, Nat.reduceMul, Nat.reduceSub, forall_const, oneCellS, Kd.isSca, flat, TYB]
                (try (and_intros <;> try (first | omega | (unfold In64; omega) | trivial | assumption)))
                refine ⟨(j + 1, n + 1, cap, junk), ?_, ?_, Sub.mk_id ?_ ?_ ?_ ?_ ?_⟩
                all_goals (try (simp only [outV_succ, outH_succ, e4, LB, subS, subH, wfS, wfH, SV.ren, renL, SObj.ren, SV.wf, SObj.wf, wfL, SV.known, Nat.reduceEqDiff, ↓reduceIte, if_true, if_false, eq_self, Nat.reduceAdd, Nat.reduceLT, Nat.reduceLeDiff, implies_true, reduceCtorEq, forall_const]; done))
                all_goals (try (simp only [outV_succ, outH_succ, e4, LB, subS, subH, wfS, wfH, SV.ren, renL, SObj.ren, SV.wf, SObj.wf, wfL, SV.known, Nat.reduceEqDiff, ↓reduceIte, if_true, if_false, eq_self, Nat.reduceAdd, Nat.reduceLT, Nat.reduceLeDiff, implies_true, reduceCtorEq, forall_const]; simp; done))
                all_goals (try (simp only [outV_succ, outH_succ, e4, LB, subS, subH, wfS, wfH, SV.ren, renL, SObj.ren, SV.wf, SObj.wf, wfL, SV.known, Nat.reduceEqDiff, ↓reduceIte, if_true, if_false, eq_self, Nat.reduceAdd, Nat.reduceLT, Nat.reduceLeDiff, implies_true, reduceCtorEq, forall_const]; (and_intros <;> (first | omega | rfl | (simp; done) | (simp; omega))); done))
                all_goals (try dsimp only)
                all_goals (and_intros <;> try (first | omega | (unfold In64; omega) | trivial | assumption))
                all_goals (try (rw [e4]; exact qL))
        · have hjl : ¬ (j : Int) < 6 := by omega
          obtain rfl : j = 6 := by omega
          have e6 : (i + 1) * 6 * 4 = (i * 6 + 6) * 4 := by omega
          cases n with
          | zero =>
            simp -implicitDefEqProofs only [lk_normal, outV_zero, outH_zero, hjl, ZB, Int.reduceToNat, Nat.reduceLT, Nat.reduceLeDiff, Int.reduceLE, Int.reduceLT, Nat.reduceEqDiff, Nat.reduceSub, SB, SV.known, packR, ne_eq, reduceCtorEq, Nat.reduceEqDiff, ↓reduceIte, if_true, if_false, eq_self, Nat.reduceAdd, Nat.reduceMul, Nat.reduceSub, forall_const, oneCellS, Kd.isSca, flat, TYB]
            (try (and_intros <;> try (first | omega | (unfold In64; omega) | trivial | assumption)))
            refine ⟨(i + 1, 0, cap, junk), ?_, ?_, Sub.mk_id ?_ ?_ ?_ ?_ ?_⟩
            all_goals (try (simp only [outV_zero, outH_zero, e6, LB, subS, subH, wfS, wfH, SV.ren, renL, SObj.ren, SV.wf, SObj.wf, wfL, SV.known, Nat.reduceEqDiff, ↓reduceIte, if_true, if_false, eq_self, Nat.reduceAdd, Nat.reduceLT, Nat.reduceLeDiff, implies_true, reduceCtorEq, forall_const]; done))
            all_goals (try (simp only [outV_zero, outH_zero, e6, LB, subS, subH, wfS, wfH, SV.ren, renL, SObj.ren, SV.wf, SObj.wf, wfL, SV.known, Nat.reduceEqDiff, ↓reduceIte, if_true, if_false, eq_self, Nat.reduceAdd, Nat.reduceLT, Nat.reduceLeDiff, implies_true, reduceCtorEq, forall_const]; simp; done))
            all_goals (try (simp only [outV_zero, outH_zero, e6, LB, subS, subH, wfS, wfH, SV.ren, renL, SObj.ren, SV.wf, SObj.wf, wfL, SV.known, Nat.reduceEqDiff, ↓reduceIte, if_true, if_false, eq_self, Nat.reduceAdd, Nat.reduceLT, Nat.reduceLeDiff, implies_true, reduceCtorEq, forall_const]; (and_intros <;> (first | omega | rfl | (simp; done) | (simp; omega))); done))
            all_goals (try dsimp only)
            all_goals (and_intros <;> try (first | omega | (unfold In64; omega) | trivial | assumption))
            all_goals (try (rw [e6]; exact gL))
          | succ n =>
            simp -implicitDefEqProofs only [lk_normal, outV_succ, outH_succ, hjl, ZB, Int.reduceToNat, Nat.reduceLT, Nat.reduceLeDiff, Int.reduceLE, Int.reduceLT, Nat.reduceEqDiff, Nat.reduceSub, SB, SV.known, packR, ne_eq, reduceCtorEq, Nat.reduceEqDiff, ↓reduceIte, if_true, if_false, eq_self, Nat.reduceAdd, Nat.reduceMul, Nat.reduceSub, forall_const, oneCellS, Kd.isSca, flat, TYB]
            (try (and_intros <;> try (first | omega | (unfold In64; omega) | trivial | assumption)))
            refine ⟨(i + 1, n + 1, cap, junk), ?_, ?_, Sub.mk_id ?_ ?_ ?_ ?_ ?_⟩
            all_goals (try (simp only [outV_succ, outH_succ, e6, LB, subS, subH, wfS, wfH, SV.ren, renL, SObj.ren, SV.wf, SObj.wf, wfL, SV.known, Nat.reduceEqDiff, ↓reduceIte, if_true, if_false, eq_self, Nat.reduceAdd, Nat.reduceLT, Nat.reduceLeDiff, implies_true, reduceCtorEq, forall_const]; done))
            all_goals (try (simp only [outV_succ, outH_succ, e6, LB, subS, subH, wfS, wfH, SV.ren, renL, SObj.ren, SV.wf, SObj.wf, wfL, SV.known, Nat.reduceEqDiff, ↓reduceIte, if_true, if_false, eq_self, Nat.reduceAdd, Nat.reduceLT, Nat.reduceLeDiff, implies_true, reduceCtorEq, forall_const]; simp; done))
            all_goals (try (simp only [outV_succ, outH_succ, e6, LB, subS, subH, wfS, wfH, SV.ren, renL, SObj.ren, SV.wf, SObj.wf, wfL, SV.known, Nat.reduceEqDiff, ↓reduceIte, if_true, if_false, eq_self, Nat.reduceAdd, Nat.reduceLT, Nat.reduceLeDiff, implies_true, reduceCtorEq, forall_const]; (and_intros <;> (first | omega | rfl | (simp; done) | (simp; omega))); done))
            all_goals (try dsimp only)
            all_goals (and_intros <;> try (first | omega | (unfold In64; omega) | trivial | assumption))
            all_goals (try (rw [e6]; exact gL))
    · have hil : ¬ (i : Int) < 6 := by omega
      obtain rfl : i = 6 := by omega
      have hL' : (SrL R 144).length = n * 3 := hL
      have kn : ∀ a b c, (outV a b c).known = true := fun a b c => by cases a <;> rfl
      simp -implicitDefEqProofs only [lk_normal, hil, ZB, Int.reduceToNat, Nat.reduceLT, Nat.reduceLeDiff, Int.reduceLE, Int.reduceLT, Nat.reduceEqDiff, Nat.reduceSub, SB, SV.known, packR, ne_eq, reduceCtorEq, Nat.reduceEqDiff, ↓reduceIte, if_true, if_false, eq_self, Nat.reduceAdd, Nat.reduceMul, Nat.reduceSub, forall_const, oneCellS, Kd.isSca, flat, TYB]
      cases n with
      | zero =>
        refine ⟨rfl, .inl ⟨rfl, List.length_eq_zero_iff.1 (by simpa using hL'), rfl⟩⟩
      | succ n =>
        refine ⟨rfl, .inr ⟨1, cap, junk, ?_, ?_, by omega, ?_, ?_⟩⟩
        · rw [hL']; simp [Wrap.ap, outV_succ]
        · simp [hget_cons, outH_succ]
        · omega
        · intro _ h0
          rw [h0] at hL'
          simp at hL'
def sources_F : List SV → Heap → Nat → Nat → K1 → Prop
  | [.arr R], H, n, _, κ => (R.length = 24 ∧ rackB R = true) ∧ freshK .one (SrL R 144) ((SrL R 144).length / 3) 3 108 true H n κ
  | _, _, _, _, _ => False
--@tbl sources = impl.sources
theorem sources_T : ∀ args H n m κ, sources_F args H n m κ → GenOK Try.prog 105 args H n m κ := by
  intro args H n m κ h
  unfold sources_F at h
  split at h
  · exact gen_of_fresh (sources_ok _ h.1.1 h.1.2) (fun k o hk => by cases hk) h.2
  · exact h.elim
def l5Sources_F : List SV → Heap → Nat → Nat → K1 → Prop
  | [.arr R], H, n, _, κ => (R.length = 24 ∧ rackB R = true) ∧ freshK .one (SrL R 144) ((SrL R 144).length / 3) 3 108 false H n κ
  | _, _, _, _, _ => False
--@tbl l5Sources = spec.l5Sources
theorem l5Sources_T : ∀ args H n m κ, l5Sources_F args H n m κ → GenOK Try.prog 67 args H n m κ := by
  intro args H n m κ h
  unfold l5Sources_F at h
  split at h
  · exact gen_of_fresh (l5Sources_ok _ h.1.1 h.1.2) (fun k o hk => by cases hk) h.2
  · exact h.elim
theorem SrL_dec (R : List Int) : decide ((((SrL R 144).length / 3 : Nat) : Int) = 0) = decide (SrL R 144 = []) := by
  obtain ⟨k, hk, _⟩ := SrL_three R 144
  by_cases h : SrL R 144 = []
  · simp [h]
  · have : ¬ k = 0 := fun h0 => h (List.length_eq_zero_iff.1 (by rw [hk, h0]))
    have h2 : ¬ (((SrL R 144).length / 3 : Nat) : Int) = 0 := by omega
    simp only [h, h2]
--@tbl isGarden = impl.isGarden
theorem isGarden_ok (R : List Int) (hR : R.length = 24) (hr : rackB R = true) : PureH Try.prog 70 [.arr R] [] (.bool (decide (SrL R 144 = []))) := by
  have tkR : R.take 24 = R := List.take_of_length_le (by omega)
  refine pure_of_vc (X := ⟨Try.prog, tys, [], [(105, sources_F)], true, true, 0, [], []⟩) fn_70 ⟨tys_ok, .nil, (.cons sources_T .nil), mixed⟩ (n0 := 0) (Nat.le_of_ble_eq_true rfl) (by simp [wfL, SV.wf]) (wfH_spec (by simp [wfH, SObj.wf])) (Nat.le_refl _) (fun _ => by simp [SV.wf, wfL]) ?_
  simp -implicitDefEqProofs only [Try.f70, Option.getD_some, argS, sources_F, hR, tkR, hr, freshK, Wrap.ap, ZB, Int.reduceToNat, Nat.reduceLT, Nat.reduceLeDiff, Int.reduceLE, Int.reduceLT, Nat.reduceEqDiff, Nat.reduceSub, SB, SV.known, packR, ne_eq, reduceCtorEq, Nat.reduceEqDiff, ↓reduceIte, if_true, if_false, eq_self, Nat.reduceAdd, Nat.reduceMul, Nat.reduceSub, forall_const, oneCellS, Kd.isSca, flat, TYB]
  exact ⟨fun h => by simp [h], fun _ cap junk hj => SrL_dec R⟩
def isGarden_F : List SV → Heap → Option (Prop × SV)
  | [.arr R], _ => some (R.length = 24 ∧ rackB R = true, .bool (decide (SrL R 144 = [])))
  | _, _ => none
theorem isGarden_T : ∀ args H p v, isGarden_F args H = some (p, v) → p → PureH Try.prog 70 args H v := by
  intro args H p v h hp
  unfold isGarden_F at h
  split at h
  · cases h; exact (isGarden_ok _ hp.1 hp.2).any _
  · cases h
--@tbl IsGarden = impl.IsGarden
--@tbl sIsGarden = spec.IsGarden
end Go.Proofs.Ytdnechlmkbchaaa
