/- Texts of this claim, joined (Src, Sl, Bef, Put, SlR, Rb, DelR, RbL). -/
import Derived.Test.YtmccafjblhbmkaaGreatQ1
import Derived.Test.YtmccafjblhbmkaaGreatQ2
import Derived.Test.YtmccafjblhbmkaaGreatQ3
import Derived.Test.YtmccafjblhbmkaaGreatQ4
import Derived.Test.YtmccafjblhbmkaaGreatQ5
import Derived.Shelf.SlSortCmp.NoneTotal
set_option maxRecDepth 100000
set_option linter.unusedSimpArgs false
set_option linter.unusedVariables false
namespace Go.Proofs.YtmccafjblhbmkaaGreat
open Go Go.RowKit
def srK (R : List Int) (q : Nat) : List Int := if bkB R ((q / 24 : Nat) : Int) ((q / 4 % 6 : Nat) : Int) ((q % 4 + 1 : Nat) : Int) = true then [((q / 24 : Nat) : Int), ((q / 4 % 6 : Nat) : Int), ((q % 4 + 1 : Nat) : Int)] else []
def SrL (R : List Int) (m : Nat) : List Int := (List.range m).flatMap (srK R)
theorem SrL_zero (R : List Int) : SrL R 0 = [] := rfl
theorem SrL_succ (R : List Int) (m : Nat) : SrL R (m + 1) = SrL R m ++ srK R m := by simp [SrL, List.range_succ]
theorem SrL_at (R : List Int) (i j k : Nat) (hj : j < 6) (hk : k < 4) : SrL R ((i * 6 + j) * 4 + k + 1) = SrL R ((i * 6 + j) * 4 + k) ++ if bkB R i j ((k + 1 : Nat) : Int) = true then [(i : Int), (j : Int), ((k + 1 : Nat) : Int)] else [] := by
  rw [SrL_succ]
  have e1 : ((i * 6 + j) * 4 + k) / 24 = i := by omega
  have e2 : ((i * 6 + j) * 4 + k) / 4 % 6 = j := by omega
  have e3 : ((i * 6 + j) * 4 + k) % 4 = k := by omega
  simp only [srK, e1, e2, e3]
theorem SrL_three (R : List Int) : ∀ m, ∃ n, (SrL R m).length = n * 3 ∧ n ≤ m
  | 0 => ⟨0, rfl, by omega⟩
  | m + 1 => by
    obtain ⟨n, h1, h2⟩ := SrL_three R m
    rw [SrL_succ, List.length_append, h1]
    unfold srK
    split
    · exact ⟨n + 1, by simp; omega, by omega⟩
    · exact ⟨n, by simp, by omega⟩
theorem SrL_trip (R : List Int) : ∀ m, ∀ i, i * 3 + 3 ≤ (SrL R m).length → ∃ a b c : Int, bkB R a b c = true ∧ ((SrL R m).drop (i * 3)).take 3 = [a, b, c]
  | 0, i, h => by simp [SrL_zero] at h
  | m + 1, i, h => by
    obtain ⟨n, hn, _⟩ := SrL_three R m
    rw [SrL_succ, List.length_append, hn] at h
    by_cases hi : i * 3 + 3 ≤ n * 3
    · obtain ⟨a, b, c, h1, h2⟩ := SrL_trip R m i (by omega)
      refine ⟨a, b, c, h1, ?_⟩
      rw [SrL_succ, List.drop_append_of_le_length (by omega), List.take_append_of_le_length (by rw [List.length_drop]; omega)]
      exact h2
    · unfold srK at h
      split at h
      · rename_i hc
        simp at h
        have : i = n := by omega
        subst this
        refine ⟨_, _, _, hc, ?_⟩
        rw [SrL_succ, List.drop_left' hn]
        unfold srK
        rw [if_pos hc]; rfl
      · simp at h; omega
--@tbl isPossible = impl.isPossible
theorem isPossible_ok (R s : List Int) (hR : R.length = 24) (hs : s.length = 3) (hr : rackB R = true) : PureH Tryz.prog 137 [.arr R, .arr s] [] (.bool (bkB R (s.getD 0 0) (s.getD 1 0) (s.getD 2 0))) := by
  have tkR : R.take 24 = R := List.take_of_length_le (by omega)
  have tks : s.take 3 = s := List.take_of_length_le (by omega)
  have bR := bkR_len hR (s.getD 0 0) (s.getD 1 0) (s.getD 2 0)
  cases h2 : bk2 R (s.getD 0 0) (s.getD 1 0) (s.getD 2 0)
  all_goals
    refine pure_of_vc (X := ⟨Tryz.prog, tys, [(87, back_F)], [], true, true, 0, [], []⟩) fn_137 ⟨tys_ok, (.cons back_T .nil), .nil, mixed⟩ (n0 := 0) (Nat.le_of_ble_eq_true rfl) (by simp [wfL, SV.wf]) (wfH_spec (by simp [wfH, SObj.wf])) (Nat.le_refl _) (fun _ => by simp [SV.wf, wfL]) ?_
    simp -implicitDefEqProofs only [Tryz.f137, Option.getD_some, argS, back_F, hR, hs, tkR, tks, hr, h2, bR, ZB, Int.reduceToNat, Nat.reduceLT, Nat.reduceLeDiff, Int.reduceLE, Int.reduceLT, Nat.reduceEqDiff, Nat.reduceSub, SB, SV.known, packR, ne_eq, reduceCtorEq, Nat.reduceEqDiff, ↓reduceIte, if_true, if_false, eq_self, Nat.reduceAdd, Nat.reduceMul, Nat.reduceSub, forall_const, oneCellS, litOne, flat1, Kd.isSca, flat, TYB]
def isPossible_F : List SV → Heap → Option (Prop × SV)
  | [.arr R, .arr s], _ => some (R.length = 24 ∧ s.length = 3 ∧ rackB R = true, .bool (bkB R (s.getD 0 0) (s.getD 1 0) (s.getD 2 0)))
  | _, _ => none
theorem isPossible_T : ∀ args H p v, isPossible_F args H = some (p, v) → p → PureH Tryz.prog 137 args H v := by
  intro args H p v h hp
  unfold isPossible_F at h
  split at h
  · cases h; exact (isPossible_ok _ _ hp.1 hp.2.1 hp.2.2).any _
  · cases h
theorem l5Sources_ok (R : List Int) (hR : R.length = 24) (hr : rackB R = true) : FreshP Tryz.prog 90 [.arr R] [] (SrL R 144) ((SrL R 144).length / 3) 3 48 false .one := by
  have tkR : R.take 24 = R := List.take_of_length_le (by omega)
  refine fresh_of_vc (X := ⟨Tryz.prog, tys, [(88, l5Back_F)], [], true, true, 0, [], []⟩) fn_90 ⟨tys_ok, (.cons l5Back_T .nil), .nil, mixed⟩ (n0 := 0) rfl (Nat.le_of_ble_eq_true rfl) (by simp [wfL, SV.wf]) (wfH_spec (by simp [wfH, SObj.wf])) (Nat.le_refl _) ?_
  simp -implicitDefEqProofs only [Tryz.f90, Option.getD_some, argS, l5Back_F, hR, hr, tkR, ZB, Int.reduceToNat, Nat.reduceLT, Nat.reduceLeDiff, Int.reduceLE, Int.reduceLT, Nat.reduceEqDiff, Nat.reduceSub, SB, SV.known, packR, ne_eq, reduceCtorEq, Nat.reduceEqDiff, ↓reduceIte, if_true, if_false, eq_self, Nat.reduceAdd, Nat.reduceMul, Nat.reduceSub, forall_const, oneCellS, litOne, flat1, Kd.isSca, flat, TYB]
  refine loop_intro (fun s : Nat × Nat × Nat × List Int => [(4, .int s.1), (3, .slice 1 0 s.2.1 s.2.2.1), (1, .ptr 0 0)]) (fun s => [(1, .ints (SrL R (s.1 * 6 * 4) ++ s.2.2.2) 48), (0, .ints R 27)]) 2
    (fun s => s.1 ≤ 6 ∧ (SrL R (s.1 * 6 * 4)).length = s.2.1 * 3 ∧ s.2.1 ≤ s.1 * 24 ∧ s.2.2.2.length + s.2.1 * 3 = s.2.2.1 * 3) (fun s => 6 - s.1) ?_ ?_
  · refine ⟨(0, 0, 0, []), ⟨by omega, by simp [SrL_zero], by simp, by simp⟩, Sub.mk_id ?_ ?_ ?_ ?_ ?_⟩
    all_goals simp only [Nat.zero_mul, SrL_zero, List.append_nil, LB, subS, subH, wfS, wfH, SV.ren, renL, SObj.ren, SV.wf, SObj.wf, wfL, SV.known, Nat.reduceEqDiff, ↓reduceIte, if_true, if_false, eq_self, Nat.reduceAdd, Nat.reduceLT, Nat.reduceLeDiff, implies_true, reduceCtorEq, forall_const]
    all_goals (try simp)
  · rintro ⟨i, n, cap, junk⟩ ⟨hi, hL, hn, hj⟩
    simp only at hi hL hn hj
    by_cases hlt : i < 6
    · have hil : (i : Int) < 6 := by omega
      simp -implicitDefEqProofs only [lk_normal, hil, ZB, Int.reduceToNat, Nat.reduceLT, Nat.reduceLeDiff, Int.reduceLE, Int.reduceLT, Nat.reduceEqDiff, Nat.reduceSub, SB, SV.known, packR, ne_eq, reduceCtorEq, Nat.reduceEqDiff, ↓reduceIte, if_true, if_false, eq_self, Nat.reduceAdd, Nat.reduceMul, Nat.reduceSub, forall_const, oneCellS, litOne, flat1, Kd.isSca, flat, TYB]
      refine loop_intro (fun s : Nat × Nat × Nat × List Int => [(4, .int i), (5, .int s.1), (3, .slice 1 0 s.2.1 s.2.2.1), (1, .ptr 0 0)]) (fun s => [(1, .ints (SrL R ((i * 6 + s.1) * 4) ++ s.2.2.2) 48), (0, .ints R 27)]) 2
        (fun s => s.1 ≤ 6 ∧ (SrL R ((i * 6 + s.1) * 4)).length = s.2.1 * 3 ∧ s.2.1 ≤ i * 24 + s.1 * 4 ∧ s.2.2.2.length + s.2.1 * 3 = s.2.2.1 * 3) (fun s => 6 - s.1) ?_ ?_
      · refine ⟨(0, n, cap, junk), ⟨by simp, by simpa using hL, by simpa using hn, by simpa using hj⟩, Sub.mk_id ?_ ?_ ?_ ?_ ?_⟩
        all_goals simp only [Nat.add_zero, LB, subS, subH, wfS, wfH, SV.ren, renL, SObj.ren, SV.wf, SObj.wf, wfL, SV.known, Nat.reduceEqDiff, ↓reduceIte, if_true, if_false, eq_self, Nat.reduceAdd, Nat.reduceLT, Nat.reduceLeDiff, implies_true, reduceCtorEq, forall_const]
        all_goals (try simp)
      · rintro ⟨j, n, cap, junk⟩ ⟨gj, gL, gn, gk⟩
        simp only at gj gL gn gk
        by_cases hjt : j < 6
        · have hjl : (j : Int) < 6 := by omega
          simp -implicitDefEqProofs only [lk_normal, hil, hjl, ZB, Int.reduceToNat, Nat.reduceLT, Nat.reduceLeDiff, Int.reduceLE, Int.reduceLT, Nat.reduceEqDiff, Nat.reduceSub, SB, SV.known, packR, ne_eq, reduceCtorEq, Nat.reduceEqDiff, ↓reduceIte, if_true, if_false, eq_self, Nat.reduceAdd, Nat.reduceMul, Nat.reduceSub, forall_const, oneCellS, litOne, flat1, Kd.isSca, flat, TYB]
          refine loop_intro (fun s : Nat × Nat × Nat × List Int => [(4, .int i), (5, .int j), (6, .int ((s.1 + 1 : Nat) : Int)), (3, .slice 1 0 s.2.1 s.2.2.1), (1, .ptr 0 0)]) (fun s => [(1, .ints (SrL R ((i * 6 + j) * 4 + s.1) ++ s.2.2.2) 48), (0, .ints R 27)]) 2
            (fun s => s.1 ≤ 4 ∧ (SrL R ((i * 6 + j) * 4 + s.1)).length = s.2.1 * 3 ∧ s.2.1 ≤ i * 24 + j * 4 + s.1 ∧ s.2.2.2.length + s.2.1 * 3 = s.2.2.1 * 3) (fun s => 4 - s.1) ?_ ?_
          · refine ⟨(0, n, cap, junk), ⟨by simp, by simpa using gL, by simpa using gn, by simpa using gk⟩, Sub.mk_id ?_ ?_ ?_ ?_ ?_⟩
            all_goals simp only [Nat.add_zero, LB, subS, subH, wfS, wfH, SV.ren, renL, SObj.ren, SV.wf, SObj.wf, wfL, SV.known, Nat.reduceEqDiff, ↓reduceIte, if_true, if_false, eq_self, Nat.reduceAdd, Nat.reduceLT, Nat.reduceLeDiff, implies_true, reduceCtorEq, forall_const]
            all_goals (try simp)
          · rintro ⟨k, n, cap, junk⟩ ⟨qk, qL, qn, qj⟩
            simp only at qk qL qn qj
            have tkL : (SrL R ((i * 6 + j) * 4 + k) ++ junk).take (n * 3) = SrL R ((i * 6 + j) * 4 + k) := List.take_left' qL
            have lenL : (SrL R ((i * 6 + j) * 4 + k) ++ junk).length = cap * 3 := by rw [List.length_append]; omega
            by_cases hkt : k < 4
            · have hkl : ((k + 1 : Nat) : Int) ≤ 4 := by omega
              have es := SrL_at R i j k hjt hkt
              have bT := bkT_len hR i j ((k + 1 : Nat) : Int)
              have g0 : List.getD [(i : Int), (j : Int), ((k + 1 : Nat) : Int)] 0 0 = i := rfl
              have g1 : List.getD [(i : Int), (j : Int), ((k + 1 : Nat) : Int)] 1 0 = j := rfl
              have g2 : List.getD [(i : Int), (j : Int), ((k + 1 : Nat) : Int)] 2 0 = ((k + 1 : Nat) : Int) := rfl
              cases hc : bkB R i j ((k + 1 : Nat) : Int) with
              | false =>
                rw [hc] at es
                simp only [Bool.false_eq_true, if_false, List.append_nil] at es
                simp -implicitDefEqProofs only [lk_normal, l5Back_F, hil, hjl, hkl, hR, hr, tkR, g0, g1, g2, bT, hc, tkL, lenL, ZB, Int.reduceToNat, Nat.reduceLT, Nat.reduceLeDiff, Int.reduceLE, Int.reduceLT, Nat.reduceEqDiff, Nat.reduceSub, SB, SV.known, packR, ne_eq, reduceCtorEq, Nat.reduceEqDiff, ↓reduceIte, if_true, if_false, eq_self, Nat.reduceAdd, Nat.reduceMul, Nat.reduceSub, forall_const, oneCellS, litOne, flat1, Kd.isSca, flat, TYB]
                (try (and_intros <;> try (first | omega | (unfold In64; omega) | trivial | assumption)))
                refine ⟨(k + 1, n, cap, junk), ?_, ?_, Sub.mk_id ?_ ?_ ?_ ?_ ?_⟩
                all_goals (try (simp only [es, ← Nat.add_assoc, LB, subS, subH, wfS, wfH, SV.ren, renL, SObj.ren, SV.wf, SObj.wf, wfL, SV.known, Nat.reduceEqDiff, ↓reduceIte, if_true, if_false, eq_self, Nat.reduceAdd, Nat.reduceLT, Nat.reduceLeDiff, implies_true, reduceCtorEq, forall_const]; done))
                all_goals (try (simp only [es, ← Nat.add_assoc, LB, subS, subH, wfS, wfH, SV.ren, renL, SObj.ren, SV.wf, SObj.wf, wfL, SV.known, Nat.reduceEqDiff, ↓reduceIte, if_true, if_false, eq_self, Nat.reduceAdd, Nat.reduceLT, Nat.reduceLeDiff, implies_true, reduceCtorEq, forall_const]; simp; done))
                all_goals (try (simp only [es, ← Nat.add_assoc, LB, subS, subH, wfS, wfH, SV.ren, renL, SObj.ren, SV.wf, SObj.wf, wfL, SV.known, Nat.reduceEqDiff, ↓reduceIte, if_true, if_false, eq_self, Nat.reduceAdd, Nat.reduceLT, Nat.reduceLeDiff, implies_true, reduceCtorEq, forall_const]; (and_intros <;> (first | omega | rfl | (simp; done) | (simp; omega))); done))
                all_goals (try dsimp only)
                all_goals (and_intros <;> try (first | omega | (unfold In64; omega) | trivial | assumption))
                all_goals (try (rw [← Nat.add_assoc, es]; exact qL))
              | true =>
                rw [hc] at es
                simp only [if_true] at es
                simp -implicitDefEqProofs only [lk_normal, l5Back_F, hil, hjl, hkl, hR, hr, tkR, g0, g1, g2, bT, hc, tkL, lenL, ZB, Int.reduceToNat, Nat.reduceLT, Nat.reduceLeDiff, Int.reduceLE, Int.reduceLT, Nat.reduceEqDiff, Nat.reduceSub, SB, SV.known, packR, ne_eq, reduceCtorEq, Nat.reduceEqDiff, ↓reduceIte, if_true, if_false, eq_self, Nat.reduceAdd, Nat.reduceMul, Nat.reduceSub, forall_const, oneCellS, litOne, flat1, Kd.isSca, flat, TYB]
                (try (and_intros <;> try (first | omega | (unfold In64; omega) | trivial | assumption)))
                intro junk' cap' hj'
                (try (and_intros <;> try (first | omega | (unfold In64; omega) | trivial | assumption)))
                refine ⟨(k + 1, n + 1, cap', junk'), ?_, ?_, Sub.mk_to 1 5 ?_ ?_ ?_ ?_ ?_ ?_ ?_⟩
                all_goals (try (simp only [es, ← Nat.add_assoc, LB, subS, subH, wfS, wfH, SV.ren, renL, SObj.ren, SV.wf, SObj.wf, wfL, SV.known, Nat.reduceEqDiff, ↓reduceIte, if_true, if_false, eq_self, Nat.reduceAdd, Nat.reduceLT, Nat.reduceLeDiff, implies_true, reduceCtorEq, forall_const]; done))
                all_goals (try (simp only [es, ← Nat.add_assoc, LB, subS, subH, wfS, wfH, SV.ren, renL, SObj.ren, SV.wf, SObj.wf, wfL, SV.known, Nat.reduceEqDiff, ↓reduceIte, if_true, if_false, eq_self, Nat.reduceAdd, Nat.reduceLT, Nat.reduceLeDiff, implies_true, reduceCtorEq, forall_const]; simp; done))
                all_goals (try (simp only [es, ← Nat.add_assoc, LB, subS, subH, wfS, wfH, SV.ren, renL, SObj.ren, SV.wf, SObj.wf, wfL, SV.known, Nat.reduceEqDiff, ↓reduceIte, if_true, if_false, eq_self, Nat.reduceAdd, Nat.reduceLT, Nat.reduceLeDiff, implies_true, reduceCtorEq, forall_const]; (and_intros <;> (first | omega | rfl | (simp; done) | (simp; omega))); done))
                all_goals (try dsimp only)
                all_goals (and_intros <;> try (first | omega | (unfold In64; omega) | trivial | assumption))
                all_goals (try (rw [← Nat.add_assoc, es, List.length_append, qL]; simp; omega))
            · have hkl : ¬ ((k + 1 : Nat) : Int) ≤ 4 := by omega
              obtain rfl : k = 4 := by omega
              have e4 : (i * 6 + (j + 1)) * 4 = (i * 6 + j) * 4 + 4 := by omega
              simp -implicitDefEqProofs only [lk_normal, hkl, ZB, Int.reduceToNat, Nat.reduceLT, Nat.reduceLeDiff, Int.reduceLE, Int.reduceLT, Nat.reduceEqDiff, Nat.reduceSub, SB, SV.known, packR, ne_eq, reduceCtorEq, Nat.reduceEqDiff, ↓reduceIte, if_true, if_false, eq_self, Nat.reduceAdd, Nat.reduceMul, Nat.reduceSub, forall_const, oneCellS, litOne, flat1, Kd.isSca, flat, TYB]
              (try (and_intros <;> try (first | omega | (unfold In64; omega) | trivial | assumption)))
              refine ⟨(j + 1, n, cap, junk), ?_, ?_, Sub.mk_id ?_ ?_ ?_ ?_ ?_⟩
              all_goals (try (simp only [e4, LB, subS, subH, wfS, wfH, SV.ren, renL, SObj.ren, SV.wf, SObj.wf, wfL, SV.known, Nat.reduceEqDiff, ↓reduceIte, if_true, if_false, eq_self, Nat.reduceAdd, Nat.reduceLT, Nat.reduceLeDiff, implies_true, reduceCtorEq, forall_const]; done))
              all_goals (try (simp only [e4, LB, subS, subH, wfS, wfH, SV.ren, renL, SObj.ren, SV.wf, SObj.wf, wfL, SV.known, Nat.reduceEqDiff, ↓reduceIte, if_true, if_false, eq_self, Nat.reduceAdd, Nat.reduceLT, Nat.reduceLeDiff, implies_true, reduceCtorEq, forall_const]; simp; done))
              all_goals (try (simp only [e4, LB, subS, subH, wfS, wfH, SV.ren, renL, SObj.ren, SV.wf, SObj.wf, wfL, SV.known, Nat.reduceEqDiff, ↓reduceIte, if_true, if_false, eq_self, Nat.reduceAdd, Nat.reduceLT, Nat.reduceLeDiff, implies_true, reduceCtorEq, forall_const]; (and_intros <;> (first | omega | rfl | (simp; done) | (simp; omega))); done))
              all_goals (try dsimp only)
              all_goals (and_intros <;> try (first | omega | (unfold In64; omega) | trivial | assumption))
              all_goals (try (rw [e4]; exact qL))
        · have hjl : ¬ (j : Int) < 6 := by omega
          obtain rfl : j = 6 := by omega
          have e6 : (i + 1) * 6 * 4 = (i * 6 + 6) * 4 := by omega
          simp -implicitDefEqProofs only [lk_normal, hjl, ZB, Int.reduceToNat, Nat.reduceLT, Nat.reduceLeDiff, Int.reduceLE, Int.reduceLT, Nat.reduceEqDiff, Nat.reduceSub, SB, SV.known, packR, ne_eq, reduceCtorEq, Nat.reduceEqDiff, ↓reduceIte, if_true, if_false, eq_self, Nat.reduceAdd, Nat.reduceMul, Nat.reduceSub, forall_const, oneCellS, litOne, flat1, Kd.isSca, flat, TYB]
          (try (and_intros <;> try (first | omega | (unfold In64; omega) | trivial | assumption)))
          refine ⟨(i + 1, n, cap, junk), ?_, ?_, Sub.mk_id ?_ ?_ ?_ ?_ ?_⟩
          all_goals (try (simp only [e6, LB, subS, subH, wfS, wfH, SV.ren, renL, SObj.ren, SV.wf, SObj.wf, wfL, SV.known, Nat.reduceEqDiff, ↓reduceIte, if_true, if_false, eq_self, Nat.reduceAdd, Nat.reduceLT, Nat.reduceLeDiff, implies_true, reduceCtorEq, forall_const]; done))
          all_goals (try (simp only [e6, LB, subS, subH, wfS, wfH, SV.ren, renL, SObj.ren, SV.wf, SObj.wf, wfL, SV.known, Nat.reduceEqDiff, ↓reduceIte, if_true, if_false, eq_self, Nat.reduceAdd, Nat.reduceLT, Nat.reduceLeDiff, implies_true, reduceCtorEq, forall_const]; simp; done))
          all_goals (try (simp only [e6, LB, subS, subH, wfS, wfH, SV.ren, renL, SObj.ren, SV.wf, SObj.wf, wfL, SV.known, Nat.reduceEqDiff, ↓reduceIte, if_true, if_false, eq_self, Nat.reduceAdd, Nat.reduceLT, Nat.reduceLeDiff, implies_true, reduceCtorEq, forall_const]; (and_intros <;> (first | omega | rfl | (simp; done) | (simp; omega))); done))
          all_goals (try dsimp only)
          all_goals (and_intros <;> try (first | omega | (unfold In64; omega) | trivial | assumption))
          all_goals (try (rw [e6]; exact gL))
    · have hil : ¬ (i : Int) < 6 := by omega
      obtain rfl : i = 6 := by omega
      have hL' : (SrL R 144).length = n * 3 := hL
      simp -implicitDefEqProofs only [lk_normal, hil, ZB, Int.reduceToNat, Nat.reduceLT, Nat.reduceLeDiff, Int.reduceLE, Int.reduceLT, Nat.reduceEqDiff, Nat.reduceSub, SB, SV.known, packR, ne_eq, reduceCtorEq, Nat.reduceEqDiff, ↓reduceIte, if_true, if_false, eq_self, Nat.reduceAdd, Nat.reduceMul, Nat.reduceSub, forall_const, oneCellS, litOne, flat1, Kd.isSca, flat, TYB]
      refine .inr ⟨1, cap, junk, ?_, ?_, by omega, ?_, by simp⟩
      · rw [hL']; simp [Wrap.ap]
      · simp [hget_cons]
      · omega

theorem sources_ok (R : List Int) (hR : R.length = 24) (hr : rackB R = true) : FreshP Tryz.prog 89 [.arr R] [] (SrL R 144) ((SrL R 144).length / 3) 3 48 true .one := by
  have tkR : R.take 24 = R := List.take_of_length_le (by omega)
  refine fresh_of_vc (X := ⟨Tryz.prog, tys, [(137, isPossible_F)], [], true, true, 0, [], []⟩) fn_89 ⟨tys_ok, (.cons isPossible_T .nil), .nil, mixed⟩ (n0 := 0) rfl (Nat.le_of_ble_eq_true rfl) (by simp [wfL, SV.wf]) (wfH_spec (by simp [wfH, SObj.wf])) (Nat.le_refl _) ?_
  simp -implicitDefEqProofs only [Tryz.f89, Option.getD_some, argS, isPossible_F, hR, hr, tkR, ZB, Int.reduceToNat, Nat.reduceLT, Nat.reduceLeDiff, Int.reduceLE, Int.reduceLT, Nat.reduceEqDiff, Nat.reduceSub, SB, SV.known, packR, ne_eq, reduceCtorEq, Nat.reduceEqDiff, ↓reduceIte, if_true, if_false, eq_self, Nat.reduceAdd, Nat.reduceMul, Nat.reduceSub, forall_const, oneCellS, litOne, flat1, Kd.isSca, flat, TYB]
  refine loop_intro (fun s : Nat × Nat × Nat × List Int => [(1, .ptr 0 0), (3, outV s.2.1 s.2.1 s.2.2.1), (8, .int s.1)]) (fun s => outH s.2.1 (SrL R (s.1 * 6 * 4) ++ s.2.2.2) 48 [(0, .ints R 27)]) 2
    (fun s => s.1 ≤ 6 ∧ (SrL R (s.1 * 6 * 4)).length = s.2.1 * 3 ∧ s.2.1 ≤ s.1 * 24 ∧ s.2.2.2.length + s.2.1 * 3 = s.2.2.1 * 3) (fun s => 6 - s.1) ?_ ?_
  · refine ⟨(0, 0, 0, []), ⟨by omega, by simp [SrL_zero], by simp, by simp⟩, Sub.mk_id ?_ ?_ ?_ ?_ ?_⟩
    all_goals simp only [outV_zero, outH_zero, LB, subS, subH, wfS, wfH, SV.ren, renL, SObj.ren, SV.wf, SObj.wf, wfL, SV.known, Nat.reduceEqDiff, ↓reduceIte, if_true, if_false, eq_self, Nat.reduceAdd, Nat.reduceLT, Nat.reduceLeDiff, implies_true, reduceCtorEq, forall_const]
    all_goals (try simp)
  · rintro ⟨i, n, cap, junk⟩ ⟨hi, hL, hn, hj⟩
    simp only at hi hL hn hj
    by_cases hlt : i < 6
    · have hil : (i : Int) < 6 := by omega
      simp -implicitDefEqProofs only [lk_normal, hil, ZB, Int.reduceToNat, Nat.reduceLT, Nat.reduceLeDiff, Int.reduceLE, Int.reduceLT, Nat.reduceEqDiff, Nat.reduceSub, SB, SV.known, packR, ne_eq, reduceCtorEq, Nat.reduceEqDiff, ↓reduceIte, if_true, if_false, eq_self, Nat.reduceAdd, Nat.reduceMul, Nat.reduceSub, forall_const, oneCellS, litOne, flat1, Kd.isSca, flat, TYB]
      refine loop_intro (fun s : Nat × Nat × Nat × List Int => [(1, .ptr 0 0), (3, outV s.2.1 s.2.1 s.2.2.1), (4, .int i), (8, .int i), (11, .int s.1)]) (fun s => outH s.2.1 (SrL R ((i * 6 + s.1) * 4) ++ s.2.2.2) 48 [(0, .ints R 27)]) 2
        (fun s => s.1 ≤ 6 ∧ (SrL R ((i * 6 + s.1) * 4)).length = s.2.1 * 3 ∧ s.2.1 ≤ i * 24 + s.1 * 4 ∧ s.2.2.2.length + s.2.1 * 3 = s.2.2.1 * 3) (fun s => 6 - s.1) ?_ ?_
      · refine ⟨(0, n, cap, junk), ⟨by simp, by simpa using hL, by simpa using hn, by simpa using hj⟩, ?_⟩
        cases n with
        | zero =>
          refine Sub.mk_id ?_ ?_ ?_ ?_ ?_
          all_goals simp only [outV_zero, outH_zero, LB, subS, subH, wfS, wfH, SV.ren, renL, SObj.ren, SV.wf, SObj.wf, wfL, SV.known, Nat.reduceEqDiff, ↓reduceIte, if_true, if_false, eq_self, Nat.reduceAdd, Nat.reduceLT, Nat.reduceLeDiff, implies_true, reduceCtorEq, forall_const]
          all_goals (try simp)
        | succ n =>
          refine Sub.mk_id ?_ ?_ ?_ ?_ ?_
          all_goals simp only [outV_succ, outH_succ, Nat.add_zero, LB, subS, subH, wfS, wfH, SV.ren, renL, SObj.ren, SV.wf, SObj.wf, wfL, SV.known, Nat.reduceEqDiff, ↓reduceIte, if_true, if_false, eq_self, Nat.reduceAdd, Nat.reduceLT, Nat.reduceLeDiff, implies_true, reduceCtorEq, forall_const]
          all_goals (try simp)
      · rintro ⟨j, n, cap, junk⟩ ⟨gj, gL, gn, gk⟩
        simp only at gj gL gn gk
        by_cases hjt : j < 6
        · have hjl : (j : Int) < 6 := by omega
          simp -implicitDefEqProofs only [lk_normal, hil, hjl, ZB, Int.reduceToNat, Nat.reduceLT, Nat.reduceLeDiff, Int.reduceLE, Int.reduceLT, Nat.reduceEqDiff, Nat.reduceSub, SB, SV.known, packR, ne_eq, reduceCtorEq, Nat.reduceEqDiff, ↓reduceIte, if_true, if_false, eq_self, Nat.reduceAdd, Nat.reduceMul, Nat.reduceSub, forall_const, oneCellS, litOne, flat1, Kd.isSca, flat, TYB]
          refine loop_intro (fun s : Nat × Nat × Nat × List Int => [(1, .ptr 0 0), (3, outV s.2.1 s.2.1 s.2.2.1), (4, .int i), (8, .int i), (5, .int j), (11, .int j), (6, .int ((s.1 + 1 : Nat) : Int))]) (fun s => outH s.2.1 (SrL R ((i * 6 + j) * 4 + s.1) ++ s.2.2.2) 48 [(0, .ints R 27)]) 2
            (fun s => s.1 ≤ 4 ∧ (SrL R ((i * 6 + j) * 4 + s.1)).length = s.2.1 * 3 ∧ s.2.1 ≤ i * 24 + j * 4 + s.1 ∧ s.2.2.2.length + s.2.1 * 3 = s.2.2.1 * 3) (fun s => 4 - s.1) ?_ ?_
          · refine ⟨(0, n, cap, junk), ⟨by simp, by simpa using gL, by simpa using gn, by simpa using gk⟩, ?_⟩
            cases n with
            | zero =>
              refine Sub.mk_id ?_ ?_ ?_ ?_ ?_
              all_goals simp only [outV_zero, outH_zero, LB, subS, subH, wfS, wfH, SV.ren, renL, SObj.ren, SV.wf, SObj.wf, wfL, SV.known, Nat.reduceEqDiff, ↓reduceIte, if_true, if_false, eq_self, Nat.reduceAdd, Nat.reduceLT, Nat.reduceLeDiff, implies_true, reduceCtorEq, forall_const]
              all_goals (try simp)
            | succ n =>
              refine Sub.mk_id ?_ ?_ ?_ ?_ ?_
              all_goals simp only [outV_succ, outH_succ, Nat.add_zero, LB, subS, subH, wfS, wfH, SV.ren, renL, SObj.ren, SV.wf, SObj.wf, wfL, SV.known, Nat.reduceEqDiff, ↓reduceIte, if_true, if_false, eq_self, Nat.reduceAdd, Nat.reduceLT, Nat.reduceLeDiff, implies_true, reduceCtorEq, forall_const]
              all_goals (try simp)
          · rintro ⟨k, n, cap, junk⟩ ⟨qk, qL, qn, qj⟩
            simp only at qk qL qn qj
            by_cases hkt : k < 4
            · have hkl : ((k + 1 : Nat) : Int) ≤ 4 := by omega
              have es := SrL_at R i j k hjt hkt
              have g0 : List.getD [(i : Int), (j : Int), ((k + 1 : Nat) : Int)] 0 0 = i := rfl
              have g1 : List.getD [(i : Int), (j : Int), ((k + 1 : Nat) : Int)] 1 0 = j := rfl
              have g2 : List.getD [(i : Int), (j : Int), ((k + 1 : Nat) : Int)] 2 0 = ((k + 1 : Nat) : Int) := rfl
              cases hc : bkB R i j ((k + 1 : Nat) : Int) with
              | false =>
                rw [hc] at es
                simp only [Bool.false_eq_true, if_false, List.append_nil] at es
                cases n with
                | zero =>
                  simp -implicitDefEqProofs only [lk_normal, isPossible_F, outV_zero, outH_zero, hil, hjl, hkl, hR, hr, tkR, g0, g1, g2, hc, ZB, Int.reduceToNat, Nat.reduceLT, Nat.reduceLeDiff, Int.reduceLE, Int.reduceLT, Nat.reduceEqDiff, Nat.reduceSub, SB, SV.known, packR, ne_eq, reduceCtorEq, Nat.reduceEqDiff, ↓reduceIte, if_true, if_false, eq_self, Nat.reduceAdd, Nat.reduceMul, Nat.reduceSub, forall_const, oneCellS, litOne, flat1, Kd.isSca, flat, TYB]
                  (try (and_intros <;> try (first | omega | (unfold In64; omega) | trivial | assumption)))
                  refine ⟨(k + 1, 0, cap, junk), ?_, ?_, Sub.mk_id ?_ ?_ ?_ ?_ ?_⟩
                  all_goals (try (simp only [outV_zero, outH_zero, es, ← Nat.add_assoc, LB, subS, subH, wfS, wfH, SV.ren, renL, SObj.ren, SV.wf, SObj.wf, wfL, SV.known, Nat.reduceEqDiff, ↓reduceIte, if_true, if_false, eq_self, Nat.reduceAdd, Nat.reduceLT, Nat.reduceLeDiff, implies_true, reduceCtorEq, forall_const]; done))
                  all_goals (try (simp only [outV_zero, outH_zero, es, ← Nat.add_assoc, LB, subS, subH, wfS, wfH, SV.ren, renL, SObj.ren, SV.wf, SObj.wf, wfL, SV.known, Nat.reduceEqDiff, ↓reduceIte, if_true, if_false, eq_self, Nat.reduceAdd, Nat.reduceLT, Nat.reduceLeDiff, implies_true, reduceCtorEq, forall_const]; simp; done))
                  all_goals (try (simp only [outV_zero, outH_zero, es, ← Nat.add_assoc, LB, subS, subH, wfS, wfH, SV.ren, renL, SObj.ren, SV.wf, SObj.wf, wfL, SV.known, Nat.reduceEqDiff, ↓reduceIte, if_true, if_false, eq_self, Nat.reduceAdd, Nat.reduceLT, Nat.reduceLeDiff, implies_true, reduceCtorEq, forall_const]; (and_intros <;> (first | omega | rfl | (simp; done) | (simp; omega))); done))
                  all_goals (try dsimp only)
                  all_goals (and_intros <;> try (first | omega | (unfold In64; omega) | trivial | assumption))
                  all_goals (try (rw [← Nat.add_assoc, es]; exact qL))
                | succ n =>
                  simp -implicitDefEqProofs only [lk_normal, isPossible_F, outV_succ, outH_succ, hil, hjl, hkl, hR, hr, tkR, g0, g1, g2, hc, ZB, Int.reduceToNat, Nat.reduceLT, Nat.reduceLeDiff, Int.reduceLE, Int.reduceLT, Nat.reduceEqDiff, Nat.reduceSub, SB, SV.known, packR, ne_eq, reduceCtorEq, Nat.reduceEqDiff, ↓reduceIte, if_true, if_false, eq_self, Nat.reduceAdd, Nat.reduceMul, Nat.reduceSub, forall_const, oneCellS, litOne, flat1, Kd.isSca, flat, TYB]
                  (try (and_intros <;> try (first | omega | (unfold In64; omega) | trivial | assumption)))
                  refine ⟨(k + 1, n + 1, cap, junk), ?_, ?_, Sub.mk_id ?_ ?_ ?_ ?_ ?_⟩
                  all_goals (try (simp only [outV_succ, outH_succ, es, ← Nat.add_assoc, LB, subS, subH, wfS, wfH, SV.ren, renL, SObj.ren, SV.wf, SObj.wf, wfL, SV.known, Nat.reduceEqDiff, ↓reduceIte, if_true, if_false, eq_self, Nat.reduceAdd, Nat.reduceLT, Nat.reduceLeDiff, implies_true, reduceCtorEq, forall_const]; done))
                  all_goals (try (simp only [outV_succ, outH_succ, es, ← Nat.add_assoc, LB, subS, subH, wfS, wfH, SV.ren, renL, SObj.ren, SV.wf, SObj.wf, wfL, SV.known, Nat.reduceEqDiff, ↓reduceIte, if_true, if_false, eq_self, Nat.reduceAdd, Nat.reduceLT, Nat.reduceLeDiff, implies_true, reduceCtorEq, forall_const]; simp; done))
                  all_goals (try (simp only [outV_succ, outH_succ, es, ← Nat.add_assoc, LB, subS, subH, wfS, wfH, SV.ren, renL, SObj.ren, SV.wf, SObj.wf, wfL, SV.known, Nat.reduceEqDiff, ↓reduceIte, if_true, if_false, eq_self, Nat.reduceAdd, Nat.reduceLT, Nat.reduceLeDiff, implies_true, reduceCtorEq, forall_const]; (and_intros <;> (first | omega | rfl | (simp; done) | (simp; omega))); done))
                  all_goals (try dsimp only)
                  all_goals (and_intros <;> try (first | omega | (unfold In64; omega) | trivial | assumption))
                  all_goals (try (rw [← Nat.add_assoc, es]; exact qL))
              | true =>
                rw [hc] at es
                simp only [if_true] at es
                cases n with
                | zero =>
                  have e0 : SrL R ((i * 6 + j) * 4 + k) = [] := List.length_eq_zero_iff.1 (by simpa using qL)
                  rw [e0, List.nil_append] at es
                  simp -implicitDefEqProofs only [lk_normal, isPossible_F, outV_zero, outH_zero, hil, hjl, hkl, hR, hr, tkR, g0, g1, g2, hc, ZB, Int.reduceToNat, Nat.reduceLT, Nat.reduceLeDiff, Int.reduceLE, Int.reduceLT, Nat.reduceEqDiff, Nat.reduceSub, SB, SV.known, packR, ne_eq, reduceCtorEq, Nat.reduceEqDiff, ↓reduceIte, if_true, if_false, eq_self, Nat.reduceAdd, Nat.reduceMul, Nat.reduceSub, forall_const, oneCellS, litOne, flat1, Kd.isSca, flat, TYB]
                  (try (and_intros <;> try (first | omega | (unfold In64; omega) | trivial | assumption)))
                  intro junk' cap' hj'
                  (try (and_intros <;> try (first | omega | (unfold In64; omega) | trivial | assumption)))
                  refine ⟨(k + 1, 1, cap', junk'), ?_, ?_, Sub.mk_to 1 4 ?_ ?_ ?_ ?_ ?_ ?_ ?_⟩
                  all_goals (try (simp only [outV_succ, outH_succ, es, ← Nat.add_assoc, LB, subS, subH, wfS, wfH, SV.ren, renL, SObj.ren, SV.wf, SObj.wf, wfL, SV.known, Nat.reduceEqDiff, ↓reduceIte, if_true, if_false, eq_self, Nat.reduceAdd, Nat.reduceLT, Nat.reduceLeDiff, implies_true, reduceCtorEq, forall_const]; done))
                  all_goals (try (simp only [outV_succ, outH_succ, es, ← Nat.add_assoc, LB, subS, subH, wfS, wfH, SV.ren, renL, SObj.ren, SV.wf, SObj.wf, wfL, SV.known, Nat.reduceEqDiff, ↓reduceIte, if_true, if_false, eq_self, Nat.reduceAdd, Nat.reduceLT, Nat.reduceLeDiff, implies_true, reduceCtorEq, forall_const]; simp; done))
                  all_goals (try (simp only [outV_succ, outH_succ, es, ← Nat.add_assoc, LB, subS, subH, wfS, wfH, SV.ren, renL, SObj.ren, SV.wf, SObj.wf, wfL, SV.known, Nat.reduceEqDiff, ↓reduceIte, if_true, if_false, eq_self, Nat.reduceAdd, Nat.reduceLT, Nat.reduceLeDiff, implies_true, reduceCtorEq, forall_const]; (and_intros <;> (first | omega | rfl | (simp; done) | (simp; omega))); done))
                  all_goals (try dsimp only)
                  all_goals (and_intros <;> try (first | omega | (unfold In64; omega) | trivial | assumption))
                  all_goals (try (rw [← Nat.add_assoc, es]; rfl))
                | succ n =>
                  have tkL : (SrL R ((i * 6 + j) * 4 + k) ++ junk).take ((n + 1) * 3) = SrL R ((i * 6 + j) * 4 + k) := List.take_left' qL
                  have lenL : (SrL R ((i * 6 + j) * 4 + k) ++ junk).length = cap * 3 := by rw [List.length_append]; omega
                  simp -implicitDefEqProofs only [lk_normal, isPossible_F, outV_succ, outH_succ, hil, hjl, hkl, hR, hr, tkR, g0, g1, g2, hc, tkL, lenL, ZB, Int.reduceToNat, Nat.reduceLT, Nat.reduceLeDiff, Int.reduceLE, Int.reduceLT, Nat.reduceEqDiff, Nat.reduceSub, SB, SV.known, packR, ne_eq, reduceCtorEq, Nat.reduceEqDiff, ↓reduceIte, if_true, if_false, eq_self, Nat.reduceAdd, Nat.reduceMul, Nat.reduceSub, forall_const, oneCellS, litOne, flat1, Kd.isSca, flat, TYB]
                  (try (and_intros <;> try (first | omega | (unfold In64; omega) | trivial | assumption)))
                  intro junk' cap' hj'
                  (try (and_intros <;> try (first | omega | (unfold In64; omega) | trivial | assumption)))
                  refine ⟨(k + 1, n + 1 + 1, cap', junk'), ?_, ?_, Sub.mk_to 1 4 ?_ ?_ ?_ ?_ ?_ ?_ ?_⟩
                  all_goals (try (simp only [outV_succ, outH_succ, es, ← Nat.add_assoc, LB, subS, subH, wfS, wfH, SV.ren, renL, SObj.ren, SV.wf, SObj.wf, wfL, SV.known, Nat.reduceEqDiff, ↓reduceIte, if_true, if_false, eq_self, Nat.reduceAdd, Nat.reduceLT, Nat.reduceLeDiff, implies_true, reduceCtorEq, forall_const]; done))
                  all_goals (try (simp only [outV_succ, outH_succ, es, ← Nat.add_assoc, LB, subS, subH, wfS, wfH, SV.ren, renL, SObj.ren, SV.wf, SObj.wf, wfL, SV.known, Nat.reduceEqDiff, ↓reduceIte, if_true, if_false, eq_self, Nat.reduceAdd, Nat.reduceLT, Nat.reduceLeDiff, implies_true, reduceCtorEq, forall_const]; simp; done))
                  all_goals (try (simp only [outV_succ, outH_succ, es, ← Nat.add_assoc, LB, subS, subH, wfS, wfH, SV.ren, renL, SObj.ren, SV.wf, SObj.wf, wfL, SV.known, Nat.reduceEqDiff, ↓reduceIte, if_true, if_false, eq_self, Nat.reduceAdd, Nat.reduceLT, Nat.reduceLeDiff, implies_true, reduceCtorEq, forall_const]; (and_intros <;> (first | omega | rfl | (simp; done) | (simp; omega))); done))
                  all_goals (try dsimp only)
                  all_goals (and_intros <;> try (first | omega | (unfold In64; omega) | trivial | assumption))
                  all_goals (try (rw [← Nat.add_assoc, es, List.length_append, qL]; simp; omega))
            · have hkl : ¬ ((k + 1 : Nat) : Int) ≤ 4 := by omega
              obtain rfl : k = 4 := by omega
              have e4 : (i * 6 + (j + 1)) * 4 = (i * 6 + j) * 4 + 4 := by omega
              cases n with
              | zero =>
                simp -implicitDefEqProofs only [lk_normal, outV_zero, outH_zero, hkl, ZB, Int.reduceToNat, Nat.reduceLT, Nat.reduceLeDiff, Int.reduceLE, Int.reduceLT, Nat.reduceEqDiff, Nat.reduceSub, SB, SV.known, packR, ne_eq, reduceCtorEq, Nat.reduceEqDiff, ↓reduceIte, if_true, if_false, eq_self, Nat.reduceAdd, Nat.reduceMul, Nat.reduceSub, forall_const, oneCellS, litOne, flat1, Kd.isSca, flat, TYB]
                (try (and_intros <;> try (first | omega | (unfold In64; omega) | trivial | assumption)))
                refine ⟨(j + 1, 0, cap, junk), ?_, ?_, Sub.mk_id ?_ ?_ ?_ ?_ ?_⟩
                all_goals (try (simp only [outV_zero, outH_zero, e4, LB, subS, subH, wfS, wfH, SV.ren, renL, SObj.ren, SV.wf, SObj.wf, wfL, SV.known, Nat.reduceEqDiff, ↓reduceIte, if_true, if_false, eq_self, Nat.reduceAdd, Nat.reduceLT, Nat.reduceLeDiff, implies_true, reduceCtorEq, forall_const]; done))
                all_goals (try (simp only [outV_zero, outH_zero, e4, LB, subS, subH, wfS, wfH, SV.ren, renL, SObj.ren, SV.wf, SObj.wf, wfL, SV.known, Nat.reduceEqDiff, ↓reduceIte, if_true, if_false, eq_self, Nat.reduceAdd, Nat.reduceLT, Nat.reduceLeDiff, implies_true, reduceCtorEq, forall_const]; simp; done))
                all_goals (try (simp only [outV_zero, outH_zero, e4, LB, subS, subH, wfS, wfH, SV.ren, renL, SObj.ren, SV.wf, SObj.wf, wfL, SV.known, Nat.reduceEqDiff, ↓reduceIte, if_true, if_false, eq_self, Nat.reduceAdd, Nat.reduceLT, Nat.reduceLeDiff, implies_true, reduceCtorEq, forall_const]; (and_intros <;> (first | omega | rfl | (simp; done) | (simp; omega))); done))
                all_goals (try dsimp only)
                all_goals (and_intros <;> try (first | omega | (unfold In64; omega) | trivial | assumption))
                all_goals (try (rw [e4]; exact qL))
              | succ n =>
                simp -implicitDefEqProofs only [lk_normal, outV_succ, outH_succ, hkl, ZB, Int.reduceToNat, Nat.reduceLT, Nat.reduceLeDiff, Int.reduceLE, Int.reduceLT, Nat.reduceEqDiff, Nat.reduceSub, SB, SV.known, packR, ne_eq, reduceCtorEq, Nat.reduceEqDiff, ↓reduceIte, if_true, if_false, eq_self, Nat.reduceAdd, Nat.reduceMul, Nat.reduceSub, forall_const, oneCellS, litOne, flat1, Kd.isSca, flat, TYB]
                (try (and_intros <;> try (first | omega | (unfold In64; omega) | trivial | assumption)))
                refine ⟨(j + 1, n + 1, cap, junk), ?_, ?_, Sub.mk_id ?_ ?_ ?_ ?_ ?_⟩
                all_goals (try (simp only [outV_succ, outH_succ, e4, LB, subS, subH, wfS, wfH, SV.ren, renL, SObj.ren, SV.wf, SObj.wf, wfL, SV.known, Nat.reduceEqDiff, ↓reduceIte, if_true, if_false, eq_self, Nat.reduceAdd, Nat.reduceLT, Nat.reduceLeDiff, implies_true, reduceCtorEq, forall_const]; done))
                all_goals (try (simp only [outV_succ, outH_succ, e4, LB, subS, subH, wfS, wfH, SV.ren, renL, SObj.ren, SV.wf, SObj.wf, wfL, SV.known, Nat.reduceEqDiff, ↓reduceIte, if_true, if_false, eq_self, Nat.reduceAdd, Nat.reduceLT, Nat.reduceLeDiff, implies_true, reduceCtorEq, forall_const]; simp; done))
                all_goals (try (simp only [outV_succ, outH_succ, e4, LB, subS, subH, wfS, wfH, SV.ren, renL, SObj.ren, SV.wf, SObj.wf, wfL, SV.known, Nat.reduceEqDiff, ↓reduceIte, if_true, if_false, eq_self, Nat.reduceAdd, Nat.reduceLT, Nat.reduceLeDiff, implies_true, reduceCtorEq, forall_const]; (and_intros <;> (first | omega | rfl | (simp; done) | (simp; omega))); done))
                all_goals (try dsimp only)
                all_goals (and_intros <;> try (first | omega | (unfold In64; omega) | trivial | assumption))
                all_goals (try (rw [e4]; exact qL))
        · have hjl : ¬ (j : Int) < 6 := by omega
          obtain rfl : j = 6 := by omega
          have e6 : (i + 1) * 6 * 4 = (i * 6 + 6) * 4 := by omega
          cases n with
          | zero =>
            simp -implicitDefEqProofs only [lk_normal, outV_zero, outH_zero, hjl, ZB, Int.reduceToNat, Nat.reduceLT, Nat.reduceLeDiff, Int.reduceLE, Int.reduceLT, Nat.reduceEqDiff, Nat.reduceSub, SB, SV.known, packR, ne_eq, reduceCtorEq, Nat.reduceEqDiff, ↓reduceIte, if_true, if_false, eq_self, Nat.reduceAdd, Nat.reduceMul, Nat.reduceSub, forall_const, oneCellS, litOne, flat1, Kd.isSca, flat, TYB]
            (try (and_intros <;> try (first | omega | (unfold In64; omega) | trivial | assumption)))
            refine ⟨(i + 1, 0, cap, junk), ?_, ?_, Sub.mk_id ?_ ?_ ?_ ?_ ?_⟩
            all_goals (try (simp only [outV_zero, outH_zero, e6, LB, subS, subH, wfS, wfH, SV.ren, renL, SObj.ren, SV.wf, SObj.wf, wfL, SV.known, Nat.reduceEqDiff, ↓reduceIte, if_true, if_false, eq_self, Nat.reduceAdd, Nat.reduceLT, Nat.reduceLeDiff, implies_true, reduceCtorEq, forall_const]; done))
            all_goals (try (simp only [outV_zero, outH_zero, e6, LB, subS, subH, wfS, wfH, SV.ren, renL, SObj.ren, SV.wf, SObj.wf, wfL, SV.known, Nat.reduceEqDiff, ↓reduceIte, if_true, if_false, eq_self, Nat.reduceAdd, Nat.reduceLT, Nat.reduceLeDiff, implies_true, reduceCtorEq, forall_const]; simp; done))
            all_goals (try (simp only [outV_zero, outH_zero, e6, LB, subS, subH, wfS, wfH, SV.ren, renL, SObj.ren, SV.wf, SObj.wf, wfL, SV.known, Nat.reduceEqDiff, ↓reduceIte, if_true, if_false, eq_self, Nat.reduceAdd, Nat.reduceLT, Nat.reduceLeDiff, implies_true, reduceCtorEq, forall_const]; (and_intros <;> (first | omega | rfl | (simp; done) | (simp; omega))); done))
            all_goals (try dsimp only)
            all_goals (and_intros <;> try (first | omega | (unfold In64; omega) | trivial | assumption))
            all_goals (try (rw [e6]; exact gL))
          | succ n =>
            simp -implicitDefEqProofs only [lk_normal, outV_succ, outH_succ, hjl, ZB, Int.reduceToNat, Nat.reduceLT, Nat.reduceLeDiff, Int.reduceLE, Int.reduceLT, Nat.reduceEqDiff, Nat.reduceSub, SB, SV.known, packR, ne_eq, reduceCtorEq, Nat.reduceEqDiff, ↓reduceIte, if_true, if_false, eq_self, Nat.reduceAdd, Nat.reduceMul, Nat.reduceSub, forall_const, oneCellS, litOne, flat1, Kd.isSca, flat, TYB]
            (try (and_intros <;> try (first | omega | (unfold In64; omega) | trivial | assumption)))
            refine ⟨(i + 1, n + 1, cap, junk), ?_, ?_, Sub.mk_id ?_ ?_ ?_ ?_ ?_⟩
            all_goals (try (simp only [outV_succ, outH_succ, e6, LB, subS, subH, wfS, wfH, SV.ren, renL, SObj.ren, SV.wf, SObj.wf, wfL, SV.known, Nat.reduceEqDiff, ↓reduceIte, if_true, if_false, eq_self, Nat.reduceAdd, Nat.reduceLT, Nat.reduceLeDiff, implies_true, reduceCtorEq, forall_const]; done))
            all_goals (try (simp only [outV_succ, outH_succ, e6, LB, subS, subH, wfS, wfH, SV.ren, renL, SObj.ren, SV.wf, SObj.wf, wfL, SV.known, Nat.reduceEqDiff, ↓reduceIte, if_true, if_false, eq_self, Nat.reduceAdd, Nat.reduceLT, Nat.reduceLeDiff, implies_true, reduceCtorEq, forall_const]; simp; done))
            all_goals (try (simp only [outV_succ, outH_succ, e6, LB, subS, subH, wfS, wfH, SV.ren, renL, SObj.ren, SV.wf, SObj.wf, wfL, SV.known, Nat.reduceEqDiff, ↓reduceIte, if_true, if_false, eq_self, Nat.reduceAdd, Nat.reduceLT, Nat.reduceLeDiff, implies_true, reduceCtorEq, forall_const]; (and_intros <;> (first | omega | rfl | (simp; done) | (simp; omega))); done))
            all_goals (try dsimp only)
            all_goals (and_intros <;> try (first | omega | (unfold In64; omega) | trivial | assumption))
            all_goals (try (rw [e6]; exact gL))
    · have hil : ¬ (i : Int) < 6 := by omega
      obtain rfl : i = 6 := by omega
      have hL' : (SrL R 144).length = n * 3 := hL
      have kn : ∀ a b c, (outV a b c).known = true := fun a b c => by cases a <;> rfl
      simp -implicitDefEqProofs only [lk_normal, hil, ZB, Int.reduceToNat, Nat.reduceLT, Nat.reduceLeDiff, Int.reduceLE, Int.reduceLT, Nat.reduceEqDiff, Nat.reduceSub, SB, SV.known, packR, ne_eq, reduceCtorEq, Nat.reduceEqDiff, ↓reduceIte, if_true, if_false, eq_self, Nat.reduceAdd, Nat.reduceMul, Nat.reduceSub, forall_const, oneCellS, litOne, flat1, Kd.isSca, flat, TYB]
      cases n with
      | zero =>
        refine ⟨rfl, .inl ⟨rfl, List.length_eq_zero_iff.1 (by simpa using hL'), rfl⟩⟩
      | succ n =>
        refine ⟨rfl, .inr ⟨1, cap, junk, ?_, ?_, by omega, ?_, ?_⟩⟩
        · rw [hL']; simp [Wrap.ap, outV_succ]
        · simp [hget_cons, outH_succ]
        · omega
        · intro _ h0
          rw [h0] at hL'
          simp at hL'
def sources_F : List SV → Heap → Nat → Nat → K1 → Prop
  | [.arr R], H, n, _, κ => (R.length = 24 ∧ rackB R = true) ∧ freshK .one (SrL R 144) ((SrL R 144).length / 3) 3 48 true H n κ
  | _, _, _, _, _ => False
--@tbl sources = impl.sources
theorem sources_T : ∀ args H n m κ, sources_F args H n m κ → GenOK Tryz.prog 89 args H n m κ := by
  intro args H n m κ h
  unfold sources_F at h
  split at h
  · exact gen_of_fresh (sources_ok _ h.1.1 h.1.2) (fun k o hk => by cases hk) h.2
  · exact h.elim
def l5Sources_F : List SV → Heap → Nat → Nat → K1 → Prop
  | [.arr R], H, n, _, κ => (R.length = 24 ∧ rackB R = true) ∧ freshK .one (SrL R 144) ((SrL R 144).length / 3) 3 48 false H n κ
  | _, _, _, _, _ => False
--@tbl l5Sources = spec.l5Sources
theorem l5Sources_T : ∀ args H n m κ, l5Sources_F args H n m κ → GenOK Tryz.prog 90 args H n m κ := by
  intro args H n m κ h
  unfold l5Sources_F at h
  split at h
  · exact gen_of_fresh (l5Sources_ok _ h.1.1 h.1.2) (fun k o hk => by cases hk) h.2
  · exact h.elim
theorem SrL_dec (R : List Int) : decide ((((SrL R 144).length / 3 : Nat) : Int) = 0) = decide (SrL R 144 = []) := by
  obtain ⟨k, hk, _⟩ := SrL_three R 144
  by_cases h : SrL R 144 = []
  · simp [h]
  · have : ¬ k = 0 := fun h0 => h (List.length_eq_zero_iff.1 (by rw [hk, h0]))
    have h2 : ¬ (((SrL R 144).length / 3 : Nat) : Int) = 0 := by omega
    simp only [h, h2]
--@tbl isGarden = impl.isGarden
theorem isGarden_ok (R : List Int) (hR : R.length = 24) (hr : rackB R = true) : PureH Tryz.prog 93 [.arr R] [] (.bool (decide (SrL R 144 = []))) := by
  have tkR : R.take 24 = R := List.take_of_length_le (by omega)
  refine pure_of_vc (X := ⟨Tryz.prog, tys, [], [(89, sources_F)], true, true, 0, [], []⟩) fn_93 ⟨tys_ok, .nil, (.cons sources_T .nil), mixed⟩ (n0 := 0) (Nat.le_of_ble_eq_true rfl) (by simp [wfL, SV.wf]) (wfH_spec (by simp [wfH, SObj.wf])) (Nat.le_refl _) (fun _ => by simp [SV.wf, wfL]) ?_
  simp -implicitDefEqProofs only [Tryz.f93, Option.getD_some, argS, sources_F, hR, tkR, hr, freshK, Wrap.ap, ZB, Int.reduceToNat, Nat.reduceLT, Nat.reduceLeDiff, Int.reduceLE, Int.reduceLT, Nat.reduceEqDiff, Nat.reduceSub, SB, SV.known, packR, ne_eq, reduceCtorEq, Nat.reduceEqDiff, ↓reduceIte, if_true, if_false, eq_self, Nat.reduceAdd, Nat.reduceMul, Nat.reduceSub, forall_const, oneCellS, litOne, flat1, Kd.isSca, flat, TYB]
  exact ⟨fun h => by simp [h], fun _ cap junk hj => SrL_dec R⟩
def isGarden_F : List SV → Heap → Option (Prop × SV)
  | [.arr R], _ => some (R.length = 24 ∧ rackB R = true, .bool (decide (SrL R 144 = [])))
  | _, _ => none
theorem isGarden_T : ∀ args H p v, isGarden_F args H = some (p, v) → p → PureH Tryz.prog 93 args H v := by
  intro args H p v h hp
  unfold isGarden_F at h
  split at h
  · cases h; exact (isGarden_ok _ hp.1 hp.2).any _
  · cases h
--@tbl IsGarden = impl.IsGarden
--@tbl sIsGarden = spec.IsGarden
theorem IsGarden_ok (R : List Int) (hR : R.length = 24) : PureH Tryz.prog 29 [.arr R] [] (.tup [.bool (rackB R && decide (SrL R 144 = [])), .bool (rackB R)]) := by
  have tkR : R.take 24 = R := List.take_of_length_le (by omega)
  cases hr : rackB R
  all_goals
    refine pure_of_vc (X := ⟨Tryz.prog, tys, [(62, IsRack_F), (93, isGarden_F)], [], true, true, 0, [], []⟩) fn_29 ⟨tys_ok, (.cons IsRack_T (.cons isGarden_T .nil)), .nil, mixed⟩ (n0 := 0) (Nat.le_of_ble_eq_true rfl) (by simp [wfL, SV.wf]) (wfH_spec (by simp [wfH, SObj.wf])) (Nat.le_refl _) (fun _ => by simp [SV.wf, wfL]) ?_
    simp -implicitDefEqProofs only [Tryz.f29, Option.getD_some, argS, IsRack_F, isGarden_F, hR, tkR, hr, ZB, Int.reduceToNat, Nat.reduceLT, Nat.reduceLeDiff, Int.reduceLE, Int.reduceLT, Nat.reduceEqDiff, Nat.reduceSub, SB, SV.known, packR, ne_eq, reduceCtorEq, Nat.reduceEqDiff, ↓reduceIte, if_true, if_false, eq_self, Nat.reduceAdd, Nat.reduceMul, Nat.reduceSub, forall_const, oneCellS, litOne, flat1, Kd.isSca, flat, TYB]
theorem sIsGarden_ok (R : List Int) (hR : R.length = 24) : PureH Tryz.prog 30 [.arr R] [] (.tup [.bool (rackB R && decide (SrL R 144 = [])), .bool (rackB R)]) := by
  have tkR : R.take 24 = R := List.take_of_length_le (by omega)
  cases hr : rackB R
  · refine pure_of_vc (X := ⟨Tryz.prog, tys, [(64, l2Rack_F)], [(90, l5Sources_F)], true, true, 0, [], []⟩) fn_30 ⟨tys_ok, (.cons l2Rack_T .nil), (.cons l5Sources_T .nil), mixed⟩ (n0 := 0) (Nat.le_of_ble_eq_true rfl) (by simp [wfL, SV.wf]) (wfH_spec (by simp [wfH, SObj.wf])) (Nat.le_refl _) (fun _ => by simp [SV.wf, wfL]) ?_
    simp -implicitDefEqProofs only [Tryz.f30, Option.getD_some, argS, l2Rack_F, l5Sources_F, hR, tkR, hr, freshK, Wrap.ap, ZB, Int.reduceToNat, Nat.reduceLT, Nat.reduceLeDiff, Int.reduceLE, Int.reduceLT, Nat.reduceEqDiff, Nat.reduceSub, SB, SV.known, packR, ne_eq, reduceCtorEq, Nat.reduceEqDiff, ↓reduceIte, if_true, if_false, eq_self, Nat.reduceAdd, Nat.reduceMul, Nat.reduceSub, forall_const, oneCellS, litOne, flat1, Kd.isSca, flat, TYB]
  · refine pure_of_vc (X := ⟨Tryz.prog, tys, [(64, l2Rack_F)], [(90, l5Sources_F)], true, true, 0, [], []⟩) fn_30 ⟨tys_ok, (.cons l2Rack_T .nil), (.cons l5Sources_T .nil), mixed⟩ (n0 := 0) (Nat.le_of_ble_eq_true rfl) (by simp [wfL, SV.wf]) (wfH_spec (by simp [wfH, SObj.wf])) (Nat.le_refl _) (fun _ => by simp [SV.wf, wfL]) ?_
    simp -implicitDefEqProofs only [Tryz.f30, Option.getD_some, argS, l2Rack_F, l5Sources_F, hR, tkR, hr, freshK, Wrap.ap, ZB, Int.reduceToNat, Nat.reduceLT, Nat.reduceLeDiff, Int.reduceLE, Int.reduceLT, Nat.reduceEqDiff, Nat.reduceSub, SB, SV.known, packR, ne_eq, reduceCtorEq, Nat.reduceEqDiff, ↓reduceIte, if_true, if_false, eq_self, Nat.reduceAdd, Nat.reduceMul, Nat.reduceSub, forall_const, oneCellS, litOne, flat1, Kd.isSca, flat, TYB]
    exact fun cap junk hj => SrL_dec R
def IsGarden_F : List SV → Heap → Option (Prop × SV)
  | [.arr R], _ => some (R.length = 24, .tup [.bool (rackB R && decide (SrL R 144 = [])), .bool (rackB R)])
  | _, _ => none
theorem IsGarden_T : ∀ args H p v, IsGarden_F args H = some (p, v) → p → PureH Tryz.prog 29 args H v := by
  intro args H p v h hp
  unfold IsGarden_F at h
  split at h
  · cases h; exact (IsGarden_ok _ hp).any _
  · cases h
def sIsGarden_F : List SV → Heap → Option (Prop × SV)
  | [.arr R], _ => some (R.length = 24, .tup [.bool (rackB R && decide (SrL R 144 = [])), .bool (rackB R)])
  | _, _ => none
theorem sIsGarden_T : ∀ args H p v, sIsGarden_F args H = some (p, v) → p → PureH Tryz.prog 30 args H v := by
  intro args H p v h hp
  unfold sIsGarden_F at h
  split at h
  · cases h; exact (sIsGarden_ok _ hp).any _
  · cases h
end Go.Proofs.YtmccafjblhbmkaaGreat
set_option maxRecDepth 100000
set_option linter.unusedSimpArgs false
set_option linter.unusedVariables false
namespace Go.Proofs.YtmccafjblhbmkaaGreat
open Go Go.RowKit
--@tbl eqS2 = laws.eqIntA2S
/-! Marks. -/
theorem gen_of_pure {P : Program} {f : FuncId} {args : List SV} {H : Heap} {n m : Nat} {v : SV} {κ : K1} (h : PureH P f args H v) (hk : κ v H n) : GenOK P f args H n m κ :=
  ⟨h.ent, fun B M w hH hwH hwa hown hM => (h.call B w hH).mono fun e w' hh => ⟨v, H, n, B, hh.1, hk, Nat.le_refl _, h.wf n hwa hwH, hwH, fun _ _ => rfl, hH.of_below hh.2, hown, Kept.of_below hh.2⟩⟩
end Go.Proofs.YtmccafjblhbmkaaGreat
set_option maxRecDepth 100000
set_option linter.unusedSimpArgs false
set_option linter.unusedVariables false
namespace Go.Proofs.YtmccafjblhbmkaaGreat
open Go Go.RowKit
def bkk (R : List Int) (q : Nat) : List Int := bkR R ((SrL R 144).getD (q * 3) 0) ((SrL R 144).getD (q * 3 + 1) 0) ((SrL R 144).getD (q * 3 + 2) 0)
def bks (R : List Int) (n : Nat) : List (List Int) := (List.range n).map (bkk R)
theorem bks_succ (R : List Int) (n : Nat) : bks R (n + 1) = bks R n ++ [bkk R n] := by simp [bks, List.range_succ]
theorem bks_len (R : List Int) (n : Nat) : (bks R n).length = n := by simp [bks]
theorem bks_24 {R : List Int} (hR : R.length = 24) (n : Nat) : all24 (bks R n) := fun x hx => by
  obtain ⟨q, _, rfl⟩ := List.mem_map.1 hx
  exact bkR_len hR _ _ _
def befN (R : List Int) : Nat := (SrL R 144).length / 3
def befL (R : List Int) : List (List Int) := ddS (srtT (bks R (befN R))) (befN R)
def sortR_F : List SV → Heap → Nat → Nat → K1 → Prop
  | [.slice b 0 n cap, .fn g []], H, N, m, κ => match hget H b with
    | some (.ints L e) => g = 139 ∧ n ≤ 1000000 ∧ m ≤ b ∧ ∃ Q Z, L = Q.flatten ++ Z ∧ Q.length = n ∧ all24 Q ∧ κ (.tup []) ((b, .ints ((srtT Q).flatten ++ Z) e) :: H) N
    | _ => False
  | [.nils, .fn _ []], H, N, _, κ => κ (.tup []) H N
  | _, _, _, _, _ => False
--@tbl sortR = slices.SortFunc[[]impl.Rack,impl.Rack]
theorem sortR_T : ∀ args H n m κ, sortR_F args H n m κ → GenOK Tryz.prog 138 args H n m κ := by
  intro args H N m κ h
  unfold sortR_F at h
  split at h
  · rename_i b n cap g
    split at h
    · rename_i L e hb
      obtain ⟨rfl, hn, hm, Q, Z, rfl, hQn, hQ, h⟩ := h
      have hu := sortR_ok [] Z Q hQ e cap 0 n rfl hQn (by omega)
      rw [List.nil_append, List.nil_append] at hu
      have := gen_of_upd (H := H) (n := N) (m := m) (κ := κ) hu (fun _ => b) (fun j o1 hj => by
        rw [hget_cons] at hj
        split at hj
        · cases hj; exact hb
        · cases hj) (fun j1 o1 j2 o2 g1 g2 he => by
        rw [hget_cons] at g1 g2
        split at g1
        · split at g2
          · omega
          · cases g2
        · cases g1) (by simpa using hm) rfl (fun _ _ => trivial) (by simpa [SV.ren, renL] using h)
      simpa [renL, SV.ren] using this
    · exact h.elim
  · rename_i g
    have hp : PureH Tryz.prog 138 [.nils, .fn g []] [] (.tup []) :=
      ⟨fn_138.ent, fun _ _ _ => trivial, fun B w _ => (AnyF.slices_SortFunc_none laySortR none 0 _ w).mono fun e w' hh => ⟨hh.1, by rw [hh.2]; exact Bel.refl _ _⟩⟩
    exact gen_of_pure (hp.any _) h
  · exact h.elim
def compR_F : List SV → Heap → Nat → Nat → K1 → Prop
  | [.slice b 0 n cap], H, N, m, κ => match hget H b with
    | some (.ints L e) => n ≤ 1000000 ∧ m ≤ b ∧ L.length = cap * 24 ∧ ∃ Q Z, L = Q.flatten ++ Z ∧ Q.length = n ∧ all24 Q ∧ κ (.slice b 0 (ddS Q n).length cap) ((b, .ints ((ddS Q n).flatten ++ (List.replicate ((n - (ddS Q n).length) * 24) 0 ++ Z)) e) :: H) N
    | _ => False
  | [.nils], H, N, _, κ => κ .nils H N
  | _, _, _, _, _ => False
--@tbl compR = slices.Compact[[]impl.Rack,impl.Rack]
theorem compact_nil : PureH Tryz.prog 140 [.nils] [] .nils := by
  refine pure_of_vc (X := ⟨Tryz.prog, tys, [], [], true, true, 0, [], []⟩) fn_140 ⟨tys_ok, .nil, .nil, mixed⟩ (n0 := 0) (Nat.le_of_ble_eq_true rfl) (by simp [wfL, SV.wf]) (wfH_spec (by simp [wfH, SObj.wf])) (Nat.le_refl _) (fun _ => by simp [SV.wf, wfL]) ?_
  simp -implicitDefEqProofs only [Tryz.f140, Option.getD_some, argS, ZB, Int.reduceToNat, Nat.reduceLT, Nat.reduceLeDiff, Int.reduceLE, Int.reduceLT, Nat.reduceEqDiff, Nat.reduceSub, SB, SV.known, packR, ne_eq, reduceCtorEq, Nat.reduceEqDiff, ↓reduceIte, if_true, if_false, eq_self, Nat.reduceAdd, Nat.reduceMul, Nat.reduceSub, forall_const, oneCellS, litOne, flat1, Kd.isSca, flat, TYB]
theorem compR_T : ∀ args H n m κ, compR_F args H n m κ → GenOK Tryz.prog 140 args H n m κ := by
  intro args H N m κ h
  unfold compR_F at h
  split at h
  · rename_i b n cap
    split at h
    · rename_i L e hb
      obtain ⟨hn, hm, hL, Q, Z, rfl, hQn, hQ, h⟩ := h
      have hu := compact_ok Z Q hQ e cap n hQn hn hL
      have := gen_of_upd (H := H) (n := N) (m := m) (κ := κ) hu (fun _ => b) (fun j o1 hj => by
        rw [hget_cons] at hj
        split at hj
        · cases hj; exact hb
        · cases hj) (fun j1 o1 j2 o2 g1 g2 he => by
        rw [hget_cons] at g1 g2
        split at g1
        · split at g2
          · omega
          · cases g2
        · cases g1) (by simpa using hm) rfl (fun n hn => by simpa [SV.wf, SV.ren] using hn) (by simpa [SV.ren, renL] using h)
      simpa [renL, SV.ren] using this
    · exact h.elim
  · exact gen_of_pure (compact_nil.any _) h
  · exact h.elim
theorem ddS_pos (Q : List (List Int)) : ∀ k, 0 < (ddS Q (k + 1)).length
  | 0 => by unfold ddS; simp
  | k + 1 => by
    have ih := ddS_pos Q k
    unfold ddS
    split
    · exact ih
    · simp
theorem before_ok (R : List Int) (hR : R.length = 24) (hr : rackB R = true) : FreshP Tryz.prog 91 [.arr R] [] (befL R).flatten (befL R).length 24 27 true .one := by
  have tkR : R.take 24 = R := List.take_of_length_le (by omega)
  obtain ⟨np, hnp, hnp144⟩ := SrL_three R 144
  have eN : befN R = np := by unfold befN; omega
  have e3 : (SrL R 144).length / 3 = np := by omega
  unfold befL
  rw [eN]
  refine fresh_of_vc (X := ⟨Tryz.prog, tys, [(87, back_F)], [(89, sources_F), (138, sortR_F), (140, compR_F)], true, true, 0, [], []⟩) fn_91 ⟨tys_ok, (.cons back_T .nil), (.cons sources_T (.cons sortR_T (.cons compR_T .nil))), mixed⟩ (n0 := 0) rfl (Nat.le_of_ble_eq_true rfl) (by simp [wfL, SV.wf]) (wfH_spec (by simp [wfH, SObj.wf])) (Nat.le_refl _) ?_
  simp -implicitDefEqProofs only [Tryz.f91, Option.getD_some, argS, back_F, sources_F, sortR_F, compR_F, hR, tkR, hr, e3, freshK, Wrap.ap, ZB, Int.reduceToNat, Nat.reduceLT, Nat.reduceLeDiff, Int.reduceLE, Int.reduceLT, Nat.reduceEqDiff, Nat.reduceSub, SB, SV.known, packR, ne_eq, reduceCtorEq, Nat.reduceEqDiff, ↓reduceIte, if_true, if_false, eq_self, Nat.reduceAdd, Nat.reduceMul, Nat.reduceSub, forall_const, oneCellS, litOne, flat1, Kd.isSca, flat, TYB]
  refine ⟨fun h0 => ?_, fun h1 cp jp hjp => ?_⟩
  · obtain rfl : np = 0 := by rw [h0] at hnp; simp at hnp; omega
    refine loop_intro (fun _ : Unit => [(11, .int 0), (10, .int 0), (9, .nils), (3, .nils), (1, .ptr 0 0)]) (fun _ => [(0, .ints R 27)]) 1 (fun _ => True) (fun _ => 0) ?_ ?_
    · refine ⟨(), trivial, Sub.mk_id ?_ ?_ ?_ ?_ ?_⟩
      all_goals ((try simp only [LB, subS, subH, wfS, wfH, SV.ren, renL, SObj.ren, SV.wf, SObj.wf, wfL, SV.known, Nat.reduceEqDiff, ↓reduceIte, if_true, if_false, eq_self, Nat.reduceAdd, Nat.reduceLT, Nat.reduceLeDiff, implies_true, reduceCtorEq, forall_const]) <;> simp)
    · intro _ _
      simp -implicitDefEqProofs only [lk_normal, sortR_F, compR_F, Int.lt_irrefl, ZB, Int.reduceToNat, Nat.reduceLT, Nat.reduceLeDiff, Int.reduceLE, Int.reduceLT, Nat.reduceEqDiff, Nat.reduceSub, SB, SV.known, packR, ne_eq, reduceCtorEq, Nat.reduceEqDiff, ↓reduceIte, if_true, if_false, eq_self, Nat.reduceAdd, Nat.reduceMul, Nat.reduceSub, forall_const, oneCellS, litOne, flat1, Kd.isSca, flat, TYB]
      exact .inl ⟨rfl, rfl, rfl⟩
  · have lenP : (SrL R 144 ++ jp).length = cp * 3 := by rw [List.length_append]; omega
    have n0 : 0 < np := by
      rcases Nat.eq_zero_or_pos np with h | h
      · subst h; exact absurd (List.length_eq_zero_iff.1 (by omega)) h1
      · exact h
    refine loop_intro (fun s : Nat × Nat × List Int => [(11, .int s.1), (10, .int np), (9, .slice 1 0 np cp), (3, outVn 2 s.1 s.1 s.2.1), (1, .ptr 0 0)])
      (fun s => outHn 2 s.1 ((bks R s.1).flatten ++ s.2.2) 27 [(1, .ints (SrL R 144 ++ jp) 48), (0, .ints R 27)]) 3
      (fun s => s.1 ≤ np ∧ s.2.2.length + s.1 * 24 = s.2.1 * 24) (fun s => np - s.1) ?_ ?_
    · refine ⟨(0, 0, []), ⟨by simp, by simp⟩, Sub.mk_id ?_ ?_ ?_ ?_ ?_⟩
      all_goals simp only [outVn_zero, outHn_zero, LB, subS, subH, wfS, wfH, SV.ren, renL, SObj.ren, SV.wf, SObj.wf, wfL, SV.known, Nat.reduceEqDiff, ↓reduceIte, if_true, if_false, eq_self, Nat.reduceAdd, Nat.reduceLT, Nat.reduceLeDiff, implies_true, reduceCtorEq, forall_const]
      all_goals (try simp)
    · rintro ⟨i, c, j⟩ ⟨hi, hj⟩
      simp only at hi hj
      have h24 := bks_24 hR i
      have hfl := flat_len h24
      have hbl := bks_len R i
      by_cases hlt : i < np
      · have hil : (i : Int) < np := by omega
        obtain ⟨a, b, d, hb, he⟩ := SrL_trip R 144 i (by omega)
        have eP : List.take 3 (List.drop (i * 3) (SrL R 144 ++ jp)) = [a, b, d] := by
          rw [List.drop_append_of_le_length (by omega), List.take_append_of_le_length (by rw [List.length_drop]; omega), he]
        have g0 : (SrL R 144).getD (i * 3) 0 = a ∧ (SrL R 144).getD (i * 3 + 1) 0 = b ∧ (SrL R 144).getD (i * 3 + 2) 0 = d := by
          have q : ∀ k, k < 3 → (SrL R 144).getD (i * 3 + k) 0 = (((SrL R 144).drop (i * 3)).take 3).getD k 0 := fun k hk => by
            simp [List.getD, List.getElem?_take, hk]
          have q0 := q 0 (by omega); have q1 := q 1 (by omega); have q2 := q 2 (by omega)
          rw [he] at q0 q1 q2
          exact ⟨q0, q1, q2⟩
        have ex : bkR R a b d = bkk R i := by unfold bkk; rw [g0.1, g0.2.1, g0.2.2]
        have b21 := bk_21 hb
        have xl : (bkk R i).length = 24 := bkR_len hR _ _ _
        have tkx := List.take_of_length_le (Nat.le_of_eq xl)
        have es := bks_succ R i
        cases i with
        | zero =>
          have eP0 : List.take 3 (SrL R 144 ++ jp) = [a, b, d] := by rw [Nat.zero_mul, List.drop_zero] at eP; exact eP
          have n0' : (0 : Int) < np := by omega
          simp -implicitDefEqProofs only [lk_normal, back_F, outVn_zero, outHn_zero, hil, n0', eP0, eP, lenP, hR, hr, tkR, hb, b21, ex, xl, tkx, List.getD_cons_zero, List.getD_cons_succ, ZB, Int.reduceToNat, Nat.reduceLT, Nat.reduceLeDiff, Int.reduceLE, Int.reduceLT, Nat.reduceEqDiff, Nat.reduceSub, SB, SV.known, packR, ne_eq, reduceCtorEq, Nat.reduceEqDiff, ↓reduceIte, if_true, if_false, eq_self, Nat.reduceAdd, Nat.reduceMul, Nat.reduceSub, forall_const, oneCellS, litOne, flat1, Kd.isSca, flat, TYB]
          have e1 : (bks R 1).flatten = bkk R 0 := by simp [bks]
          refine ⟨by omega, fun j' c' hj' => ⟨by unfold In64; omega, (1, c', j'), ⟨by simp only; omega, by simp only; omega⟩, by simp only; omega, Sub.mk_to 2 6 ?_ ?_ ?_ ?_ ?_ ?_ ?_⟩⟩
          all_goals (try simp only [e1])
          all_goals ((try simp only [outVn_succ, outHn_succ, LB, subS, subH, wfS, wfH, SV.ren, renL, SObj.ren, SV.wf, SObj.wf, wfL, SV.known, Nat.reduceEqDiff, ↓reduceIte, if_true, if_false, eq_self, Nat.reduceAdd, Nat.reduceLT, Nat.reduceLeDiff, implies_true, reduceCtorEq, forall_const]) <;> simp)
        | succ i =>
          have lO : ((bks R (i + 1)).flatten ++ j).length = c * 24 := by rw [List.length_append, hfl, hbl]; omega
          have tkO : List.take ((i + 1) * 24) ((bks R (i + 1)).flatten ++ j) = (bks R (i + 1)).flatten := List.take_left' (by rw [hfl, hbl])
          simp -implicitDefEqProofs only [lk_normal, back_F, outVn_succ, outHn_succ, hil, eP, lenP, hR, hr, tkR, hb, b21, ex, xl, tkx, lO, tkO, List.getD_cons_zero, List.getD_cons_succ, ZB, Int.reduceToNat, Nat.reduceLT, Nat.reduceLeDiff, Int.reduceLE, Int.reduceLT, Nat.reduceEqDiff, Nat.reduceSub, SB, SV.known, packR, ne_eq, reduceCtorEq, Nat.reduceEqDiff, ↓reduceIte, if_true, if_false, eq_self, Nat.reduceAdd, Nat.reduceMul, Nat.reduceSub, forall_const, oneCellS, litOne, flat1, Kd.isSca, flat, TYB]
          refine ⟨by omega, by omega, by omega, by omega, by omega, fun j' c' hj' => ⟨by unfold In64; omega, (i + 1 + 1, c', j'), ⟨by simp only; omega, by simp only; omega⟩, by simp only; omega, Sub.mk_to 2 6 ?_ ?_ ?_ ?_ ?_ ?_ ?_⟩⟩
          all_goals (try simp only [es, List.flatten_append, List.flatten_cons, List.flatten_nil, List.append_nil])
          all_goals ((try simp only [outVn_succ, outHn_succ, LB, subS, subH, wfS, wfH, SV.ren, renL, SObj.ren, SV.wf, SObj.wf, wfL, SV.known, Nat.reduceEqDiff, ↓reduceIte, if_true, if_false, eq_self, Nat.reduceAdd, Nat.reduceLT, Nat.reduceLeDiff, implies_true, reduceCtorEq, forall_const]) <;> simp)
      · have hil : ¬ (i : Int) < np := by omega
        obtain rfl : i = np := by omega
        obtain ⟨k, rfl⟩ : ∃ k, i = k + 1 := ⟨i - 1, by omega⟩
        simp -implicitDefEqProofs only [lk_normal, sortR_F, compR_F, outVn_succ, outHn_succ, hil, ZB, Int.reduceToNat, Nat.reduceLT, Nat.reduceLeDiff, Int.reduceLE, Int.reduceLT, Nat.reduceEqDiff, Nat.reduceSub, SB, SV.known, packR, ne_eq, reduceCtorEq, Nat.reduceEqDiff, ↓reduceIte, if_true, if_false, eq_self, Nat.reduceAdd, Nat.reduceMul, Nat.reduceSub, forall_const, oneCellS, litOne, flat1, Kd.isSca, flat, TYB]
        have s24 : all24 (srtT (bks R (k + 1))) := fun x hx => h24 x ((srtT_perm _).mem_iff.1 hx)
        have sl : (srtT (bks R (k + 1))).length = k + 1 := by rw [(srtT_perm _).length_eq, hbl]
        have sf := flat_len s24
        have dl := ddS_le (srtT (bks R (k + 1))) (k + 1)
        have d24 := flat_len (ddS_24 s24 (k + 1) (by omega))
        refine ⟨by omega, bks R (k + 1), j, rfl, hbl, h24, by omega, by rw [List.length_append, sf, sl]; omega, srtT (bks R (k + 1)), j, rfl, sl, s24, ?_⟩
        refine .inr ⟨2, c, List.replicate ((k + 1 - (ddS (srtT (bks R (k + 1))) (k + 1)).length) * 24) 0 ++ j, rfl, by simp [hget_cons], by omega, ?_, fun _ h => ?_⟩
        · rw [List.length_append, List.length_replicate, d24]; omega
        · have := ddS_pos (srtT (bks R (k + 1))) k
          rw [h] at d24; simp at d24; omega
end Go.Proofs.YtmccafjblhbmkaaGreat
set_option maxRecDepth 100000
set_option linter.unusedSimpArgs false
set_option linter.unusedVariables false
namespace Go.Proofs.YtmccafjblhbmkaaGreat
open Go Go.RowKit
--@tbl l2Before = spec.l2Before
theorem lexC_at (x y : List Int) (i : Nat) (hx : i < x.length) (hy : i < y.length) : lexC (x.drop i) (y.drop i) = if x.getD i 0 < y.getD i 0 then -1 else if y.getD i 0 < x.getD i 0 then 1 else lexC (x.drop (i + 1)) (y.drop (i + 1)) := by
  have e : ∀ l : List Int, i < l.length → l.drop i = l.getD i 0 :: l.drop (i + 1) := fun l hl => by
    rw [List.drop_eq_getElem_cons hl, List.getD_eq_getElem?_getD, List.getElem?_eq_getElem hl]; rfl
  rw [e x hx, e y hy]; rfl
theorem l2Before_ok (x y : List Int) (hx : x.length = 24) (hy : y.length = 24) : PureH Tryz.prog 141 [.arr x, .arr y] [] (.bool (decide (lexC x y < 0))) := by
  have tx : x.take 24 = x := List.take_of_length_le (by omega)
  have ty : y.take 24 = y := List.take_of_length_le (by omega)
  refine pure_of_vc (X := ⟨Tryz.prog, tys, [], [], true, true, 0, [], []⟩) fn_141 ⟨tys_ok, .nil, .nil, mixed⟩ (n0 := 0) (Nat.le_of_ble_eq_true rfl) (by simp [wfL, SV.wf]) (wfH_spec (by simp [wfH, SObj.wf])) (Nat.le_refl _) (fun _ => by simp [SV.wf, wfL]) ?_
  simp -implicitDefEqProofs only [Tryz.f141, Option.getD_some, argS, hx, hy, tx, ty, ZB, Int.reduceToNat, Nat.reduceLT, Nat.reduceLeDiff, Int.reduceLE, Int.reduceLT, Nat.reduceEqDiff, Nat.reduceSub, SB, SV.known, packR, ne_eq, reduceCtorEq, Nat.reduceEqDiff, ↓reduceIte, if_true, if_false, eq_self, Nat.reduceAdd, Nat.reduceMul, Nat.reduceSub, forall_const, oneCellS, litOne, flat1, Kd.isSca, flat, TYB]
  refine loop_intro (fun i : Nat => [(5, .int i), (3, .ptr 1 0), (2, .ptr 0 0)]) (fun _ => [(1, .ints y 27), (0, .ints x 27)]) 2 (fun i => i ≤ 6 ∧ lexC x y = lexC (x.drop (i * 4)) (y.drop (i * 4))) (fun i => 6 - i) ?_ ?_
  · refine ⟨0, ⟨by omega, rfl⟩, Sub.mk_id ?_ ?_ ?_ ?_ ?_⟩
    all_goals ((try simp only [LB, subS, subH, wfS, wfH, SV.ren, renL, SObj.ren, SV.wf, SObj.wf, wfL, SV.known, Nat.reduceEqDiff, ↓reduceIte, if_true, if_false, eq_self, Nat.reduceAdd, Nat.reduceLT, Nat.reduceLeDiff, implies_true, reduceCtorEq, forall_const]) <;> simp)
  · rintro i ⟨hi, he⟩
    by_cases hlt : i < 6
    · have hil : (i : Int) < 6 := by omega
      simp -implicitDefEqProofs only [lk_normal, hil, ZB, Int.reduceToNat, Nat.reduceLT, Nat.reduceLeDiff, Int.reduceLE, Int.reduceLT, Nat.reduceEqDiff, Nat.reduceSub, SB, SV.known, packR, ne_eq, reduceCtorEq, Nat.reduceEqDiff, ↓reduceIte, if_true, if_false, eq_self, Nat.reduceAdd, Nat.reduceMul, Nat.reduceSub, forall_const, oneCellS, litOne, flat1, Kd.isSca, flat, TYB]
      refine loop_intro (fun k : Nat => [(6, .int k), (5, .int i), (3, .ptr 1 0), (2, .ptr 0 0)]) (fun _ => [(1, .ints y 27), (0, .ints x 27)]) 2 (fun k => k ≤ 4 ∧ lexC x y = lexC (x.drop (i * 4 + k)) (y.drop (i * 4 + k))) (fun k => 4 - k) ?_ ?_
      · refine ⟨0, ⟨by omega, he⟩, Sub.mk_id ?_ ?_ ?_ ?_ ?_⟩
        all_goals ((try simp only [LB, subS, subH, wfS, wfH, SV.ren, renL, SObj.ren, SV.wf, SObj.wf, wfL, SV.known, Nat.reduceEqDiff, ↓reduceIte, if_true, if_false, eq_self, Nat.reduceAdd, Nat.reduceLT, Nat.reduceLeDiff, implies_true, reduceCtorEq, forall_const]) <;> simp)
      · rintro k ⟨hk, he⟩
        by_cases hk4 : k < 4
        · have hkl : (k : Int) < 4 := by omega
          have st := lexC_at x y (i * 4 + k) (by omega) (by omega)
          rw [← he] at st
          by_cases hc : x.getD (i * 4 + k) 0 = y.getD (i * 4 + k) 0
          · simp only [hc, Int.lt_irrefl, if_false] at st
            simp -implicitDefEqProofs only [lk_normal, hil, hkl, hk4, hx, hy, hc, ZB, Int.reduceToNat, Nat.reduceLT, Nat.reduceLeDiff, Int.reduceLE, Int.reduceLT, Nat.reduceEqDiff, Nat.reduceSub, SB, SV.known, packR, ne_eq, reduceCtorEq, Nat.reduceEqDiff, ↓reduceIte, if_true, if_false, eq_self, Nat.reduceAdd, Nat.reduceMul, Nat.reduceSub, forall_const, oneCellS, litOne, flat1, Kd.isSca, flat, TYB]
            refine ⟨by omega, by omega, by omega, by omega, by omega, by omega, by unfold In64; omega, k + 1, ⟨by omega, st⟩, by omega, Sub.mk_id ?_ ?_ ?_ ?_ ?_⟩
            all_goals ((try simp only [LB, subS, subH, wfS, wfH, SV.ren, renL, SObj.ren, SV.wf, SObj.wf, wfL, SV.known, Nat.reduceEqDiff, ↓reduceIte, if_true, if_false, eq_self, Nat.reduceAdd, Nat.reduceLT, Nat.reduceLeDiff, implies_true, reduceCtorEq, forall_const]) <;> simp)
          · simp -implicitDefEqProofs only [lk_normal, hil, hkl, hk4, hx, hy, hc, ZB, Int.reduceToNat, Nat.reduceLT, Nat.reduceLeDiff, Int.reduceLE, Int.reduceLT, Nat.reduceEqDiff, Nat.reduceSub, SB, SV.known, packR, ne_eq, reduceCtorEq, Nat.reduceEqDiff, ↓reduceIte, if_true, if_false, eq_self, Nat.reduceAdd, Nat.reduceMul, Nat.reduceSub, forall_const, oneCellS, litOne, flat1, Kd.isSca, flat, TYB]
            refine ⟨by omega, by omega, by omega, by omega, by omega, by omega, by omega, by omega, by omega, by omega, by omega, by omega, ?_⟩
            congr 1
            apply propext
            rw [st]
            repeat' split
            all_goals omega
        · have hkl : ¬ (k : Int) < 4 := by omega
          simp -implicitDefEqProofs only [lk_normal, hkl, ZB, Int.reduceToNat, Nat.reduceLT, Nat.reduceLeDiff, Int.reduceLE, Int.reduceLT, Nat.reduceEqDiff, Nat.reduceSub, SB, SV.known, packR, ne_eq, reduceCtorEq, Nat.reduceEqDiff, ↓reduceIte, if_true, if_false, eq_self, Nat.reduceAdd, Nat.reduceMul, Nat.reduceSub, forall_const, oneCellS, litOne, flat1, Kd.isSca, flat, TYB]
          obtain rfl : k = 4 := by omega
          refine ⟨by unfold In64; omega, i + 1, ⟨by omega, by rw [show (i + 1) * 4 = i * 4 + 4 by omega]; exact he⟩, by omega, Sub.mk_id ?_ ?_ ?_ ?_ ?_⟩
          all_goals ((try simp only [LB, subS, subH, wfS, wfH, SV.ren, renL, SObj.ren, SV.wf, SObj.wf, wfL, SV.known, Nat.reduceEqDiff, ↓reduceIte, if_true, if_false, eq_self, Nat.reduceAdd, Nat.reduceLT, Nat.reduceLeDiff, implies_true, reduceCtorEq, forall_const]) <;> simp)
    · have hil : ¬ (i : Int) < 6 := by omega
      obtain rfl : i = 6 := by omega
      have e0 : lexC x y = 0 := by
        rw [he, List.drop_eq_nil_of_le (by omega)]; rfl
      simp -implicitDefEqProofs only [lk_normal, hil, e0, Int.lt_irrefl, ZB, Int.reduceToNat, Nat.reduceLT, Nat.reduceLeDiff, Int.reduceLE, Int.reduceLT, Nat.reduceEqDiff, Nat.reduceSub, SB, SV.known, packR, ne_eq, reduceCtorEq, Nat.reduceEqDiff, ↓reduceIte, if_true, if_false, eq_self, Nat.reduceAdd, Nat.reduceMul, Nat.reduceSub, forall_const, oneCellS, litOne, flat1, Kd.isSca, flat, TYB]
/-! A strictly sorted list that takes one more. -/
def insU (x : List Int) : List (List Int) → List (List Int)
  | [] => [x]
  | y :: l => if lexC y x < 0 then y :: insU x l else if y = x then y :: l else x :: y :: l
theorem insU_mem (x : List Int) : ∀ l z, z ∈ insU x l ↔ z = x ∨ z ∈ l
  | [], z => by simp [insU]
  | y :: l, z => by
    unfold insU
    split
    · rw [List.mem_cons, insU_mem x l z, List.mem_cons]
      constructor
      · rintro (h | h | h)
        · exact .inr (.inl h)
        · exact .inl h
        · exact .inr (.inr h)
      · rintro (h | h | h)
        · exact .inr (.inl h)
        · exact .inl h
        · exact .inr (.inr h)
    · split
      · rename_i h; subst h; simp
      · simp
theorem insU_pw {w : Nat} {x : List Int} (hx : x.length = w) : ∀ {l : List (List Int)}, (∀ y ∈ l, y.length = w) → l.Pairwise (fun a b => lexC a b < 0) → (insU x l).Pairwise (fun a b => lexC a b < 0)
  | [], _, _ => by simp [insU]
  | y :: l, h, hp => by
    have hy := h y (List.mem_cons_self ..)
    rw [List.pairwise_cons] at hp
    unfold insU
    split
    · rename_i hyx
      rw [List.pairwise_cons]
      refine ⟨fun z hz => ?_, insU_pw hx (fun z hz => h z (List.mem_cons_of_mem _ hz)) hp.2⟩
      rcases (insU_mem x l z).1 hz with rfl | hz
      · exact hyx
      · exact hp.1 z hz
    · rename_i hyx
      split
      · exact List.pairwise_cons.2 hp
      · rename_i hne
        have hxy : lexC x y < 0 := by
          by_cases h1 : lexC x y < 0
          · exact h1
          · exact absurd (lexC_total (by rw [hx, hy]) h1 hyx).symm hne
        rw [List.pairwise_cons]
        refine ⟨fun z hz => ?_, List.pairwise_cons.2 hp⟩
        rcases List.mem_cons.1 hz with rfl | hz
        · exact hxy
        · exact lexC_trans (by rw [hx, hy]) (by rw [hy, h z (List.mem_cons_of_mem _ hz)]) hxy (hp.1 z hz)
def insA (l : List (List Int)) (xs : List (List Int)) : List (List Int) := xs.foldl (fun a x => insU x a) l
/-- Two strictly sorted lists of the same members are one. -/
theorem strict_one {w : Nat} : ∀ {l1 l2 : List (List Int)}, (∀ x ∈ l1, x.length = w) → (∀ x ∈ l2, x.length = w) → l1.Pairwise (fun a b => lexC a b < 0) → l2.Pairwise (fun a b => lexC a b < 0) → (∀ z, z ∈ l1 ↔ z ∈ l2) → l1 = l2
  | [], [], _, _, _, _, _ => rfl
  | [], y :: l2, _, _, _, _, h => by have := (h y).2 (List.mem_cons_self ..); simp at this
  | x :: l1, [], _, _, _, _, h => by have := (h x).1 (List.mem_cons_self ..); simp at this
  | x :: l1, y :: l2, w1, w2, p1, p2, h => by
    rw [List.pairwise_cons] at p1 p2
    have irr : ∀ z : List Int, ¬ lexC z z < 0 := fun z => by rw [lexC_refl]; omega
    have hxy : x = y := by
      rcases List.mem_cons.1 ((h x).1 (List.mem_cons_self ..)) with h1 | h1
      · exact h1
      · rcases List.mem_cons.1 ((h y).2 (List.mem_cons_self ..)) with h2 | h2
        · exact h2.symm
        · have a := p2.1 x h1
          have b := p1.1 y h2
          exact absurd (lexC_trans (by rw [w1 x (List.mem_cons_self ..), w2 y (List.mem_cons_self ..)]) (by rw [w1 x (List.mem_cons_self ..), w2 y (List.mem_cons_self ..)]) b a) (irr x)
    subst hxy
    rw [strict_one (fun z hz => w1 z (List.mem_cons_of_mem _ hz)) (fun z hz => w2 z (List.mem_cons_of_mem _ hz)) p1.2 p2.2 fun z => ?_]
    constructor
    · intro hz
      rcases List.mem_cons.1 ((h z).1 (List.mem_cons_of_mem _ hz)) with h1 | h1
      · subst h1; exact absurd (p1.1 z hz) (irr z)
      · exact h1
    · intro hz
      rcases List.mem_cons.1 ((h z).2 (List.mem_cons_of_mem _ hz)) with h1 | h1
      · subst h1; exact absurd (p2.1 z hz) (irr z)
      · exact h1
def l2Before_F : List SV → Heap → Option (Prop × SV)
  | [.arr x, .arr y], _ => some (x.length = 24 ∧ y.length = 24, .bool (decide (lexC x y < 0)))
  | _, _ => none
theorem l2Before_T : ∀ args H p v, l2Before_F args H = some (p, v) → p → PureH Tryz.prog 141 args H v := by
  intro args H p v h hp
  unfold l2Before_F at h
  split at h
  · cases h; exact (l2Before_ok _ _ hp.1 hp.2).any _
  · cases h
/-- How many are before x. -/
theorem insU_at {x : List Int} : ∀ {l : List (List Int)} {i : Nat}, i ≤ l.length → (∀ k, k < i → lexC (l.getD k []) x < 0) → (i = l.length ∨ ¬ lexC (l.getD i []) x < 0) → insU x l = if i < l.length ∧ l.getD i [] = x then l else l.take i ++ [x] ++ l.drop i
  | [], i, hi, _, _ => by
    obtain rfl : i = 0 := by simpa using hi
    simp [insU]
  | y :: l, 0, _, _, h => by
    have hn : ¬ lexC y x < 0 := h.resolve_left (by simp)
    unfold insU
    rw [if_neg hn]
    by_cases hy : y = x
    · rw [if_pos hy, if_pos ⟨by simp, hy⟩]
    · rw [if_neg hy, if_neg (fun h => hy h.2)]; simp
  | y :: l, i + 1, hi, h1, h2 => by
    have h0 : lexC y x < 0 := h1 0 (by omega)
    have ih := insU_at (x := x) (l := l) (i := i) (by simpa using hi) (fun k hk => h1 (k + 1) (by omega)) (by simpa using h2)
    unfold insU
    rw [if_pos h0, ih]
    by_cases hc : i < l.length ∧ l.getD i [] = x
    · rw [if_pos hc, if_pos ⟨by simpa using hc.1, hc.2⟩]
    · rw [if_neg hc, if_neg (fun h => hc ⟨by simpa using h.1, h.2⟩)]; simp
set_option maxHeartbeats 1600000 in
theorem l5Put_ok (Q : List (List Int)) (J x : List Int) (e n cap : Nat) (hQ : all24 Q) (hn : Q.length = n) (hc : (Q.flatten ++ J).length = cap * 24) (hx : x.length = 24) (hb : n ≤ 1000) :
    codeVC (⟨Tryz.prog, tys, [(141, l2Before_F)], [], true, true, 1, [], [(6, .tree (.one 1 (.one 2 (.one 3 (.one 8 (.one 9 (.one 10 (.alt 0 (.alt 4 (.one 5 (.one 6 (.one 7 (.one 11 (.one 12 .done))))) (.alt 5 (.alt 4 (.one 6 (.one 7 (.one 11 (.one 12 .done)))) (.alt 6 (.one 4 (.one 7 (.one 11 (.one 12 .done)))) .stop)) .stop)) (.alt 5 (.alt 0 (.alt 4 (.one 6 (.one 7 (.one 11 (.one 12 .done)))) (.alt 6 (.one 4 (.one 7 (.one 11 (.one 12 .done)))) .stop)) (.alt 6 (.one 0 (.one 4 (.one 7 (.one 11 (.one 12 .done))))) .stop)) .stop)))))))))]⟩ : Cx) 1 (Tryz.f94.body.getD .skip) (argS 0 [.slice 0 0 n cap, .arr x]) [(0, .ints (Q.flatten ++ J) e)] 1
      (retK tys Tryz.f94.results.toList (finK 1 1 fun v H' n' => (insU x Q = Q ∧ v = .slice 0 0 n cap ∧ H' = [] ∧ n' = 1) ∨ ∃ c j, v = .slice 1 0 (n + 1) c ∧ H' = [(1, .ints ((insU x Q).flatten ++ j) 27)] ∧ n' = 2 ∧ (insU x Q).length = n + 1 ∧ j.length + (n + 1) * 24 = c * 24)) := by
  have tx : x.take 24 = x := List.take_of_length_le (by omega)
  have eqr := eqI_rack
  have hfl := flat_len hQ
  simp -implicitDefEqProofs only [Tryz.f94, Option.getD_some, argS, hx, tx, ZB, Int.reduceToNat, Nat.reduceLT, Nat.reduceLeDiff, Int.reduceLE, Int.reduceLT, Nat.reduceEqDiff, Nat.reduceSub, SB, SV.known, packR, ne_eq, reduceCtorEq, Nat.reduceEqDiff, ↓reduceIte, if_true, if_false, eq_self, Nat.reduceAdd, Nat.reduceMul, Nat.reduceSub, forall_const, oneCellS, litOne, flat1, Kd.isSca, flat, TYB]
  refine loop_intro (fun i : Nat => [(5, .int i), (3, .ptr 1 0), (0, .slice 0 0 n cap)]) (fun _ => [(1, .ints x 27), (0, .ints (Q.flatten ++ J) e)]) 2 (fun i => i ≤ n ∧ ∀ k, k < i → lexC (Q.getD k []) x < 0) (fun i => n - i) ?_ ?_
  · refine ⟨0, ⟨by omega, by simp⟩, Sub.mk_id ?_ ?_ ?_ ?_ ?_⟩
    all_goals ((try simp only [LB, subS, subH, wfS, wfH, SV.ren, renL, SObj.ren, SV.wf, SObj.wf, wfL, SV.known, Nat.reduceEqDiff, ↓reduceIte, if_true, if_false, eq_self, Nat.reduceAdd, Nat.reduceLT, Nat.reduceLeDiff, implies_true, reduceCtorEq, forall_const]) <;> simp)
  · rintro i ⟨hi, hall⟩
    by_cases hlt : i < n
    · have hil : (i : Int) < n := by omega
      have lQ : i * 24 + 24 ≤ (Q.flatten ++ J).length := by rw [List.length_append, hfl]; omega
      have r1 : List.take 24 (List.drop (i * 24) (Q.flatten ++ J)) = Q.getD i [] := flat_get hQ (by omega) J
      have g1 := hQ _ (getD_mem (show i < Q.length by omega))
      by_cases hc1 : lexC (Q.getD i []) x < 0
      · simp -implicitDefEqProofs only [lk_normal, l2Before_F, hil, lQ, r1, g1, hx, tx, hc1, decide_true, ZB, Int.reduceToNat, Nat.reduceLT, Nat.reduceLeDiff, Int.reduceLE, Int.reduceLT, Nat.reduceEqDiff, Nat.reduceSub, SB, SV.known, packR, ne_eq, reduceCtorEq, Nat.reduceEqDiff, ↓reduceIte, if_true, if_false, eq_self, Nat.reduceAdd, Nat.reduceMul, Nat.reduceSub, forall_const, oneCellS, litOne, flat1, Kd.isSca, flat, TYB]
        refine ⟨by omega, by unfold In64; omega, i + 1, ⟨by omega, fun k hk => ?_⟩, by omega, Sub.mk_id ?_ ?_ ?_ ?_ ?_⟩
        · by_cases hki : k = i
          · subst hki; exact hc1
          · exact hall k (by omega)
        all_goals ((try simp only [LB, subS, subH, wfS, wfH, SV.ren, renL, SObj.ren, SV.wf, SObj.wf, wfL, SV.known, Nat.reduceEqDiff, ↓reduceIte, if_true, if_false, eq_self, Nat.reduceAdd, Nat.reduceLT, Nat.reduceLeDiff, implies_true, reduceCtorEq, forall_const]) <;> simp)
      · have iu := insU_at (x := x) (l := Q) (i := i) (by omega) hall (.inr hc1)
        by_cases hq : Q.getD i [] = x
        · have hq' := decide_eq_true hq
          have lr : ¬ lexC x x < 0 := by rw [lexC_refl]; omega
          rw [if_pos ⟨by omega, hq⟩] at iu
          simp -implicitDefEqProofs only [lk_normal, l2Before_F, hil, lQ, r1, g1, hx, tx, eqr, lr, hq, hq', decide_false, ZB, Int.reduceToNat, Nat.reduceLT, Nat.reduceLeDiff, Int.reduceLE, Int.reduceLT, Nat.reduceEqDiff, Nat.reduceSub, SB, SV.known, packR, ne_eq, reduceCtorEq, Nat.reduceEqDiff, ↓reduceIte, if_true, if_false, eq_self, Nat.reduceAdd, Nat.reduceMul, Nat.reduceSub, forall_const, oneCellS, litOne, flat1, Kd.isSca, flat, TYB]
          refine ⟨by omega, by omega, .slice 0 0 n cap, [], 1, Sub.mk_id ?_ ?_ ?_ ?_ ?_, .inl ⟨iu, rfl, rfl, rfl⟩⟩
          all_goals ((try simp only [LB, subS, subH, wfS, wfH, SV.ren, renL, SObj.ren, SV.wf, SObj.wf, wfL, SV.known, Nat.reduceEqDiff, ↓reduceIte, if_true, if_false, eq_self, Nat.reduceAdd, Nat.reduceLT, Nat.reduceLeDiff, implies_true, reduceCtorEq, forall_const]) <;> simp)
        · have hq' := decide_eq_false hq
          rw [if_neg (fun h => hq h.2)] at iu
          simp -implicitDefEqProofs only [lk_normal, l2Before_F, hil, lQ, r1, g1, hx, tx, eqr, hc1, hq', decide_false, ZB, Int.reduceToNat, Nat.reduceLT, Nat.reduceLeDiff, Int.reduceLE, Int.reduceLT, Nat.reduceEqDiff, Nat.reduceSub, SB, SV.known, packR, ne_eq, reduceCtorEq, Nat.reduceEqDiff, ↓reduceIte, if_true, if_false, eq_self, Nat.reduceAdd, Nat.reduceMul, Nat.reduceSub, forall_const, oneCellS, litOne, flat1, Kd.isSca, flat, TYB]
          have ic : i < cap := by rw [List.length_append, hfl] at hc; omega
          have nc : n ≤ cap := by rw [List.length_append, hfl] at hc; omega
          have co : cutOff cap i 0 24 = i * 24 := by unfold cutOff; rw [if_neg (by omega)]; omega
          have i0 : 0 ≤ (i : Int) := by omega
          have i1 : (i : Int) ≤ cap := by omega
          have i2 : (i : Int) ≤ n := by omega
          have s1 : srcE (.slice 0 (i * 24) (n - i) (cap - i)) = false := by
            obtain ⟨d, hd⟩ : ∃ d, n - i = d + 1 := ⟨n - i - 1, by omega⟩
            rw [hd]; rfl
          have ta : List.take (i * 24) (Q.flatten ++ J) = (Q.take i).flatten := by
            have e : Q.flatten = (Q.take i).flatten ++ (Q.drop i).flatten := by rw [← List.flatten_append, List.take_append_drop]
            rw [e, List.append_assoc, List.take_left' (by rw [flat_len fun y hy => hQ y (List.mem_of_mem_take hy), List.length_take]; omega)]
          have tb : List.take ((n - i) * 24) (List.drop (i * 24) (Q.flatten ++ J)) = (Q.drop i).flatten := by
            have e : Q.flatten = (Q.take i).flatten ++ (Q.drop i).flatten := by rw [← List.flatten_append, List.take_append_drop]
            rw [e, List.append_assoc, List.drop_left' (by rw [flat_len fun y hy => hQ y (List.mem_of_mem_take hy), List.length_take]; omega), List.take_left' (by rw [flat_len fun y hy => hQ y (List.mem_of_mem_drop hy), List.length_drop]; omega)]
          refine ⟨by omega, by omega, {s : Nat × List Int // s.2.length + (n + 1) * 24 = s.1 * 24}, fun s => [(4, .slice 2 0 (n + 1) s.1.1)], fun s => [(2, .ints ((insU x Q).flatten ++ s.1.2) 27)], fun _ => 3, ?_, ?_⟩
          · cases i with
            | zero =>
              have s3 : srcE (.slice 0 0 n cap) = false := by
                obtain ⟨d, rfl⟩ : ∃ d, n = d + 1 := ⟨n - 1, by omega⟩
                rfl
              have tq : List.take (n * 24) (Q.flatten ++ J) = Q.flatten := List.take_left' (by rw [hfl, hn])
              have c0 : 0 ≤ (cap : Int) := by omega
              have n0 : 0 ≤ (n : Int) := by omega
              simp -implicitDefEqProofs only [co, i0, i1, i2, c0, n0, s1, s3, ta, tb, tq, hx, tx, hc, ZB, Int.reduceToNat, Nat.reduceLT, Nat.reduceLeDiff, Int.reduceLE, Int.reduceLT, Nat.reduceEqDiff, Nat.reduceSub, SB, SV.known, packR, ne_eq, reduceCtorEq, Nat.reduceEqDiff, ↓reduceIte, if_true, if_false, eq_self, Nat.reduceAdd, Nat.reduceMul, Nat.reduceSub, forall_const, oneCellS, litOne, flat1, Kd.isSca, flat, TYB]
              have tj : ∀ J : List Int, List.take 24 (x ++ J) = x := fun J => List.take_left' hx
              have lj : ∀ J : List Int, (x ++ J).length = 24 + J.length := fun J => by rw [List.length_append, hx]
              have iu2 : (insU x Q).flatten = x ++ Q.flatten := by rw [iu]; simp
              have e1 : 1 + n = n + 1 := by omega
              repeat' apply And.intro
              all_goals (intro junk cap' hj; refine ⟨by rw [lj]; omega, by omega, by omega, by omega, by omega, by omega, fun junk1 cap1 hj1 => ⟨⟨(cap1, junk1), by show junk1.length + (n + 1) * 24 = cap1 * 24; omega⟩, Sub.mk_to 2 5 ?_ ?_ ?_ ?_ ?_ ?_ ?_⟩⟩)
              all_goals (try simp only [tj, iu2, e1])
              all_goals ((try simp only [LB, subS, subH, wfS, wfH, SV.ren, renL, SObj.ren, SV.wf, SObj.wf, wfL, SV.known, Nat.reduceEqDiff, ↓reduceIte, if_true, if_false, eq_self, Nat.reduceAdd, Nat.reduceLT, Nat.reduceLeDiff, implies_true, reduceCtorEq, forall_const]) <;> simp)
            | succ i =>
              have s2 : srcE (.slice 0 0 (i + 1) cap) = false := rfl
              have lA : (Q.take (i + 1)).flatten.length = (i + 1) * 24 := by
                rw [flat_len fun y hy => hQ y (List.mem_of_mem_take hy), List.length_take]; omega
              have iu2 : (insU x Q).flatten = (Q.take (i + 1)).flatten ++ x ++ (Q.drop (i + 1)).flatten := by rw [iu]; simp
              generalize hA : (Q.take (i + 1)).flatten = A at *
              have tl1 : ∀ J : List Int, List.take ((i + 1) * 24) (A ++ J) = A := fun J => List.take_left' lA
              have tl2 : ∀ J : List Int, List.take ((i + 1 + 1) * 24) (A ++ x ++ J) = A ++ x := fun J => List.take_left' (by rw [List.length_append, lA, hx]; omega)
              have ll1 : ∀ J : List Int, (A ++ J).length = (i + 1) * 24 + J.length := fun J => by rw [List.length_append, lA]
              have ll2 : ∀ J : List Int, (A ++ x ++ J).length = (i + 1) * 24 + 24 + J.length := fun J => by rw [List.length_append, List.length_append, lA, hx]
              have e1 : i + 1 + 1 + (n - (i + 1)) = n + 1 := by omega
              simp -implicitDefEqProofs only [co, i0, i1, i2, s1, s2, ta, tb, hx, tx, hc, tl1, tl2, ll2, e1, ZB, Int.reduceToNat, Nat.reduceLT, Nat.reduceLeDiff, Int.reduceLE, Int.reduceLT, Nat.reduceEqDiff, Nat.reduceSub, SB, SV.known, packR, ne_eq, reduceCtorEq, Nat.reduceEqDiff, ↓reduceIte, if_true, if_false, eq_self, Nat.reduceAdd, Nat.reduceMul, Nat.reduceSub, forall_const, oneCellS, litOne, flat1, Kd.isSca, flat, TYB]
              repeat' apply And.intro
              all_goals clear g1 hc1 lQ hall r1 hq hq' hil
              all_goals (first | (intro junk cap' hj; refine ⟨by rw [ll1]; omega, by omega, by omega, by omega, fun junk1 cap1 hj1 => ⟨by omega, by omega, by omega, by omega, by omega, by omega, fun junk2 cap2 hj2 => ⟨⟨(cap2, junk2), by show junk2.length + (n + 1) * 24 = cap2 * 24; omega⟩, Sub.mk_to 2 6 ?_ ?_ ?_ ?_ ?_ ?_ ?_⟩⟩⟩) | omega)
              all_goals (try simp only [iu2])
              all_goals ((try simp only [LB, subS, subH, wfS, wfH, SV.ren, renL, SObj.ren, SV.wf, SObj.wf, wfL, SV.known, Nat.reduceEqDiff, ↓reduceIte, if_true, if_false, eq_self, Nat.reduceAdd, Nat.reduceLT, Nat.reduceLeDiff, implies_true, reduceCtorEq, forall_const]) <;> simp)
          · rintro ⟨⟨c, j⟩, hj⟩
            simp only at hj
            simp -implicitDefEqProofs only [lk_normal, ZB, Int.reduceToNat, Nat.reduceLT, Nat.reduceLeDiff, Int.reduceLE, Int.reduceLT, Nat.reduceEqDiff, Nat.reduceSub, SB, SV.known, packR, ne_eq, reduceCtorEq, Nat.reduceEqDiff, ↓reduceIte, if_true, if_false, eq_self, Nat.reduceAdd, Nat.reduceMul, Nat.reduceSub, forall_const, oneCellS, litOne, flat1, Kd.isSca, flat, TYB]
            refine ⟨.slice 1 0 (n + 1) c, [(1, .ints ((insU x Q).flatten ++ j) 27)], 2, Sub.mk_to 1 2 ?_ ?_ ?_ ?_ ?_ ?_ ?_, .inr ⟨c, j, rfl, rfl, rfl, ?_, hj⟩⟩
            · simp only [LB, subS, subH, wfS, wfH, SV.ren, renL, SObj.ren, SV.wf, SObj.wf, wfL, SV.known, Nat.reduceEqDiff, ↓reduceIte, if_true, if_false, eq_self, Nat.reduceAdd, Nat.reduceLT, Nat.reduceLeDiff, implies_true, reduceCtorEq, forall_const]; try simp
            · simp only [LB, subS, subH, wfS, wfH, SV.ren, renL, SObj.ren, SV.wf, SObj.wf, wfL, SV.known, Nat.reduceEqDiff, ↓reduceIte, if_true, if_false, eq_self, Nat.reduceAdd, Nat.reduceLT, Nat.reduceLeDiff, implies_true, reduceCtorEq, forall_const]; try simp
            · simp only [LB, subS, subH, wfS, wfH, SV.ren, renL, SObj.ren, SV.wf, SObj.wf, wfL, SV.known, Nat.reduceEqDiff, ↓reduceIte, if_true, if_false, eq_self, Nat.reduceAdd, Nat.reduceLT, Nat.reduceLeDiff, implies_true, reduceCtorEq, forall_const]; try simp
            · simp only [LB, subS, subH, wfS, wfH, SV.ren, renL, SObj.ren, SV.wf, SObj.wf, wfL, SV.known, Nat.reduceEqDiff, ↓reduceIte, if_true, if_false, eq_self, Nat.reduceAdd, Nat.reduceLT, Nat.reduceLeDiff, implies_true, reduceCtorEq, forall_const]; try simp
            · omega
            · omega
            · simp
            · rw [iu]; simp; omega
    · have hil : ¬ (i : Int) < n := by omega
      obtain rfl : i = n := by omega
      simp -implicitDefEqProofs only [lk_normal, hil, ZB, Int.reduceToNat, Nat.reduceLT, Nat.reduceLeDiff, Int.reduceLE, Int.reduceLT, Nat.reduceEqDiff, Nat.reduceSub, SB, SV.known, packR, ne_eq, reduceCtorEq, Nat.reduceEqDiff, ↓reduceIte, if_true, if_false, eq_self, Nat.reduceAdd, Nat.reduceMul, Nat.reduceSub, forall_const, oneCellS, litOne, flat1, Kd.isSca, flat, TYB]
      have iu := insU_at (x := x) (l := Q) (i := i) (by omega) hall (.inl hn.symm)
      rw [if_neg (fun h => by omega)] at iu
      have nc : i ≤ cap := by rw [List.length_append, hfl] at hc; omega
      have i0 : 0 ≤ (i : Int) := by omega
      have i1 : (i : Int) ≤ cap := by omega
      have s1 : ∀ b o c, srcE (.slice b o 0 c) = true := fun _ _ _ => rfl
      have ta : List.take (i * 24) (Q.flatten ++ J) = Q.flatten := List.take_left' (by rw [hfl, hn])
      have iu2 : (insU x Q).flatten = Q.flatten ++ x := by
        rw [iu, List.take_of_length_le (by omega), List.drop_eq_nil_of_le (by omega)]; simp
      clear hall
      refine ⟨{s : Nat × List Int // s.2.length + (i + 1) * 24 = s.1 * 24}, fun s => [(4, .slice 2 0 (i + 1) s.1.1)], fun s => [(2, .ints ((insU x Q).flatten ++ s.1.2) 27)], fun _ => 3, ?_, ?_⟩
      · cases i with
        | zero =>
          obtain rfl : Q = [] := List.length_eq_zero_iff.1 hn
          simp -implicitDefEqProofs only [i0, i1, s1, hx, tx, hc, ZB, Int.reduceToNat, Nat.reduceLT, Nat.reduceLeDiff, Int.reduceLE, Int.reduceLT, Nat.reduceEqDiff, Nat.reduceSub, SB, SV.known, packR, ne_eq, reduceCtorEq, Nat.reduceEqDiff, ↓reduceIte, if_true, if_false, eq_self, Nat.reduceAdd, Nat.reduceMul, Nat.reduceSub, forall_const, oneCellS, litOne, flat1, Kd.isSca, flat, TYB]
          have iu3 : (insU x []).flatten = x := by simpa using iu2
          repeat' apply And.intro
          all_goals (first | (intro junk cap' hj; exact ⟨by omega, ⟨(cap', junk), by show junk.length + (0 + 1) * 24 = cap' * 24; omega⟩, Sub.mk_to 2 4 (by simp only [iu3, LB, subS, subH, wfS, wfH, SV.ren, renL, SObj.ren, SV.wf, SObj.wf, wfL, SV.known, Nat.reduceEqDiff, ↓reduceIte, if_true, if_false, eq_self, Nat.reduceAdd, Nat.reduceLT, Nat.reduceLeDiff, implies_true, reduceCtorEq, forall_const]; try simp) (by simp only [iu3, LB, subS, subH, wfS, wfH, SV.ren, renL, SObj.ren, SV.wf, SObj.wf, wfL, SV.known, Nat.reduceEqDiff, ↓reduceIte, if_true, if_false, eq_self, Nat.reduceAdd, Nat.reduceLT, Nat.reduceLeDiff, implies_true, reduceCtorEq, forall_const]; try simp) (by simp only [iu3, LB, subS, subH, wfS, wfH, SV.ren, renL, SObj.ren, SV.wf, SObj.wf, wfL, SV.known, Nat.reduceEqDiff, ↓reduceIte, if_true, if_false, eq_self, Nat.reduceAdd, Nat.reduceLT, Nat.reduceLeDiff, implies_true, reduceCtorEq, forall_const]; try simp) (by simp only [iu3, LB, subS, subH, wfS, wfH, SV.ren, renL, SObj.ren, SV.wf, SObj.wf, wfL, SV.known, Nat.reduceEqDiff, ↓reduceIte, if_true, if_false, eq_self, Nat.reduceAdd, Nat.reduceLT, Nat.reduceLeDiff, implies_true, reduceCtorEq, forall_const]; try simp) (by omega) (by omega) (by simp)⟩) | omega)
        | succ i =>
          have s2 : srcE (.slice 0 0 (i + 1) cap) = false := rfl
          have tl2 : ∀ J : List Int, List.take ((i + 1) * 24) (Q.flatten ++ J) = Q.flatten := fun J => List.take_left' (by rw [hfl, hn])
          have ll1 : ∀ J : List Int, (Q.flatten ++ J).length = (i + 1) * 24 + J.length := fun J => by rw [List.length_append, hfl, hn]
          simp -implicitDefEqProofs only [i0, i1, s1, s2, ta, hx, tx, hc, tl2, ZB, Int.reduceToNat, Nat.reduceLT, Nat.reduceLeDiff, Int.reduceLE, Int.reduceLT, Nat.reduceEqDiff, Nat.reduceSub, SB, SV.known, packR, ne_eq, reduceCtorEq, Nat.reduceEqDiff, ↓reduceIte, if_true, if_false, eq_self, Nat.reduceAdd, Nat.reduceMul, Nat.reduceSub, forall_const, oneCellS, litOne, flat1, Kd.isSca, flat, TYB]
          repeat' apply And.intro
          all_goals (first | (intro junk cap' hj; refine ⟨by rw [ll1]; omega, by omega, by omega, by omega, fun junk1 cap1 hj1 => ⟨by omega, ⟨(cap1, junk1), by show junk1.length + (i + 1 + 1) * 24 = cap1 * 24; omega⟩, Sub.mk_to 2 5 (by simp only [iu2, LB, subS, subH, wfS, wfH, SV.ren, renL, SObj.ren, SV.wf, SObj.wf, wfL, SV.known, Nat.reduceEqDiff, ↓reduceIte, if_true, if_false, eq_self, Nat.reduceAdd, Nat.reduceLT, Nat.reduceLeDiff, implies_true, reduceCtorEq, forall_const]; try simp) (by simp only [iu2, LB, subS, subH, wfS, wfH, SV.ren, renL, SObj.ren, SV.wf, SObj.wf, wfL, SV.known, Nat.reduceEqDiff, ↓reduceIte, if_true, if_false, eq_self, Nat.reduceAdd, Nat.reduceLT, Nat.reduceLeDiff, implies_true, reduceCtorEq, forall_const]; try simp) (by simp only [iu2, LB, subS, subH, wfS, wfH, SV.ren, renL, SObj.ren, SV.wf, SObj.wf, wfL, SV.known, Nat.reduceEqDiff, ↓reduceIte, if_true, if_false, eq_self, Nat.reduceAdd, Nat.reduceLT, Nat.reduceLeDiff, implies_true, reduceCtorEq, forall_const]; try simp) (by simp only [iu2, LB, subS, subH, wfS, wfH, SV.ren, renL, SObj.ren, SV.wf, SObj.wf, wfL, SV.known, Nat.reduceEqDiff, ↓reduceIte, if_true, if_false, eq_self, Nat.reduceAdd, Nat.reduceLT, Nat.reduceLeDiff, implies_true, reduceCtorEq, forall_const]; try simp) (by omega) (by omega) (by simp)⟩⟩) | omega)
      · rintro ⟨⟨c, j⟩, hj⟩
        simp only at hj
        simp -implicitDefEqProofs only [lk_normal, ZB, Int.reduceToNat, Nat.reduceLT, Nat.reduceLeDiff, Int.reduceLE, Int.reduceLT, Nat.reduceEqDiff, Nat.reduceSub, SB, SV.known, packR, ne_eq, reduceCtorEq, Nat.reduceEqDiff, ↓reduceIte, if_true, if_false, eq_self, Nat.reduceAdd, Nat.reduceMul, Nat.reduceSub, forall_const, oneCellS, litOne, flat1, Kd.isSca, flat, TYB]
        refine ⟨.slice 1 0 (i + 1) c, [(1, .ints ((insU x Q).flatten ++ j) 27)], 2, Sub.mk_to 1 2 ?_ ?_ ?_ ?_ ?_ ?_ ?_, .inr ⟨c, j, rfl, rfl, rfl, ?_, hj⟩⟩
        · simp only [LB, subS, subH, wfS, wfH, SV.ren, renL, SObj.ren, SV.wf, SObj.wf, wfL, SV.known, Nat.reduceEqDiff, ↓reduceIte, if_true, if_false, eq_self, Nat.reduceAdd, Nat.reduceLT, Nat.reduceLeDiff, implies_true, reduceCtorEq, forall_const]; try simp
        · simp only [LB, subS, subH, wfS, wfH, SV.ren, renL, SObj.ren, SV.wf, SObj.wf, wfL, SV.known, Nat.reduceEqDiff, ↓reduceIte, if_true, if_false, eq_self, Nat.reduceAdd, Nat.reduceLT, Nat.reduceLeDiff, implies_true, reduceCtorEq, forall_const]; try simp
        · simp only [LB, subS, subH, wfS, wfH, SV.ren, renL, SObj.ren, SV.wf, SObj.wf, wfL, SV.known, Nat.reduceEqDiff, ↓reduceIte, if_true, if_false, eq_self, Nat.reduceAdd, Nat.reduceLT, Nat.reduceLeDiff, implies_true, reduceCtorEq, forall_const]; try simp
        · simp only [LB, subS, subH, wfS, wfH, SV.ren, renL, SObj.ren, SV.wf, SObj.wf, wfL, SV.known, Nat.reduceEqDiff, ↓reduceIte, if_true, if_false, eq_self, Nat.reduceAdd, Nat.reduceLT, Nat.reduceLeDiff, implies_true, reduceCtorEq, forall_const]; try simp
        · omega
        · omega
        · simp
        · rw [iu]; simp; omega
end Go.Proofs.YtmccafjblhbmkaaGreat
set_option maxRecDepth 100000
set_option linter.unusedSimpArgs false
set_option linter.unusedVariables false
namespace Go.Proofs.YtmccafjblhbmkaaGreat
open Go Go.RowKit
--@tbl eqSR = laws.eqRackS
/-! Marks: nothing in a rack can be marked. -/
--@tbl markR = laws.markRackS
--@tbl heldR = laws.heldRackS
end Go.Proofs.YtmccafjblhbmkaaGreat
set_option maxRecDepth 100000
set_option linter.unusedSimpArgs false
set_option linter.unusedVariables false
namespace Go.Proofs.YtmccafjblhbmkaaGreat
open Go Go.RowKit
/-! Racks sorted and compacted are racks put to their places one by one. -/
theorem ddS_mem {Q : List (List Int)} : ∀ j, j ≤ Q.length → ∀ z, z ∈ ddS Q j ↔ z ∈ Q.take j
  | 0, _, z => by simp [ddS]
  | j + 1, hj, z => by
    have ih := ddS_mem (Q := Q) j (by omega) z
    rw [take_succ_getD Q j (by omega)]
    by_cases h : 0 < j ∧ Q.getD j [] = Q.getD (j - 1) []
    · rw [ddS_old h.1 h.2, ih, List.mem_append, List.mem_singleton]
      constructor
      · exact fun h => .inl h
      · rintro (h1 | h1)
        · exact h1
        · rw [h1, h.2]
          rw [List.getD_eq_getElem?_getD, List.getElem?_eq_getElem (by omega)]
          exact List.mem_take_iff_getElem.2 ⟨j - 1, by omega, rfl⟩
    · have h' : j = 0 ∨ Q.getD j [] ≠ Q.getD (j - 1) [] := by
        rcases Nat.eq_zero_or_pos j with h0 | h0
        · exact .inl h0
        · exact .inr fun h1 => h ⟨h0, h1⟩
      rw [ddS_new h', List.mem_append, List.mem_append, ih]
theorem ddS_pw {w : Nat} {Q : List (List Int)} (hw : ∀ x ∈ Q, x.length = w) (hs : Q.Pairwise (fun a b => lexL a b = true)) : ∀ j, j ≤ Q.length → (ddS Q j).Pairwise (fun a b => lexC a b < 0)
  | 0, _ => by simp [ddS]
  | j + 1, hj => by
    have ih := ddS_pw hw hs j (by omega)
    by_cases h : 0 < j ∧ Q.getD j [] = Q.getD (j - 1) []
    · rw [ddS_old h.1 h.2]; exact ih
    · have h' : j = 0 ∨ Q.getD j [] ≠ Q.getD (j - 1) [] := by
        rcases Nat.eq_zero_or_pos j with h0 | h0
        · exact .inl h0
        · exact .inr fun h1 => h ⟨h0, h1⟩
      rw [ddS_new h', List.pairwise_append]
      refine ⟨ih, List.pairwise_singleton _ _, fun a ha b hb => ?_⟩
      rw [List.mem_singleton] at hb
      subst hb
      obtain ⟨i, hi, rfl⟩ := List.mem_take_iff_getElem.1 ((ddS_mem j (by omega) a).1 ha)
      have hij : i < j := by omega
      have le : ∀ (p q : Nat) (hp : p < Q.length) (hq : q < Q.length), p < q → ¬ lexC Q[q] Q[p] < 0 := fun p q hp hq hpq => by
        have := (List.pairwise_iff_getElem.1 hs) p q hp hq hpq
        simpa [lexL] using this
      have lw : ∀ (p : Nat) (hp : p < Q.length), Q[p].length = w := fun p hp => hw _ (List.getElem_mem hp)
      have gj : Q.getD j [] = Q[j] := by rw [List.getD_eq_getElem?_getD, List.getElem?_eq_getElem (by omega)]; rfl
      have gp : Q.getD (j - 1) [] = Q[j - 1] := by rw [List.getD_eq_getElem?_getD, List.getElem?_eq_getElem (by omega)]; rfl
      rw [gj]
      by_cases hlt : lexC Q[i] Q[j] < 0
      · exact hlt
      · exfalso
        have e1 : Q[i] = Q[j] := lexC_total (by rw [lw, lw]) hlt (le i j (by omega) (by omega) hij)
        have hj0 : 0 < j := by omega
        have hne := h'.resolve_left (by omega)
        rw [gj, gp] at hne
        refine hne (lexC_total (by rw [lw, lw]) (le (j - 1) j (by omega) (by omega) (by omega)) ?_)
        by_cases hi1 : i = j - 1
        · subst hi1; rw [e1, lexC_refl]; omega
        · have := le i (j - 1) (by omega) (by omega) (by omega)
          rw [e1] at this; exact this
theorem insA_snoc (l xs : List (List Int)) (x : List Int) : insA l (xs ++ [x]) = insU x (insA l xs) := by simp [insA, List.foldl_append]
theorem insA_mem (xs : List (List Int)) : ∀ z, z ∈ insA [] xs ↔ z ∈ xs := by
  refine snoc_ind (P := fun xs => ∀ z, z ∈ insA [] xs ↔ z ∈ xs) (by simp [insA]) (fun l x ih z => ?_) xs
  rw [insA_snoc, insU_mem, ih, List.mem_append, List.mem_singleton]
  exact Or.comm
theorem insA_len {w : Nat} {xs : List (List Int)} (h : ∀ x ∈ xs, x.length = w) : ∀ x ∈ insA [] xs, x.length = w := fun x hx => h x ((insA_mem xs x).1 hx)
theorem insA_pw {w : Nat} (xs : List (List Int)) : (∀ x ∈ xs, x.length = w) → (insA [] xs).Pairwise (fun a b => lexC a b < 0) := by
  refine snoc_ind (P := fun xs => (∀ x ∈ xs, x.length = w) → (insA [] xs).Pairwise (fun a b => lexC a b < 0)) (fun _ => by simp [insA]) (fun l x ih h => ?_) xs
  rw [insA_snoc]
  have h1 : ∀ y ∈ l, y.length = w := fun y hy => h y (List.mem_append_left _ hy)
  exact insU_pw (h x (by simp)) (insA_len h1) (ih h1)
theorem insU_len (x : List Int) : ∀ l, (insU x l).length ≤ l.length + 1
  | [] => by simp [insU]
  | y :: l => by
    have := insU_len x l
    unfold insU
    split
    · simp; omega
    · split <;> simp
theorem insA_card (xs : List (List Int)) : (insA [] xs).length ≤ xs.length := by
  refine snoc_ind (P := fun xs => (insA [] xs).length ≤ xs.length) (by simp [insA]) (fun l x ih => ?_) xs
  rw [insA_snoc]
  have := insU_len x (insA [] l)
  simp; omega
theorem dd_ins {Q : List (List Int)} (h : all24 Q) : ddS (srtT Q) Q.length = insA [] Q := by
  have hp := srtT_perm Q
  have sl : (srtT Q).length = Q.length := hp.length_eq
  have s24 : all24 (srtT Q) := fun x hx => h x (hp.mem_iff.1 hx)
  refine strict_one (w := 24) (ddS_24 s24 _ (by omega)) (insA_len h) (ddS_pw s24 (srtT_pw h) _ (by omega)) (insA_pw Q h) fun z => ?_
  rw [ddS_mem _ (by omega), List.take_of_length_le (by omega), hp.mem_iff, insA_mem]
theorem befL_ins {R : List Int} (hR : R.length = 24) : befL R = insA [] (bks R (befN R)) := by
  have := dd_ins (bks_24 hR (befN R))
  rwa [bks_len] at this
theorem befN_le (R : List Int) : befN R ≤ 144 := by
  obtain ⟨n, h1, h2⟩ := SrL_three R 144
  unfold befN; omega
theorem befL_24 {R : List Int} (hR : R.length = 24) : all24 (befL R) := by
  rw [befL_ins hR]; exact insA_len (bks_24 hR _)
theorem befL_le {R : List Int} (hR : R.length = 24) : (befL R).length ≤ 144 := by
  rw [befL_ins hR]
  have := insA_card (bks R (befN R))
  rw [bks_len] at this
  have := befN_le R
  omega
def l5Put_F : List SV → Heap → Nat → Nat → K1 → Prop
  | [.slice b 0 n cap, .arr x], H, N, _, κ => match hget H b with
    | some (.ints L e) => x.length = 24 ∧ n ≤ 1000 ∧ L.length = cap * 24 ∧ ∃ Q J, L = Q.flatten ++ J ∧ Q.length = n ∧ all24 Q ∧ (insU x Q = Q → κ (.slice b 0 n cap) H N) ∧ ((insU x Q).length = n + 1 → ∀ (c : Nat) (j : List Int), j.length + (n + 1) * 24 = c * 24 → κ (.slice N 0 (n + 1) c) ((N, .ints ((insU x Q).flatten ++ j) 27) :: H) (N + 1))
    | _ => False
  | _, _, _, _, _ => False
--@tbl l5Put = spec.l5Put
theorem l5Put_T : ∀ args H n m κ, l5Put_F args H n m κ → GenOK Tryz.prog 94 args H n m κ := by
  intro args H N m κ h
  unfold l5Put_F at h
  split at h
  · rename_i b n cap x
    split at h
    · rename_i L e hb
      obtain ⟨hx, hn1, hL, Q, J, rfl, hQn, hQ, h1, h2⟩ := h
      have hw := l5Put_ok Q J x e n cap hQ hQn hL hx hn1
      have := gen_of_vc (H := H) (n := N) (m := m) (κ := κ) fn_94 ⟨tys_ok, .cons l2Before_T .nil, .nil, mixed⟩ (Nat.le_of_ble_eq_true rfl) (by simp [wfL, SV.wf]) (wfH_spec (by simp [wfH, SObj.wf])) (by show 1 ≤ 1; omega) hw
        (fun _ => b) (fun j hj => by
          obtain rfl : j = 0 := by omega
          exact ⟨_, rfl⟩) (fun a1 a2 h3 h4 he => by omega) ?_ ?_ ?_ ?_
      · simpa [renL, SV.ren] using this
      · intro j o hj
        simp only [hget_cons] at hj
        split at hj
        · cases hj; exact hb
        · cases hj
      · intro j o hj h1j
        simp only [hget_cons] at hj
        split at hj
        · rename_i h0; subst h0; exact absurd h1j (by show ¬ 1 ≤ 0; omega)
        · cases hj
      · rintro v H' n' hψ
        refine ⟨fun i o hi _ h1i => ?_, fun i o hi _ h1i => ?_⟩
        · simp only [hget_cons] at hi
          split at hi
          · rename_i h0; subst h0; exact absurd h1i (by show ¬ 1 ≤ 0; omega)
          · cases hi
        · obtain rfl : i = 0 := by
            have : i < 1 := h1i
            omega
          exact ⟨_, rfl, rfl⟩
      · rintro v H' n' hψ _
        rcases hψ with ⟨hi, rfl, rfl, rfl⟩ | ⟨c, j, rfl, rfl, rfl, hl, hj⟩
        · simpa [SV.ren, ext, renH] using h1 hi
        · simpa [SV.ren, ext, renH, SObj.ren] using h2 hl c j hj
    · exact h.elim
  · exact h.elim
theorem l5Racks_ok (R : List Int) (hR : R.length = 24) (hr : rackB R = true) : FreshP Tryz.prog 92 [.arr R] [] (befL R).flatten (befL R).length 24 27 false .one := by
  have tkR : R.take 24 = R := List.take_of_length_le (by omega)
  obtain ⟨np, hnp, hnp144⟩ := SrL_three R 144
  have eN : befN R = np := by unfold befN; omega
  have e3 : (SrL R 144).length / 3 = np := by omega
  rw [befL_ins hR, eN]
  refine fresh_of_vc (X := ⟨Tryz.prog, tys, [(88, l5Back_F)], [(90, l5Sources_F), (94, l5Put_F)], true, true, 0, [], []⟩) fn_92 ⟨tys_ok, (.cons l5Back_T .nil), (.cons l5Sources_T (.cons l5Put_T .nil)), mixed⟩ (n0 := 0) rfl (Nat.le_of_ble_eq_true rfl) (by simp [wfL, SV.wf]) (wfH_spec (by simp [wfH, SObj.wf])) (Nat.le_refl _) ?_
  simp -implicitDefEqProofs only [Tryz.f92, Option.getD_some, argS, l5Back_F, l5Sources_F, l5Put_F, hR, tkR, hr, e3, freshK, Wrap.ap, ZB, Int.reduceToNat, Nat.reduceLT, Nat.reduceLeDiff, Int.reduceLE, Int.reduceLT, Nat.reduceEqDiff, Nat.reduceSub, SB, SV.known, packR, ne_eq, reduceCtorEq, Nat.reduceEqDiff, ↓reduceIte, if_true, if_false, eq_self, Nat.reduceAdd, Nat.reduceMul, Nat.reduceSub, forall_const, oneCellS, litOne, flat1, Kd.isSca, flat, TYB]
  refine fun cp jp hjp => ?_
  have lenP : (SrL R 144 ++ jp).length = cp * 3 := by rw [List.length_append]; omega
  refine loop_intro (fun s : Nat × Nat × List Int => [(5, .int s.1), (4, .slice 2 0 np cp), (3, .slice 1 0 (insA [] (bks R s.1)).length s.2.1), (1, .ptr 0 0)])
    (fun s => [(2, .ints (SrL R 144 ++ jp) 48), (1, .ints ((insA [] (bks R s.1)).flatten ++ s.2.2) 27), (0, .ints R 27)]) 3
    (fun s => s.1 ≤ np ∧ s.2.2.length + (insA [] (bks R s.1)).length * 24 = s.2.1 * 24) (fun s => np - s.1) ?_ ?_
  · refine ⟨(0, 0, []), ⟨by simp, by simp [bks, insA]⟩, Sub.mk_id ?_ ?_ ?_ ?_ ?_⟩
    all_goals ((try simp only [LB, subS, subH, wfS, wfH, SV.ren, renL, SObj.ren, SV.wf, SObj.wf, wfL, SV.known, Nat.reduceEqDiff, ↓reduceIte, if_true, if_false, eq_self, Nat.reduceAdd, Nat.reduceLT, Nat.reduceLeDiff, implies_true, reduceCtorEq, forall_const]) <;> simp [bks, insA])
  · rintro ⟨i, c, j⟩ ⟨hi, hj⟩
    simp only at hi hj
    have h24 := bks_24 hR i
    have g24 : all24 (insA [] (bks R i)) := insA_len h24
    have hfl := flat_len g24
    have hbl := bks_len R i
    have hcard := insA_card (bks R i)
    rw [hbl] at hcard
    by_cases hlt : i < np
    · have hil : (i : Int) < np := by omega
      obtain ⟨a, b, d, hb, he⟩ := SrL_trip R 144 i (by omega)
      have eP : List.take 3 (List.drop (i * 3) (SrL R 144 ++ jp)) = [a, b, d] := by
        rw [List.drop_append_of_le_length (by omega), List.take_append_of_le_length (by rw [List.length_drop]; omega), he]
      have g0 : (SrL R 144).getD (i * 3) 0 = a ∧ (SrL R 144).getD (i * 3 + 1) 0 = b ∧ (SrL R 144).getD (i * 3 + 2) 0 = d := by
        have q : ∀ k, k < 3 → (SrL R 144).getD (i * 3 + k) 0 = (((SrL R 144).drop (i * 3)).take 3).getD k 0 := fun k hk => by
          simp [List.getD, List.getElem?_take, hk]
        have q0 := q 0 (by omega); have q1 := q 1 (by omega); have q2 := q 2 (by omega)
        rw [he] at q0 q1 q2
        exact ⟨q0, q1, q2⟩
      have ex : bkT R a b d = bkk R i := by unfold bkT bkk; rw [if_pos hb, g0.1, g0.2.1, g0.2.2]
      have xl : (bkk R i).length = 24 := bkR_len hR _ _ _
      have tkx := List.take_of_length_le (Nat.le_of_eq xl)
      have es : insA [] (bks R (i + 1)) = insU (bkk R i) (insA [] (bks R i)) := by rw [bks_succ, insA_snoc]
      have hL : ((insA [] (bks R i)).flatten ++ j).length = c * 24 := by rw [List.length_append, hfl]; omega
      have hl2 : (insA [] (bks R i)).length ≤ 1000 := by omega
      simp -implicitDefEqProofs only [lk_normal, l5Back_F, l5Put_F, hil, eP, lenP, hR, hr, tkR, hb, ex, xl, tkx, hL, hl2, List.getD_cons_zero, List.getD_cons_succ, ZB, Int.reduceToNat, Nat.reduceLT, Nat.reduceLeDiff, Int.reduceLE, Int.reduceLT, Nat.reduceEqDiff, Nat.reduceSub, SB, SV.known, packR, ne_eq, reduceCtorEq, Nat.reduceEqDiff, ↓reduceIte, if_true, if_false, eq_self, Nat.reduceAdd, Nat.reduceMul, Nat.reduceSub, forall_const, oneCellS, litOne, flat1, Kd.isSca, flat, TYB]
      refine ⟨by omega, by omega, _, j, rfl, rfl, g24, fun h1 => ?_, fun h1 c' j' hj' => ?_⟩
      · refine ⟨by unfold In64; omega, (i + 1, c, j), ⟨by simp only; omega, by simp only [es, h1]; exact hj⟩, by simp only; omega, Sub.mk_id ?_ ?_ ?_ ?_ ?_⟩
        all_goals (try simp only [es, h1])
        all_goals ((try simp only [LB, subS, subH, wfS, wfH, SV.ren, renL, SObj.ren, SV.wf, SObj.wf, wfL, SV.known, Nat.reduceEqDiff, ↓reduceIte, if_true, if_false, eq_self, Nat.reduceAdd, Nat.reduceLT, Nat.reduceLeDiff, implies_true, reduceCtorEq, forall_const]) <;> simp)
      · refine ⟨by unfold In64; omega, (i + 1, c', j'), ⟨by simp only; omega, by simp only [es, h1]; exact hj'⟩, by simp only; omega, Sub.mk_to 1 4 ?_ ?_ ?_ ?_ ?_ ?_ ?_⟩
        all_goals (try simp only [es, h1])
        all_goals ((try simp only [LB, subS, subH, wfS, wfH, SV.ren, renL, SObj.ren, SV.wf, SObj.wf, wfL, SV.known, Nat.reduceEqDiff, ↓reduceIte, if_true, if_false, eq_self, Nat.reduceAdd, Nat.reduceLT, Nat.reduceLeDiff, implies_true, reduceCtorEq, forall_const]) <;> simp)
    · have hil : ¬ (i : Int) < np := by omega
      obtain rfl : i = np := by omega
      simp -implicitDefEqProofs only [lk_normal, hil, ZB, Int.reduceToNat, Nat.reduceLT, Nat.reduceLeDiff, Int.reduceLE, Int.reduceLT, Nat.reduceEqDiff, Nat.reduceSub, SB, SV.known, packR, ne_eq, reduceCtorEq, Nat.reduceEqDiff, ↓reduceIte, if_true, if_false, eq_self, Nat.reduceAdd, Nat.reduceMul, Nat.reduceSub, forall_const, oneCellS, litOne, flat1, Kd.isSca, flat, TYB]
      exact .inr ⟨1, c, j, rfl, by simp [hget_cons], by omega, by rw [hfl]; exact hj, by simp⟩
end Go.Proofs.YtmccafjblhbmkaaGreat
set_option maxRecDepth 100000
set_option linter.unusedSimpArgs false
set_option linter.unusedVariables false
namespace Go.Proofs.YtmccafjblhbmkaaGreat
open Go Go.RowKit
def chkR (L : List Int) (off len : Nat) : List (List Int) := (List.range len).map fun i => (L.drop (off + i * 24)).take 24
theorem chkR_len (L : List Int) (off len : Nat) : (chkR L off len).length = len := by simp [chkR]
theorem chkR_getD (L : List Int) (off len k : Nat) (h : k < len) : (chkR L off len).getD k [] = (L.drop (off + k * 24)).take 24 := by simp [chkR, List.getD, h]
theorem chkR_succ (L : List Int) (off k : Nat) : chkR L off (k + 1) = chkR L off k ++ [(L.drop (off + k * 24)).take 24] := by
  unfold chkR
  rw [List.range_succ, List.map_append]; rfl
/-- What is keptR. -/
def keptR (np : List Int → Bool) (L : List Int) (k : Nat) : List Int := ((chkR L 0 k).filter np).flatten
theorem keptR_zero (np : List Int → Bool) (L : List Int) : keptR np L 0 = [] := rfl
theorem keptR_succ (np : List Int → Bool) (L : List Int) (k : Nat) : keptR np L (k + 1) = keptR np L k ++ if np ((L.drop (k * 24)).take 24) = true then (L.drop (k * 24)).take 24 else [] := by
  unfold keptR
  rw [chkR_succ, List.filter_append, List.flatten_append, Nat.zero_add]
  congr 1
  simp only [List.filter_cons, List.filter_nil]
  split <;> simp
theorem keptR_even (np : List Int → Bool) (L : List Int) : ∀ k, k * 24 ≤ L.length → ∃ i, (keptR np L k).length = i * 24 ∧ i ≤ k
  | 0, _ => ⟨0, rfl, by omega⟩
  | k + 1, h => by
    obtain ⟨i, h1, h2⟩ := keptR_even np L k (by omega)
    rw [keptR_succ, List.length_append, h1]
    split
    · exact ⟨i + 1, by rw [List.length_take, List.length_drop]; omega, by omega⟩
    · exact ⟨i, by simp, by omega⟩
theorem keptR_all {np : List Int → Bool} {L : List Int} : ∀ k, k * 24 ≤ L.length → (∀ i, i < k → np ((L.drop (i * 24)).take 24) = true) → keptR np L k = L.take (k * 24)
  | 0, _, _ => by simp [keptR_zero]
  | k + 1, h, hn => by
    rw [keptR_succ, if_pos (hn k (by omega)), keptR_all k (by omega) fun i hi => hn i (by omega), show (k + 1) * 24 = k * 24 + 24 by omega, List.take_add]
theorem indexFuncR_ok (g : Nat) (caps : List SV) (H Hc : Heap) (pr : List Int → Bool) (n0 b : Nat) (L : List Int) (e len cap : Nat) (hb : hget H b = some (.ints L e)) (hl : len * 24 ≤ L.length) (hm : len ≤ 9223372036854775806)
    (Q : List Int → Prop) (hQ : ∀ i, i < len → Q ((L.drop (i * 24)).take 24)) (hc : ∀ x : List Int, Q x → PureH Tryz.prog g (.arr x :: caps) Hc (.bool (pr x))) (hE : Ext Hc H) (hw : wfL n0 caps) (hwH : hwf n0 H) :
    PureH Tryz.prog 142 [.slice b 0 len cap, .fn g caps] H (.int (idxG pr (chkR L 0 len))) := by
  have hE2 := chkR_len L 0 len
  have h00 : b < n0 := (hwH b _ hb).1
  refine pure_of_vc (X := ⟨Tryz.prog, tys, [(g, fun args H' => match args with | .arr x :: r => some (r = caps ∧ Ext Hc H' ∧ Q x, .bool (pr x)) | _ => none)], [], true, true, n0, [], []⟩) fn_142
    ⟨tys_ok, .cons (fun args H' p v h hp => ?_) .nil, .nil, mixed⟩ (n0 := n0) (Nat.le_of_ble_eq_true rfl) ⟨by simpa [SV.wf] using h00, by simpa [SV.wf] using hw, trivial⟩ hwH (Nat.le_refl _) (fun _ => trivial) ?_
  · split at h
    · cases h
      obtain ⟨rfl, hx1, hx⟩ := hp
      exact (hc _ hx).weaken hx1 (fun _ => trivial)
    · cases h
  simp -implicitDefEqProofs only [Tryz.f142, Option.getD_some, argS, hb, SB, SV.known, packR, ne_eq, reduceCtorEq, Nat.reduceEqDiff, ↓reduceIte, if_true, if_false, eq_self, Nat.reduceAdd, Nat.reduceMul, Nat.reduceSub, forall_const, oneCellS, litOne, flat1, Kd.isSca, flat, TYB]
  refine loop_intro (fun i : Nat => [(0, .slice b 0 len cap), (1, .fn g caps), (7, .int len), (8, .int i)]) (fun i => H) n0 (fun i => i ≤ len ∧ ∀ k, k < i → pr ((chkR L 0 len).getD k []) = false) (fun i => len - i) ?_ ?_
  · refine ⟨0, ⟨by omega, by simp⟩, Sub.same ?_ ?_ hwH (Nat.le_refl _)⟩
    · simp [subS, subH, wfS, wfH, SV.ren, renL, SObj.ren, SV.wf, SObj.wf, wfL, sget_cons, hget_cons, SV.known, renL_id]
    · simp [subS, subH, wfS, wfH, SV.ren, renL, SObj.ren, SV.wf, SObj.wf, wfL, sget_cons, hget_cons, hw, h00]
  · intro i hi
    obtain ⟨hi1, hi2⟩ := hi
    simp -implicitDefEqProofs only [lk_normal, hb, SB, SV.known, packR, ne_eq, reduceCtorEq, Nat.reduceEqDiff, ↓reduceIte, if_true, if_false, eq_self, Nat.reduceAdd, Nat.reduceMul, Nat.reduceSub, forall_const, oneCellS, litOne, flat1, Kd.isSca, flat, TYB]
    refine ⟨fun h => ?_, fun h => ?_⟩
    · have hlt : i < len := by omega
      have e1 : 0 + (i : Int).toNat * 24 = i * 24 := by simp
      have e2 : (L.drop (i * 24)).take 24 = (chkR L 0 len).getD i [] := by rw [chkR_getD L 0 len i hlt, Nat.zero_add]
      have e3 : Q ((chkR L 0 len).getD i []) := by rw [← e2]; exact hQ i hlt
      simp only [Int.toNat_natCast, Nat.zero_add, e2]
      refine ⟨by omega, by omega, by omega, ⟨hE, e3⟩, ?_⟩
      cases hp : pr ((chkR L 0 len).getD i []) with
      | true =>
        simp -implicitDefEqProofs only [SB, SV.known, packR, ne_eq, reduceCtorEq, Nat.reduceEqDiff, ↓reduceIte, if_true, if_false, eq_self, Nat.reduceAdd, Nat.reduceMul, Nat.reduceSub, forall_const, oneCellS, litOne, flat1, Kd.isSca, flat, TYB]
        rw [idxG_hit (by omega) hp hi2]
      | false =>
        simp -implicitDefEqProofs only [lk_normal, SB, SV.known, packR, ne_eq, reduceCtorEq, Nat.reduceEqDiff, ↓reduceIte, if_true, if_false, eq_self, Nat.reduceAdd, Nat.reduceMul, Nat.reduceSub, forall_const, oneCellS, litOne, flat1, Kd.isSca, flat, TYB]
        refine ⟨by unfold In64; omega, i + 1, ⟨by omega, fun k hk => ?_⟩, by omega, Sub.same ?_ ?_ hwH (Nat.le_refl _)⟩
        · by_cases hki : k = i
          · subst hki; exact hp
          · exact hi2 k (by omega)
        · simp [subS, subH, wfS, wfH, SV.ren, renL, SObj.ren, SV.wf, SObj.wf, wfL, sget_cons, hget_cons, SV.known, renL_id]
        · simp [subS, subH, wfS, wfH, SV.ren, renL, SObj.ren, SV.wf, SObj.wf, wfL, sget_cons, hget_cons, hw, h00]
    · obtain rfl : i = len := by omega
      rw [idxG_none (by rw [hE2]; exact hi2)]
theorem deleteFuncR_ok (g : Nat) (hg : g ≠ 142) (caps : List SV) (Hc : Heap) (pr : List Int → Bool) (b : Nat) (L : List Int) (e len cap : Nat) (hlen : L.length = cap * 24) (hlc : len ≤ cap) (hm : len ≤ 384307168202282325)
    (Q : List Int → Prop) (hQ : ∀ i, i < len → Q ((L.drop (i * 24)).take 24)) (hc : ∀ x : List Int, Q x → PureH Tryz.prog g (.arr x :: caps) Hc (.bool (pr x))) (hw : wfL b caps) (hwH : hwf b Hc) :
    UpdP Tryz.prog 95 [.slice b 0 len cap, .fn g caps] b Hc (.ints L e)
      (.ints (keptR (fun x => !pr x) L len ++ List.replicate (len * 24 - (keptR (fun x => !pr x) L len).length) 0 ++ L.drop (len * 24)) e) (.slice b 0 ((keptR (fun x => !pr x) L len).length / 24) cap) := by
  have hl2 : len * 24 ≤ L.length := by omega
  have hb0 : hget ((b, SObj.ints L e) :: Hc) b = some (.ints L e) := by rw [hget_cons, if_pos rfl]
  have hwf1 : ∀ o : SObj, (∀ n, o.wf n) → hwf (b + 1) ((b, o) :: Hc) := fun o ho => hwf_cons (hwf_mono (by omega) hwH) (by omega) (ho _)
  have hw1 : wfL (b + 1) caps := wfL_mono (by omega) caps hw
  have hE : ∀ o : SObj, Ext Hc ((b, o) :: Hc) := fun o => Ext.cons hwH (Nat.le_refl _) (Ext.refl Hc)
  refine upd_of_vc (X := ⟨Tryz.prog, tys, [(142, fun args H' => some (args = [.slice b 0 len cap, .fn g caps] ∧ H' = (b, .ints L e) :: Hc, .int (idxG pr (chkR L 0 len)))),
      (g, fun args H' => match args with | .arr x :: r => some (r = caps ∧ Ext Hc H' ∧ Q x, .bool (pr x)) | _ => none)], [], true, true, b, [], []⟩) fn_95
    ⟨tys_ok, .cons (fun args H' p v h hp => ?_) (.cons (fun args H' p v h hp => ?_) .nil), .nil, mixed⟩ (n0 := b + 1) (by omega) (Nat.le_of_ble_eq_true rfl) ⟨by simp [SV.wf], by simpa [SV.wf] using hw1, trivial⟩ (hwf1 _ fun _ => trivial) (fun k o1 hk => (hwH k o1 hk).1) rfl rfl (fun _ => trivial) (by simp [SV.wf]) ?_
  · cases h
    obtain ⟨rfl, rfl⟩ := hp
    exact indexFuncR_ok g caps _ Hc pr (b + 1) b L e len cap hb0 hl2 (by omega) Q hQ hc (hE _) hw1 (hwf1 _ fun _ => trivial)
  · split at h
    · cases h
      obtain ⟨rfl, hx1, hx⟩ := hp
      exact (hc _ hx).weaken hx1 (fun _ => trivial)
    · cases h
  simp -implicitDefEqProofs only [Tryz.f95, Option.getD_some, argS, hb0, hg, SB, SV.known, packR, ne_eq, reduceCtorEq, Nat.reduceEqDiff, ↓reduceIte, if_true, if_false, eq_self, Nat.reduceAdd, Nat.reduceMul, Nat.reduceSub, forall_const, oneCellS, litOne, flat1, Kd.isSca, flat, TYB]
  have hkl := keptR_even (fun x => !pr x) L len hl2
  have hwc : hwf (b + 1) Hc := hwf_mono (by omega) hwH
  by_cases hneg : idxG pr (chkR L 0 len) < 0
  · obtain ⟨h1, h2⟩ := idxG_none' [] hneg
    have hk : keptR (fun x => !pr x) L len = L.take (len * 24) := keptR_all len hl2 fun i hi => by
      have := h2 i (by rw [chkR_len]; exact hi)
      rw [chkR_getD L 0 len i hi, Nat.zero_add] at this
      simp [this]
    have hkl : (L.take (len * 24)).length = len * 24 := by rw [List.length_take]; omega
    rw [h1, hk, hkl]
    refine ⟨fun _ => ⟨?_, ?_⟩, fun hx => absurd rfl hx⟩
    · rw [show len * 24 / 24 = len by omega]
    · simp
  · obtain ⟨i0, h1, h2, h3, h4⟩ := idxG_some' [] hneg
    rw [chkR_len] at h2
    rw [chkR_getD L 0 len i0 h2, Nat.zero_add] at h3
    have hk0 : keptR (fun x => !pr x) L i0 = L.take (i0 * 24) := keptR_all i0 (by omega) fun i hi => by
      have := h4 i hi
      rw [chkR_getD L 0 len i (by omega), Nat.zero_add] at this
      simp [this]
    have hk1 : keptR (fun x => !pr x) L (i0 + 1) = L.take (i0 * 24) := by
      rw [keptR_succ, hk0, h3]; simp
    rw [h1]
    refine ⟨fun hx => absurd hx (by omega), fun _ => ?_⟩
    (try (and_intros <;> try (first | omega | (unfold In64; omega) | trivial | assumption)))
    refine loop_intro (fun s : Nat × Nat × List Int => [(6, .int s.1), (5, .int s.2.1), (0, .slice b 0 len cap), (1, .fn g caps)]) (fun s => [(b, .ints (keptR (fun x => !pr x) L s.1 ++ s.2.2 ++ L.drop (s.1 * 24)) e)] ++ Hc) (b + 1)
      (fun s => s.1 ≤ len ∧ (keptR (fun x => !pr x) L s.1).length = s.2.1 * 24 ∧ s.2.1 < s.1 ∧ s.2.2.length + s.2.1 * 24 = s.1 * 24) (fun s => len - s.1) ?_ ?_
    · have e1 : (L.drop (i0 * 24)).take 24 ++ L.drop ((i0 + 1) * 24) = L.drop (i0 * 24) := by
        rw [show (i0 + 1) * 24 = i0 * 24 + 24 by omega, ← List.drop_drop]; exact List.take_append_drop 24 _
      refine ⟨(i0 + 1, i0, (L.drop (i0 * 24)).take 24), ⟨by simp only; omega, by simp only; rw [hk1, List.length_take]; omega, by simp only; omega, by simp only; rw [List.length_take, List.length_drop]; omega⟩, Sub.mk_ext ?_ ?_ ?_ ?_ (Nat.le_refl _) (hE _) hwc⟩
      · simp [subS, subH, wfS, wfH, SV.ren, renL, SObj.ren, SV.wf, SObj.wf, wfL, sget_cons, hget_cons, SV.known, renL_id]
      · rw [hk1, List.append_assoc, e1, List.take_append_drop]
        simp [subS, subH, wfS, wfH, SV.ren, renL, SObj.ren, SV.wf, SObj.wf, wfL, sget_cons, hget_cons]
      · simp [subS, subH, wfS, wfH, SV.ren, renL, SObj.ren, SV.wf, SObj.wf, wfL, sget_cons, hget_cons, hw1]
      · simp [subS, subH, wfS, wfH, SV.ren, renL, SObj.ren, SV.wf, SObj.wf, wfL, sget_cons, hget_cons]
    · rintro ⟨j, i, mid⟩ ⟨g1, g2, g3, g4⟩
      simp only at g1 g2 g3 g4
      have lenL : (keptR (fun x => !pr x) L j ++ mid ++ L.drop (j * 24)).length = cap * 24 := by
        rw [List.length_append, List.length_append, List.length_drop]; omega
      by_cases hlt : j < len
      · have ex : ((keptR (fun x => !pr x) L j ++ mid ++ L.drop (j * 24)).drop (j * 24)).take 24 = (L.drop (j * 24)).take 24 := by
          rw [List.drop_left' (by rw [List.length_append]; omega)]
        have l2 : ((L.drop (j * 24)).take 24).length = 24 := by rw [List.length_take, List.length_drop]; omega
        have es := keptR_succ (fun x => !pr x) L j
        have tt : List.take 24 ((L.drop (j * 24)).take 24) = (L.drop (j * 24)).take 24 := by simp [List.take_take]
        have hjl : (j : Int) < len := by omega
        have hQj := hQ j hlt
        have dl : (L.drop (j * 24)).take 24 ++ L.drop ((j + 1) * 24) = L.drop (j * 24) := by
          rw [show (j + 1) * 24 = j * 24 + 24 by omega, ← List.drop_drop]; exact List.take_append_drop 24 _
        have hE2 : ∀ o1 o2 o3 : SObj, Ext Hc ((b + 1, o1) :: (b + 1, o2) :: (b, o3) :: Hc) := fun o1 o2 o3 => Ext.cons hwH (by omega) (Ext.cons hwH (by omega) (hE _))
        cases hp : pr ((L.drop (j * 24)).take 24) with
        | true =>
          rw [hp] at es
          simp only [Bool.not_true, Bool.false_eq_true, if_false, List.append_nil] at es
          simp -implicitDefEqProofs only [lk_normal, hget_cons, List.cons_append, List.nil_append, hg, lenL, ex, l2, tt, hp, hjl, hE2, hQj, ZB, Int.reduceToNat, Nat.reduceLT, Nat.reduceLeDiff, Int.reduceLE, Int.reduceLT, Nat.reduceEqDiff, Nat.reduceSub, SB, SV.known, packR, ne_eq, reduceCtorEq, Nat.reduceEqDiff, ↓reduceIte, if_true, if_false, eq_self, Nat.reduceAdd, Nat.reduceMul, Nat.reduceSub, forall_const, oneCellS, litOne, flat1, Kd.isSca, flat, TYB]
          (try (and_intros <;> try (first | omega | (unfold In64; omega) | trivial | assumption)))
          refine ⟨(j + 1, i, mid ++ (L.drop (j * 24)).take 24), ⟨by simp only; omega, by simp only; rw [es]; exact g2, by simp only; omega, by simp only; rw [List.length_append, l2]; omega⟩, by simp only; omega, Sub.mk_ext (l := [(b, _)]) ?_ ?_ ?_ ?_ (Nat.le_refl _) (hE2 _ _ _) hwc⟩
          · simp [subS, subH, wfS, wfH, SV.ren, renL, SObj.ren, SV.wf, SObj.wf, wfL, sget_cons, hget_cons, SV.known, renL_id]
          · rw [es]
            simp only [List.append_assoc, dl]
            simp [subS, subH, wfS, wfH, SV.ren, renL, SObj.ren, SV.wf, SObj.wf, wfL, sget_cons, hget_cons]
          · simp [subS, subH, wfS, wfH, SV.ren, renL, SObj.ren, SV.wf, SObj.wf, wfL, sget_cons, hget_cons, hw1]
          · simp [subS, subH, wfS, wfH, SV.ren, renL, SObj.ren, SV.wf, SObj.wf, wfL, sget_cons, hget_cons]
        | false =>
          rw [hp] at es
          simp only [Bool.not_false, if_true] at es
          have hbb : ¬ b = b + 1 := by omega
          have st : List.take (i * 24) (keptR (fun x => !pr x) L j ++ mid ++ L.drop (j * 24)) ++ (L.drop (j * 24)).take 24 ++ List.drop (i * 24 + 24) (keptR (fun x => !pr x) L j ++ mid ++ L.drop (j * 24)) = keptR (fun x => !pr x) L (j + 1) ++ (mid.drop 24 ++ (L.drop (j * 24)).take 24) ++ L.drop ((j + 1) * 24) := by
            rw [es, ← List.drop_drop, List.append_assoc (keptR (fun x => !pr x) L j), List.take_left' g2, List.drop_left' g2, List.drop_append_of_le_length (by omega)]
            simp only [List.append_assoc, dl]
          simp -implicitDefEqProofs only [lk_normal, hget_cons, List.cons_append, List.nil_append, hg, lenL, ex, l2, tt, hp, hjl, hE2, hQj, hbb, st, ZB, Int.reduceToNat, Nat.reduceLT, Nat.reduceLeDiff, Int.reduceLE, Int.reduceLT, Nat.reduceEqDiff, Nat.reduceSub, SB, SV.known, packR, ne_eq, reduceCtorEq, Nat.reduceEqDiff, ↓reduceIte, if_true, if_false, eq_self, Nat.reduceAdd, Nat.reduceMul, Nat.reduceSub, forall_const, oneCellS, litOne, flat1, Kd.isSca, flat, TYB]
          (try (and_intros <;> try (first | omega | (unfold In64; omega) | trivial | assumption)))
          refine ⟨(j + 1, i + 1, mid.drop 24 ++ (L.drop (j * 24)).take 24), ⟨by simp only; omega, by simp only; rw [es, List.length_append, g2, l2]; omega, by simp only; omega, by simp only; rw [List.length_append, l2, List.length_drop]; omega⟩, by simp only; omega, Sub.mk_ext (l := [(b, _)]) ?_ ?_ ?_ ?_ (Nat.le_refl _) (Ext.cons hwH (Nat.le_refl _) (hE2 _ _ _)) hwc⟩
          · simp [subS, subH, wfS, wfH, SV.ren, renL, SObj.ren, SV.wf, SObj.wf, wfL, sget_cons, hget_cons, SV.known, renL_id]
          · simp [subS, subH, wfS, wfH, SV.ren, renL, SObj.ren, SV.wf, SObj.wf, wfL, sget_cons, hget_cons]
          · simp [subS, subH, wfS, wfH, SV.ren, renL, SObj.ren, SV.wf, SObj.wf, wfL, sget_cons, hget_cons, hw1]
          · simp [subS, subH, wfS, wfH, SV.ren, renL, SObj.ren, SV.wf, SObj.wf, wfL, sget_cons, hget_cons]
      · have hjl : ¬ (j : Int) < len := by omega
        obtain rfl : j = len := by omega
        simp -implicitDefEqProofs only [lk_normal, hget_cons, List.cons_append, List.nil_append, hg, lenL, hjl, ZB, Int.reduceToNat, Nat.reduceLT, Nat.reduceLeDiff, Int.reduceLE, Int.reduceLT, Nat.reduceEqDiff, Nat.reduceSub, SB, SV.known, packR, ne_eq, reduceCtorEq, Nat.reduceEqDiff, ↓reduceIte, if_true, if_false, eq_self, Nat.reduceAdd, Nat.reduceMul, Nat.reduceSub, forall_const, oneCellS, litOne, flat1, Kd.isSca, flat, TYB]
        have c1 : cutOff cap i 0 24 = i * 24 := by unfold cutOff; rw [if_neg (by omega)]; omega
        have c2 : i * 24 + (j - i) * 24 = j * 24 := by omega
        rw [c1, c2, g2]
        refine ⟨by omega, by omega, by omega, by omega, by omega, by omega, ?_, ?_⟩
        · rw [show i * 24 / 24 = i by omega]
        · rw [List.append_assoc (keptR (fun x => !pr x) L j), List.take_left' g2, ← List.append_assoc, List.drop_left' (by rw [List.length_append]; omega), show (j - i) * 24 = j * 24 - i * 24 by omega]
/-- On a slice that is nil. -/
theorem deleteFuncR_nil (g : Nat) (caps : List SV) (H : Heap) (n0 : Nat) (hw : wfL n0 caps) (hwH : hwf n0 H) : PureH Tryz.prog 95 [.nils, .fn g caps] H .nils := by
  have h1 : PureH Tryz.prog 142 [.nils, .fn g caps] H (.int (-1)) := by
    refine pure_of_vc (X := ⟨Tryz.prog, tys, [], [], true, true, n0, [], []⟩) fn_142 ⟨tys_ok, .nil, .nil, mixed⟩ (n0 := n0) (Nat.le_of_ble_eq_true rfl) ⟨trivial, by simpa [SV.wf] using hw, trivial⟩ hwH (Nat.le_refl _) (fun _ => trivial) ?_
    simp -implicitDefEqProofs only [Tryz.f142, Option.getD_some, argS, SB, SV.known, packR, ne_eq, reduceCtorEq, Nat.reduceEqDiff, ↓reduceIte, if_true, if_false, eq_self, Nat.reduceAdd, Nat.reduceMul, Nat.reduceSub, forall_const, oneCellS, litOne, flat1, Kd.isSca, flat, TYB]
    refine loop_intro (fun i : Unit => [(0, .nils), (1, .fn g caps), (7, .int 0), (8, .int 0)]) (fun i => H) n0 (fun i => True) (fun i => 0) ?_ ?_
    · refine ⟨(), trivial, Sub.same ?_ ?_ hwH (Nat.le_refl _)⟩
      · simp [subS, subH, wfS, wfH, SV.ren, renL, SObj.ren, SV.wf, SObj.wf, wfL, sget_cons, hget_cons, SV.known, renL_id]
      · simp [subS, subH, wfS, wfH, SV.ren, renL, SObj.ren, SV.wf, SObj.wf, wfL, sget_cons, hget_cons, hw]
    · intro _ _
      simp -implicitDefEqProofs only [lk_normal, SB, SV.known, packR, ne_eq, reduceCtorEq, Nat.reduceEqDiff, ↓reduceIte, if_true, if_false, eq_self, Nat.reduceAdd, Nat.reduceMul, Nat.reduceSub, forall_const, oneCellS, litOne, flat1, Kd.isSca, flat, TYB]
      simp
  refine pure_of_vc (X := ⟨Tryz.prog, tys, [(142, fun args H' => some (args = [.nils, .fn g caps] ∧ H' = H, .int (-1)))], [], true, true, n0, [], []⟩) fn_95 ⟨tys_ok, .cons (fun args H' p v h hp => ?_) .nil, .nil, mixed⟩ (n0 := n0) (Nat.le_of_ble_eq_true rfl) ⟨trivial, by simpa [SV.wf] using hw, trivial⟩ hwH (Nat.le_refl _) (fun _ => trivial) ?_
  · cases h
    obtain ⟨rfl, rfl⟩ := hp
    exact h1
  simp -implicitDefEqProofs only [Tryz.f95, Option.getD_some, argS, SB, SV.known, packR, ne_eq, reduceCtorEq, Nat.reduceEqDiff, ↓reduceIte, if_true, if_false, eq_self, Nat.reduceAdd, Nat.reduceMul, Nat.reduceSub, forall_const, oneCellS, litOne, flat1, Kd.isSca, flat, TYB]
end Go.Proofs.YtmccafjblhbmkaaGreat
set_option maxRecDepth 100000
set_option linter.unusedSimpArgs false
set_option linter.unusedVariables false
namespace Go.Proofs.YtmccafjblhbmkaaGreat
open Go Go.RowKit
def before_F : List SV → Heap → Nat → Nat → K1 → Prop
  | [.arr R], H, n, _, κ => (R.length = 24 ∧ rackB R = true) ∧ freshK .one (befL R).flatten (befL R).length 24 27 true H n κ
  | _, _, _, _, _ => False
--@tbl before = impl.before
theorem before_T : ∀ args H n m κ, before_F args H n m κ → GenOK Tryz.prog 91 args H n m κ := by
  intro args H n m κ h
  unfold before_F at h
  split at h
  · exact gen_of_fresh (before_ok _ h.1.1 h.1.2) (fun k o hk => by cases hk) h.2
  · exact h.elim
def l5Racks_F : List SV → Heap → Nat → Nat → K1 → Prop
  | [.arr R], H, n, _, κ => (R.length = 24 ∧ rackB R = true) ∧ freshK .one (befL R).flatten (befL R).length 24 27 false H n κ
  | _, _, _, _, _ => False
--@tbl l5Racks = spec.l5Racks
theorem l5Racks_T : ∀ args H n m κ, l5Racks_F args H n m κ → GenOK Tryz.prog 92 args H n m κ := by
  intro args H n m κ h
  unfold l5Racks_F at h
  split at h
  · exact gen_of_fresh (l5Racks_ok _ h.1.1 h.1.2) (fun k o hk => by cases hk) h.2
  · exact h.elim
/-! What is left of a law that compares lists of racks. -/
def rbL (R : List Int) : List (List Int) := if rackB R = true then befL R else []
theorem rbL_24 {R : List Int} (hR : R.length = 24) : all24 (rbL R) := by
  unfold rbL
  split
  · exact befL_24 hR
  · intro x hx; simp at hx
theorem rbL_le {R : List Int} (hR : R.length = 24) : (rbL R).length ≤ 144 := by
  unfold rbL
  split
  · exact befL_le hR
  · simp
--@tbl RacksBefore = impl.RacksBefore
--@tbl sRacksBefore = spec.RacksBefore
theorem RacksBefore_ok (R : List Int) (hR : R.length = 24) : FreshP Tryz.prog 27 [.arr R] [] (rbL R).flatten (rbL R).length 24 27 true (.more [.bool (rackB R)]) := by
  have tkR : R.take 24 = R := List.take_of_length_le (by omega)
  unfold rbL
  cases hr : rackB R
  · refine fresh_of_vc (X := ⟨Tryz.prog, tys, [(62, IsRack_F)], [(91, before_F)], true, true, 0, [], []⟩) fn_27 ⟨tys_ok, (.cons IsRack_T .nil), (.cons before_T .nil), mixed⟩ (n0 := 0) rfl (Nat.le_of_ble_eq_true rfl) (by simp [wfL, SV.wf]) (wfH_spec (by simp [wfH, SObj.wf])) (Nat.le_refl _) ?_
    simp -implicitDefEqProofs only [Tryz.f27, Option.getD_some, argS, IsRack_F, before_F, hR, tkR, hr, freshK, Wrap.ap, ZB, Int.reduceToNat, Nat.reduceLT, Nat.reduceLeDiff, Int.reduceLE, Int.reduceLT, Nat.reduceEqDiff, Nat.reduceSub, SB, SV.known, packR, ne_eq, reduceCtorEq, Nat.reduceEqDiff, ↓reduceIte, if_true, if_false, eq_self, Nat.reduceAdd, Nat.reduceMul, Nat.reduceSub, forall_const, oneCellS, litOne, flat1, Kd.isSca, flat, TYB]
    exact .inl ⟨rfl, rfl, rfl⟩
  · refine fresh_of_vc (X := ⟨Tryz.prog, tys, [(62, IsRack_F)], [(91, before_F)], true, true, 0, [], []⟩) fn_27 ⟨tys_ok, (.cons IsRack_T .nil), (.cons before_T .nil), mixed⟩ (n0 := 0) rfl (Nat.le_of_ble_eq_true rfl) (by simp [wfL, SV.wf]) (wfH_spec (by simp [wfH, SObj.wf])) (Nat.le_refl _) ?_
    simp -implicitDefEqProofs only [Tryz.f27, Option.getD_some, argS, IsRack_F, before_F, hR, tkR, hr, freshK, Wrap.ap, ZB, Int.reduceToNat, Nat.reduceLT, Nat.reduceLeDiff, Int.reduceLE, Int.reduceLT, Nat.reduceEqDiff, Nat.reduceSub, SB, SV.known, packR, ne_eq, reduceCtorEq, Nat.reduceEqDiff, ↓reduceIte, if_true, if_false, eq_self, Nat.reduceAdd, Nat.reduceMul, Nat.reduceSub, forall_const, oneCellS, litOne, flat1, Kd.isSca, flat, TYB]
    exact ⟨fun h2 => .inl ⟨rfl, h2, rfl⟩, fun h cap junk hj => .inr ⟨1, cap, junk, rfl, by simp [hget_cons], by omega, hj, by simpa using h⟩⟩
theorem sRacksBefore_ok (R : List Int) (hR : R.length = 24) : FreshP Tryz.prog 28 [.arr R] [] (rbL R).flatten (rbL R).length 24 27 false (.more [.bool (rackB R)]) := by
  have tkR : R.take 24 = R := List.take_of_length_le (by omega)
  unfold rbL
  cases hr : rackB R
  · refine fresh_of_vc (X := ⟨Tryz.prog, tys, [(64, l2Rack_F)], [(92, l5Racks_F)], true, true, 0, [], []⟩) fn_28 ⟨tys_ok, (.cons l2Rack_T .nil), (.cons l5Racks_T .nil), mixed⟩ (n0 := 0) rfl (Nat.le_of_ble_eq_true rfl) (by simp [wfL, SV.wf]) (wfH_spec (by simp [wfH, SObj.wf])) (Nat.le_refl _) ?_
    simp -implicitDefEqProofs only [Tryz.f28, Option.getD_some, argS, l2Rack_F, l5Racks_F, hR, tkR, hr, freshK, Wrap.ap, ZB, Int.reduceToNat, Nat.reduceLT, Nat.reduceLeDiff, Int.reduceLE, Int.reduceLT, Nat.reduceEqDiff, Nat.reduceSub, SB, SV.known, packR, ne_eq, reduceCtorEq, Nat.reduceEqDiff, ↓reduceIte, if_true, if_false, eq_self, Nat.reduceAdd, Nat.reduceMul, Nat.reduceSub, forall_const, oneCellS, litOne, flat1, Kd.isSca, flat, TYB]
    exact .inr ⟨1, 0, [], rfl, by simp [hget_cons], by omega, rfl, by simp⟩
  · refine fresh_of_vc (X := ⟨Tryz.prog, tys, [(64, l2Rack_F)], [(92, l5Racks_F)], true, true, 0, [], []⟩) fn_28 ⟨tys_ok, (.cons l2Rack_T .nil), (.cons l5Racks_T .nil), mixed⟩ (n0 := 0) rfl (Nat.le_of_ble_eq_true rfl) (by simp [wfL, SV.wf]) (wfH_spec (by simp [wfH, SObj.wf])) (Nat.le_refl _) ?_
    simp -implicitDefEqProofs only [Tryz.f28, Option.getD_some, argS, l2Rack_F, l5Racks_F, hR, tkR, hr, freshK, Wrap.ap, ZB, Int.reduceToNat, Nat.reduceLT, Nat.reduceLeDiff, Int.reduceLE, Int.reduceLT, Nat.reduceEqDiff, Nat.reduceSub, SB, SV.known, packR, ne_eq, reduceCtorEq, Nat.reduceEqDiff, ↓reduceIte, if_true, if_false, eq_self, Nat.reduceAdd, Nat.reduceMul, Nat.reduceSub, forall_const, oneCellS, litOne, flat1, Kd.isSca, flat, TYB]
    exact fun cap junk hj => .inr ⟨1, cap, junk, rfl, by simp [hget_cons], by omega, hj, by simp⟩
def RacksBefore_F : List SV → Heap → Nat → Nat → K1 → Prop
  | [.arr R], H, n, _, κ => R.length = 24 ∧ freshK (.more [.bool (rackB R)]) (rbL R).flatten (rbL R).length 24 27 true H n κ
  | _, _, _, _, _ => False
theorem RacksBefore_T : ∀ args H n m κ, RacksBefore_F args H n m κ → GenOK Tryz.prog 27 args H n m κ := by
  intro args H n m κ h
  unfold RacksBefore_F at h
  split at h
  · exact gen_of_fresh (RacksBefore_ok _ h.1) (fun k o hk => by cases hk) h.2
  · exact h.elim
def sRacksBefore_F : List SV → Heap → Nat → Nat → K1 → Prop
  | [.arr R], H, n, _, κ => R.length = 24 ∧ freshK (.more [.bool (rackB R)]) (rbL R).flatten (rbL R).length 24 27 false H n κ
  | _, _, _, _, _ => False
theorem sRacksBefore_T : ∀ args H n m κ, sRacksBefore_F args H n m κ → GenOK Tryz.prog 28 args H n m κ := by
  intro args H n m κ h
  unfold sRacksBefore_F at h
  split at h
  · exact gen_of_fresh (sRacksBefore_ok _ h.1) (fun k o hk => by cases hk) h.2
  · exact h.elim
/-! Gardens before. -/
theorem befL_rack {R : List Int} (hR : R.length = 24) (hr : rackB R = true) : ∀ x ∈ befL R, rackB x = true := by
  rw [befL_ins hR]
  intro x hx
  obtain ⟨q, hq, rfl⟩ := List.mem_map.1 ((insA_mem _ x).1 hx)
  obtain ⟨n, hn, _⟩ := SrL_three R 144
  have hq' := List.mem_range.1 hq
  have eN : befN R = n := by unfold befN; omega
  obtain ⟨a, b, d, hb, he⟩ := SrL_trip R 144 q (by omega)
  have g0 : (SrL R 144).getD (q * 3) 0 = a ∧ (SrL R 144).getD (q * 3 + 1) 0 = b ∧ (SrL R 144).getD (q * 3 + 2) 0 = d := by
    have q1 : ∀ k, k < 3 → (SrL R 144).getD (q * 3 + k) 0 = (((SrL R 144).drop (q * 3)).take 3).getD k 0 := fun k hk => by
      simp [List.getD, List.getElem?_take, hk]
    have r0 := q1 0 (by omega); have r1 := q1 1 (by omega); have r2 := q1 2 (by omega)
    rw [he] at r0 r1 r2
    exact ⟨r0, r1, r2⟩
  unfold bkk
  rw [g0.1, g0.2.1, g0.2.2]
  have h1 := bk_21 hb
  unfold bk2 at h1
  rw [Bool.and_eq_true] at h1
  exact bk_rack hR hr h1.1
def gaL (Q : List (List Int)) : List (List Int) := Q.filter fun x => decide (SrL x 144 = [])
theorem gaL_snoc (Q : List (List Int)) (x : List Int) : gaL (Q ++ [x]) = gaL Q ++ if SrL x 144 = [] then [x] else [] := by
  unfold gaL
  rw [List.filter_append, List.filter_cons, List.filter_nil]
  by_cases h : SrL x 144 = [] <;> simp [h]
theorem gaL_24 {Q : List (List Int)} (h : all24 Q) : all24 (gaL Q) := fun x hx => h x (List.mem_filter.1 hx).1
theorem gaL_le (Q : List (List Int)) : (gaL Q).length ≤ Q.length := List.length_filter_le _ _
theorem chkR_bf {Q : List (List Int)} (h : all24 Q) (J : List Int) : chkR (Q.flatten ++ J) 0 Q.length = Q := by
  refine List.ext_getElem (by rw [chkR_len]) fun i h1 h2 => ?_
  have e := flat_get h h2 J
  simp only [chkR, List.getElem_map, List.getElem_range, Nat.zero_add]
  rw [e, List.getD_eq_getElem?_getD, List.getElem?_eq_getElem h2]; rfl
theorem keptR_ga {Q : List (List Int)} (h : all24 Q) (J : List Int) : keptR (fun x => !!decide (SrL x 144 = [])) (Q.flatten ++ J) Q.length = (gaL Q).flatten := by
  unfold keptR gaL
  rw [chkR_bf h J]
  simp only [Bool.not_not]
theorem garden1_ok (x : List Int) (hx : x.length = 24) (hr : rackB x = true) : PureH Tryz.prog 96 [.arr x] [] (.bool (!decide (SrL x 144 = []))) := by
  have tkx : x.take 24 = x := List.take_of_length_le (by omega)
  refine pure_of_vc (X := ⟨Tryz.prog, tys, [(93, isGarden_F)], [], true, true, 0, [], []⟩) fn_96 ⟨tys_ok, (.cons isGarden_T .nil), .nil, mixed⟩ (n0 := 0) (Nat.le_of_ble_eq_true rfl) (by simp [wfL, SV.wf]) (wfH_spec (by simp [wfH, SObj.wf])) (Nat.le_refl _) (fun _ => by simp [SV.wf, wfL]) ?_
  simp -implicitDefEqProofs only [Tryz.f96, Option.getD_some, argS, isGarden_F, hx, tkx, hr, ZB, Int.reduceToNat, Nat.reduceLT, Nat.reduceLeDiff, Int.reduceLE, Int.reduceLT, Nat.reduceEqDiff, Nat.reduceSub, SB, SV.known, packR, ne_eq, reduceCtorEq, Nat.reduceEqDiff, ↓reduceIte, if_true, if_false, eq_self, Nat.reduceAdd, Nat.reduceMul, Nat.reduceSub, forall_const, oneCellS, litOne, flat1, Kd.isSca, flat, TYB]
def delG_F : List SV → Heap → Nat → Nat → K1 → Prop
  | [.slice b 0 len cap, .fn g []], H, n, m, κ => match hget H b with
    | some (.ints L e) => g = 96 ∧ L.length = cap * 24 ∧ m ≤ b ∧ len ≤ 1000 ∧ ∃ Q J, L = Q.flatten ++ J ∧ Q.length = len ∧ (∀ x ∈ Q, x.length = 24 ∧ rackB x = true) ∧ κ (.slice b 0 (gaL Q).length cap) ((b, .ints ((gaL Q).flatten ++ (List.replicate ((len - (gaL Q).length) * 24) 0 ++ J)) e) :: H) n
    | _ => False
  | [.nils, .fn g []], H, n, _, κ => κ .nils H n
  | _, _, _, _, _ => False
--@tbl delG = slices.DeleteFunc[[]impl.Rack,impl.Rack]
theorem delG_T : ∀ args H n m κ, delG_F args H n m κ → GenOK Tryz.prog 95 args H n m κ := by
  intro args H N m κ h
  unfold delG_F at h
  split at h
  · rename_i b n cap g
    split at h
    · rename_i L e hb
      obtain ⟨rfl, hL, hm, hn, Q, J, rfl, hQn, hQ, h⟩ := h
      have h24 : all24 Q := fun x hx => (hQ x hx).1
      have hfl := flat_len h24
      have hga := flat_len (gaL_24 h24)
      have hle := gaL_le Q
      have hu := deleteFuncR_ok 96 (by decide) [] [] (fun x => !decide (SrL x 144 = [])) 0 (Q.flatten ++ J) e n cap hL (by rw [List.length_append, hfl] at hL; omega) (by omega) (fun x => x.length = 24 ∧ rackB x = true) (fun i hi => by
        rw [flat_get h24 (by omega) J]; exact hQ _ (getD_mem (by omega))) (fun x hx => garden1_ok x hx.1 hx.2) trivial (hwf_nil _)
      have ek := keptR_ga h24 J
      rw [hQn] at ek
      rw [ek, hga, show (gaL Q).length * 24 / 24 = (gaL Q).length by omega, List.drop_left' (by rw [hfl, hQn]), ← Nat.sub_mul, List.append_assoc] at hu
      have := gen_of_upd (H := H) (n := N) (m := m) (κ := κ) hu (fun _ => b) (fun j o1 hj => by
        rw [hget_cons] at hj
        split at hj
        · cases hj; exact hb
        · cases hj) (fun j1 o1 j2 o2 g1 g2 he => by
        rw [hget_cons] at g1 g2
        split at g1
        · split at g2
          · omega
          · cases g2
        · cases g1) (by simpa using hm) rfl (fun n hn => by simpa [SV.wf, SV.ren] using hn) (by simpa [SV.ren, renL] using h)
      simpa [renL, SV.ren] using this
    · exact h.elim
  · rename_i g
    exact gen_of_pure ((deleteFuncR_nil g [] [] 0 trivial (hwf_nil _)).any H) h
  · exact h.elim
def gbL (R : List Int) : List (List Int) := if rackB R = true then gaL (befL R) else []
theorem gbL_24 {R : List Int} (hR : R.length = 24) : all24 (gbL R) := by
  unfold gbL
  split
  · exact gaL_24 (befL_24 hR)
  · intro x hx; simp at hx
theorem gbL_le {R : List Int} (hR : R.length = 24) : (gbL R).length ≤ 144 := by
  unfold gbL
  split
  · have := befL_le hR
    have := gaL_le (befL R)
    omega
  · simp
--@tbl GardensBefore = impl.GardensBefore
--@tbl sGardensBefore = spec.GardensBefore
theorem GardensBefore_ok (R : List Int) (hR : R.length = 24) : FreshP Tryz.prog 33 [.arr R] [] (gbL R).flatten (gbL R).length 24 27 (decide (rackB R = false ∨ befL R = [])) (.more [.bool (rackB R)]) := by
  have tkR : R.take 24 = R := List.take_of_length_le (by omega)
  unfold gbL
  cases hr : rackB R
  · refine fresh_of_vc (X := ⟨Tryz.prog, tys, [(62, IsRack_F)], [(91, before_F), (95, delG_F)], true, true, 0, [], []⟩) fn_33 ⟨tys_ok, (.cons IsRack_T .nil), (.cons before_T (.cons delG_T .nil)), mixed⟩ (n0 := 0) rfl (Nat.le_of_ble_eq_true rfl) (by simp [wfL, SV.wf]) (wfH_spec (by simp [wfH, SObj.wf])) (Nat.le_refl _) ?_
    simp -implicitDefEqProofs only [Tryz.f33, Option.getD_some, argS, IsRack_F, before_F, delG_F, hR, tkR, hr, freshK, Wrap.ap, ZB, Int.reduceToNat, Nat.reduceLT, Nat.reduceLeDiff, Int.reduceLE, Int.reduceLT, Nat.reduceEqDiff, Nat.reduceSub, SB, SV.known, packR, ne_eq, reduceCtorEq, Nat.reduceEqDiff, ↓reduceIte, if_true, if_false, eq_self, Nat.reduceAdd, Nat.reduceMul, Nat.reduceSub, forall_const, oneCellS, litOne, flat1, Kd.isSca, flat, TYB]
    exact .inl ⟨by simp, rfl, rfl⟩
  · refine fresh_of_vc (X := ⟨Tryz.prog, tys, [(62, IsRack_F)], [(91, before_F), (95, delG_F)], true, true, 0, [], []⟩) fn_33 ⟨tys_ok, (.cons IsRack_T .nil), (.cons before_T (.cons delG_T .nil)), mixed⟩ (n0 := 0) rfl (Nat.le_of_ble_eq_true rfl) (by simp [wfL, SV.wf]) (wfH_spec (by simp [wfH, SObj.wf])) (Nat.le_refl _) ?_
    simp -implicitDefEqProofs only [Tryz.f33, Option.getD_some, argS, IsRack_F, before_F, delG_F, hR, tkR, hr, freshK, Wrap.ap, ZB, Int.reduceToNat, Nat.reduceLT, Nat.reduceLeDiff, Int.reduceLE, Int.reduceLT, Nat.reduceEqDiff, Nat.reduceSub, SB, SV.known, packR, ne_eq, reduceCtorEq, Nat.reduceEqDiff, ↓reduceIte, if_true, if_false, eq_self, Nat.reduceAdd, Nat.reduceMul, Nat.reduceSub, forall_const, oneCellS, litOne, flat1, Kd.isSca, flat, TYB]
    have b24 := befL_24 hR
    have bl := befL_le hR
    have br := befL_rack hR hr
    have bf := flat_len b24
    have gf := flat_len (gaL_24 b24)
    have gl := gaL_le (befL R)
    refine ⟨fun h0 => ?_, fun h0 cap junk hj => ⟨by rw [List.length_append]; omega, by omega, befL R, junk, rfl, rfl, fun x hx => ⟨b24 x hx, br x hx⟩, ?_⟩⟩
    · have hb : befL R = [] := List.length_eq_zero_iff.1 (by rw [h0] at bf; simp at bf; omega)
      exact .inl ⟨by simp [hb], by rw [hb]; rfl, rfl⟩
    · refine .inr ⟨1, cap, List.replicate (((befL R).length - (gaL (befL R)).length) * 24) 0 ++ junk, rfl, by simp [hget_cons], by omega, ?_, fun h => ?_⟩
      · rw [List.length_append, List.length_replicate, gf]; omega
      · exfalso
        have : befL R = [] := by simpa using h
        exact h0 (by rw [this]; rfl)
theorem sGardensBefore_ok (R : List Int) (hR : R.length = 24) : FreshP Tryz.prog 34 [.arr R] [] (gbL R).flatten (gbL R).length 24 27 false (.more [.bool (rackB R)]) := by
  have tkR : R.take 24 = R := List.take_of_length_le (by omega)
  unfold gbL
  cases hr : rackB R
  · refine fresh_of_vc (X := ⟨Tryz.prog, tys, [(64, l2Rack_F)], [(92, l5Racks_F), (90, l5Sources_F)], true, true, 0, [], []⟩) fn_34 ⟨tys_ok, (.cons l2Rack_T .nil), (.cons l5Racks_T (.cons l5Sources_T .nil)), mixed⟩ (n0 := 0) rfl (Nat.le_of_ble_eq_true rfl) (by simp [wfL, SV.wf]) (wfH_spec (by simp [wfH, SObj.wf])) (Nat.le_refl _) ?_
    simp -implicitDefEqProofs only [Tryz.f34, Option.getD_some, argS, l2Rack_F, l5Racks_F, l5Sources_F, hR, tkR, hr, freshK, Wrap.ap, ZB, Int.reduceToNat, Nat.reduceLT, Nat.reduceLeDiff, Int.reduceLE, Int.reduceLT, Nat.reduceEqDiff, Nat.reduceSub, SB, SV.known, packR, ne_eq, reduceCtorEq, Nat.reduceEqDiff, ↓reduceIte, if_true, if_false, eq_self, Nat.reduceAdd, Nat.reduceMul, Nat.reduceSub, forall_const, oneCellS, litOne, flat1, Kd.isSca, flat, TYB]
    exact .inr ⟨1, 0, [], rfl, by simp [hget_cons], by omega, rfl, by simp⟩
  · refine fresh_of_vc (X := ⟨Tryz.prog, tys, [(64, l2Rack_F)], [(92, l5Racks_F), (90, l5Sources_F)], true, true, 0, [], []⟩) fn_34 ⟨tys_ok, (.cons l2Rack_T .nil), (.cons l5Racks_T (.cons l5Sources_T .nil)), mixed⟩ (n0 := 0) rfl (Nat.le_of_ble_eq_true rfl) (by simp [wfL, SV.wf]) (wfH_spec (by simp [wfH, SObj.wf])) (Nat.le_refl _) ?_
    simp -implicitDefEqProofs only [Tryz.f34, Option.getD_some, argS, l2Rack_F, l5Racks_F, l5Sources_F, hR, tkR, hr, freshK, Wrap.ap, ZB, Int.reduceToNat, Nat.reduceLT, Nat.reduceLeDiff, Int.reduceLE, Int.reduceLT, Nat.reduceEqDiff, Nat.reduceSub, SB, SV.known, packR, ne_eq, reduceCtorEq, Nat.reduceEqDiff, ↓reduceIte, if_true, if_false, eq_self, Nat.reduceAdd, Nat.reduceMul, Nat.reduceSub, forall_const, oneCellS, litOne, flat1, Kd.isSca, flat, TYB]
    have b24 := befL_24 hR
    have bl := befL_le hR
    have br := befL_rack hR hr
    generalize befL R = B at *
    have bf := flat_len b24
    refine fun cp jp hjp => ?_
    refine loop_intro (fun s : Nat × Nat × List Int => [(6, .int s.1), (5, .slice 2 0 B.length cp), (4, .slice 1 0 (gaL (B.take s.1)).length s.2.1), (1, .ptr 0 0)])
      (fun s => [(2, .ints (B.flatten ++ jp) 27), (1, .ints ((gaL (B.take s.1)).flatten ++ s.2.2) 27), (0, .ints R 27)]) 3
      (fun s => s.1 ≤ B.length ∧ s.2.2.length + (gaL (B.take s.1)).length * 24 = s.2.1 * 24) (fun s => B.length - s.1) ?_ ?_
    · refine ⟨(0, 0, []), ⟨by simp, by simp [gaL]⟩, Sub.mk_id ?_ ?_ ?_ ?_ ?_⟩
      all_goals ((try simp only [LB, subS, subH, wfS, wfH, SV.ren, renL, SObj.ren, SV.wf, SObj.wf, wfL, SV.known, Nat.reduceEqDiff, ↓reduceIte, if_true, if_false, eq_self, Nat.reduceAdd, Nat.reduceLT, Nat.reduceLeDiff, implies_true, reduceCtorEq, forall_const]) <;> simp [gaL])
    · rintro ⟨i, c, j⟩ ⟨hi, hj⟩
      simp only at hi hj
      have gf := flat_len (gaL_24 (fun x hx => b24 x (List.mem_of_mem_take hx) : all24 (B.take i)))
      have gl := gaL_le (B.take i)
      rw [List.length_take] at gl
      by_cases hlt : i < B.length
      · have hil : (i : Int) < B.length := by omega
        have eP : List.take 24 (List.drop (i * 24) (B.flatten ++ jp)) = B.getD i [] := flat_get b24 hlt jp
        have xm := getD_mem hlt
        have x24 := b24 _ xm
        have xr := br _ xm
        have lenP : (B.flatten ++ jp).length = cp * 24 := by rw [List.length_append]; omega
        have es : gaL (B.take (i + 1)) = gaL (B.take i) ++ if SrL (B.getD i []) 144 = [] then [B.getD i []] else [] := by rw [take_succ_getD B i hlt, gaL_snoc]
        have tkx : List.take 24 (B.getD i []) = B.getD i [] := List.take_of_length_le (by omega)
        have lG : ((gaL (B.take i)).flatten ++ j).length = c * 24 := by rw [List.length_append, gf]; omega
        have tkG : List.take ((gaL (B.take i)).length * 24) ((gaL (B.take i)).flatten ++ j) = (gaL (B.take i)).flatten := List.take_left' gf
        generalize B.getD i [] = x at *
        obtain ⟨np, hnp, _⟩ := SrL_three x 144
        have e3 : (SrL x 144).length / 3 = np := by omega
        simp -implicitDefEqProofs only [lk_normal, l5Sources_F, freshK, hil, eP, lenP, x24, xr, tkx, lG, tkG, e3, Wrap.ap, ZB, Int.reduceToNat, Nat.reduceLT, Nat.reduceLeDiff, Int.reduceLE, Int.reduceLT, Nat.reduceEqDiff, Nat.reduceSub, SB, SV.known, packR, ne_eq, reduceCtorEq, Nat.reduceEqDiff, ↓reduceIte, if_true, if_false, eq_self, Nat.reduceAdd, Nat.reduceMul, Nat.reduceSub, forall_const, oneCellS, litOne, flat1, Kd.isSca, flat, TYB]
        refine ⟨by omega, by omega, fun cap3 j3 h3 => ⟨fun h0 => ⟨by omega, by omega, by omega, by omega, by omega, fun j' c' hj' => ?_⟩, fun h0 => ?_⟩⟩
        · have hs : SrL x 144 = [] := List.length_eq_zero_iff.1 (by omega)
          rw [if_pos hs] at es
          refine ⟨by unfold In64; omega, (i + 1, c', j'), ⟨by simp only; omega, by simp only [es, List.length_append, List.length_singleton]; exact hj'⟩, by simp only; omega, Sub.mk_to 1 5 ?_ ?_ ?_ ?_ ?_ ?_ ?_⟩
          all_goals (try simp only [es, List.length_append, List.length_singleton, List.flatten_append, List.flatten_cons, List.flatten_nil, List.append_nil])
          all_goals ((try simp only [LB, subS, subH, wfS, wfH, SV.ren, renL, SObj.ren, SV.wf, SObj.wf, wfL, SV.known, Nat.reduceEqDiff, ↓reduceIte, if_true, if_false, eq_self, Nat.reduceAdd, Nat.reduceLT, Nat.reduceLeDiff, implies_true, reduceCtorEq, forall_const]) <;> simp)
        · have hs : ¬ SrL x 144 = [] := fun h => h0 (by rw [h] at hnp; simp at hnp; omega)
          rw [if_neg hs, List.append_nil] at es
          refine ⟨by unfold In64; omega, (i + 1, c, j), ⟨by simp only; omega, by simp only [es]; exact hj⟩, by simp only; omega, Sub.mk_id ?_ ?_ ?_ ?_ ?_⟩
          all_goals (try simp only [es])
          all_goals ((try simp only [LB, subS, subH, wfS, wfH, SV.ren, renL, SObj.ren, SV.wf, SObj.wf, wfL, SV.known, Nat.reduceEqDiff, ↓reduceIte, if_true, if_false, eq_self, Nat.reduceAdd, Nat.reduceLT, Nat.reduceLeDiff, implies_true, reduceCtorEq, forall_const]) <;> simp)
      · have hil : ¬ (i : Int) < B.length := by omega
        obtain rfl : i = B.length := by omega
        simp -implicitDefEqProofs only [lk_normal, hil, ZB, Int.reduceToNat, Nat.reduceLT, Nat.reduceLeDiff, Int.reduceLE, Int.reduceLT, Nat.reduceEqDiff, Nat.reduceSub, SB, SV.known, packR, ne_eq, reduceCtorEq, Nat.reduceEqDiff, ↓reduceIte, if_true, if_false, eq_self, Nat.reduceAdd, Nat.reduceMul, Nat.reduceSub, forall_const, oneCellS, litOne, flat1, Kd.isSca, flat, TYB]
        rw [List.take_of_length_le (Nat.le_refl _)] at hj gf ⊢
        exact .inr ⟨1, c, j, rfl, by simp [hget_cons], by omega, by rw [gf]; exact hj, by simp⟩
def GardensBefore_F : List SV → Heap → Nat → Nat → K1 → Prop
  | [.arr R], H, n, _, κ => R.length = 24 ∧ freshK (.more [.bool (rackB R)]) (gbL R).flatten (gbL R).length 24 27 (decide (rackB R = false ∨ befL R = [])) H n κ
  | _, _, _, _, _ => False
theorem GardensBefore_T : ∀ args H n m κ, GardensBefore_F args H n m κ → GenOK Tryz.prog 33 args H n m κ := by
  intro args H n m κ h
  unfold GardensBefore_F at h
  split at h
  · exact gen_of_fresh (GardensBefore_ok _ h.1) (fun k o hk => by cases hk) h.2
  · exact h.elim
def sGardensBefore_F : List SV → Heap → Nat → Nat → K1 → Prop
  | [.arr R], H, n, _, κ => R.length = 24 ∧ freshK (.more [.bool (rackB R)]) (gbL R).flatten (gbL R).length 24 27 false H n κ
  | _, _, _, _, _ => False
theorem sGardensBefore_T : ∀ args H n m κ, sGardensBefore_F args H n m κ → GenOK Tryz.prog 34 args H n m κ := by
  intro args H n m κ h
  unfold sGardensBefore_F at h
  split at h
  · exact gen_of_fresh (sGardensBefore_ok _ h.1) (fun k o hk => by cases hk) h.2
  · exact h.elim
end Go.Proofs.YtmccafjblhbmkaaGreat
