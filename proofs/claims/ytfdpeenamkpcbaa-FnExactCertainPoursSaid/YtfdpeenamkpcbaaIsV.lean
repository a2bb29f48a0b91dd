/- Walks: valid views. -/
import Derived.Test.YtfdpeenamkpcbaaHid
import Derived.Test.YtfdpeenamkpcbaaRank
set_option maxRecDepth 100000
set_option linter.unusedSimpArgs false
set_option linter.unusedVariables false
namespace Go.Proofs.Ytfdpeenamkpcbaa
open Go Go.RowKit
def vk (V : List Int) (k : Nat) : Bool := plF (V.getD k 0) && in04 (V.getD (6 + k) 0) && (decide (0 < V.getD k 0) == decide (0 < V.getD (6 + k) 0))
def vok (V : List Int) : Bool := (List.range 6).all (vk V)
theorem vok_spec {V : List Int} (h : vok V = true) : vTop V ∧ vMan V ∧ vTM V := by
  have h1 : ∀ k, k < 6 → vk V k = true := fun k hk => List.all_eq_true.1 h k (List.mem_range.2 hk)
  refine ⟨fun k hk => ?_, fun k hk => ?_, fun k hk => ?_⟩
  all_goals
    have := h1 k hk
    simp only [vk, plF, in04, Bool.and_eq_true, decide_eq_true_eq, beq_iff_eq] at this
  · exact this.1.1
  · exact this.1.2
  · have := this.2
    rw [decide_eq_decide] at this
    exact this.symm
theorem vk_t {V : List Int} {k : Nat} (h1 : 0 ≤ V.getD k 0 ∧ V.getD k 0 ≤ 5) (h2 : 0 ≤ V.getD (6 + k) 0 ∧ V.getD (6 + k) 0 ≤ 4) (h3 : 0 < V.getD k 0 ↔ 0 < V.getD (6 + k) 0) : vk V k = true := by
  unfold vk plF in04
  rw [decide_eq_true h1, decide_eq_true h2, Bool.and_self, Bool.true_and, beq_iff_eq, decide_eq_decide]
  exact h3
theorem vk_f {V : List Int} {k : Nat} (h3 : ¬ (0 < V.getD k 0 ↔ 0 < V.getD (6 + k) 0)) : vk V k = false := by
  unfold vk
  have : (decide (0 < V.getD k 0) == decide (0 < V.getD (6 + k) 0)) = false := by rw [beq_eq_false_iff_ne, ne_eq, decide_eq_decide]; exact h3
  rw [this, Bool.and_false]
theorem bq1 : (true == false) = false := rfl
theorem bq2 : (false == true) = false := rfl
theorem vok_of {V : List Int} (h : ∀ k, k < 6 → vk V k = true) : vok V = true := List.all_eq_true.2 fun k hk => h k (List.mem_range.1 hk)
theorem vok_not {V : List Int} {k : Nat} (hk : k < 6) (h : vk V k = false) : vok V = false := by
  cases hv : vok V with
  | false => rfl
  | true =>
    have := List.all_eq_true.1 hv k (List.mem_range.2 hk)
    rw [h] at this; cases this
def nn (n : Int) : Bool := decide (0 ≤ n)
def hidV (V : List Int) : List Int := hidL (V.take 6) (V.drop 12) 6
def isVF (V : List Int) : Bool := vok V && decide (V.getD 12 0 = 0) && (V.drop 12).all in024 && (hidV V).all nn && decide ((V.drop 12).sum = ((V.drop 6).take 6).sum)
--@tbl IsView = impl.IsView
theorem IsView1_ok (n : Int) : PureH Try.prog 105 [.int n] [] (.bool (in024 n)) := by
  refine pure_of_vc (X := ⟨Try.prog, tys, [(72, within_F)], [], true, true, 0, [], []⟩) fn_105 ⟨tys_ok, (.cons within_T .nil), .nil, mixed⟩ (n0 := 0) (Nat.le_of_ble_eq_true rfl) (by simp [wfL, SV.wf]) (wfH_spec (by simp [wfH, SObj.wf])) (Nat.le_refl _) (fun _ => by simp [SV.wf, wfL]) ?_
  simp -implicitDefEqProofs only [Try.f105, Option.getD_some, argS, within_F, SB, SV.known, packR, ne_eq, reduceCtorEq, Nat.reduceEqDiff, ↓reduceIte, if_true, if_false, eq_self, Nat.reduceAdd, Nat.reduceMul, Nat.reduceSub, forall_const, oneCellS, Kd.isSca, flat, TYB]
  trivial
theorem IsView2_ok (n : Int) : PureH Try.prog 106 [.int n] [] (.bool (nn n)) := by
  refine pure_of_vc (X := ⟨Try.prog, tys, [], [], true, true, 0, [], []⟩) fn_106 ⟨tys_ok, .nil, .nil, mixed⟩ (n0 := 0) (Nat.le_of_ble_eq_true rfl) (by simp [wfL, SV.wf]) (wfH_spec (by simp [wfH, SObj.wf])) (Nat.le_refl _) (fun _ => by simp [SV.wf, wfL]) ?_
  simp -implicitDefEqProofs only [Try.f106, Option.getD_some, argS, SB, SV.known, packR, ne_eq, reduceCtorEq, Nat.reduceEqDiff, ↓reduceIte, if_true, if_false, eq_self, Nat.reduceAdd, Nat.reduceMul, Nat.reduceSub, forall_const, oneCellS, Kd.isSca, flat, TYB]
  rfl
--@tbl areAll_view = impl.areAll[int]
def areAll_view_F := areAllI_F [(105, in024), (106, nn)]
theorem areAll_view_T : ∀ args H p v, areAll_view_F args H = some (p, v) → p → PureH Try.prog 88 args H v :=
  areAllI_T (by intro q hq; simp at hq; rcases hq with rfl | rfl; exact IsView1_ok; exact IsView2_ok)
theorem IsView_ok (V : List Int) (hV : V.length = 18) : PureH Try.prog 63 [.arr V] [] (.bool (isVF V)) := by
  have tkV : V.take 18 = V := List.take_of_length_le (by omega)
  have lenT : (V.take 6).length = 6 := by rw [List.length_take]; omega
  have lenM : ((V.drop 6).take 6).length = 6 := by rw [List.length_take, List.length_drop]; omega
  have lenC : (V.drop 12).length = 6 := by rw [List.length_drop]; omega
  have tkC : (V.drop 12).take 6 = V.drop 12 := List.take_of_length_le (by omega)
  have lenH : (hidV V).length = 6 := by unfold hidV; rw [hidL_len]; exact lenC
  have tkH : (hidV V).take 6 = hidV V := List.take_of_length_le (by omega)
  have g12 : (V.drop 12).getD 0 0 = V.getD 12 0 := by simp [List.getD]
  have fin : ∀ k, k < 6 → vk V k = false → isVF V = false := fun k hk h => by unfold isVF; rw [vok_not hk h]; rfl
  refine pure_of_vc (X := ⟨Try.prog, tys, [(72, within_F), (55, hidden_F), (88, areAll_view_F), (107, sum_F)], [], true, true, 0, [], []⟩) fn_63 ⟨tys_ok, (.cons within_T (.cons hidden_T (.cons areAll_view_T (.cons sum_T .nil)))), .nil, mixed⟩ (n0 := 0) (Nat.le_of_ble_eq_true rfl) (by simp [wfL, SV.wf]) (wfH_spec (by simp [wfH, SObj.wf])) (Nat.le_refl _) (fun _ => by simp [SV.wf, wfL]) ?_
  simp -implicitDefEqProofs only [Try.f63, Option.getD_some, argS, within_F, hidden_F, areAll_view_F, sum_F, hV, tkV, ZB, Int.reduceToNat, Nat.reduceLT, Nat.reduceLeDiff, Int.reduceLE, Int.reduceLT, Nat.reduceEqDiff, Nat.reduceSub, SB, SV.known, packR, ne_eq, reduceCtorEq, Nat.reduceEqDiff, ↓reduceIte, if_true, if_false, eq_self, Nat.reduceAdd, Nat.reduceMul, Nat.reduceSub, forall_const, oneCellS, Kd.isSca, flat, TYB]
  refine loop_intro (fun k : Nat => [(8, .int k), (7, .arr (V.take 6)), (1, .ptr 0 0)]) (fun k => [(0, .ints V 44)]) 1 (fun k => k ≤ 6 ∧ ∀ q, q < k → vk V q = true) (fun k => 6 - k) ?_ ?_
  · refine ⟨0, ?_, Sub.mk_id ?_ ?_ ?_ ?_ ?_⟩
    all_goals (try (simp only [LB, subS, subH, wfS, wfH, SV.ren, renL, SObj.ren, SV.wf, SObj.wf, wfL, SV.known, Nat.reduceEqDiff, ↓reduceIte, if_true, if_false, eq_self, Nat.reduceAdd, Nat.reduceLT, Nat.reduceLeDiff, implies_true, reduceCtorEq, forall_const]; done))
    all_goals (try (simp only [LB, subS, subH, wfS, wfH, SV.ren, renL, SObj.ren, SV.wf, SObj.wf, wfL, SV.known, Nat.reduceEqDiff, ↓reduceIte, if_true, if_false, eq_self, Nat.reduceAdd, Nat.reduceLT, Nat.reduceLeDiff, implies_true, reduceCtorEq, forall_const]; simp; done))
    all_goals (try (simp only [LB, subS, subH, wfS, wfH, SV.ren, renL, SObj.ren, SV.wf, SObj.wf, wfL, SV.known, Nat.reduceEqDiff, ↓reduceIte, if_true, if_false, eq_self, Nat.reduceAdd, Nat.reduceLT, Nat.reduceLeDiff, implies_true, reduceCtorEq, forall_const]; (and_intros <;> (first | omega | rfl | (simp; done) | (simp; omega))); done))
    all_goals (try dsimp only)
    all_goals (and_intros <;> try (first | omega | (unfold In64; omega) | trivial | assumption))
    all_goals (intro q hq; omega)
  · rintro k ⟨hk, hv⟩
    by_cases hlt : k < 6
    · have hkl : (k : Int) < 6 := by omega
      have ge := take6_get V k hlt
      have gm : V.getD (6 + k) 0 = V.getD (6 + k) 0 := rfl
      by_cases h1 : 0 ≤ V.getD k 0 ∧ V.getD k 0 ≤ 5
      · by_cases h2 : 0 ≤ V.getD (6 + k) 0 ∧ V.getD (6 + k) 0 ≤ 4
        · by_cases h3 : 0 < V.getD k 0
          · by_cases h4 : 0 < V.getD (6 + k) 0
            · have hkk : vk V k = true := vk_t h1 h2 (by omega)
              simp -implicitDefEqProofs only [lk_normal, within_F, hkl, ge, lenT, hV, h1, h2, h3, h4, and_self, decide_true, bq1, bq2, ZB, Int.reduceToNat, Nat.reduceLT, Nat.reduceLeDiff, Int.reduceLE, Int.reduceLT, Nat.reduceEqDiff, Nat.reduceSub, SB, SV.known, packR, ne_eq, reduceCtorEq, Nat.reduceEqDiff, ↓reduceIte, if_true, if_false, eq_self, Nat.reduceAdd, Nat.reduceMul, Nat.reduceSub, forall_const, oneCellS, Kd.isSca, flat, TYB]
              (try (and_intros <;> try (first | omega | (unfold In64; omega) | trivial | assumption)))
              refine ⟨k + 1, ?_, ?_, Sub.mk_id ?_ ?_ ?_ ?_ ?_⟩
              all_goals (try (simp only [LB, subS, subH, wfS, wfH, SV.ren, renL, SObj.ren, SV.wf, SObj.wf, wfL, SV.known, Nat.reduceEqDiff, ↓reduceIte, if_true, if_false, eq_self, Nat.reduceAdd, Nat.reduceLT, Nat.reduceLeDiff, implies_true, reduceCtorEq, forall_const]; done))
              all_goals (try (simp only [LB, subS, subH, wfS, wfH, SV.ren, renL, SObj.ren, SV.wf, SObj.wf, wfL, SV.known, Nat.reduceEqDiff, ↓reduceIte, if_true, if_false, eq_self, Nat.reduceAdd, Nat.reduceLT, Nat.reduceLeDiff, implies_true, reduceCtorEq, forall_const]; simp; done))
              all_goals (try (simp only [LB, subS, subH, wfS, wfH, SV.ren, renL, SObj.ren, SV.wf, SObj.wf, wfL, SV.known, Nat.reduceEqDiff, ↓reduceIte, if_true, if_false, eq_self, Nat.reduceAdd, Nat.reduceLT, Nat.reduceLeDiff, implies_true, reduceCtorEq, forall_const]; (and_intros <;> (first | omega | rfl | (simp; done) | (simp; omega))); done))
              all_goals (try dsimp only)
              all_goals (and_intros <;> try (first | omega | (unfold In64; omega) | trivial | assumption))
              · intro q hq
                by_cases hqk : q = k
                · subst hqk; exact hkk
                · exact hv q (by omega)
            · have hkk := fin k hlt (vk_f (by omega))
              simp -implicitDefEqProofs only [lk_normal, within_F, hkl, ge, lenT, hV, h1, h2, h3, h4, hkk, and_self, decide_true, decide_false, bq1, bq2, ZB, Int.reduceToNat, Nat.reduceLT, Nat.reduceLeDiff, Int.reduceLE, Int.reduceLT, Nat.reduceEqDiff, Nat.reduceSub, SB, SV.known, packR, ne_eq, reduceCtorEq, Nat.reduceEqDiff, ↓reduceIte, if_true, if_false, eq_self, Nat.reduceAdd, Nat.reduceMul, Nat.reduceSub, forall_const, oneCellS, Kd.isSca, flat, TYB]
              (try (and_intros <;> try (first | omega | (unfold In64; omega) | trivial | assumption)))
          · by_cases h4 : 0 < V.getD (6 + k) 0
            · have hkk := fin k hlt (vk_f (by omega))
              simp -implicitDefEqProofs only [lk_normal, within_F, hkl, ge, lenT, hV, h1, h2, h3, h4, hkk, and_self, decide_true, decide_false, bq1, bq2, ZB, Int.reduceToNat, Nat.reduceLT, Nat.reduceLeDiff, Int.reduceLE, Int.reduceLT, Nat.reduceEqDiff, Nat.reduceSub, SB, SV.known, packR, ne_eq, reduceCtorEq, Nat.reduceEqDiff, ↓reduceIte, if_true, if_false, eq_self, Nat.reduceAdd, Nat.reduceMul, Nat.reduceSub, forall_const, oneCellS, Kd.isSca, flat, TYB]
              (try (and_intros <;> try (first | omega | (unfold In64; omega) | trivial | assumption)))
            · have hkk : vk V k = true := vk_t h1 h2 (by omega)
              simp -implicitDefEqProofs only [lk_normal, within_F, hkl, ge, lenT, hV, h1, h2, h3, h4, and_self, decide_true, decide_false, bq1, bq2, ZB, Int.reduceToNat, Nat.reduceLT, Nat.reduceLeDiff, Int.reduceLE, Int.reduceLT, Nat.reduceEqDiff, Nat.reduceSub, SB, SV.known, packR, ne_eq, reduceCtorEq, Nat.reduceEqDiff, ↓reduceIte, if_true, if_false, eq_self, Nat.reduceAdd, Nat.reduceMul, Nat.reduceSub, forall_const, oneCellS, Kd.isSca, flat, TYB]
              (try (and_intros <;> try (first | omega | (unfold In64; omega) | trivial | assumption)))
              refine ⟨k + 1, ?_, ?_, Sub.mk_id ?_ ?_ ?_ ?_ ?_⟩
              all_goals (try (simp only [LB, subS, subH, wfS, wfH, SV.ren, renL, SObj.ren, SV.wf, SObj.wf, wfL, SV.known, Nat.reduceEqDiff, ↓reduceIte, if_true, if_false, eq_self, Nat.reduceAdd, Nat.reduceLT, Nat.reduceLeDiff, implies_true, reduceCtorEq, forall_const]; done))
              all_goals (try (simp only [LB, subS, subH, wfS, wfH, SV.ren, renL, SObj.ren, SV.wf, SObj.wf, wfL, SV.known, Nat.reduceEqDiff, ↓reduceIte, if_true, if_false, eq_self, Nat.reduceAdd, Nat.reduceLT, Nat.reduceLeDiff, implies_true, reduceCtorEq, forall_const]; simp; done))
              all_goals (try (simp only [LB, subS, subH, wfS, wfH, SV.ren, renL, SObj.ren, SV.wf, SObj.wf, wfL, SV.known, Nat.reduceEqDiff, ↓reduceIte, if_true, if_false, eq_self, Nat.reduceAdd, Nat.reduceLT, Nat.reduceLeDiff, implies_true, reduceCtorEq, forall_const]; (and_intros <;> (first | omega | rfl | (simp; done) | (simp; omega))); done))
              all_goals (try dsimp only)
              all_goals (and_intros <;> try (first | omega | (unfold In64; omega) | trivial | assumption))
              · intro q hq
                by_cases hqk : q = k
                · subst hqk; exact hkk
                · exact hv q (by omega)
        · have hkk := fin k hlt (by unfold vk in04; rw [decide_eq_false h2]; simp)
          simp -implicitDefEqProofs only [lk_normal, within_F, hkl, ge, lenT, hV, h1, h2, hkk, and_self, decide_true, decide_false, bq1, bq2, ZB, Int.reduceToNat, Nat.reduceLT, Nat.reduceLeDiff, Int.reduceLE, Int.reduceLT, Nat.reduceEqDiff, Nat.reduceSub, SB, SV.known, packR, ne_eq, reduceCtorEq, Nat.reduceEqDiff, ↓reduceIte, if_true, if_false, eq_self, Nat.reduceAdd, Nat.reduceMul, Nat.reduceSub, forall_const, oneCellS, Kd.isSca, flat, TYB]
          (try (and_intros <;> try (first | omega | (unfold In64; omega) | trivial | assumption)))
      · have hkk := fin k hlt (by unfold vk plF; rw [decide_eq_false h1]; simp)
        simp -implicitDefEqProofs only [lk_normal, within_F, hkl, ge, lenT, hV, h1, hkk, and_self, decide_true, decide_false, bq1, bq2, ZB, Int.reduceToNat, Nat.reduceLT, Nat.reduceLeDiff, Int.reduceLE, Int.reduceLT, Nat.reduceEqDiff, Nat.reduceSub, SB, SV.known, packR, ne_eq, reduceCtorEq, Nat.reduceEqDiff, ↓reduceIte, if_true, if_false, eq_self, Nat.reduceAdd, Nat.reduceMul, Nat.reduceSub, forall_const, oneCellS, Kd.isSca, flat, TYB]
        (try (and_intros <;> try (first | omega | (unfold In64; omega) | trivial | assumption)))
    · have hkl : ¬ (k : Int) < 6 := by omega
      obtain rfl : k = 6 := by omega
      have hok := vok_of hv
      obtain ⟨u1, u2, u3⟩ := vok_spec hok
      have eH : hidL (V.take 6) (V.drop 12) 6 = hidV V := rfl
      have hF : isVF V = (decide (V.getD 12 0 = 0) && (V.drop 12).all in024 && (hidV V).all nn && decide ((V.drop 12).sum = ((V.drop 6).take 6).sum)) := by
        unfold isVF; rw [hok]; rfl
      rw [hF]
      by_cases z0 : V.getD 12 0 = 0
      · cases hA : (V.drop 12).all in024
        · simp -implicitDefEqProofs only [lk_normal, hidden_F, sum_F, areAll_view_F, areAllI_F, hkl, lenT, hV, tkV, lenC, tkC, lenM, lenH, tkH, u1, eH, z0, hA, decide_true, ZB, Int.reduceToNat, Nat.reduceLT, Nat.reduceLeDiff, Int.reduceLE, Int.reduceLT, Nat.reduceEqDiff, Nat.reduceSub, SB, SV.known, packR, ne_eq, reduceCtorEq, Nat.reduceEqDiff, ↓reduceIte, if_true, if_false, eq_self, Nat.reduceAdd, Nat.reduceMul, Nat.reduceSub, forall_const, oneCellS, Kd.isSca, flat, TYB]
        · cases hN : (hidV V).all nn
          · simp -implicitDefEqProofs only [lk_normal, hidden_F, sum_F, areAll_view_F, areAllI_F, hkl, lenT, hV, tkV, lenC, tkC, lenM, lenH, tkH, u1, eH, z0, hA, hN, decide_true, ZB, Int.reduceToNat, Nat.reduceLT, Nat.reduceLeDiff, Int.reduceLE, Int.reduceLT, Nat.reduceEqDiff, Nat.reduceSub, SB, SV.known, packR, ne_eq, reduceCtorEq, Nat.reduceEqDiff, ↓reduceIte, if_true, if_false, eq_self, Nat.reduceAdd, Nat.reduceMul, Nat.reduceSub, forall_const, oneCellS, Kd.isSca, flat, TYB]
          · have b1 := all_bd hA (a := -1000000) (b := 1000000) (by intro x hx; have := in024_bd x hx; omega)
            have b2 : Bd (-1000000) 1000000 ((V.drop 6).take 6) := fun x hx => by
              obtain ⟨i, hi, e⟩ := List.getElem_of_mem hx
              have := u2 i (by omega)
              simp at e
              have e2 : V.getD (6 + i) 0 = x := by
                have h18 : 6 + i < V.length := by omega
                rw [List.getD_eq_getElem?_getD, List.getElem?_eq_getElem h18]; exact e
              omega
            simp -implicitDefEqProofs only [lk_normal, hidden_F, sum_F, areAll_view_F, areAllI_F, hkl, lenT, hV, tkV, lenC, tkC, lenM, lenH, tkH, u1, eH, z0, hA, hN, decide_true, ZB, Int.reduceToNat, Nat.reduceLT, Nat.reduceLeDiff, Int.reduceLE, Int.reduceLT, Nat.reduceEqDiff, Nat.reduceSub, SB, SV.known, packR, ne_eq, reduceCtorEq, Nat.reduceEqDiff, ↓reduceIte, if_true, if_false, eq_self, Nat.reduceAdd, Nat.reduceMul, Nat.reduceSub, forall_const, oneCellS, Kd.isSca, flat, TYB]
            exact ⟨b1, b2⟩
      · simp -implicitDefEqProofs only [lk_normal, hidden_F, sum_F, areAll_view_F, areAllI_F, hkl, lenT, hV, tkV, lenC, tkC, lenM, lenH, tkH, u1, eH, z0, decide_false, ZB, Int.reduceToNat, Nat.reduceLT, Nat.reduceLeDiff, Int.reduceLE, Int.reduceLT, Nat.reduceEqDiff, Nat.reduceSub, SB, SV.known, packR, ne_eq, reduceCtorEq, Nat.reduceEqDiff, ↓reduceIte, if_true, if_false, eq_self, Nat.reduceAdd, Nat.reduceMul, Nat.reduceSub, forall_const, oneCellS, Kd.isSca, flat, TYB]
--@tbl l7Good = spec.l7Good
def gdVF (V : List Int) : Bool := vok V && decide (V.getD 12 0 = 0) && ((hidV V).drop 1).all in024 && decide (((hidV V).drop 1).sum = hmL (V.drop 6) 6)
theorem l7Good_ok (V : List Int) (hV : V.length = 18) : PureH Try.prog 58 [.arr V] [] (.bool (gdVF V)) := by
  have tkV : V.take 18 = V := List.take_of_length_le (by omega)
  have lenC : (V.drop 12).length = 6 := by rw [List.length_drop]; omega
  have lenH : (hidV V).length = 6 := by unfold hidV; rw [hidL_len]; exact lenC
  have tkH : (hidV V).take 6 = hidV V := List.take_of_length_le (by omega)
  have fin : ∀ k, k < 6 → vk V k = false → gdVF V = false := fun k hk h => by unfold gdVF; rw [vok_not hk h]; rfl
  refine pure_of_vc (X := ⟨Try.prog, tys, [(68, l1In_F), (50, l7Hidden_F)], [], true, true, 0, [], []⟩) fn_58 ⟨tys_ok, (.cons l1In_T (.cons l7Hidden_T .nil)), .nil, mixed⟩ (n0 := 0) (Nat.le_of_ble_eq_true rfl) (by simp [wfL, SV.wf]) (wfH_spec (by simp [wfH, SObj.wf])) (Nat.le_refl _) (fun _ => by simp [SV.wf, wfL]) ?_
  simp -implicitDefEqProofs only [Try.f58, Option.getD_some, argS, l1In_F, l7Hidden_F, hV, tkV, ZB, Int.reduceToNat, Nat.reduceLT, Nat.reduceLeDiff, Int.reduceLE, Int.reduceLT, Nat.reduceEqDiff, Nat.reduceSub, SB, SV.known, packR, ne_eq, reduceCtorEq, Nat.reduceEqDiff, ↓reduceIte, if_true, if_false, eq_self, Nat.reduceAdd, Nat.reduceMul, Nat.reduceSub, forall_const, oneCellS, Kd.isSca, flat, TYB]
  refine loop_intro (fun k : Nat => [(3, .int k), (1, .ptr 0 0)]) (fun k => [(0, .ints V 44)]) 1 (fun k => k ≤ 6 ∧ ∀ q, q < k → vk V q = true) (fun k => 6 - k) ?_ ?_
  · refine ⟨0, ?_, Sub.mk_id ?_ ?_ ?_ ?_ ?_⟩
    all_goals (try (simp only [LB, subS, subH, wfS, wfH, SV.ren, renL, SObj.ren, SV.wf, SObj.wf, wfL, SV.known, Nat.reduceEqDiff, ↓reduceIte, if_true, if_false, eq_self, Nat.reduceAdd, Nat.reduceLT, Nat.reduceLeDiff, implies_true, reduceCtorEq, forall_const]; done))
    all_goals (try (simp only [LB, subS, subH, wfS, wfH, SV.ren, renL, SObj.ren, SV.wf, SObj.wf, wfL, SV.known, Nat.reduceEqDiff, ↓reduceIte, if_true, if_false, eq_self, Nat.reduceAdd, Nat.reduceLT, Nat.reduceLeDiff, implies_true, reduceCtorEq, forall_const]; simp; done))
    all_goals (try (simp only [LB, subS, subH, wfS, wfH, SV.ren, renL, SObj.ren, SV.wf, SObj.wf, wfL, SV.known, Nat.reduceEqDiff, ↓reduceIte, if_true, if_false, eq_self, Nat.reduceAdd, Nat.reduceLT, Nat.reduceLeDiff, implies_true, reduceCtorEq, forall_const]; (and_intros <;> (first | omega | rfl | (simp; done) | (simp; omega))); done))
    all_goals (try dsimp only)
    all_goals (and_intros <;> try (first | omega | (unfold In64; omega) | trivial | assumption))
    all_goals (intro q hq; omega)
  · rintro k ⟨hk, hv⟩
    by_cases hlt : k < 6
    · have hkl : (k : Int) < 6 := by omega
      by_cases h2 : 0 ≤ V.getD (6 + k) 0 ∧ V.getD (6 + k) 0 ≤ 4
      · by_cases h1 : 0 ≤ V.getD k 0 ∧ V.getD k 0 ≤ 5
        · by_cases h3 : V.getD k 0 = 0
          · by_cases h4 : V.getD (6 + k) 0 = 0
            · have hkk : vk V k = true := vk_t h1 h2 (by omega)
              simp -implicitDefEqProofs only [lk_normal, l1In_F, hkl, hV, h1, h2, h3, h4, and_self, decide_true, bq1, bq2, ZB, Int.reduceToNat, Nat.reduceLT, Nat.reduceLeDiff, Int.reduceLE, Int.reduceLT, Nat.reduceEqDiff, Nat.reduceSub, SB, SV.known, packR, ne_eq, reduceCtorEq, Nat.reduceEqDiff, ↓reduceIte, if_true, if_false, eq_self, Nat.reduceAdd, Nat.reduceMul, Nat.reduceSub, forall_const, oneCellS, Kd.isSca, flat, TYB]
              (try (and_intros <;> try (first | omega | (unfold In64; omega) | trivial | assumption)))
              refine ⟨k + 1, ?_, ?_, Sub.mk_id ?_ ?_ ?_ ?_ ?_⟩
              all_goals (try (simp only [LB, subS, subH, wfS, wfH, SV.ren, renL, SObj.ren, SV.wf, SObj.wf, wfL, SV.known, Nat.reduceEqDiff, ↓reduceIte, if_true, if_false, eq_self, Nat.reduceAdd, Nat.reduceLT, Nat.reduceLeDiff, implies_true, reduceCtorEq, forall_const]; done))
              all_goals (try (simp only [LB, subS, subH, wfS, wfH, SV.ren, renL, SObj.ren, SV.wf, SObj.wf, wfL, SV.known, Nat.reduceEqDiff, ↓reduceIte, if_true, if_false, eq_self, Nat.reduceAdd, Nat.reduceLT, Nat.reduceLeDiff, implies_true, reduceCtorEq, forall_const]; simp; done))
              all_goals (try (simp only [LB, subS, subH, wfS, wfH, SV.ren, renL, SObj.ren, SV.wf, SObj.wf, wfL, SV.known, Nat.reduceEqDiff, ↓reduceIte, if_true, if_false, eq_self, Nat.reduceAdd, Nat.reduceLT, Nat.reduceLeDiff, implies_true, reduceCtorEq, forall_const]; (and_intros <;> (first | omega | rfl | (simp; done) | (simp; omega))); done))
              all_goals (try dsimp only)
              all_goals (and_intros <;> try (first | omega | (unfold In64; omega) | trivial | assumption))
              · intro q hq
                by_cases hqk : q = k
                · subst hqk; exact hkk
                · exact hv q (by omega)
            · have h5 : 0 < V.getD (6 + k) 0 := by omega
              have hkk := fin k hlt (vk_f (by omega))
              simp -implicitDefEqProofs only [lk_normal, l1In_F, hkl, hV, h1, h2, h3, h4, hkk, and_self, decide_true, decide_false, bq1, bq2, ZB, Int.reduceToNat, Nat.reduceLT, Nat.reduceLeDiff, Int.reduceLE, Int.reduceLT, Nat.reduceEqDiff, Nat.reduceSub, SB, SV.known, packR, ne_eq, reduceCtorEq, Nat.reduceEqDiff, ↓reduceIte, if_true, if_false, eq_self, Nat.reduceAdd, Nat.reduceMul, Nat.reduceSub, forall_const, oneCellS, Kd.isSca, flat, TYB]
              (try (and_intros <;> try (first | omega | (unfold In64; omega) | trivial | assumption)))
          · have h6 : 0 < V.getD k 0 := by omega
            by_cases h4 : V.getD (6 + k) 0 = 0
            · have hkk := fin k hlt (vk_f (by omega))
              simp -implicitDefEqProofs only [lk_normal, l1In_F, hkl, hV, h1, h2, h3, h4, hkk, and_self, decide_true, decide_false, bq1, bq2, ZB, Int.reduceToNat, Nat.reduceLT, Nat.reduceLeDiff, Int.reduceLE, Int.reduceLT, Nat.reduceEqDiff, Nat.reduceSub, SB, SV.known, packR, ne_eq, reduceCtorEq, Nat.reduceEqDiff, ↓reduceIte, if_true, if_false, eq_self, Nat.reduceAdd, Nat.reduceMul, Nat.reduceSub, forall_const, oneCellS, Kd.isSca, flat, TYB]
              (try (and_intros <;> try (first | omega | (unfold In64; omega) | trivial | assumption)))
            · have h5 : 0 < V.getD (6 + k) 0 := by omega
              have hkk : vk V k = true := vk_t h1 h2 (by omega)
              simp -implicitDefEqProofs only [lk_normal, l1In_F, hkl, hV, h1, h2, h3, h4, and_self, decide_true, decide_false, bq1, bq2, ZB, Int.reduceToNat, Nat.reduceLT, Nat.reduceLeDiff, Int.reduceLE, Int.reduceLT, Nat.reduceEqDiff, Nat.reduceSub, SB, SV.known, packR, ne_eq, reduceCtorEq, Nat.reduceEqDiff, ↓reduceIte, if_true, if_false, eq_self, Nat.reduceAdd, Nat.reduceMul, Nat.reduceSub, forall_const, oneCellS, Kd.isSca, flat, TYB]
              (try (and_intros <;> try (first | omega | (unfold In64; omega) | trivial | assumption)))
              refine ⟨k + 1, ?_, ?_, Sub.mk_id ?_ ?_ ?_ ?_ ?_⟩
              all_goals (try (simp only [LB, subS, subH, wfS, wfH, SV.ren, renL, SObj.ren, SV.wf, SObj.wf, wfL, SV.known, Nat.reduceEqDiff, ↓reduceIte, if_true, if_false, eq_self, Nat.reduceAdd, Nat.reduceLT, Nat.reduceLeDiff, implies_true, reduceCtorEq, forall_const]; done))
              all_goals (try (simp only [LB, subS, subH, wfS, wfH, SV.ren, renL, SObj.ren, SV.wf, SObj.wf, wfL, SV.known, Nat.reduceEqDiff, ↓reduceIte, if_true, if_false, eq_self, Nat.reduceAdd, Nat.reduceLT, Nat.reduceLeDiff, implies_true, reduceCtorEq, forall_const]; simp; done))
              all_goals (try (simp only [LB, subS, subH, wfS, wfH, SV.ren, renL, SObj.ren, SV.wf, SObj.wf, wfL, SV.known, Nat.reduceEqDiff, ↓reduceIte, if_true, if_false, eq_self, Nat.reduceAdd, Nat.reduceLT, Nat.reduceLeDiff, implies_true, reduceCtorEq, forall_const]; (and_intros <;> (first | omega | rfl | (simp; done) | (simp; omega))); done))
              all_goals (try dsimp only)
              all_goals (and_intros <;> try (first | omega | (unfold In64; omega) | trivial | assumption))
              · intro q hq
                by_cases hqk : q = k
                · subst hqk; exact hkk
                · exact hv q (by omega)
        · have hkk := fin k hlt (by unfold vk plF; rw [decide_eq_false h1]; simp)
          simp -implicitDefEqProofs only [lk_normal, l1In_F, hkl, hV, h1, h2, hkk, and_self, decide_true, decide_false, bq1, bq2, ZB, Int.reduceToNat, Nat.reduceLT, Nat.reduceLeDiff, Int.reduceLE, Int.reduceLT, Nat.reduceEqDiff, Nat.reduceSub, SB, SV.known, packR, ne_eq, reduceCtorEq, Nat.reduceEqDiff, ↓reduceIte, if_true, if_false, eq_self, Nat.reduceAdd, Nat.reduceMul, Nat.reduceSub, forall_const, oneCellS, Kd.isSca, flat, TYB]
          (try (and_intros <;> try (first | omega | (unfold In64; omega) | trivial | assumption)))
      · have hkk := fin k hlt (by unfold vk in04; rw [decide_eq_false h2]; simp)
        simp -implicitDefEqProofs only [lk_normal, l1In_F, hkl, hV, h2, hkk, and_self, decide_true, decide_false, bq1, bq2, ZB, Int.reduceToNat, Nat.reduceLT, Nat.reduceLeDiff, Int.reduceLE, Int.reduceLT, Nat.reduceEqDiff, Nat.reduceSub, SB, SV.known, packR, ne_eq, reduceCtorEq, Nat.reduceEqDiff, ↓reduceIte, if_true, if_false, eq_self, Nat.reduceAdd, Nat.reduceMul, Nat.reduceSub, forall_const, oneCellS, Kd.isSca, flat, TYB]
        (try (and_intros <;> try (first | omega | (unfold In64; omega) | trivial | assumption)))
    · have hkl : ¬ (k : Int) < 6 := by omega
      obtain rfl : k = 6 := by omega
      have hok := vok_of hv
      obtain ⟨u1, u2, u3⟩ := vok_spec hok
      have eH : hidL (V.take 6) (V.drop 12) 6 = hidV V := rfl
      have hF : gdVF V = (decide (V.getD 12 0 = 0) && ((hidV V).drop 1).all in024 && decide (((hidV V).drop 1).sum = hmL (V.drop 6) 6)) := by
        unfold gdVF; rw [hok]; rfl
      rw [hF]
      simp -implicitDefEqProofs only [lk_normal, l7Hidden_F, hkl, hV, tkV, lenH, tkH, u1, u2, u3, eH, ZB, Int.reduceToNat, Nat.reduceLT, Nat.reduceLeDiff, Int.reduceLE, Int.reduceLT, Nat.reduceEqDiff, Nat.reduceSub, SB, SV.known, packR, ne_eq, reduceCtorEq, Nat.reduceEqDiff, ↓reduceIte, if_true, if_false, eq_self, Nat.reduceAdd, Nat.reduceMul, Nat.reduceSub, forall_const, oneCellS, Kd.isSca, flat, TYB]
      have hmb := hmL_bd (M := V.drop 6) (fun k hk => by have := u2 k hk; simpa [List.getD] using this) 6 (Nat.le_refl _)
      generalize hmL (V.drop 6) 6 = hm at *
      have lenD : ((hidV V).drop 1).length = 5 := by rw [List.length_drop]; omega
      have gD : ∀ k, ((hidV V).drop 1).getD k 0 = (hidV V).getD (k + 1) 0 := fun k => by simp [List.getD, Nat.add_comm]
      generalize hD : (hidV V).drop 1 = D at *
      refine loop_intro (fun k : Nat => [(7, .int ((k : Int) + 1)), (6, .int (D.take k).sum), (4, .int hm), (5, .ptr 1 0), (1, .ptr 0 0)]) (fun k => [(1, .ints (hidV V) 39), (0, .ints V 44)]) 2 (fun k => k ≤ 5 ∧ (D.take k).all in024 = true) (fun k => 6 - k) ?_ ?_
      · refine ⟨0, ?_, Sub.mk_id ?_ ?_ ?_ ?_ ?_⟩
        all_goals (try (simp only [List.take_zero, List.sum_nil, LB, subS, subH, wfS, wfH, SV.ren, renL, SObj.ren, SV.wf, SObj.wf, wfL, SV.known, Nat.reduceEqDiff, ↓reduceIte, if_true, if_false, eq_self, Nat.reduceAdd, Nat.reduceLT, Nat.reduceLeDiff, implies_true, reduceCtorEq, forall_const]; done))
        all_goals (try (simp only [List.take_zero, List.sum_nil, LB, subS, subH, wfS, wfH, SV.ren, renL, SObj.ren, SV.wf, SObj.wf, wfL, SV.known, Nat.reduceEqDiff, ↓reduceIte, if_true, if_false, eq_self, Nat.reduceAdd, Nat.reduceLT, Nat.reduceLeDiff, implies_true, reduceCtorEq, forall_const]; simp; done))
        all_goals (try (simp only [List.take_zero, List.sum_nil, LB, subS, subH, wfS, wfH, SV.ren, renL, SObj.ren, SV.wf, SObj.wf, wfL, SV.known, Nat.reduceEqDiff, ↓reduceIte, if_true, if_false, eq_self, Nat.reduceAdd, Nat.reduceLT, Nat.reduceLeDiff, implies_true, reduceCtorEq, forall_const]; (and_intros <;> (first | omega | rfl | (simp; done) | (simp; omega))); done))
        all_goals (try dsimp only)
        all_goals (and_intros <;> try (first | omega | (unfold In64; omega) | trivial | assumption))
        all_goals simp
      · rintro k ⟨hk, hA⟩
        have hb1 := sum_bd _ (all_bd hA in024_bd)
        have hl1 : (D.take k).length = k := by rw [List.length_take]; omega
        rw [hl1] at hb1
        by_cases hlt : k < 5
        · have hkl : (k : Int) + 1 ≤ 5 := by omega
          have tn : ((k : Int) + 1).toNat = k + 1 := by omega
          have k0 : 0 ≤ (k : Int) + 1 := by omega
          have k6 : (k : Int) + 1 < 6 := by omega
          have es : (D.take (k + 1)).sum = (D.take k).sum + D.getD k 0 := by
            rw [List.take_succ_eq_append_getElem (by omega), List.sum_append]
            simp [List.getD, List.getElem?_eq_getElem (show k < D.length by omega)]
          have ea := all_take_succ in024 D k (by omega)
          rw [hA, Bool.true_and] at ea
          by_cases h1 : 0 ≤ D.getD k 0 ∧ D.getD k 0 ≤ 24
          · have e1 : in024 (D.getD k 0) = true := decide_eq_true h1
            rw [e1] at ea
            simp -implicitDefEqProofs only [lk_normal, l1In_F, hkl, hV, lenH, tn, k0, k6, ← gD, h1, and_self, decide_true, ZB, Int.reduceToNat, Nat.reduceLT, Nat.reduceLeDiff, Int.reduceLE, Int.reduceLT, Nat.reduceEqDiff, Nat.reduceSub, SB, SV.known, packR, ne_eq, reduceCtorEq, Nat.reduceEqDiff, ↓reduceIte, if_true, if_false, eq_self, Nat.reduceAdd, Nat.reduceMul, Nat.reduceSub, forall_const, oneCellS, Kd.isSca, flat, TYB]
            (try (and_intros <;> try (first | omega | (unfold In64; omega) | trivial | assumption)))
            refine ⟨k + 1, ?_, ?_, Sub.mk_id ?_ ?_ ?_ ?_ ?_⟩
            all_goals (try (simp only [es, LB, subS, subH, wfS, wfH, SV.ren, renL, SObj.ren, SV.wf, SObj.wf, wfL, SV.known, Nat.reduceEqDiff, ↓reduceIte, if_true, if_false, eq_self, Nat.reduceAdd, Nat.reduceLT, Nat.reduceLeDiff, implies_true, reduceCtorEq, forall_const]; done))
            all_goals (try (simp only [es, LB, subS, subH, wfS, wfH, SV.ren, renL, SObj.ren, SV.wf, SObj.wf, wfL, SV.known, Nat.reduceEqDiff, ↓reduceIte, if_true, if_false, eq_self, Nat.reduceAdd, Nat.reduceLT, Nat.reduceLeDiff, implies_true, reduceCtorEq, forall_const]; simp; done))
            all_goals (try (simp only [es, LB, subS, subH, wfS, wfH, SV.ren, renL, SObj.ren, SV.wf, SObj.wf, wfL, SV.known, Nat.reduceEqDiff, ↓reduceIte, if_true, if_false, eq_self, Nat.reduceAdd, Nat.reduceLT, Nat.reduceLeDiff, implies_true, reduceCtorEq, forall_const]; (and_intros <;> (first | omega | rfl | (simp; done) | (simp; omega))); done))
            all_goals (try dsimp only)
            all_goals (and_intros <;> try (first | omega | (unfold In64; omega) | trivial | assumption))
          · have e1 : in024 (D.getD k 0) = false := decide_eq_false h1
            have ef : D.all in024 = false := by
              rw [List.all_eq_false]
              exact ⟨D.getD k 0, by rw [List.getD_eq_getElem?_getD, List.getElem?_eq_getElem (show k < D.length by omega)]; exact List.getElem_mem _, by rw [e1]; simp⟩
            simp -implicitDefEqProofs only [lk_normal, l1In_F, hkl, hV, lenH, tn, k0, k6, ← gD, h1, ef, and_self, decide_true, decide_false, ZB, Int.reduceToNat, Nat.reduceLT, Nat.reduceLeDiff, Int.reduceLE, Int.reduceLT, Nat.reduceEqDiff, Nat.reduceSub, SB, SV.known, packR, ne_eq, reduceCtorEq, Nat.reduceEqDiff, ↓reduceIte, if_true, if_false, eq_self, Nat.reduceAdd, Nat.reduceMul, Nat.reduceSub, forall_const, oneCellS, Kd.isSca, flat, TYB]
            (try (and_intros <;> try (first | omega | (unfold In64; omega) | trivial | assumption)))
            all_goals simp
        · have hkl : ¬ (k : Int) + 1 ≤ 5 := by omega
          obtain rfl : k = 5 := by omega
          have tD : D.take 5 = D := List.take_of_length_le (by omega)
          have hkl : ¬ (5 : Int) + 1 ≤ 5 := by omega
          rw [tD] at hA ⊢
          by_cases z0 : V.getD 12 0 = 0
          · simp -implicitDefEqProofs only [lk_normal, hkl, hV, z0, hA, decide_true, ZB, Int.reduceToNat, Nat.reduceLT, Nat.reduceLeDiff, Int.reduceLE, Int.reduceLT, Nat.reduceEqDiff, Nat.reduceSub, SB, SV.known, packR, ne_eq, reduceCtorEq, Nat.reduceEqDiff, ↓reduceIte, if_true, if_false, eq_self, Nat.reduceAdd, Nat.reduceMul, Nat.reduceSub, forall_const, oneCellS, Kd.isSca, flat, TYB]
          · simp -implicitDefEqProofs only [lk_normal, hkl, hV, z0, hA, decide_false, ZB, Int.reduceToNat, Nat.reduceLT, Nat.reduceLeDiff, Int.reduceLE, Int.reduceLT, Nat.reduceEqDiff, Nat.reduceSub, SB, SV.known, packR, ne_eq, reduceCtorEq, Nat.reduceEqDiff, ↓reduceIte, if_true, if_false, eq_self, Nat.reduceAdd, Nat.reduceMul, Nat.reduceSub, forall_const, oneCellS, Kd.isSca, flat, TYB]
def IsView_F : List SV → Heap → Option (Prop × SV)
  | [.arr V], _ => some (V.length = 18, .bool (isVF V))
  | _, _ => none
theorem IsView_T : ∀ args H p v, IsView_F args H = some (p, v) → p → PureH Try.prog 63 args H v := by
  intro args H p v h hp
  unfold IsView_F at h
  split at h
  · cases h; exact (IsView_ok _ hp).any _
  · cases h
/-! Both mean the same. -/
def I64 (V : List Int) : Prop := ∀ x ∈ V, In64 x
def tau (V : List Int) (c k : Nat) : Int := ((List.range k).map fun q => is1 ((V.take 6).getD q 0) (c : Int)).sum
theorem tau_bd (V : List Int) (c : Nat) : ∀ k, 0 ≤ tau V c k ∧ tau V c k ≤ k
  | 0 => by simp [tau]
  | k + 1 => by
    have := tau_bd V c k
    have hb := is1_bd ((V.take 6).getD k 0) (c : Int)
    unfold tau at *
    rw [List.range_succ, List.map_append, List.sum_append]
    simp only [List.map_cons, List.map_nil, List.sum_cons, List.sum_nil]
    omega
theorem tau_succ (V : List Int) (c k : Nat) : tau V c (k + 1) = tau V c k + is1 ((V.take 6).getD k 0) (c : Int) := by
  unfold tau
  rw [List.range_succ, List.map_append, List.sum_append]
  simp only [List.map_cons, List.map_nil, List.sum_cons, List.sum_nil]
  omega
theorem hid_cases {V : List Int} (hV : V.length = 18) (h64 : ∀ x ∈ V, In64 x) (hT : vTop V) {c : Nat} (hc : 1 ≤ c) (hc6 : c < 6) : ∀ k, k ≤ 6 → In64 ((hidL (V.take 6) (V.drop 12) k).getD c 0) ∧
    ((hidL (V.take 6) (V.drop 12) k).getD c 0 = (V.drop 12).getD c 0 - tau V c k ∨ (9223372036854775807 - (k : Int) ≤ (hidL (V.take 6) (V.drop 12) k).getD c 0 ∧ (V.drop 12).getD c 0 ≤ -9223372036854775808 + (k : Int)))
  | 0, _ => by
    have hx : In64 ((V.drop 12).getD c 0) := by
      have : (V.drop 12).getD c 0 ∈ V := by
        have h1 : c < (V.drop 12).length := by rw [List.length_drop]; omega
        rw [List.getD_eq_getElem?_getD, List.getElem?_eq_getElem h1]
        exact List.mem_of_mem_drop (List.getElem_mem h1)
      exact h64 _ this
    refine ⟨hx, .inl ?_⟩
    simp [tau, hidL]
  | k + 1, hk => by
    obtain ⟨h1, h2⟩ := hid_cases hV h64 hT hc hc6 k (by omega)
    have hl : (hidL (V.take 6) (V.drop 12) k).length = 6 := by rw [hidL_len, List.length_drop]; omega
    have ht := hT k (by omega)
    have ge := take6_get V k (by omega)
    rw [tau_succ, ge]
    unfold hidL
    rw [ge]
    split
    · rename_i hp
      by_cases hcc : (V.getD k 0).toNat = c
      · have e1 : is1 (V.getD k 0) (c : Int) = 1 := by unfold is1; rw [if_pos (by omega)]
        rw [e1, hcc, getD_set_eq _ _ _ (by omega)]
        by_cases hm : (hidL (V.take 6) (V.drop 12) k).getD c 0 = -9223372036854775808
        · have ew : wr ((hidL (V.take 6) (V.drop 12) k).getD c 0 - 1) = 9223372036854775807 := by rw [hm]; rfl
          rw [ew]
          have hb := tau_bd V c k
          refine ⟨by unfold In64; omega, .inr ?_⟩
          rcases h2 with h2 | h2 <;> omega
        · have ew : wr ((hidL (V.take 6) (V.drop 12) k).getD c 0 - 1) = (hidL (V.take 6) (V.drop 12) k).getD c 0 - 1 := wr_in (by unfold In64 at *; omega)
          rw [ew]
          refine ⟨by unfold In64 at *; omega, ?_⟩
          rcases h2 with h2 | h2
          · exact .inl (by omega)
          · exact .inr (by omega)
      · have e1 : is1 (V.getD k 0) (c : Int) = 0 := by unfold is1; rw [if_neg (by omega)]
        rw [e1, getD_set_ne _ _ _ _ hcc]
        refine ⟨h1, ?_⟩
        rcases h2 with h2 | h2
        · exact .inl (by omega)
        · exact .inr (by omega)
    · rename_i hp
      have e1 : is1 (V.getD k 0) (c : Int) = 0 := by unfold is1; rw [if_neg (by omega)]
      rw [e1]
      refine ⟨h1, ?_⟩
      rcases h2 with h2 | h2
      · exact .inl (by omega)
      · exact .inr (by omega)
theorem sum_six {l : List Int} (h : l.length = 6) : l.sum = l.getD 0 0 + l.getD 1 0 + l.getD 2 0 + l.getD 3 0 + l.getD 4 0 + l.getD 5 0 := by
  match l, h with
  | [a, b, c, d, e, f], _ => simp; omega
theorem sum_five {l : List Int} (h : l.length = 6) : (l.drop 1).sum = l.getD 1 0 + l.getD 2 0 + l.getD 3 0 + l.getD 4 0 + l.getD 5 0 := by
  match l, h with
  | [a, b, c, d, e, f], _ => simp; omega
theorem all_six {l : List Int} (h : l.length = 6) (pr : Int → Bool) : l.all pr = true ↔ ∀ k, k < 6 → pr (l.getD k 0) = true := by
  match l, h with
  | [a, b, c, d, e, f], _ =>
    simp only [List.all_cons, List.all_nil, Bool.and_true, Bool.and_eq_true]
    constructor
    · rintro ⟨h0, h1, h2, h3, h4, h5⟩ k hk
      rcases (show k = 0 ∨ k = 1 ∨ k = 2 ∨ k = 3 ∨ k = 4 ∨ k = 5 by omega) with rfl | rfl | rfl | rfl | rfl | rfl <;> assumption
    · intro g
      exact ⟨g 0 (by omega), g 1 (by omega), g 2 (by omega), g 3 (by omega), g 4 (by omega), g 5 (by omega)⟩
theorem all_five {l : List Int} (h : l.length = 6) (pr : Int → Bool) : (l.drop 1).all pr = true ↔ ∀ k, 1 ≤ k → k < 6 → pr (l.getD k 0) = true := by
  match l, h with
  | [a, b, c, d, e, f], _ =>
    simp only [List.drop_succ_cons, List.drop_zero, List.all_cons, List.all_nil, Bool.and_true, Bool.and_eq_true]
    constructor
    · rintro ⟨h1, h2, h3, h4, h5⟩ k hk hk6
      rcases (show k = 1 ∨ k = 2 ∨ k = 3 ∨ k = 4 ∨ k = 5 by omega) with rfl | rfl | rfl | rfl | rfl <;> assumption
    · intro g
      exact ⟨g 1 (by omega) (by omega), g 2 (by omega) (by omega), g 3 (by omega) (by omega), g 4 (by omega) (by omega), g 5 (by omega) (by omega)⟩
theorem hm_tau {V : List Int} (hT : vTop V) (hTM : vTM V) (hM : vMan V) : ∀ k, k ≤ 6 → hmL (V.drop 6) k + (tau V 1 k + tau V 2 k + tau V 3 k + tau V 4 k + tau V 5 k) = (((V.drop 6).take k)).sum
  | 0, _ => by simp [hmL, tau]
  | k + 1, hk => by
    have ih := hm_tau hT hTM hM k (by omega)
    have ht := hT k (by omega)
    have htm := hTM k (by omega)
    have hm := hM k (by omega)
    have gM : (V.drop 6).getD k 0 = V.getD (6 + k) 0 := by simp [List.getD]
    have ge := take6_get V k (by omega)
    have h5 : is1 (V.getD k 0) ((1 : Nat) : Int) + is1 (V.getD k 0) ((2 : Nat) : Int) + is1 (V.getD k 0) ((3 : Nat) : Int) + is1 (V.getD k 0) ((4 : Nat) : Int) + is1 (V.getD k 0) ((5 : Nat) : Int) = if V.getD k 0 = 0 then 0 else 1 := is1_sum ht
    rw [tau_succ, tau_succ, tau_succ, tau_succ, tau_succ, ge]
    have es : ((V.drop 6).take (k + 1)).sum = ((V.drop 6).take k).sum + V.getD (6 + k) 0 := by
      by_cases hlen : k < (V.drop 6).length
      · rw [List.take_succ_eq_append_getElem hlen, List.sum_append]
        rw [← gM]
        simp [List.getD, List.getElem?_eq_getElem hlen]
      · have : V.getD (6 + k) 0 = 0 := by
          rw [← gM, List.getD_eq_getElem?_getD, List.getElem?_eq_none (by omega)]; rfl
        rw [this, List.take_of_length_le (by omega), List.take_of_length_le (by omega)]; omega
    rw [es, hmL, gM]
    split
    · rename_i hp
      rw [if_neg (by omega)] at h5
      omega
    · rename_i hp
      rw [if_pos (by omega)] at h5
      omega
theorem good_view {V : List Int} (hV : V.length = 18) (h64 : ∀ x ∈ V, In64 x) : gdVF V = isVF V := by
  unfold gdVF isVF
  cases hv : vok V
  · rfl
  · obtain ⟨u1, u2, u3⟩ := vok_spec hv
    by_cases z0 : V.getD 12 0 = 0
    · have lenC : (V.drop 12).length = 6 := by rw [List.length_drop]; omega
      have lenH : (hidV V).length = 6 := by unfold hidV; rw [hidL_len]; exact lenC
      have c0 : (V.drop 12).getD 0 0 = 0 := by rw [show (V.drop 12).getD 0 0 = V.getD 12 0 by simp [List.getD]]; exact z0
      have h0 : (hidV V).getD 0 0 = 0 := by unfold hidV; rw [hidL_zero _ _ (by omega), c0]
      have hc := fun c h1 h2 => hid_cases hV h64 u1 (c := c) h1 h2 6 (Nat.le_refl _)
      have ht := hm_tau u1 u3 u2 6 (Nat.le_refl _)
      have t := fun c => tau_bd V c 6
      have sM : 0 ≤ ((V.drop 6).take 6).sum ∧ ((V.drop 6).take 6).sum ≤ 24 := by
        have lenM : ((V.drop 6).take 6).length = 6 := by rw [List.length_take, List.length_drop]; omega
        have gM : ∀ k, k < 6 → ((V.drop 6).take 6).getD k 0 = V.getD (6 + k) 0 := fun k hk => by simp [List.getD, List.getElem?_take, hk]
        rw [sum_six lenM, gM 0 (by omega), gM 1 (by omega), gM 2 (by omega), gM 3 (by omega), gM 4 (by omega), gM 5 (by omega)]
        have := u2 0 (by omega); have := u2 1 (by omega); have := u2 2 (by omega); have := u2 3 (by omega); have := u2 4 (by omega); have := u2 5 (by omega)
        omega
      simp only [z0, decide_true, Bool.true_and]
      rw [Bool.eq_iff_iff, Bool.and_eq_true, Bool.and_eq_true, Bool.and_eq_true, decide_eq_true_eq, decide_eq_true_eq, all_five lenH, all_six lenC, all_six lenH, sum_five lenH, sum_six lenC, c0]
      have hh : ∀ c, (hidL (V.take 6) (V.drop 12) 6).getD c 0 = (hidV V).getD c 0 := fun c => rfl
      simp only [hh] at hc
      generalize hidV V = H at *
      generalize V.drop 12 = C at *
      generalize ((V.drop 6).take 6).sum = sm at *
      generalize hmL (V.drop 6) 6 = hm at *
      have t1 := t 1; have t2 := t 2; have t3 := t 3; have t4 := t 4; have t5 := t 5
      have c1 := hc 1 (by omega) (by omega); have c2 := hc 2 (by omega) (by omega); have c3 := hc 3 (by omega) (by omega); have c4 := hc 4 (by omega) (by omega); have c5 := hc 5 (by omega) (by omega)
      clear hc t
      unfold In64 at *
      constructor
      · rintro ⟨g, e⟩
        have g1 := in024_bd _ (g 1 (by omega) (by omega)); have g2 := in024_bd _ (g 2 (by omega) (by omega)); have g3 := in024_bd _ (g 3 (by omega) (by omega)); have g4 := in024_bd _ (g 4 (by omega) (by omega)); have g5 := in024_bd _ (g 5 (by omega) (by omega))
        refine ⟨⟨fun k hk => ?_, fun k hk => ?_⟩, by omega⟩
        · refine decide_eq_true ?_
          rcases (show k = 0 ∨ k = 1 ∨ k = 2 ∨ k = 3 ∨ k = 4 ∨ k = 5 by omega) with rfl | rfl | rfl | rfl | rfl | rfl <;> omega
        · refine decide_eq_true ?_
          rcases (show k = 0 ∨ k = 1 ∨ k = 2 ∨ k = 3 ∨ k = 4 ∨ k = 5 by omega) with rfl | rfl | rfl | rfl | rfl | rfl <;> omega
      · rintro ⟨⟨gc, gh⟩, e⟩
        have g1 := in024_bd _ (gc 1 (by omega)); have g2 := in024_bd _ (gc 2 (by omega)); have g3 := in024_bd _ (gc 3 (by omega)); have g4 := in024_bd _ (gc 4 (by omega)); have g5 := in024_bd _ (gc 5 (by omega))
        have nb : ∀ x, nn x = true → 0 ≤ x := fun x h => of_decide_eq_true h
        have n1 := nb _ (gh 1 (by omega)); have n2 := nb _ (gh 2 (by omega)); have n3 := nb _ (gh 3 (by omega)); have n4 := nb _ (gh 4 (by omega)); have n5 := nb _ (gh 5 (by omega))
        refine ⟨fun k h1 hk => decide_eq_true ?_, ?_⟩
        · rcases (show k = 1 ∨ k = 2 ∨ k = 3 ∨ k = 4 ∨ k = 5 by omega) with rfl | rfl | rfl | rfl | rfl <;> omega
        · omega
    · simp only [z0, decide_false, Bool.and_false, Bool.false_and]
end Go.Proofs.Ytfdpeenamkpcbaa
