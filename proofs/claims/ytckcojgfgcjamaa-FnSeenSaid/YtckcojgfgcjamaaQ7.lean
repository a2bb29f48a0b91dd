/- Texts of this claim, joined (CerP, Vw1, Vw2, Mn0, Mn1, Mn2, Mn3, Mn4, Mn5, UPours, FP1, FP0, FP2). -/
import Derived.Test.YtckcojgfgcjamaaQ1
import Derived.Test.YtckcojgfgcjamaaQ2
import Derived.Test.YtckcojgfgcjamaaQ3
import Derived.Test.YtckcojgfgcjamaaQ4
import Derived.Test.YtckcojgfgcjamaaQ5
import Derived.Test.YtckcojgfgcjamaaQ6
set_option maxRecDepth 100000
set_option linter.unusedSimpArgs false
set_option linter.unusedVariables false
namespace Go.Proofs.Ytckcojgfgcjamaa
open Go Go.RowKit
def isCertain_F : List SV → Heap → Option (Prop × SV)
  | [.arr V, .int x, .int y], _ => some (vG V ∧ (0 ≤ x ∧ x < 6) ∧ (0 ≤ y ∧ y < 6) ∧ V.getD (6 + y.toNat) 0 < 4, .bool (certB V x.toNat y.toNat))
  | _, _ => none
theorem isCertain_T : ∀ args H p v, isCertain_F args H = some (p, v) → p → PureH Try.prog 86 args H v := by
  intro args H p v h hp
  unfold isCertain_F at h
  split at h
  · cases h; exact (isCertain_okI _ _ _ hp.1 hp.2.1 hp.2.2.1 hp.2.2.2).any _
  · cases h
def l7Top_F : List SV → Heap → Option (Prop × SV)
  | [.arr V, .int x, .int r], _ => some (vG V ∧ (0 ≤ x ∧ x < 6) ∧ (1 ≤ r ∧ r ≤ 4), .arr (ltF (al V) (sa V x.toNat) (mm V x.toNat) r.toNat))
  | _, _ => none
theorem l7Top_T : ∀ args H p v, l7Top_F args H = some (p, v) → p → PureH Try.prog 77 args H v := by
  intro args H p v h hp
  unfold l7Top_F at h
  split at h
  · cases h; exact (l7Top_okI _ _ _ hp.1 hp.2.1 hp.2.2).any _
  · cases h
theorem vG_of {V : List Int} (hV : V.length = 18) (h64 : I64 V) (h : isVF V = true) : vG V := by
  obtain ⟨u1, u2, u3, z0, bC, lenH, h0, bH, hs, h18⟩ := isV_facts hV h64 h
  exact ⟨hV, u1, u2, u3, lenH, bH, hs, h18⟩
theorem wy_pos {same : Int} (h : 0 ≤ same) : ∀ k : Nat, 0 < wyF same k ↔ (k : Int) ≤ same
  | 0 => by simp [wyF, h]
  | k + 1 => by
    have ih := wy_pos h k
    constructor
    · intro h1
      have h2 : 0 < max (same - (k : Int)) 0 := by
        rcases Int.lt_or_eq_of_le (show 0 ≤ max (same - (k : Int)) 0 by omega) with h2 | h2
        · exact h2
        · unfold wyF at h1; rw [← h2, Int.mul_zero] at h1; omega
      omega
    · intro h1
      exact Int.mul_pos (ih.2 (by omega)) (by omega)
theorem tv_sign {V : List Int} (g : vG V) {i r : Nat} (hi : i < 6) (hr : 1 ≤ r) (hrm : r ≤ mm V i) : 0 < (ltF (al V) (sa V i) (mm V i) r).getD 0 0 ↔ tv V i r ≠ 0 := by
  have sm := vsm_of g hi
  have ha := sm.a
  have hb := sm.b
  have hc := sm.c
  have hd := sm.d
  unfold tv
  generalize al V = all at *
  generalize sa V i = same at *
  generalize mm V i = m at *
  obtain ⟨g0, g1, g2, g3, g4, g5⟩ := ltK_bd (all := all) (same := same) (by omega) (by omega) (r - 1) (by omega)
  have wb := wyF_bd (same := same) (by omega) (r - 1)
  have wp := wy_pos hb.1 (r - 1)
  have r1 : (((r - 1 : Nat) : Int)) = (r : Int) - 1 := by omega
  rw [r1] at wp
  unfold ltF toVal
  rw [if_neg (by omega), if_neg (show ¬ r = 0 by omega)]
  by_cases hlt : r < m
  · rw [if_pos hlt, if_pos hlt]
    obtain ⟨c1, c2⟩ := chP_bd (b := r) (all := all) (by omega) (m - 1 - r) (by omega)
    have f0 : 0 ≤ all - ((r : Int) - 1) - max (same - ((r : Int) - 1)) 0 := by omega
    have fa : 0 < all - ((r : Int) - 1) := by omega
    rw [fracF_sign (Int.mul_nonneg g1 f0) (Int.mul_pos g3 fa)]
    constructor
    · intro h h0
      have hn : 0 < (ltK all same (r - 1)).getD 0 0 := by
        rcases Int.lt_or_eq_of_le g1 with h2 | h2
        · exact h2
        · rw [← h2, Int.zero_mul] at h; omega
      have hf : 0 < all - ((r : Int) - 1) - max (same - ((r : Int) - 1)) 0 := by
        rcases Int.lt_or_eq_of_le f0 with h2 | h2
        · exact h2
        · rw [← h2, Int.mul_zero] at h; omega
      have hw := g5.1 hn
      have hs := wp.1 hw
      have := Int.mul_pos (Int.mul_pos hw (show 0 < all - ((r : Int) - 1) - (same - ((r : Int) - 1)) by omega)) (show 0 < chP all r (m - 1 - r) by omega)
      omega
    · intro h
      have hw : 0 < wyF same (r - 1) := by
        rcases Int.lt_or_eq_of_le wb.1 with h2 | h2
        · exact h2
        · exact absurd (by rw [← h2, Int.zero_mul, Int.zero_mul]) h
      have hs := wp.1 hw
      have hf : all - ((r : Int) - 1) - (same - ((r : Int) - 1)) ≠ 0 := fun h2 => h (by rw [h2, Int.mul_zero, Int.zero_mul])
      exact Int.mul_pos (g5.2 hw) (by omega)
  · rw [if_neg hlt, if_neg hlt, if_pos (by omega), g5, show m - 1 = r - 1 by omega]
    omega
theorem tv_some {V : List Int} (g : vG V) {i : Nat} (hi : i < 6) (hm : 1 ≤ mm V i) : ∃ r, 1 ≤ r ∧ r ≤ mm V i ∧ tv V i r ≠ 0 := by
  have sm := vsm_of g hi
  have ha := sm.a
  have hb := sm.b
  have hc := sm.c
  have hd := sm.d
  unfold tv
  generalize al V = all at *
  generalize sa V i = same at *
  generalize mm V i = m at *
  by_cases h : same = all
  · refine ⟨m, hm, Nat.le_refl _, ?_⟩
    unfold toVal
    rw [if_neg (by omega), if_neg (by omega), if_pos rfl]
    have := (wy_pos hb.1 (m - 1)).2 (by omega)
    omega
  · by_cases h1 : m = 1
    · refine ⟨1, by omega, by omega, ?_⟩
      unfold toVal
      rw [if_neg (by omega), if_neg (by omega), if_pos (by omega), h1]
      simp [wyF]
    · refine ⟨1, by omega, by omega, ?_⟩
      unfold toVal
      rw [if_neg (by omega), if_pos (by omega)]
      obtain ⟨c1, c2⟩ := chP_bd (b := 1) (all := all) (by omega) (m - 1 - 1) (by omega)
      have := Int.mul_pos (Int.mul_pos (show 0 < wyF same (1 - 1) by simp [wyF]) (show 0 < all - (((1 : Nat) : Int) - 1) - (same - (((1 : Nat) : Int) - 1)) by omega)) (show 0 < chP all 1 (m - 1 - 1) by omega)
      omega
theorem tv_out {V : List Int} {i r : Nat} (h : mm V i < r) : tv V i r = 0 := by
  unfold tv toVal
  rw [if_neg (by omega), if_neg (by omega), if_neg (by omega)]
def lsA (V : List Int) (i j : Nat) : Nat → Int
  | 0 => 4
  | q + 1 => if tv V i (q + 1) = 0 then lsA V i j q else min (lsA V i j q) (mvW V j (q + 1))
def msA (V : List Int) (i j : Nat) : Nat → Int
  | 0 => 0
  | q + 1 => if tv V i (q + 1) = 0 then msA V i j q else max (msA V i j q) (mvW V j (q + 1))
theorem ls_spec {V : List Int} {i j : Nat} (hj : V.getD (6 + j) 0 < 4) (h0 : 0 ≤ V.getD (6 + j) 0) : ∀ q, q ≤ 4 → (∀ r, 1 ≤ r → r ≤ q → tv V i r ≠ 0 → lsA V i j q ≤ mvW V j r ∧ mvW V j r ≤ msA V i j q) ∧
    (((∀ r, 1 ≤ r → r ≤ q → tv V i r = 0) ∧ lsA V i j q = 4 ∧ msA V i j q = 0) ∨ ((∃ r, 1 ≤ r ∧ r ≤ q ∧ tv V i r ≠ 0 ∧ mvW V j r = lsA V i j q) ∧ (∃ r, 1 ≤ r ∧ r ≤ q ∧ tv V i r ≠ 0 ∧ mvW V j r = msA V i j q)))
  | 0, _ => ⟨fun r h1 h2 => by omega, .inl ⟨fun r h1 h2 => by omega, rfl, rfl⟩⟩
  | q + 1, hq => by
    obtain ⟨ih1, ih2⟩ := ls_spec (i := i) hj h0 q (by omega)
    by_cases hz : tv V i (q + 1) = 0
    · have e1 : lsA V i j (q + 1) = lsA V i j q := by rw [lsA, if_pos hz]
      have e2 : msA V i j (q + 1) = msA V i j q := by rw [msA, if_pos hz]
      rw [e1, e2]
      refine ⟨fun r h1 h2 h3 => ?_, ?_⟩
      · by_cases hrq : r = q + 1
        · rw [hrq] at h3; exact absurd hz h3
        · exact ih1 r h1 (by omega) h3
      · rcases ih2 with ⟨a, b⟩ | ⟨⟨r, a1, a2, a3, a4⟩, ⟨s, b1, b2, b3, b4⟩⟩
        · refine .inl ⟨fun r h1 h2 => ?_, b⟩
          by_cases hrq : r = q + 1
          · rw [hrq]; exact hz
          · exact a r h1 (by omega)
        · exact .inr ⟨⟨r, a1, by omega, a3, a4⟩, ⟨s, b1, by omega, b3, b4⟩⟩
    · have e1 : lsA V i j (q + 1) = min (lsA V i j q) (mvW V j (q + 1)) := by rw [lsA, if_neg hz]
      have e2 : msA V i j (q + 1) = max (msA V i j q) (mvW V j (q + 1)) := by rw [msA, if_neg hz]
      have hm := mvW_pos hj (show 1 ≤ q + 1 by omega) (by omega) h0
      rw [e1, e2]
      refine ⟨fun r h1 h2 h3 => ?_, .inr ⟨?_, ?_⟩⟩
      · by_cases hrq : r = q + 1
        · rw [hrq]; omega
        · have := ih1 r h1 (by omega) h3
          omega
      · rcases ih2 with ⟨a, b⟩ | ⟨⟨r, a1, a2, a3, a4⟩, _⟩
        · exact ⟨q + 1, by omega, by omega, hz, by omega⟩
        · by_cases hle : lsA V i j q ≤ mvW V j (q + 1)
          · exact ⟨r, a1, by omega, a3, by omega⟩
          · exact ⟨q + 1, by omega, by omega, hz, by omega⟩
      · rcases ih2 with ⟨a, b⟩ | ⟨_, ⟨r, a1, a2, a3, a4⟩⟩
        · exact ⟨q + 1, by omega, by omega, hz, by omega⟩
        · by_cases hle : msA V i j q ≤ mvW V j (q + 1)
          · exact ⟨q + 1, by omega, by omega, hz, by omega⟩
          · exact ⟨r, a1, by omega, a3, by omega⟩
theorem ls_cert {V : List Int} (g : vG V) {i j : Nat} (hi : i < 6) (hm : 1 ≤ mm V i) (hj : V.getD (6 + j) 0 < 4) (h0 : 0 ≤ V.getD (6 + j) 0) : decide (lsA V i j (mm V i) = msA V i j (mm V i)) = certB V i j := by
  have hc := (vsm_of g hi).c
  obtain ⟨h1, h2⟩ := ls_spec (i := i) hj h0 (mm V i) hc
  obtain ⟨r0, a1, a2, a3⟩ := tv_some g hi hm
  have pos : ∀ r, r < 5 → tv V i r ≠ 0 → 1 ≤ r ∧ r ≤ mm V i := fun r hr hz => by
    constructor
    · rcases Nat.eq_zero_or_pos r with rfl | h
      · exact absurd (tv_zero V i) hz
      · exact h
    · by_cases h : r ≤ mm V i
      · exact h
      · exact absurd (tv_out (by omega)) hz
  rw [Bool.eq_iff_iff, decide_eq_true_eq, certB_iff]
  constructor
  · intro h r s hr hs hz hz2
    have p1 := pos r hr hz
    have p2 := pos s hs hz2
    have := h1 r p1.1 p1.2 hz
    have := h1 s p2.1 p2.2 hz2
    omega
  · intro h
    rcases h2 with ⟨a, _⟩ | ⟨⟨r, b1, b2, b3, b4⟩, ⟨s, c1, c2, c3, c4⟩⟩
    · exact absurd (a r0 a1 a2) a3
    · rw [← b4, ← c4]; exact h r s (by omega) (by omega) b3 c3
def cpB (V : List Int) (i j : Nat) : Bool := vcan V i j && certB V i j
def cpL (V : List Int) : List Int := if isVF V = true then GL (cpB V) 36 else []
--@tbl CertainPours = impl.CertainPours
--@tbl sCertainPours = spec.CertainPours
theorem CertainPours_ok (V : List Int) (hV : V.length = 18) (h64 : I64 V) : FreshP Try.prog 35 [.arr V] [] (cpL V) ((cpL V).length / 2) 2 47 true (.more [.bool (isVF V)]) := by
  have tkV : V.take 18 = V := List.take_of_length_le (by omega)
  unfold cpL
  cases hv : isVF V
  · refine fresh_of_vc (X := ⟨Try.prog, tys, [(27, IsView_F), (82, vcanPour_F), (86, isCertain_F)], [], true, true, 0, [], []⟩) fn_35 ⟨tys_ok, (.cons IsView_T (.cons vcanPour_T (.cons isCertain_T .nil))), .nil, mixed⟩ (n0 := 0) rfl (Nat.le_of_ble_eq_true rfl) (by simp [wfL, SV.wf]) (wfH_spec (by simp [wfH, SObj.wf, wfL, SV.wf])) (Nat.le_refl _) ?_
    simp -implicitDefEqProofs only [Try.f35, Option.getD_some, argS, IsView_F, vcanPour_F, isCertain_F, hV, tkV, hv, ZB, Int.reduceToNat, Nat.reduceLT, Nat.reduceLeDiff, Int.reduceLE, Int.reduceLT, Nat.reduceEqDiff, Nat.reduceSub, SB, SV.known, packR, ne_eq, reduceCtorEq, Nat.reduceEqDiff, ↓reduceIte, if_true, if_false, eq_self, Nat.reduceAdd, Nat.reduceMul, Nat.reduceSub, forall_const, oneCellS, litOne, flat1, Kd.isSca, flat, TYB]
    exact .inl ⟨rfl, rfl, rfl⟩
  have g := vG_of hV h64 hv
  refine fresh_of_vc (X := ⟨Try.prog, tys, [(27, IsView_F), (82, vcanPour_F), (86, isCertain_F)], [], true, true, 0, [], []⟩) fn_35 ⟨tys_ok, (.cons IsView_T (.cons vcanPour_T (.cons isCertain_T .nil))), .nil, mixed⟩ (n0 := 0) rfl (Nat.le_of_ble_eq_true rfl) (by simp [wfL, SV.wf]) (wfH_spec (by simp [wfH, SObj.wf, wfL, SV.wf])) (Nat.le_refl _) ?_
  simp -implicitDefEqProofs only [Try.f35, Option.getD_some, argS, IsView_F, vcanPour_F, isCertain_F, hV, tkV, hv, ZB, Int.reduceToNat, Nat.reduceLT, Nat.reduceLeDiff, Int.reduceLE, Int.reduceLT, Nat.reduceEqDiff, Nat.reduceSub, SB, SV.known, packR, ne_eq, reduceCtorEq, Nat.reduceEqDiff, ↓reduceIte, if_true, if_false, eq_self, Nat.reduceAdd, Nat.reduceMul, Nat.reduceSub, forall_const, oneCellS, litOne, flat1, Kd.isSca, flat, TYB]
  refine loop_intro (fun s : Nat × Nat × Nat × List Int => [(1, .ptr 0 0), (4, outVn 1 s.2.1 s.2.1 s.2.2.1), (10, .int s.1)]) (fun s => outHn 1 s.2.1 (GL (cpB V) (s.1 * 6) ++ s.2.2.2) 47 [(0, .ints V 31)]) 2
    (fun s => s.1 ≤ 6 ∧ (GL (cpB V) (s.1 * 6)).length = s.2.1 * 2 ∧ s.2.1 ≤ 37 ∧ s.2.1 ≤ s.1 * 6 ∧ s.2.2.2.length + s.2.1 * 2 = s.2.2.1 * 2) (fun s => 6 - s.1) ?_ ?_
  · refine ⟨(0, 0, 0, []), ⟨by omega, by simp [GL_zero], by simp, by simp, by simp⟩, Sub.mk_id ?_ ?_ ?_ ?_ ?_⟩
    all_goals simp only [outVn_zero, outHn_zero, LB, subS, subH, wfS, wfH, SV.ren, renL, SObj.ren, SV.wf, SObj.wf, wfL, SV.known, Nat.reduceEqDiff, ↓reduceIte, if_true, if_false, eq_self, Nat.reduceAdd, Nat.reduceLT, Nat.reduceLeDiff, implies_true, reduceCtorEq, forall_const]
    all_goals (try simp)
  · rintro ⟨i, n, cap, junk⟩ ⟨hi, hL, hn, hni, hj⟩
    simp only at hi hL hn hni hj
    simp -implicitDefEqProofs only [lk_normal, hV, ZB, Int.reduceToNat, Nat.reduceLT, Nat.reduceLeDiff, Int.reduceLE, Int.reduceLT, Nat.reduceEqDiff, Nat.reduceSub, SB, SV.known, packR, ne_eq, reduceCtorEq, Nat.reduceEqDiff, ↓reduceIte, if_true, if_false, eq_self, Nat.reduceAdd, Nat.reduceMul, Nat.reduceSub, forall_const, oneCellS, litOne, flat1, Kd.isSca, flat, TYB]
    refine ⟨fun h => ?_, fun h => ?_⟩
    · have hi6 : i < 6 := by omega
      have il : (i : Int) < 6 := by omega
      refine loop_intro (fun s : Nat × Nat × Nat × List Int => [(1, .ptr 0 0), (4, outVn 1 s.2.1 s.2.1 s.2.2.1), (5, .int i), (10, .int i), (13, .int s.1)]) (fun s => outHn 1 s.2.1 (GL (cpB V) (i * 6 + s.1) ++ s.2.2.2) 47 [(0, .ints V 31)]) 2
        (fun s => s.1 ≤ 6 ∧ (GL (cpB V) (i * 6 + s.1)).length = s.2.1 * 2 ∧ s.2.1 ≤ 37 ∧ s.2.1 ≤ i * 6 + s.1 ∧ s.2.2.2.length + s.2.1 * 2 = s.2.2.1 * 2) (fun s => 6 - s.1) ?_ ?_
      · refine ⟨(0, n, cap, junk), ⟨by simp, by simpa using hL, by simpa using hn, by simpa using hni, by simpa using hj⟩, ?_⟩
        cases n with
        | zero =>
          refine Sub.mk_id ?_ ?_ ?_ ?_ ?_
          all_goals simp only [outVn_zero, outHn_zero, LB, subS, subH, wfS, wfH, SV.ren, renL, SObj.ren, SV.wf, SObj.wf, wfL, SV.known, Nat.reduceEqDiff, ↓reduceIte, if_true, if_false, eq_self, Nat.reduceAdd, Nat.reduceLT, Nat.reduceLeDiff, implies_true, reduceCtorEq, forall_const]
          all_goals (try simp)
        | succ n =>
          refine Sub.mk_id ?_ ?_ ?_ ?_ ?_
          all_goals simp only [outVn_succ, outHn_succ, LB, subS, subH, wfS, wfH, SV.ren, renL, SObj.ren, SV.wf, SObj.wf, wfL, SV.known, Nat.reduceEqDiff, ↓reduceIte, if_true, if_false, eq_self, Nat.reduceAdd, Nat.reduceLT, Nat.reduceLeDiff, implies_true, reduceCtorEq, forall_const]
          all_goals (try simp)
      · rintro ⟨j, n, cap, junk⟩ ⟨gj, gL, gn, gni, gk⟩
        simp only at gj gL gn gni gk
        have e6 : (i + 1) * 6 = i * 6 + 6 := by omega
        by_cases jt : j < 6
        · have jl : (j : Int) < 6 := by omega
          have jlt : j < 6 := jt
          have e1 := GL_at (cpB V) i j jt
          cases hvc : vcan V i j with
          | false =>
           have hc : cpB V i j = false := by unfold cpB; rw [hvc]; rfl
           rw [hc] at e1
           simp only [Bool.false_eq_true, if_false, List.append_nil] at e1
           cases n with
           | zero =>
             simp -implicitDefEqProofs only [lk_normal, vcanPour_F, isCertain_F, outVn_zero, outHn_zero, hV, tkV, g, il, jl, jlt, hvc, ZB, Int.reduceToNat, Nat.reduceLT, Nat.reduceLeDiff, Int.reduceLE, Int.reduceLT, Nat.reduceEqDiff, Nat.reduceSub, SB, SV.known, packR, ne_eq, reduceCtorEq, Nat.reduceEqDiff, ↓reduceIte, if_true, if_false, eq_self, Nat.reduceAdd, Nat.reduceMul, Nat.reduceSub, forall_const, oneCellS, litOne, flat1, Kd.isSca, flat, TYB]
             (try (and_intros <;> try (first | omega | (unfold In64; omega) | trivial | assumption)))
             refine ⟨(j + 1, 0, cap, junk), ⟨by simp only; omega, by simp only [← Nat.add_assoc]; rw [e1]; exact gL, by simp only; omega, by simp only; omega, by simp only; omega⟩, by simp only; omega, Sub.mk_id ?_ ?_ ?_ ?_ ?_⟩
             all_goals simp only [outVn_zero, outHn_zero, ← Nat.add_assoc, e1, LB, subS, subH, wfS, wfH, SV.ren, renL, SObj.ren, SV.wf, SObj.wf, wfL, SV.known, Nat.reduceEqDiff, ↓reduceIte, if_true, if_false, eq_self, Nat.reduceAdd, Nat.reduceLT, Nat.reduceLeDiff, implies_true, reduceCtorEq, forall_const]
             all_goals (try simp)
           | succ n =>
             simp -implicitDefEqProofs only [lk_normal, vcanPour_F, isCertain_F, outVn_succ, outHn_succ, hV, tkV, g, il, jl, jlt, hvc, ZB, Int.reduceToNat, Nat.reduceLT, Nat.reduceLeDiff, Int.reduceLE, Int.reduceLT, Nat.reduceEqDiff, Nat.reduceSub, SB, SV.known, packR, ne_eq, reduceCtorEq, Nat.reduceEqDiff, ↓reduceIte, if_true, if_false, eq_self, Nat.reduceAdd, Nat.reduceMul, Nat.reduceSub, forall_const, oneCellS, litOne, flat1, Kd.isSca, flat, TYB]
             (try (and_intros <;> try (first | omega | (unfold In64; omega) | trivial | assumption)))
             refine ⟨(j + 1, n + 1, cap, junk), ⟨by simp only; omega, by simp only [← Nat.add_assoc]; rw [e1]; exact gL, by simp only; omega, by simp only; omega, by simp only; omega⟩, by simp only; omega, Sub.mk_id ?_ ?_ ?_ ?_ ?_⟩
             all_goals simp only [outVn_succ, outHn_succ, ← Nat.add_assoc, e1, LB, subS, subH, wfS, wfH, SV.ren, renL, SObj.ren, SV.wf, SObj.wf, wfL, SV.known, Nat.reduceEqDiff, ↓reduceIte, if_true, if_false, eq_self, Nat.reduceAdd, Nat.reduceLT, Nat.reduceLeDiff, implies_true, reduceCtorEq, forall_const]
             all_goals (try simp)
          | true =>
           have hj4 : V.getD (6 + j) 0 < 4 := by
             unfold vcan at hvc
             simp only [Bool.and_eq_true, decide_eq_true_eq] at hvc
             exact hvc.1.2
           cases hct : certB V i j with
           | false =>
            have hc : cpB V i j = false := by unfold cpB; rw [hvc, hct]; rfl
            rw [hc] at e1
            simp only [Bool.false_eq_true, if_false, List.append_nil] at e1
            cases n with
            | zero =>
              simp -implicitDefEqProofs only [lk_normal, vcanPour_F, isCertain_F, outVn_zero, outHn_zero, hV, tkV, g, il, jl, jlt, hvc, hct, hj4, ZB, Int.reduceToNat, Nat.reduceLT, Nat.reduceLeDiff, Int.reduceLE, Int.reduceLT, Nat.reduceEqDiff, Nat.reduceSub, SB, SV.known, packR, ne_eq, reduceCtorEq, Nat.reduceEqDiff, ↓reduceIte, if_true, if_false, eq_self, Nat.reduceAdd, Nat.reduceMul, Nat.reduceSub, forall_const, oneCellS, litOne, flat1, Kd.isSca, flat, TYB]
              (try (and_intros <;> try (first | omega | (unfold In64; omega) | trivial | assumption)))
              refine ⟨(j + 1, 0, cap, junk), ⟨by simp only; omega, by simp only [← Nat.add_assoc]; rw [e1]; exact gL, by simp only; omega, by simp only; omega, by simp only; omega⟩, by simp only; omega, Sub.mk_id ?_ ?_ ?_ ?_ ?_⟩
              all_goals simp only [outVn_zero, outHn_zero, ← Nat.add_assoc, e1, LB, subS, subH, wfS, wfH, SV.ren, renL, SObj.ren, SV.wf, SObj.wf, wfL, SV.known, Nat.reduceEqDiff, ↓reduceIte, if_true, if_false, eq_self, Nat.reduceAdd, Nat.reduceLT, Nat.reduceLeDiff, implies_true, reduceCtorEq, forall_const]
              all_goals (try simp)
            | succ n =>
              simp -implicitDefEqProofs only [lk_normal, vcanPour_F, isCertain_F, outVn_succ, outHn_succ, hV, tkV, g, il, jl, jlt, hvc, hct, hj4, ZB, Int.reduceToNat, Nat.reduceLT, Nat.reduceLeDiff, Int.reduceLE, Int.reduceLT, Nat.reduceEqDiff, Nat.reduceSub, SB, SV.known, packR, ne_eq, reduceCtorEq, Nat.reduceEqDiff, ↓reduceIte, if_true, if_false, eq_self, Nat.reduceAdd, Nat.reduceMul, Nat.reduceSub, forall_const, oneCellS, litOne, flat1, Kd.isSca, flat, TYB]
              (try (and_intros <;> try (first | omega | (unfold In64; omega) | trivial | assumption)))
              refine ⟨(j + 1, n + 1, cap, junk), ⟨by simp only; omega, by simp only [← Nat.add_assoc]; rw [e1]; exact gL, by simp only; omega, by simp only; omega, by simp only; omega⟩, by simp only; omega, Sub.mk_id ?_ ?_ ?_ ?_ ?_⟩
              all_goals simp only [outVn_succ, outHn_succ, ← Nat.add_assoc, e1, LB, subS, subH, wfS, wfH, SV.ren, renL, SObj.ren, SV.wf, SObj.wf, wfL, SV.known, Nat.reduceEqDiff, ↓reduceIte, if_true, if_false, eq_self, Nat.reduceAdd, Nat.reduceLT, Nat.reduceLeDiff, implies_true, reduceCtorEq, forall_const]
              all_goals (try simp)
           | true =>
            have hc : cpB V i j = true := by unfold cpB; rw [hvc, hct]; rfl
            rw [hc] at e1
            simp only [if_true] at e1
            cases n with
            | zero =>
              have e0 : GL (cpB V) (i * 6 + j) = [] := List.length_eq_zero_iff.1 (by simpa using gL)
              rw [e0] at e1
              simp only [List.nil_append] at e1
              simp -implicitDefEqProofs only [lk_normal, vcanPour_F, isCertain_F, outVn_zero, outHn_zero, hV, tkV, g, il, jl, jlt, hvc, hct, hj4, ZB, Int.reduceToNat, Nat.reduceLT, Nat.reduceLeDiff, Int.reduceLE, Int.reduceLT, Nat.reduceEqDiff, Nat.reduceSub, SB, SV.known, packR, ne_eq, reduceCtorEq, Nat.reduceEqDiff, ↓reduceIte, if_true, if_false, eq_self, Nat.reduceAdd, Nat.reduceMul, Nat.reduceSub, forall_const, oneCellS, litOne, flat1, Kd.isSca, flat, TYB]
              (try (and_intros <;> try (first | omega | (unfold In64; omega) | trivial | assumption)))
              intro junk' cap' hj'
              (try (and_intros <;> try (first | omega | (unfold In64; omega) | trivial | assumption)))
              refine ⟨(j + 1, 1, cap', junk'), ⟨by simp only; omega, by simp only [← Nat.add_assoc]; rw [e1]; rfl, by simp only; omega, by simp only; omega, by simp only; omega⟩, by simp only; omega, Sub.mk_to 1 3 ?_ ?_ ?_ ?_ ?_ ?_ ?_⟩
              all_goals simp only [outVn_succ, outHn_succ, ← Nat.add_assoc, e1, LB, subS, subH, wfS, wfH, SV.ren, renL, SObj.ren, SV.wf, SObj.wf, wfL, SV.known, Nat.reduceEqDiff, ↓reduceIte, if_true, if_false, eq_self, Nat.reduceAdd, Nat.reduceLT, Nat.reduceLeDiff, implies_true, reduceCtorEq, forall_const]
              all_goals (try simp)
            | succ n =>
              have tkL : (GL (cpB V) (i * 6 + j) ++ junk).take ((n + 1) * 2) = GL (cpB V) (i * 6 + j) := List.take_left' gL
              have lenL : (GL (cpB V) (i * 6 + j) ++ junk).length = cap * 2 := by rw [List.length_append]; omega
              simp -implicitDefEqProofs only [lk_normal, vcanPour_F, isCertain_F, outVn_succ, outHn_succ, hV, tkV, g, il, jl, jlt, hvc, hct, hj4, tkL, lenL, ZB, Int.reduceToNat, Nat.reduceLT, Nat.reduceLeDiff, Int.reduceLE, Int.reduceLT, Nat.reduceEqDiff, Nat.reduceSub, SB, SV.known, packR, ne_eq, reduceCtorEq, Nat.reduceEqDiff, ↓reduceIte, if_true, if_false, eq_self, Nat.reduceAdd, Nat.reduceMul, Nat.reduceSub, forall_const, oneCellS, litOne, flat1, Kd.isSca, flat, TYB]
              (try (and_intros <;> try (first | omega | (unfold In64; omega) | trivial | assumption)))
              intro junk' cap' hj'
              (try (and_intros <;> try (first | omega | (unfold In64; omega) | trivial | assumption)))
              refine ⟨(j + 1, n + 1 + 1, cap', junk'), ⟨by simp only; omega, by simp only [← Nat.add_assoc]; rw [e1, List.length_append, gL]; simp; omega, by simp only; omega, by simp only; omega, by simp only; omega⟩, by simp only; omega, Sub.mk_to 1 3 ?_ ?_ ?_ ?_ ?_ ?_ ?_⟩
              all_goals simp only [outVn_succ, outHn_succ, ← Nat.add_assoc, e1, LB, subS, subH, wfS, wfH, SV.ren, renL, SObj.ren, SV.wf, SObj.wf, wfL, SV.known, Nat.reduceEqDiff, ↓reduceIte, if_true, if_false, eq_self, Nat.reduceAdd, Nat.reduceLT, Nat.reduceLeDiff, implies_true, reduceCtorEq, forall_const]
              all_goals (try simp)
        · have hj6 : j = 6 := by omega
          subst hj6
          have jl : ¬ (6 : Int) < 6 := by omega
          cases n with
          | zero =>
            simp -implicitDefEqProofs only [lk_normal, outVn_zero, outHn_zero, hV, jl, ZB, Int.reduceToNat, Nat.reduceLT, Nat.reduceLeDiff, Int.reduceLE, Int.reduceLT, Nat.reduceEqDiff, Nat.reduceSub, SB, SV.known, packR, ne_eq, reduceCtorEq, Nat.reduceEqDiff, ↓reduceIte, if_true, if_false, eq_self, Nat.reduceAdd, Nat.reduceMul, Nat.reduceSub, forall_const, oneCellS, litOne, flat1, Kd.isSca, flat, TYB]
            (try (and_intros <;> try (first | omega | (unfold In64; omega) | trivial | assumption)))
            refine ⟨(i + 1, 0, cap, junk), ⟨by simp only; omega, by simp only; rw [e6]; exact gL, by simp only; omega, by simp only; omega, by simp only; omega⟩, by simp only; omega, Sub.mk_id ?_ ?_ ?_ ?_ ?_⟩
            all_goals simp only [outVn_zero, outHn_zero, e6, LB, subS, subH, wfS, wfH, SV.ren, renL, SObj.ren, SV.wf, SObj.wf, wfL, SV.known, Nat.reduceEqDiff, ↓reduceIte, if_true, if_false, eq_self, Nat.reduceAdd, Nat.reduceLT, Nat.reduceLeDiff, implies_true, reduceCtorEq, forall_const]
            all_goals (try simp)
          | succ n =>
            simp -implicitDefEqProofs only [lk_normal, outVn_succ, outHn_succ, hV, jl, ZB, Int.reduceToNat, Nat.reduceLT, Nat.reduceLeDiff, Int.reduceLE, Int.reduceLT, Nat.reduceEqDiff, Nat.reduceSub, SB, SV.known, packR, ne_eq, reduceCtorEq, Nat.reduceEqDiff, ↓reduceIte, if_true, if_false, eq_self, Nat.reduceAdd, Nat.reduceMul, Nat.reduceSub, forall_const, oneCellS, litOne, flat1, Kd.isSca, flat, TYB]
            (try (and_intros <;> try (first | omega | (unfold In64; omega) | trivial | assumption)))
            refine ⟨(i + 1, n + 1, cap, junk), ⟨by simp only; omega, by simp only; rw [e6]; exact gL, by simp only; omega, by simp only; omega, by simp only; omega⟩, by simp only; omega, Sub.mk_id ?_ ?_ ?_ ?_ ?_⟩
            all_goals simp only [outVn_succ, outHn_succ, e6, LB, subS, subH, wfS, wfH, SV.ren, renL, SObj.ren, SV.wf, SObj.wf, wfL, SV.known, Nat.reduceEqDiff, ↓reduceIte, if_true, if_false, eq_self, Nat.reduceAdd, Nat.reduceLT, Nat.reduceLeDiff, implies_true, reduceCtorEq, forall_const]
            all_goals (try simp)
    · obtain rfl : i = 6 := by omega
      have kn : ∀ a b c, (outVn 1 a b c).known = true := fun a b c => by cases a <;> rfl
      refine ⟨kn _ _ _, ?_⟩
      cases n with
      | zero => 
        refine .inl ⟨rfl, List.length_eq_zero_iff.1 (by simpa using hL), ?_⟩
        simp [outVn_zero, Wrap.ap]
      | succ n =>
        refine .inr ⟨1, cap, junk, ?_, ?_, by omega, ?_, ?_⟩
        · rw [show (GL (cpB V) 36).length = (n + 1) * 2 from hL]; simp [Wrap.ap, outVn_succ]
        · simp [hget_cons, outHn_succ]
        · have : (GL (cpB V) 36).length = (n + 1) * 2 := hL
          omega
        · intro _ h0
          have : (GL (cpB V) 36).length = (n + 1) * 2 := hL
          rw [h0] at this
          simp at this
theorem sCertainPours_ok (V : List Int) (hV : V.length = 18) (h64 : I64 V) : FreshP Try.prog 36 [.arr V] [] (cpL V) ((cpL V).length / 2) 2 47 false (.more [.bool (isVF V)]) := by
  have tkV : V.take 18 = V := List.take_of_length_le (by omega)
  unfold cpL
  cases hv : isVF V
  · refine fresh_of_vc (X := ⟨Try.prog, tys, [(67, l7Good_F), (83, l7Can_F), (77, l7Top_F), (85, l1Least_F), (87, l1Most_F)], [], true, true, 0, [], []⟩) fn_36 ⟨tys_ok, (.cons l7Good_T (.cons l7Can_T (.cons l7Top_T (.cons l1Least_T (.cons l1Most_T .nil))))), .nil, mixed⟩ (n0 := 0) rfl (Nat.le_of_ble_eq_true rfl) (by simp [wfL, SV.wf]) (wfH_spec (by simp [wfH, SObj.wf, wfL, SV.wf])) (Nat.le_refl _) ?_
    simp -implicitDefEqProofs only [Try.f36, Option.getD_some, argS, l7Good_F, l7Can_F, l7Top_F, l1Least_F, l1Most_F, hV, tkV, hv, h64, ZB, Int.reduceToNat, Nat.reduceLT, Nat.reduceLeDiff, Int.reduceLE, Int.reduceLT, Nat.reduceEqDiff, Nat.reduceSub, SB, SV.known, packR, ne_eq, reduceCtorEq, Nat.reduceEqDiff, ↓reduceIte, if_true, if_false, eq_self, Nat.reduceAdd, Nat.reduceMul, Nat.reduceSub, forall_const, oneCellS, litOne, flat1, Kd.isSca, flat, TYB]
    exact .inr ⟨1, 0, [], rfl, rfl, by omega, by simp, by simp⟩
  have g := vG_of hV h64 hv
  refine fresh_of_vc (X := ⟨Try.prog, tys, [(67, l7Good_F), (83, l7Can_F), (77, l7Top_F), (85, l1Least_F), (87, l1Most_F)], [], true, true, 0, [], []⟩) fn_36 ⟨tys_ok, (.cons l7Good_T (.cons l7Can_T (.cons l7Top_T (.cons l1Least_T (.cons l1Most_T .nil))))), .nil, mixed⟩ (n0 := 0) rfl (Nat.le_of_ble_eq_true rfl) (by simp [wfL, SV.wf]) (wfH_spec (by simp [wfH, SObj.wf, wfL, SV.wf])) (Nat.le_refl _) ?_
  simp -implicitDefEqProofs only [Try.f36, Option.getD_some, argS, l7Good_F, l7Can_F, l7Top_F, l1Least_F, l1Most_F, hV, tkV, hv, h64, ZB, Int.reduceToNat, Nat.reduceLT, Nat.reduceLeDiff, Int.reduceLE, Int.reduceLT, Nat.reduceEqDiff, Nat.reduceSub, SB, SV.known, packR, ne_eq, reduceCtorEq, Nat.reduceEqDiff, ↓reduceIte, if_true, if_false, eq_self, Nat.reduceAdd, Nat.reduceMul, Nat.reduceSub, forall_const, oneCellS, litOne, flat1, Kd.isSca, flat, TYB]
  refine loop_intro (fun s : Nat × Nat × Nat × List Int => [(1, .ptr 0 0), (4, .slice 1 0 s.2.1 s.2.2.1), (5, .int s.1)]) (fun s => [(1, .ints (GL (cpB V) (s.1 * 6) ++ s.2.2.2) 47), (0, .ints V 31)]) 2
    (fun s => s.1 ≤ 6 ∧ (GL (cpB V) (s.1 * 6)).length = s.2.1 * 2 ∧ s.2.1 ≤ 37 ∧ s.2.1 ≤ s.1 * 6 ∧ s.2.2.2.length + s.2.1 * 2 = s.2.2.1 * 2) (fun s => 6 - s.1) ?_ ?_
  · refine ⟨(0, 0, 0, []), ⟨by omega, by simp [GL_zero], by simp, by simp, by simp⟩, Sub.mk_id ?_ ?_ ?_ ?_ ?_⟩
    all_goals simp only [Nat.zero_mul, GL_zero, List.append_nil, LB, subS, subH, wfS, wfH, SV.ren, renL, SObj.ren, SV.wf, SObj.wf, wfL, SV.known, Nat.reduceEqDiff, ↓reduceIte, if_true, if_false, eq_self, Nat.reduceAdd, Nat.reduceLT, Nat.reduceLeDiff, implies_true, reduceCtorEq, forall_const]
    all_goals (try simp)
  · rintro ⟨i, n, cap, junk⟩ ⟨hi, hL, hn, hni, hj⟩
    simp only at hi hL hn hni hj
    simp -implicitDefEqProofs only [lk_normal, hV, ZB, Int.reduceToNat, Nat.reduceLT, Nat.reduceLeDiff, Int.reduceLE, Int.reduceLT, Nat.reduceEqDiff, Nat.reduceSub, SB, SV.known, packR, ne_eq, reduceCtorEq, Nat.reduceEqDiff, ↓reduceIte, if_true, if_false, eq_self, Nat.reduceAdd, Nat.reduceMul, Nat.reduceSub, forall_const, oneCellS, litOne, flat1, Kd.isSca, flat, TYB]
    refine ⟨fun h => ?_, fun h => ?_⟩
    · have hi6 : i < 6 := by omega
      have il : (i : Int) < 6 := by omega
      refine loop_intro (fun s : Nat × Nat × Nat × List Int => [(1, .ptr 0 0), (4, .slice 1 0 s.2.1 s.2.2.1), (5, .int i), (6, .int s.1)]) (fun s => [(1, .ints (GL (cpB V) (i * 6 + s.1) ++ s.2.2.2) 47), (0, .ints V 31)]) 2
        (fun s => s.1 ≤ 6 ∧ (GL (cpB V) (i * 6 + s.1)).length = s.2.1 * 2 ∧ s.2.1 ≤ 37 ∧ s.2.1 ≤ i * 6 + s.1 ∧ s.2.2.2.length + s.2.1 * 2 = s.2.2.1 * 2) (fun s => 6 - s.1) ?_ ?_
      · refine ⟨(0, n, cap, junk), ⟨by simp, by simpa using hL, by simpa using hn, by simpa using hni, by simpa using hj⟩, Sub.mk_id ?_ ?_ ?_ ?_ ?_⟩
        all_goals simp only [Nat.add_zero, LB, subS, subH, wfS, wfH, SV.ren, renL, SObj.ren, SV.wf, SObj.wf, wfL, SV.known, Nat.reduceEqDiff, ↓reduceIte, if_true, if_false, eq_self, Nat.reduceAdd, Nat.reduceLT, Nat.reduceLeDiff, implies_true, reduceCtorEq, forall_const]
        all_goals (try simp)
      · rintro ⟨j, n, cap, junk⟩ ⟨gj, gL, gn, gni, gk⟩
        simp only at gj gL gn gni gk
        have e6 : (i + 1) * 6 = i * 6 + 6 := by omega
        have tkL : (GL (cpB V) (i * 6 + j) ++ junk).take (n * 2) = GL (cpB V) (i * 6 + j) := List.take_left' gL
        have lenL : (GL (cpB V) (i * 6 + j) ++ junk).length = cap * 2 := by rw [List.length_append]; omega
        have u1 := g.u1
        have u2 := g.u2
        have u3 := g.u3
        by_cases jt : j < 6
        · have jl : (j : Int) < 6 := by omega
          have e1 := GL_at (cpB V) i j jt
          cases hvc : vcan V i j with
          | false =>
            have hc : cpB V i j = false := by unfold cpB; rw [hvc]; rfl
            rw [hc] at e1
            simp only [Bool.false_eq_true, if_false, List.append_nil] at e1
            simp -implicitDefEqProofs only [lk_normal, l7Can_F, hV, tkV, g, u1, u2, u3, il, jl, hvc, ZB, Int.reduceToNat, Nat.reduceLT, Nat.reduceLeDiff, Int.reduceLE, Int.reduceLT, Nat.reduceEqDiff, Nat.reduceSub, SB, SV.known, packR, ne_eq, reduceCtorEq, Nat.reduceEqDiff, ↓reduceIte, if_true, if_false, eq_self, Nat.reduceAdd, Nat.reduceMul, Nat.reduceSub, forall_const, oneCellS, litOne, flat1, Kd.isSca, flat, TYB]
            (try (and_intros <;> try (first | omega | (unfold In64; omega) | trivial | assumption)))
            refine ⟨(j + 1, n, cap, junk), ⟨by simp only; omega, by simp only [← Nat.add_assoc]; rw [e1]; exact gL, by simp only; omega, by simp only; omega, by simp only; omega⟩, by simp only; omega, Sub.mk_id ?_ ?_ ?_ ?_ ?_⟩
            all_goals simp only [← Nat.add_assoc, e1, LB, subS, subH, wfS, wfH, SV.ren, renL, SObj.ren, SV.wf, SObj.wf, wfL, SV.known, Nat.reduceEqDiff, ↓reduceIte, if_true, if_false, eq_self, Nat.reduceAdd, Nat.reduceLT, Nat.reduceLeDiff, implies_true, reduceCtorEq, forall_const]
            all_goals (try simp)
          | true =>
            have hj4 : V.getD (6 + j) 0 < 4 := by
              unfold vcan at hvc
              simp only [Bool.and_eq_true, decide_eq_true_eq] at hvc
              exact hvc.1.2
            have hi0 : 0 < V.getD i 0 := by
              unfold vcan at hvc
              simp only [Bool.and_eq_true, decide_eq_true_eq] at hvc
              exact hvc.1.1.2
            have hj0 := (g.u2 j jt).1
            have sm := vsm_of g hi6
            have hm1 : 1 ≤ mm V i := by
              have := (g.u3 i hi6).2 hi0
              have := sm.m_
              omega
            have hfin := ls_cert g hi6 hm1 hj4 hj0
            simp -implicitDefEqProofs only [lk_normal, l7Can_F, hV, tkV, g, u1, u2, u3, il, jl, hvc, ZB, Int.reduceToNat, Nat.reduceLT, Nat.reduceLeDiff, Int.reduceLE, Int.reduceLT, Nat.reduceEqDiff, Nat.reduceSub, SB, SV.known, packR, ne_eq, reduceCtorEq, Nat.reduceEqDiff, ↓reduceIte, if_true, if_false, eq_self, Nat.reduceAdd, Nat.reduceMul, Nat.reduceSub, forall_const, oneCellS, litOne, flat1, Kd.isSca, flat, TYB]
            (try (and_intros <;> try (first | omega | (unfold In64; omega) | trivial | assumption)))
            refine loop_intro (fun q : Nat => [(9, .int ((q : Int) + 1)), (8, .int (msA V i j q)), (7, .int (lsA V i j q)), (1, .ptr 0 0), (4, .slice 1 0 n cap), (5, .int i), (6, .int j)]) (fun q => [(1, .ints (GL (cpB V) (i * 6 + j) ++ junk) 47), (0, .ints V 31)]) 2 (fun q => q ≤ mm V i) (fun q => 5 - q) ?_ ?_
            · refine ⟨0, ?_, Sub.mk_id ?_ ?_ ?_ ?_ ?_⟩
              all_goals (try (simp only [lsA, msA, LB, subS, subH, wfS, wfH, SV.ren, renL, SObj.ren, SV.wf, SObj.wf, wfL, SV.known, Nat.reduceEqDiff, ↓reduceIte, if_true, if_false, eq_self, Nat.reduceAdd, Nat.reduceLT, Nat.reduceLeDiff, implies_true, reduceCtorEq, forall_const]; done))
              all_goals (try (simp only [lsA, msA, LB, subS, subH, wfS, wfH, SV.ren, renL, SObj.ren, SV.wf, SObj.wf, wfL, SV.known, Nat.reduceEqDiff, ↓reduceIte, if_true, if_false, eq_self, Nat.reduceAdd, Nat.reduceLT, Nat.reduceLeDiff, implies_true, reduceCtorEq, forall_const]; simp; done))
              all_goals (try (simp only [lsA, msA, LB, subS, subH, wfS, wfH, SV.ren, renL, SObj.ren, SV.wf, SObj.wf, wfL, SV.known, Nat.reduceEqDiff, ↓reduceIte, if_true, if_false, eq_self, Nat.reduceAdd, Nat.reduceLT, Nat.reduceLeDiff, implies_true, reduceCtorEq, forall_const]; (and_intros <;> (first | omega | rfl | (simp; done) | (simp; omega))); done))
              all_goals (try dsimp only)
              all_goals (and_intros <;> try (first | omega | (unfold In64; omega) | trivial | assumption))
            · intro q hq
              have em := sm.m_
              have hc4 := sm.c
              have i6 : 6 + i < 18 := by omega
              have j6 : 6 + j < 18 := by omega
              have i0 : 0 ≤ (i : Int) := by omega
              have j0 : 0 ≤ (j : Int) := by omega
              by_cases hqm : (q : Int) + 1 ≤ mm V i
              · have tn : ((q : Int) + 1).toNat = q + 1 := by omega
                have rb : 1 ≤ (q : Int) + 1 ∧ (q : Int) + 1 ≤ 4 := by omega
                have sg := tv_sign g hi6 (show 1 ≤ q + 1 by omega) (show q + 1 ≤ mm V i by omega)
                have ll : (ltF (al V) (sa V i) (mm V i) (q + 1)).length = 2 := by
                  unfold ltF
                  split
                  · rfl
                  · split
                    · exact fracF_len _ _
                    · exact (ltK_bd (by have := sm.a; omega) (by have := sm.a; have := sm.b; omega) _ (by have := sm.d; omega)).1
                have tk2 := List.take_of_length_le (Nat.le_of_eq ll)
                have emv : min ((q : Int) + 1) (4 - V.getD (6 + j) 0) = mvW V j (q + 1) := by unfold mvW; omega
                by_cases hz : tv V i (q + 1) = 0
                · have s1 : lsA V i j (q + 1) = lsA V i j q := by rw [lsA, if_pos hz]
                  have s2 : msA V i j (q + 1) = msA V i j q := by rw [msA, if_pos hz]
                  have np : ¬ 0 < (ltF (al V) (sa V i) (mm V i) (q + 1)).getD 0 0 := fun h => sg.1 h hz
                  simp -implicitDefEqProofs only [lk_normal, l7Top_F, l1Least_F, l1Most_F, hV, tkV, g, il, jl, i0, j0, i6, j6, em, hqm, tn, rb, ll, tk2, np, ZB, Int.reduceToNat, Nat.reduceLT, Nat.reduceLeDiff, Int.reduceLE, Int.reduceLT, Nat.reduceEqDiff, Nat.reduceSub, SB, SV.known, packR, ne_eq, reduceCtorEq, Nat.reduceEqDiff, ↓reduceIte, if_true, if_false, eq_self, Nat.reduceAdd, Nat.reduceMul, Nat.reduceSub, forall_const, oneCellS, litOne, flat1, Kd.isSca, flat, TYB]
                  (try (and_intros <;> try (first | omega | (unfold In64; omega) | trivial | assumption)))
                  refine ⟨q + 1, ?_, ?_, Sub.mk_id ?_ ?_ ?_ ?_ ?_⟩
                  all_goals (try (simp only [s1, s2, LB, subS, subH, wfS, wfH, SV.ren, renL, SObj.ren, SV.wf, SObj.wf, wfL, SV.known, Nat.reduceEqDiff, ↓reduceIte, if_true, if_false, eq_self, Nat.reduceAdd, Nat.reduceLT, Nat.reduceLeDiff, implies_true, reduceCtorEq, forall_const]; done))
                  all_goals (try (simp only [s1, s2, LB, subS, subH, wfS, wfH, SV.ren, renL, SObj.ren, SV.wf, SObj.wf, wfL, SV.known, Nat.reduceEqDiff, ↓reduceIte, if_true, if_false, eq_self, Nat.reduceAdd, Nat.reduceLT, Nat.reduceLeDiff, implies_true, reduceCtorEq, forall_const]; simp; done))
                  all_goals (try (simp only [s1, s2, LB, subS, subH, wfS, wfH, SV.ren, renL, SObj.ren, SV.wf, SObj.wf, wfL, SV.known, Nat.reduceEqDiff, ↓reduceIte, if_true, if_false, eq_self, Nat.reduceAdd, Nat.reduceLT, Nat.reduceLeDiff, implies_true, reduceCtorEq, forall_const]; (and_intros <;> (first | omega | rfl | (simp; done) | (simp; omega))); done))
                  all_goals (try dsimp only)
                  all_goals (and_intros <;> try (first | omega | (unfold In64; omega) | trivial | assumption))
                · have s1 : lsA V i j (q + 1) = min (lsA V i j q) (mvW V j (q + 1)) := by rw [lsA, if_neg hz]
                  have s2 : msA V i j (q + 1) = max (msA V i j q) (mvW V j (q + 1)) := by rw [msA, if_neg hz]
                  have np : 0 < (ltF (al V) (sa V i) (mm V i) (q + 1)).getD 0 0 := sg.2 hz
                  simp -implicitDefEqProofs only [lk_normal, l7Top_F, l1Least_F, l1Most_F, hV, tkV, g, il, jl, i0, j0, i6, j6, em, hqm, tn, rb, ll, tk2, np, emv, ZB, Int.reduceToNat, Nat.reduceLT, Nat.reduceLeDiff, Int.reduceLE, Int.reduceLT, Nat.reduceEqDiff, Nat.reduceSub, SB, SV.known, packR, ne_eq, reduceCtorEq, Nat.reduceEqDiff, ↓reduceIte, if_true, if_false, eq_self, Nat.reduceAdd, Nat.reduceMul, Nat.reduceSub, forall_const, oneCellS, litOne, flat1, Kd.isSca, flat, TYB]
                  (try (and_intros <;> try (first | omega | (unfold In64; omega) | trivial | assumption)))
                  refine ⟨q + 1, ?_, ?_, Sub.mk_id ?_ ?_ ?_ ?_ ?_⟩
                  all_goals (try (simp only [s1, s2, LB, subS, subH, wfS, wfH, SV.ren, renL, SObj.ren, SV.wf, SObj.wf, wfL, SV.known, Nat.reduceEqDiff, ↓reduceIte, if_true, if_false, eq_self, Nat.reduceAdd, Nat.reduceLT, Nat.reduceLeDiff, implies_true, reduceCtorEq, forall_const]; done))
                  all_goals (try (simp only [s1, s2, LB, subS, subH, wfS, wfH, SV.ren, renL, SObj.ren, SV.wf, SObj.wf, wfL, SV.known, Nat.reduceEqDiff, ↓reduceIte, if_true, if_false, eq_self, Nat.reduceAdd, Nat.reduceLT, Nat.reduceLeDiff, implies_true, reduceCtorEq, forall_const]; simp; done))
                  all_goals (try (simp only [s1, s2, LB, subS, subH, wfS, wfH, SV.ren, renL, SObj.ren, SV.wf, SObj.wf, wfL, SV.known, Nat.reduceEqDiff, ↓reduceIte, if_true, if_false, eq_self, Nat.reduceAdd, Nat.reduceLT, Nat.reduceLeDiff, implies_true, reduceCtorEq, forall_const]; (and_intros <;> (first | omega | rfl | (simp; done) | (simp; omega))); done))
                  all_goals (try dsimp only)
                  all_goals (and_intros <;> try (first | omega | (unfold In64; omega) | trivial | assumption))
              · obtain rfl : q = mm V i := by omega
                by_cases hd : lsA V i j (mm V i) = msA V i j (mm V i)
                · have hct : certB V i j = true := by rw [← hfin]; exact decide_eq_true hd
                  have hc : cpB V i j = true := by unfold cpB; rw [hvc, hct]; rfl
                  rw [hc] at e1
                  simp only [if_true] at e1
                  simp -implicitDefEqProofs only [lk_normal, l7Top_F, l1Least_F, l1Most_F, hV, i0, j0, i6, j6, em, hqm, hd, tkL, lenL, ZB, Int.reduceToNat, Nat.reduceLT, Nat.reduceLeDiff, Int.reduceLE, Int.reduceLT, Nat.reduceEqDiff, Nat.reduceSub, SB, SV.known, packR, ne_eq, reduceCtorEq, Nat.reduceEqDiff, ↓reduceIte, if_true, if_false, eq_self, Nat.reduceAdd, Nat.reduceMul, Nat.reduceSub, forall_const, oneCellS, litOne, flat1, Kd.isSca, flat, TYB]
                  (try (and_intros <;> try (first | omega | (unfold In64; omega) | trivial | assumption)))
                  intro junk' cap' hj'
                  (try (and_intros <;> try (first | omega | (unfold In64; omega) | trivial | assumption)))
                  refine ⟨(j + 1, n + 1, cap', junk'), ⟨by simp only; omega, by simp only [← Nat.add_assoc]; rw [e1, List.length_append, gL]; simp; omega, by simp only; omega, by simp only; omega, by simp only; omega⟩, by simp only; omega, Sub.mk_to 1 3 ?_ ?_ ?_ ?_ ?_ ?_ ?_⟩
                  all_goals simp only [← Nat.add_assoc, e1, LB, subS, subH, wfS, wfH, SV.ren, renL, SObj.ren, SV.wf, SObj.wf, wfL, SV.known, Nat.reduceEqDiff, ↓reduceIte, if_true, if_false, eq_self, Nat.reduceAdd, Nat.reduceLT, Nat.reduceLeDiff, implies_true, reduceCtorEq, forall_const]
                  all_goals (try simp)
                · have hct : certB V i j = false := by rw [← hfin]; exact decide_eq_false hd
                  have hc : cpB V i j = false := by unfold cpB; rw [hvc, hct]; rfl
                  rw [hc] at e1
                  simp only [Bool.false_eq_true, if_false, List.append_nil] at e1
                  simp -implicitDefEqProofs only [lk_normal, l7Top_F, l1Least_F, l1Most_F, hV, i0, j0, i6, j6, em, hqm, hd, tkL, lenL, ZB, Int.reduceToNat, Nat.reduceLT, Nat.reduceLeDiff, Int.reduceLE, Int.reduceLT, Nat.reduceEqDiff, Nat.reduceSub, SB, SV.known, packR, ne_eq, reduceCtorEq, Nat.reduceEqDiff, ↓reduceIte, if_true, if_false, eq_self, Nat.reduceAdd, Nat.reduceMul, Nat.reduceSub, forall_const, oneCellS, litOne, flat1, Kd.isSca, flat, TYB]
                  (try (and_intros <;> try (first | omega | (unfold In64; omega) | trivial | assumption)))
                  refine ⟨(j + 1, n, cap, junk), ⟨by simp only; omega, by simp only [← Nat.add_assoc]; rw [e1]; exact gL, by simp only; omega, by simp only; omega, by simp only; omega⟩, by simp only; omega, Sub.mk_id ?_ ?_ ?_ ?_ ?_⟩
                  all_goals simp only [← Nat.add_assoc, e1, LB, subS, subH, wfS, wfH, SV.ren, renL, SObj.ren, SV.wf, SObj.wf, wfL, SV.known, Nat.reduceEqDiff, ↓reduceIte, if_true, if_false, eq_self, Nat.reduceAdd, Nat.reduceLT, Nat.reduceLeDiff, implies_true, reduceCtorEq, forall_const]
                  all_goals (try simp)
        · have hj6 : j = 6 := by omega
          subst hj6
          have jl : ¬ (6 : Int) < 6 := by omega
          simp -implicitDefEqProofs only [lk_normal, hV, jl, ZB, Int.reduceToNat, Nat.reduceLT, Nat.reduceLeDiff, Int.reduceLE, Int.reduceLT, Nat.reduceEqDiff, Nat.reduceSub, SB, SV.known, packR, ne_eq, reduceCtorEq, Nat.reduceEqDiff, ↓reduceIte, if_true, if_false, eq_self, Nat.reduceAdd, Nat.reduceMul, Nat.reduceSub, forall_const, oneCellS, litOne, flat1, Kd.isSca, flat, TYB]
          (try (and_intros <;> try (first | omega | (unfold In64; omega) | trivial | assumption)))
          refine ⟨(i + 1, n, cap, junk), ⟨by simp only; omega, by simp only; rw [e6]; exact gL, by simp only; omega, by simp only; omega, by simp only; omega⟩, by simp only; omega, Sub.mk_id ?_ ?_ ?_ ?_ ?_⟩
          all_goals simp only [e6, LB, subS, subH, wfS, wfH, SV.ren, renL, SObj.ren, SV.wf, SObj.wf, wfL, SV.known, Nat.reduceEqDiff, ↓reduceIte, if_true, if_false, eq_self, Nat.reduceAdd, Nat.reduceLT, Nat.reduceLeDiff, implies_true, reduceCtorEq, forall_const]
          all_goals (try simp)
    · obtain rfl : i = 6 := by omega
      refine .inr ⟨1, cap, junk, ?_, ?_, by omega, ?_, by simp⟩
      · rw [show (GL (cpB V) 36).length = n * 2 from hL]; simp [Wrap.ap]
      · simp [hget_cons]
      · have : (GL (cpB V) 36).length = n * 2 := hL
        omega
theorem cpL_even (V : List Int) : ∃ k, (cpL V).length = k * 2 ∧ k ≤ 36 := by
  unfold cpL
  split
  · exact GL_even _ 36
  · exact ⟨0, rfl, by omega⟩
def cpNl : Bool := true
def CertainPours_F : List SV → Heap → Nat → Nat → K1 → Prop
  | [.arr V], H, n, _, κ => (V.length = 18 ∧ I64 V) ∧ freshK (.more [.bool (isVF V)]) (cpL V) ((cpL V).length / 2) 2 47 cpNl H n κ
  | _, _, _, _, _ => False
theorem CertainPours_T : ∀ args H n m κ, CertainPours_F args H n m κ → GenOK Try.prog 35 args H n m κ := by
  intro args H n m κ h
  unfold CertainPours_F at h
  split at h
  · exact gen_of_fresh (CertainPours_ok _ h.1.1 h.1.2) (fun k o hk => by cases hk) h.2
  · exact h.elim
def sCertainPours_F : List SV → Heap → Nat → Nat → K1 → Prop
  | [.arr V], H, n, _, κ => (V.length = 18 ∧ I64 V) ∧ freshK (.more [.bool (isVF V)]) (cpL V) ((cpL V).length / 2) 2 47 false H n κ
  | _, _, _, _, _ => False
theorem sCertainPours_T : ∀ args H n m κ, sCertainPours_F args H n m κ → GenOK Try.prog 36 args H n m κ := by
  intro args H n m κ h
  unfold sCertainPours_F at h
  split at h
  · exact gen_of_fresh (sCertainPours_ok _ h.1.1 h.1.2) (fun k o hk => by cases hk) h.2
  · exact h.elim
end Go.Proofs.Ytckcojgfgcjamaa
set_option maxRecDepth 100000
set_option linter.unusedSimpArgs false
set_option linter.unusedVariables false
namespace Go.Proofs.Ytckcojgfgcjamaa
open Go Go.RowKit
/-- One layer: the hidden layers that are left, the rank among their orders, the cells. -/
def pkS (at_ : Nat) (s : List Int × Int × List Int) : List Int × Int × List Int := (lessL s.1 (pkc s.1 s.2.1), s.2.1 - sW s.1 (pkc s.1 s.2.1 - 1), s.2.2.set at_ (pkc s.1 s.2.1 : Int))
def mdK (i : Nat) (s : List Int × Int × List Int) : Nat → List Int × Int × List Int
  | 0 => s
  | k + 1 => pkS (i * 4 + k) (mdK i s k)
def topS (V : List Int) (i : Nat) (s : List Int × Int × List Int) : List Int × Int × List Int := if 0 < mm V i then (s.1, s.2.1, s.2.2.set (i * 4 + (mm V i - 1)) (V.getD i 0)) else s
def mdT (V : List Int) (s : List Int × Int × List Int) : Nat → List Int × Int × List Int
  | 0 => s
  | i + 1 => topS V i (mdK i (mdT V s i) (mm V i - 1))
def madeF (V : List Int) (r : Int) : List Int := (mdT V (hidV V, r, List.replicate 24 0) 6).2.2
/-- Cells of a tube with a color. -/
def hU (R : List Int) (a : Nat) (c : Int) : Nat → Int
  | 0 => 0
  | b + 1 => hU R a c b + is1 (R.getD (a * 4 + b) 0) c
def hT (V R : List Int) (c : Int) : Nat → Int
  | 0 => 0
  | a + 1 => hT V R c a + hU R a c (mm V a - 1)
theorem hU_set {R : List Int} {q : Nat} {x c : Int} {a : Nat} : ∀ n, (∀ b, b < n → q ≠ a * 4 + b) → hU (R.set q x) a c n = hU R a c n
  | 0, _ => rfl
  | n + 1, h => by
    unfold hU
    rw [hU_set n (fun b hb => h b (by omega)), getD_set_ne _ _ _ _ (h n (by omega))]
/-- What is known of a cell. -/
structure mdC (V : List Int) (i k a b : Nat) (x : Int) : Prop where
  lt : a < i → (b + 1 < mm V a → 1 ≤ x ∧ x ≤ 5) ∧ (b + 1 = mm V a → x = V.getD a 0) ∧ (mm V a ≤ b → x = 0)
  eq : a = i → (b < k → 1 ≤ x ∧ x ≤ 5) ∧ (k ≤ b → x = 0)
  gt : i < a → x = 0
structure mdI (V : List Int) (i k : Nat) (s : List Int × Int × List Int) : Prop where
  w : vwI s.1 s.2.1
  h : s.1.sum = al V - hmL (V.drop 6) i - k
  l : s.2.2.length = 24
  c : ∀ a b, a < 6 → b < 4 → mdC V i k a b (s.2.2.getD (a * 4 + b) 0)
  u : ∀ c : Nat, 1 ≤ c → c < 6 → s.1.getD c 0 + (hT V s.2.2 c i + hU s.2.2 i c k) = (hidV V).getD c 0
theorem mm_man {V : List Int} (g : vG V) {i : Nat} (hi : i < 6) : (V.drop 6).getD i 0 = (mm V i : Int) ∧ mm V i ≤ 4 := by
  have := g.u2 i hi
  have e : (V.drop 6).getD i 0 = V.getD (6 + i) 0 := by simp [List.getD]
  rw [e]; unfold mm; omega
theorem hmL_next {V : List Int} (g : vG V) {i : Nat} (hi : i < 6) : hmL (V.drop 6) (i + 1) = hmL (V.drop 6) i + ((mm V i - 1 : Nat) : Int) := by
  have := (mm_man g hi).1
  rw [hmL]
  split <;> omega
theorem hmL_mono {V : List Int} (g : vG V) {i j : Nat} (h : i ≤ j) (hj : j ≤ 6) : hmL (V.drop 6) i ≤ hmL (V.drop 6) j := by
  induction j with
  | zero => rw [show i = 0 by omega]; exact Int.le_refl _
  | succ n ih =>
    by_cases hm : i = n + 1
    · subst hm; exact Int.le_refl _
    · have := ih (by omega) (by omega)
      have := hmL_next g (i := n) (by omega)
      omega
theorem mdI.left {V : List Int} (g : vG V) {i k : Nat} {s : List Int × Int × List Int} (h : mdI V i k s) (hi : i < 6) (hk : k + 1 < mm V i) : 0 < s.1.sum := by
  have h1 := hmL_next g hi
  have h2 := hmL_mono g (i := i + 1) (j := 6) (by omega) (Nat.le_refl _)
  have h3 : al V = hmL (V.drop 6) 6 := g.hs
  have := h.h
  omega
theorem mm_all {V : List Int} (g : vG V) (i : Nat) (hi : i < 6) : mm V i ≤ 4 := (mm_man g hi).2
theorem hT_set' {V R : List Int} (g : vG V) {q : Nat} {x c : Int} : ∀ n, n ≤ 6 → n * 4 ≤ q → hT V (R.set q x) c n = hT V R c n
  | 0, _, _ => rfl
  | n + 1, hn, h => by
    unfold hT
    rw [hT_set' g n (by omega) (by omega), hU_set]
    intro b hb
    have := mm_all g n (by omega)
    omega
theorem mdI.next {V : List Int} (g : vG V) {i k : Nat} {s : List Int × Int × List Int} (h : mdI V i k s) (hi : i < 6) (hk : k + 1 < mm V i) : mdI V i (k + 1) (pkS (i * 4 + k) s) := by
  have hm := mm_all g i hi
  have P := pkc_step h.w (h.left g hi hk)
  refine ⟨P.next, ?_, by simp only [pkS, List.length_set]; exact h.l, fun a b ha hb => ?_, fun c h1 h6 => ?_⟩
  · have e1 := h.h
    have e2 := P.sum
    show (lessL s.1 (pkc s.1 s.2.1)).sum = _
    omega
  · have hc := h.c a b ha hb
    simp only [pkS]
    by_cases hq : i * 4 + k = a * 4 + b
    · have ea : a = i := by omega
      have eb : b = k := by omega
      subst ea; subst eb
      rw [getD_set_eq _ _ _ (by rw [h.l]; omega)]
      have := P.c1; have := P.c5
      exact ⟨fun h => by omega, fun _ => ⟨fun _ => by omega, fun h => by omega⟩, fun h => by omega⟩
    · rw [getD_set_ne _ _ _ _ hq]
      exact ⟨hc.lt, fun e => ⟨fun hb => (hc.eq e).1 (by omega), fun hb => (hc.eq e).2 (by omega)⟩, hc.gt⟩
  · have hu := h.u c h1 h6
    have sl : s.2.2.getD (i * 4 + k) 0 = s.2.2.getD (i * 4 + k) 0 := rfl
    have e1 : hT V (s.2.2.set (i * 4 + k) (pkc s.1 s.2.1 : Int)) c i = hT V s.2.2 c i := hT_set' g i (by omega) (by omega)
    have e2 : hU (s.2.2.set (i * 4 + k) (pkc s.1 s.2.1 : Int)) i c (k + 1) = hU s.2.2 i c k + is1 (pkc s.1 s.2.1 : Int) c := by
      rw [hU, hU_set k (fun b hb => by omega), getD_set_eq _ _ _ (by rw [h.l]; omega)]
    simp only [pkS, e1, e2]
    unfold lessL
    by_cases hc : pkc s.1 s.2.1 = c
    · rw [hc, getD_set_eq _ _ _ (by rw [h.w.len]; omega)]
      have : is1 (c : Int) c = 1 := if_pos rfl
      omega
    · rw [getD_set_ne _ _ _ _ hc]
      have : is1 (pkc s.1 s.2.1 : Int) c = 0 := if_neg (by omega)
      omega
theorem mdI.top {V : List Int} (g : vG V) {i : Nat} {s : List Int × Int × List Int} (h : mdI V i (mm V i - 1) s) (hi : i < 6) : mdI V (i + 1) 0 (topS V i s) := by
  have hm := mm_all g i hi
  have hn := hmL_next g hi
  have h1 := h.h
  have u3 := g.u3 i hi
  have u1 := g.u1 i hi
  have u2 := g.u2 i hi
  have em : mm V i = (V.getD (6 + i) 0).toNat := rfl
  by_cases h0 : 0 < mm V i
  · rw [topS, if_pos h0]
    refine ⟨h.w, ?_, by simp only [List.length_set]; exact h.l, fun a b ha hb => ?_, fun c h1 h6 => ?_⟩
    · show s.1.sum = _
      omega
    · have hc := h.c a b ha hb
      by_cases hq : i * 4 + (mm V i - 1) = a * 4 + b
      · have ea : a = i := by omega
        have eb : b = mm V i - 1 := by omega
        subst ea; subst eb
        rw [getD_set_eq _ _ _ (by rw [h.l]; omega)]
        exact ⟨fun _ => ⟨fun h => by omega, fun _ => rfl, fun h => by omega⟩, fun h => by omega, fun h => by omega⟩
      · rw [getD_set_ne _ _ _ _ hq]
        refine ⟨fun hlt => ?_, fun e => ?_, fun hgt => hc.gt (by omega)⟩
        · by_cases e : a = i
          · subst e
            exact ⟨fun h => (hc.eq rfl).1 (by omega), fun h => by omega, fun h => (hc.eq rfl).2 (by omega)⟩
          · exact hc.lt (by omega)
        · have := hc.gt (by omega)
          exact ⟨fun h => by omega, fun _ => this⟩
    · have hu := h.u c h1 h6
      have e1 : hT V (s.2.2.set (i * 4 + (mm V i - 1)) (V.getD i 0)) c (i + 1) = hT V s.2.2 c i + hU s.2.2 i c (mm V i - 1) := by
        rw [hT, hT_set' g i (by omega) (by omega), hU_set _ (fun b hb => by omega)]
      simp only [e1, hU]
      omega
  · rw [topS, if_neg h0]
    have z : mm V i - 1 = 0 := by omega
    rw [z] at h
    refine ⟨h.w, ?_, h.l, fun a b ha hb => ?_, fun c h1 h6 => ?_⟩
    · have := h.h
      omega
    · have hc := h.c a b ha hb
      refine ⟨fun hlt => ?_, fun e => ?_, fun hgt => hc.gt (by omega)⟩
      · by_cases e : a = i
        · subst e
          exact ⟨fun h => by omega, fun h => by omega, fun h => (hc.eq rfl).2 (by omega)⟩
        · exact hc.lt (by omega)
      · have := hc.gt (by omega)
        exact ⟨fun h => by omega, fun _ => this⟩
    · have hu := h.u c h1 h6
      simp only [hT, z, hU] at hu ⊢
      omega
theorem mdI.zero {V : List Int} (g : vG V) (h0 : (hidV V).getD 0 0 = 0) {r : Int} (r0 : 0 ≤ r) (r1 : r < arrF (hidV V)) : mdI V 0 0 (hidV V, r, List.replicate 24 0) := by
  refine ⟨⟨g.lenH, h0, g.bH, g.h18, r0, r1⟩, by simp [hmL, al], by simp, fun a b ha hb => ?_, fun c _ _ => by simp [hT, hU]⟩
  have : (List.replicate 24 (0 : Int)).getD (a * 4 + b) 0 = 0 := by
    rw [List.getD_eq_getElem?_getD, List.getElem?_replicate]
    split <;> rfl
  simp only [this]
  exact ⟨fun h => by omega, fun _ => ⟨fun h => by omega, fun _ => rfl⟩, fun _ => rfl⟩
theorem mdK_I {V : List Int} (g : vG V) {i : Nat} (hi : i < 6) {s : List Int × Int × List Int} (h : mdI V i 0 s) : ∀ k, k ≤ mm V i - 1 → mdI V i k (mdK i s k)
  | 0, _ => h
  | k + 1, hk => (mdK_I g hi h k (by omega)).next g hi (by omega)
theorem mdT_I {V : List Int} (g : vG V) (h0 : (hidV V).getD 0 0 = 0) {r : Int} (r0 : 0 ≤ r) (r1 : r < arrF (hidV V)) : ∀ i, i ≤ 6 → mdI V i 0 (mdT V (hidV V, r, List.replicate 24 0) i)
  | 0, _ => mdI.zero g h0 r0 r1
  | i + 1, hi => (mdK_I g (by omega) (mdT_I g h0 r0 r1 i (by omega)) _ (Nat.le_refl _)).top g (by omega)
/-- What a candidate's tubes are. -/
theorem made_cells {V : List Int} (g : vG V) (h0 : (hidV V).getD 0 0 = 0) {r : Int} (r0 : 0 ≤ r) (r1 : r < arrF (hidV V)) {a : Nat} (ha : a < 6) :
    tubeB (tubeAt (madeF V r) a) = true ∧ layN (tubeAt (madeF V r) a) = mm V a ∧ (topF (tubeAt (madeF V r) a)).1 = V.getD a 0 := by
  have I := mdT_I g h0 r0 r1 6 (Nat.le_refl _)
  have hl : (madeF V r).length = 24 := I.l
  have ht := tubeAt_len hl ha
  have hm := mm_all g a ha
  have u1 := g.u1 a ha
  have u2 := g.u2 a ha
  have u3 := g.u3 a ha
  have em : mm V a = (V.getD (6 + a) 0).toNat := rfl
  have hc := fun b hb => (I.c a b ha hb).lt ha
  have cell : ∀ b, b < 4 → (tubeAt (madeF V r) a).getD b 0 = (mdT V (hidV V, r, List.replicate 24 0) 6).2.2.getD (a * 4 + b) 0 := fun b hb => tubeAt_getD _ _ _ hb
  obtain ⟨t1, t2⟩ := tube_of ht (n := mm V a) hm (fun b hb => by
    rw [cell b (by omega)]
    obtain ⟨p1, p2, p3⟩ := hc b (by omega)
    by_cases h : b + 1 = mm V a
    · rw [p2 h]; omega
    · exact p1 (by omega)) (fun b hb h4 => by
    rw [cell b h4]; exact (hc b h4).2.2 hb)
  refine ⟨t1, t2, ?_⟩
  rcases Nat.eq_zero_or_pos (mm V a) with hz | hz
  · have : topF (tubeAt (madeF V r) a) = (0, 0) := by simp [topF, runsL, t2, hz]
    rw [this]; simp only; omega
  · obtain ⟨q, hq1, _⟩ := topF_run _ ht (by omega)
    rw [hq1]
    simp only
    rw [t2, cell _ (by omega)]
    exact (hc (mm V a - 1) (by omega)).2.1 (by omega)
theorem made_len {V : List Int} (g : vG V) (h0 : (hidV V).getD 0 0 = 0) {r : Int} (r0 : 0 ≤ r) (r1 : r < arrF (hidV V)) : (madeF V r).length = 24 := (mdT_I g h0 r0 r1 6 (Nat.le_refl _)).l
theorem made_rack {V : List Int} (g : vG V) (h0 : (hidV V).getD 0 0 = 0) {r : Int} (r0 : 0 ≤ r) (r1 : r < arrF (hidV V)) : rackB (madeF V r) = true := rack_tubes.2 fun _ hi => (made_cells g h0 r0 r1 hi).1
end Go.Proofs.Ytckcojgfgcjamaa
set_option maxRecDepth 100000
set_option linter.unusedSimpArgs false
set_option linter.unusedVariables false
namespace Go.Proofs.Ytckcojgfgcjamaa
open Go Go.RowKit
--@tbl candidate = (impl.View).candidate
theorem candidate_ok (V : List Int) (r : Int) (g : vG V) (h0 : (hidV V).getD 0 0 = 0) (r0 : 0 ≤ r) (r1 : r < arrF (hidV V)) : PureH Try.prog 64 [.arr V, .int r] [] (.arr (madeF V r)) := by
  have hV := g.len
  have tkV : V.take 18 = V := List.take_of_length_le (by omega)
  have u1 := g.u1
  have lenH := g.lenH
  have eH : hidL (V.take 6) (V.drop 12) 6 = hidV V := rfl
  have tkH : (hidV V).take 6 = hidV V := List.take_of_length_le (by omega)
  refine pure_of_vc (X := ⟨Try.prog, tys, [(53, hidden_F), (55, arrangements_F)], [], true, true, 0, [], []⟩) fn_64 ⟨tys_ok, (.cons hidden_T (.cons arrangements_T .nil)), .nil, mixed⟩ (n0 := 0) (Nat.le_of_ble_eq_true rfl) (by simp [wfL, SV.wf]) (wfH_spec (by simp [wfH, SObj.wf, wfL, SV.wf])) (Nat.le_refl _) (fun _ => by simp [SV.wf, wfL]) ?_
  simp -implicitDefEqProofs only [Try.f64, Option.getD_some, argS, hidden_F, arrangements_F, hV, tkV, u1, eH, lenH, tkH, ZB, Int.reduceToNat, Nat.reduceLT, Nat.reduceLeDiff, Int.reduceLE, Int.reduceLT, Nat.reduceEqDiff, Nat.reduceSub, SB, SV.known, packR, ne_eq, reduceCtorEq, Nat.reduceEqDiff, ↓reduceIte, if_true, if_false, eq_self, Nat.reduceAdd, Nat.reduceMul, Nat.reduceSub, forall_const, oneCellS, litOne, flat1, Kd.isSca, flat, TYB]
  have I0 := fun i hi => mdT_I g h0 r0 r1 i hi
  have em : madeF V r = (mdT V (hidV V, r, List.replicate 24 0) 6).2.2 := rfl
  have z0 : mdT V (hidV V, r, List.replicate 24 0) 0 = (hidV V, r, List.replicate 24 0) := rfl
  rw [em]
  generalize hs0 : (hidV V, r, List.replicate 24 (0 : Int)) = s0 at *
  have a1 : hidV V = s0.1 := by rw [← hs0]
  have a2 : r = s0.2.1 := by rw [← hs0]
  have a3 : List.replicate 24 (0 : Int) = s0.2.2 := by rw [← hs0]
  have gM : ∀ i, i < 6 → (List.take 6 (List.drop 6 V)).getD i 0 = (mm V i : Int) := fun i hi => by
    rw [← (mm_man g hi).1, take6_get _ _ hi]
  have lM : (List.take 6 (List.drop 6 V)).length = 6 := by rw [List.length_take, List.length_drop]; omega
  refine loop_intro (fun i : Nat => [(16, .int i), (15, .arr (List.take 6 (List.drop 6 V))), (6, .ptr 3 0), (5, .ptr 2 0), (4, .ptr 1 0), (2, .ptr 0 0), (1, .int (mdT V s0 i).2.1)]) (fun i => [(3, .ints (mdT V s0 i).2.2 27), (2, .ints (mdT V s0 i).1 29), (1, .ints (List.replicate 24 0) 27), (0, .ints V 31)]) 4 (fun i => i ≤ 6) (fun i => 6 - i) ?_ ?_
  · refine ⟨0, ?_, Sub.mk_id ?_ ?_ ?_ ?_ ?_⟩
    all_goals (try (simp only [z0, ← a1, ← a2, ← a3, LB, subS, subH, wfS, wfH, SV.ren, renL, SObj.ren, SV.wf, SObj.wf, wfL, SV.known, Nat.reduceEqDiff, ↓reduceIte, if_true, if_false, eq_self, Nat.reduceAdd, Nat.reduceLT, Nat.reduceLeDiff, implies_true, reduceCtorEq, forall_const]; done))
    all_goals (try (simp only [z0, ← a1, ← a2, ← a3, LB, subS, subH, wfS, wfH, SV.ren, renL, SObj.ren, SV.wf, SObj.wf, wfL, SV.known, Nat.reduceEqDiff, ↓reduceIte, if_true, if_false, eq_self, Nat.reduceAdd, Nat.reduceLT, Nat.reduceLeDiff, implies_true, reduceCtorEq, forall_const]; simp; done))
    all_goals (try (simp only [z0, ← a1, ← a2, ← a3, LB, subS, subH, wfS, wfH, SV.ren, renL, SObj.ren, SV.wf, SObj.wf, wfL, SV.known, Nat.reduceEqDiff, ↓reduceIte, if_true, if_false, eq_self, Nat.reduceAdd, Nat.reduceLT, Nat.reduceLeDiff, implies_true, reduceCtorEq, forall_const]; (and_intros <;> (first | omega | rfl | (simp; done) | (simp; omega))); done))
    all_goals (try dsimp only)
    all_goals (and_intros <;> try (first | omega | (unfold In64; omega) | trivial | assumption))
  · intro i hi
    by_cases hlt : i < 6
    · have hil : (i : Int) < 6 := by omega
      have gi := gM i hlt
      have hm4 := mm_all g i hlt
      have II := I0 i hi
      have hl3 := II.l
      have hl1 := II.w.len
      have iw : In64 ((mm V i : Int) - 1) := by unfold In64; omega
      have eN : mdT V s0 (i + 1) = topS V i (mdK i (mdT V s0 i) (mm V i - 1)) := rfl
      have Ik := fun k hk => mdK_I g hlt II (k := k) hk
      have zk : mdK i (mdT V s0 i) 0 = mdT V s0 i := rfl
      simp -implicitDefEqProofs only [lk_normal, hil, gi, lM, iw, ZB, Int.reduceToNat, Nat.reduceLT, Nat.reduceLeDiff, Int.reduceLE, Int.reduceLT, Nat.reduceEqDiff, Nat.reduceSub, SB, SV.known, packR, ne_eq, reduceCtorEq, Nat.reduceEqDiff, ↓reduceIte, if_true, if_false, eq_self, Nat.reduceAdd, Nat.reduceMul, Nat.reduceSub, forall_const, oneCellS, litOne, flat1, Kd.isSca, flat, TYB]
      (try (and_intros <;> try (first | omega | (unfold In64; omega) | trivial | assumption)))
      generalize mdT V s0 i = si at *
      refine loop_intro (fun k : Nat => [(22, .int k), (21, .int ((mm V i : Int) - 1)), (8, .int (mm V i)), (7, .int i), (16, .int i), (15, .arr (List.take 6 (List.drop 6 V))), (6, .ptr 3 0), (5, .ptr 2 0), (4, .ptr 1 0), (2, .ptr 0 0), (1, .int (mdK i si k).2.1)]) (fun k => [(3, .ints (mdK i si k).2.2 27), (2, .ints (mdK i si k).1 29), (1, .ints (List.replicate 24 0) 27), (0, .ints V 31)]) 4 (fun k => k ≤ mm V i - 1) (fun k => 4 - k) ?_ ?_
      · refine ⟨0, ?_, Sub.mk_id ?_ ?_ ?_ ?_ ?_⟩
        all_goals (try (simp only [zk, LB, subS, subH, wfS, wfH, SV.ren, renL, SObj.ren, SV.wf, SObj.wf, wfL, SV.known, Nat.reduceEqDiff, ↓reduceIte, if_true, if_false, eq_self, Nat.reduceAdd, Nat.reduceLT, Nat.reduceLeDiff, implies_true, reduceCtorEq, forall_const]; done))
        all_goals (try (simp only [zk, LB, subS, subH, wfS, wfH, SV.ren, renL, SObj.ren, SV.wf, SObj.wf, wfL, SV.known, Nat.reduceEqDiff, ↓reduceIte, if_true, if_false, eq_self, Nat.reduceAdd, Nat.reduceLT, Nat.reduceLeDiff, implies_true, reduceCtorEq, forall_const]; simp; done))
        all_goals (try (simp only [zk, LB, subS, subH, wfS, wfH, SV.ren, renL, SObj.ren, SV.wf, SObj.wf, wfL, SV.known, Nat.reduceEqDiff, ↓reduceIte, if_true, if_false, eq_self, Nat.reduceAdd, Nat.reduceLT, Nat.reduceLeDiff, implies_true, reduceCtorEq, forall_const]; (and_intros <;> (first | omega | rfl | (simp; done) | (simp; omega))); done))
        all_goals (try dsimp only)
        all_goals (and_intros <;> try (first | omega | (unfold In64; omega) | trivial | assumption))
      · intro k hk
        have J := Ik k hk
        by_cases hkt : k < mm V i - 1
        · have hkl : (k : Int) < (mm V i : Int) - 1 := by omega
          have P := pkc_step J.w (J.left g hlt (by omega))
          have eS : mdK i si (k + 1) = pkS (i * 4 + k) (mdK i si k) := rfl
          simp -implicitDefEqProofs only [lk_normal, hkl, ZB, Int.reduceToNat, Nat.reduceLT, Nat.reduceLeDiff, Int.reduceLE, Int.reduceLT, Nat.reduceEqDiff, Nat.reduceSub, SB, SV.known, packR, ne_eq, reduceCtorEq, Nat.reduceEqDiff, ↓reduceIte, if_true, if_false, eq_self, Nat.reduceAdd, Nat.reduceMul, Nat.reduceSub, forall_const, oneCellS, litOne, flat1, Kd.isSca, flat, TYB]
          (try (and_intros <;> try (first | omega | (unfold In64; omega) | trivial | assumption)))
          generalize mdK i si k = sk at *
          obtain ⟨L, rk, R⟩ := sk
          replace P : pkR L rk (pkc L rk) := P
          have W : vwI L rk := J.w
          have hL := W.len
          have hR : R.length = 24 := J.l
          have ab := arrF_bd W.b W.s
          have rk0 := W.r0
          have rk1 := W.r1
          unfold pkS at eS
          simp only at eS
          generalize hc : pkc L rk = c at *
          have c1 := P.c1
          have c5 := P.c5
          have wn := fun q => wC_nn W.len W.b W.s q
          have sn := fun (q : Nat) => sW_mono W.len W.b W.s (Nat.zero_le q)
          have sz : sW L 0 = 0 := rfl
          refine loop_intro (fun q : Nat => [(10, .int ((q : Int) + 1)), (9, .int k), (22, .int k), (21, .int ((mm V i : Int) - 1)), (8, .int (mm V i)), (7, .int i), (16, .int i), (15, .arr (List.take 6 (List.drop 6 V))), (6, .ptr 3 0), (5, .ptr 2 0), (4, .ptr 1 0), (2, .ptr 0 0), (1, .int (rk - sW L q))]) (fun q => [(3, .ints R 27), (2, .ints L 29), (1, .ints (List.replicate 24 0) 27), (0, .ints V 31)]) 4 (fun q => q < c) (fun q => 5 - q) ?_ ?_
          · refine ⟨0, ?_, Sub.mk_id ?_ ?_ ?_ ?_ ?_⟩
            all_goals (try (simp only [sz, Int.sub_zero, LB, subS, subH, wfS, wfH, SV.ren, renL, SObj.ren, SV.wf, SObj.wf, wfL, SV.known, Nat.reduceEqDiff, ↓reduceIte, if_true, if_false, eq_self, Nat.reduceAdd, Nat.reduceLT, Nat.reduceLeDiff, implies_true, reduceCtorEq, forall_const]; done))
            all_goals (try (simp only [sz, Int.sub_zero, LB, subS, subH, wfS, wfH, SV.ren, renL, SObj.ren, SV.wf, SObj.wf, wfL, SV.known, Nat.reduceEqDiff, ↓reduceIte, if_true, if_false, eq_self, Nat.reduceAdd, Nat.reduceLT, Nat.reduceLeDiff, implies_true, reduceCtorEq, forall_const]; simp; done))
            all_goals (try (simp only [sz, Int.sub_zero, LB, subS, subH, wfS, wfH, SV.ren, renL, SObj.ren, SV.wf, SObj.wf, wfL, SV.known, Nat.reduceEqDiff, ↓reduceIte, if_true, if_false, eq_self, Nat.reduceAdd, Nat.reduceLT, Nat.reduceLeDiff, implies_true, reduceCtorEq, forall_const]; (and_intros <;> (first | omega | rfl | (simp; done) | (simp; omega))); done))
            all_goals (try dsimp only)
            all_goals (and_intros <;> try (first | omega | (unfold In64; omega) | trivial | assumption))
          · intro q hq
            have ql : (q : Int) + 1 ≤ 5 := by omega
            have qn : ((q : Int) + 1).toNat = q + 1 := by omega
            have q0 : 0 ≤ (q : Int) + 1 := by omega
            have q6 : (q : Int) + 1 < 6 := by omega
            have q6n : q + 1 < 6 := by omega
            have lo := P.lo q hq
            have sq := sn q
            have eW : sW L (q + 1) = sW L q + wC L (q + 1) := rfl
            have wq := wn (q + 1)
            have bq := W.b.getD (k := q + 1) (by omega)
            have i1 : In64 (rk - sW L q) := by unfold In64; omega
            by_cases hz : L.getD (q + 1) 0 = 0
            · have hne : q + 1 ≠ c := fun h => by have := P.p; rw [← h] at this; omega
              have ez : wC L (q + 1) = 0 := if_neg (by omega)
              have eS2 : sW L (q + 1) = sW L q := by omega
              simp -implicitDefEqProofs only [lk_normal, ql, qn, q0, q6, q6n, hL, hz, ZB, Int.reduceToNat, Nat.reduceLT, Nat.reduceLeDiff, Int.reduceLE, Int.reduceLT, Nat.reduceEqDiff, Nat.reduceSub, SB, SV.known, packR, ne_eq, reduceCtorEq, Nat.reduceEqDiff, ↓reduceIte, if_true, if_false, eq_self, Nat.reduceAdd, Nat.reduceMul, Nat.reduceSub, forall_const, oneCellS, litOne, flat1, Kd.isSca, flat, TYB]
              (try (and_intros <;> try (first | omega | (unfold In64; omega) | trivial | assumption)))
              refine ⟨q + 1, ?_, ?_, Sub.mk_id ?_ ?_ ?_ ?_ ?_⟩
              all_goals (try (simp only [eS2, LB, subS, subH, wfS, wfH, SV.ren, renL, SObj.ren, SV.wf, SObj.wf, wfL, SV.known, Nat.reduceEqDiff, ↓reduceIte, if_true, if_false, eq_self, Nat.reduceAdd, Nat.reduceLT, Nat.reduceLeDiff, implies_true, reduceCtorEq, forall_const]; done))
              all_goals (try (simp only [eS2, LB, subS, subH, wfS, wfH, SV.ren, renL, SObj.ren, SV.wf, SObj.wf, wfL, SV.known, Nat.reduceEqDiff, ↓reduceIte, if_true, if_false, eq_self, Nat.reduceAdd, Nat.reduceLT, Nat.reduceLeDiff, implies_true, reduceCtorEq, forall_const]; simp; done))
              all_goals (try (simp only [eS2, LB, subS, subH, wfS, wfH, SV.ren, renL, SObj.ren, SV.wf, SObj.wf, wfL, SV.known, Nat.reduceEqDiff, ↓reduceIte, if_true, if_false, eq_self, Nat.reduceAdd, Nat.reduceLT, Nat.reduceLeDiff, implies_true, reduceCtorEq, forall_const]; (and_intros <;> (first | omega | rfl | (simp; done) | (simp; omega))); done))
              all_goals (try dsimp only)
              all_goals (and_intros <;> try (first | omega | (unfold In64; omega) | trivial | assumption))
            · have hp : 0 < L.getD (q + 1) 0 := by omega
              have ew : wC L (q + 1) = arrF (L.set (q + 1) (L.getD (q + 1) 0 - 1)) := if_pos hp
              have bl : Bd 0 1000000 (L.set (q + 1) (L.getD (q + 1) 0 - 1)) := fun x hx => by have := bd_less W.b hp x hx; omega
              have i2 : In64 (L.getD (q + 1) 0 - 1) := by unfold In64; omega
              have i3 : In64 (L.getD (q + 1) 0 - 1 + 1) := by unfold In64; omega
              have tkq : List.take 6 (L.set (q + 1) (L.getD (q + 1) 0 - 1)) = L.set (q + 1) (L.getD (q + 1) 0 - 1) := List.take_of_length_le (by rw [List.length_set]; omega)
              have g1 := getD_set_eq L (q + 1) (L.getD (q + 1) 0 - 1) (by omega)
              have g2 : (L.set (q + 1) (L.getD (q + 1) 0 - 1)).set (q + 1) (L.getD (q + 1) 0 - 1 + 1) = L := by
                rw [List.set_set, show L.getD (q + 1) 0 - 1 + 1 = L.getD (q + 1) 0 by omega]; exact set_getD_self _ _
              have p24 : i * 4 + k < 24 := by omega
              have ki : (k : Int) < 4 := by omega
              by_cases hqc : q + 1 = c
              · have hcr : rk - sW L q < arrF (L.set (q + 1) (L.getD (q + 1) 0 - 1)) := by
                  have := P.hi
                  rw [← hqc] at this
                  omega
                rw [← hqc] at eS
                have eS' : mdK i si (k + 1) = (L.set (q + 1) (L.getD (q + 1) 0 - 1), rk - sW L q, R.set (i * 4 + k) ((q : Int) + 1)) := by rw [eS]; simp [lessL]
                simp -implicitDefEqProofs only [lk_normal, arrangements_F, ql, qn, q0, q6, q6n, hL, hR, hz, bl, i2, tkq, hcr, p24, ki, hil, ZB, Int.reduceToNat, Nat.reduceLT, Nat.reduceLeDiff, Int.reduceLE, Int.reduceLT, Nat.reduceEqDiff, Nat.reduceSub, SB, SV.known, packR, ne_eq, reduceCtorEq, Nat.reduceEqDiff, ↓reduceIte, if_true, if_false, eq_self, Nat.reduceAdd, Nat.reduceMul, Nat.reduceSub, forall_const, oneCellS, litOne, flat1, Kd.isSca, flat, TYB]
                (try (and_intros <;> try (first | omega | (unfold In64; omega) | trivial | assumption)))
                refine ⟨k + 1, ?_, ?_, Sub.mk_id ?_ ?_ ?_ ?_ ?_⟩
                all_goals (try (simp only [eS', LB, subS, subH, wfS, wfH, SV.ren, renL, SObj.ren, SV.wf, SObj.wf, wfL, SV.known, Nat.reduceEqDiff, ↓reduceIte, if_true, if_false, eq_self, Nat.reduceAdd, Nat.reduceLT, Nat.reduceLeDiff, implies_true, reduceCtorEq, forall_const]; done))
                all_goals (try (simp only [eS', LB, subS, subH, wfS, wfH, SV.ren, renL, SObj.ren, SV.wf, SObj.wf, wfL, SV.known, Nat.reduceEqDiff, ↓reduceIte, if_true, if_false, eq_self, Nat.reduceAdd, Nat.reduceLT, Nat.reduceLeDiff, implies_true, reduceCtorEq, forall_const]; simp; done))
                all_goals (try (simp only [eS', LB, subS, subH, wfS, wfH, SV.ren, renL, SObj.ren, SV.wf, SObj.wf, wfL, SV.known, Nat.reduceEqDiff, ↓reduceIte, if_true, if_false, eq_self, Nat.reduceAdd, Nat.reduceLT, Nat.reduceLeDiff, implies_true, reduceCtorEq, forall_const]; (and_intros <;> (first | omega | rfl | (simp; done) | (simp; omega))); done))
                all_goals (try dsimp only)
                all_goals (and_intros <;> try (first | omega | (unfold In64; omega) | trivial | assumption))
              · have hge : sW L (q + 1) ≤ rk := P.lo (q + 1) (by omega)
                have hcr : ¬ rk - sW L q < arrF (L.set (q + 1) (L.getD (q + 1) 0 - 1)) := by omega
                have eS2 : rk - sW L (q + 1) = rk - sW L q - arrF (L.set (q + 1) (L.getD (q + 1) 0 - 1)) := by omega
                have i4 : In64 (rk - sW L q - arrF (L.set (q + 1) (L.getD (q + 1) 0 - 1))) := by unfold In64; omega
                simp -implicitDefEqProofs only [lk_normal, arrangements_F, ql, qn, q0, q6, q6n, hL, hz, bl, i2, i3, i4, tkq, g1, g2, hcr, ZB, Int.reduceToNat, Nat.reduceLT, Nat.reduceLeDiff, Int.reduceLE, Int.reduceLT, Nat.reduceEqDiff, Nat.reduceSub, SB, SV.known, packR, ne_eq, reduceCtorEq, Nat.reduceEqDiff, ↓reduceIte, if_true, if_false, eq_self, Nat.reduceAdd, Nat.reduceMul, Nat.reduceSub, forall_const, oneCellS, litOne, flat1, Kd.isSca, flat, TYB]
                (try (and_intros <;> try (first | omega | (unfold In64; omega) | trivial | assumption)))
                refine ⟨q + 1, ?_, ?_, Sub.mk_id ?_ ?_ ?_ ?_ ?_⟩
                all_goals (try (simp only [eS2, LB, subS, subH, wfS, wfH, SV.ren, renL, SObj.ren, SV.wf, SObj.wf, wfL, SV.known, Nat.reduceEqDiff, ↓reduceIte, if_true, if_false, eq_self, Nat.reduceAdd, Nat.reduceLT, Nat.reduceLeDiff, implies_true, reduceCtorEq, forall_const]; done))
                all_goals (try (simp only [eS2, LB, subS, subH, wfS, wfH, SV.ren, renL, SObj.ren, SV.wf, SObj.wf, wfL, SV.known, Nat.reduceEqDiff, ↓reduceIte, if_true, if_false, eq_self, Nat.reduceAdd, Nat.reduceLT, Nat.reduceLeDiff, implies_true, reduceCtorEq, forall_const]; simp; done))
                all_goals (try (simp only [eS2, LB, subS, subH, wfS, wfH, SV.ren, renL, SObj.ren, SV.wf, SObj.wf, wfL, SV.known, Nat.reduceEqDiff, ↓reduceIte, if_true, if_false, eq_self, Nat.reduceAdd, Nat.reduceLT, Nat.reduceLeDiff, implies_true, reduceCtorEq, forall_const]; (and_intros <;> (first | omega | rfl | (simp; done) | (simp; omega))); done))
                all_goals (try dsimp only)
                all_goals (and_intros <;> try (first | omega | (unfold In64; omega) | trivial | assumption))
        · have hkl : ¬ (k : Int) < (mm V i : Int) - 1 := by omega
          by_cases hm0 : 0 < mm V i
          · obtain rfl : k = mm V i - 1 := by omega
            have ml : 0 < (mm V i : Int) := by omega
            have eT : mdT V s0 (i + 1) = ((mdK i si (mm V i - 1)).1, (mdK i si (mm V i - 1)).2.1, (mdK i si (mm V i - 1)).2.2.set (i * 4 + (mm V i - 1)) (V.getD i 0)) := by rw [eN, topS, if_pos hm0]
            have hR := J.l
            have n1 : ((mm V i : Int) - 1).toNat = mm V i - 1 := by omega
            have n2 : 0 ≤ (mm V i : Int) - 1 := by omega
            have n3 : (mm V i : Int) - 1 < 4 := by omega
            have p24 : i * 4 + (mm V i - 1) < 24 := by omega
            have i18 : i < 18 := by omega
            simp -implicitDefEqProofs only [lk_normal, hkl, ml, iw, n1, n2, n3, hil, hV, i18, hR, p24, ZB, Int.reduceToNat, Nat.reduceLT, Nat.reduceLeDiff, Int.reduceLE, Int.reduceLT, Nat.reduceEqDiff, Nat.reduceSub, SB, SV.known, packR, ne_eq, reduceCtorEq, Nat.reduceEqDiff, ↓reduceIte, if_true, if_false, eq_self, Nat.reduceAdd, Nat.reduceMul, Nat.reduceSub, forall_const, oneCellS, litOne, flat1, Kd.isSca, flat, TYB]
            (try (and_intros <;> try (first | omega | (unfold In64; omega) | trivial | assumption)))
            refine ⟨i + 1, ?_, ?_, Sub.mk_id ?_ ?_ ?_ ?_ ?_⟩
            all_goals (try (simp only [eT, LB, subS, subH, wfS, wfH, SV.ren, renL, SObj.ren, SV.wf, SObj.wf, wfL, SV.known, Nat.reduceEqDiff, ↓reduceIte, if_true, if_false, eq_self, Nat.reduceAdd, Nat.reduceLT, Nat.reduceLeDiff, implies_true, reduceCtorEq, forall_const]; done))
            all_goals (try (simp only [eT, LB, subS, subH, wfS, wfH, SV.ren, renL, SObj.ren, SV.wf, SObj.wf, wfL, SV.known, Nat.reduceEqDiff, ↓reduceIte, if_true, if_false, eq_self, Nat.reduceAdd, Nat.reduceLT, Nat.reduceLeDiff, implies_true, reduceCtorEq, forall_const]; simp; done))
            all_goals (try (simp only [eT, LB, subS, subH, wfS, wfH, SV.ren, renL, SObj.ren, SV.wf, SObj.wf, wfL, SV.known, Nat.reduceEqDiff, ↓reduceIte, if_true, if_false, eq_self, Nat.reduceAdd, Nat.reduceLT, Nat.reduceLeDiff, implies_true, reduceCtorEq, forall_const]; (and_intros <;> (first | omega | rfl | (simp; done) | (simp; omega))); done))
            all_goals (try dsimp only)
            all_goals (and_intros <;> try (first | omega | (unfold In64; omega) | trivial | assumption))
          · have ml : ¬ 0 < (mm V i : Int) := by omega
            have eT : mdT V s0 (i + 1) = mdK i si (mm V i - 1) := by rw [eN, topS, if_neg hm0]
            obtain rfl : k = mm V i - 1 := by omega
            simp -implicitDefEqProofs only [lk_normal, hkl, ml, ZB, Int.reduceToNat, Nat.reduceLT, Nat.reduceLeDiff, Int.reduceLE, Int.reduceLT, Nat.reduceEqDiff, Nat.reduceSub, SB, SV.known, packR, ne_eq, reduceCtorEq, Nat.reduceEqDiff, ↓reduceIte, if_true, if_false, eq_self, Nat.reduceAdd, Nat.reduceMul, Nat.reduceSub, forall_const, oneCellS, litOne, flat1, Kd.isSca, flat, TYB]
            (try (and_intros <;> try (first | omega | (unfold In64; omega) | trivial | assumption)))
            refine ⟨i + 1, ?_, ?_, Sub.mk_id ?_ ?_ ?_ ?_ ?_⟩
            all_goals (try (simp only [eT, LB, subS, subH, wfS, wfH, SV.ren, renL, SObj.ren, SV.wf, SObj.wf, wfL, SV.known, Nat.reduceEqDiff, ↓reduceIte, if_true, if_false, eq_self, Nat.reduceAdd, Nat.reduceLT, Nat.reduceLeDiff, implies_true, reduceCtorEq, forall_const]; done))
            all_goals (try (simp only [eT, LB, subS, subH, wfS, wfH, SV.ren, renL, SObj.ren, SV.wf, SObj.wf, wfL, SV.known, Nat.reduceEqDiff, ↓reduceIte, if_true, if_false, eq_self, Nat.reduceAdd, Nat.reduceLT, Nat.reduceLeDiff, implies_true, reduceCtorEq, forall_const]; simp; done))
            all_goals (try (simp only [eT, LB, subS, subH, wfS, wfH, SV.ren, renL, SObj.ren, SV.wf, SObj.wf, wfL, SV.known, Nat.reduceEqDiff, ↓reduceIte, if_true, if_false, eq_self, Nat.reduceAdd, Nat.reduceLT, Nat.reduceLeDiff, implies_true, reduceCtorEq, forall_const]; (and_intros <;> (first | omega | rfl | (simp; done) | (simp; omega))); done))
            all_goals (try dsimp only)
            all_goals (and_intros <;> try (first | omega | (unfold In64; omega) | trivial | assumption))
    · have hil : ¬ (i : Int) < 6 := by omega
      obtain rfl : i = 6 := by omega
      have hl3 := (I0 6 (Nat.le_refl _)).l
      have tkR := List.take_of_length_le (Nat.le_of_eq hl3)
      simp -implicitDefEqProofs only [lk_normal, hil, lM, hl3, tkR, ZB, Int.reduceToNat, Nat.reduceLT, Nat.reduceLeDiff, Int.reduceLE, Int.reduceLT, Nat.reduceEqDiff, Nat.reduceSub, SB, SV.known, packR, ne_eq, reduceCtorEq, Nat.reduceEqDiff, ↓reduceIte, if_true, if_false, eq_self, Nat.reduceAdd, Nat.reduceMul, Nat.reduceSub, forall_const, oneCellS, litOne, flat1, Kd.isSca, flat, TYB]
      (try (and_intros <;> try (first | omega | (unfold In64; omega) | trivial | assumption)))
theorem candidate_okI (V : List Int) (r : Int) (hv : isVF V = true) (hV : V.length = 18) (h64 : I64 V) (r0 : 0 ≤ r) (r1 : r < arrF (hidV V)) : PureH Try.prog 64 [.arr V, .int r] [] (.arr (madeF V r)) :=
  candidate_ok V r (vG_of hV h64 hv) (isV_facts hV h64 hv).2.2.2.2.2.2.1 r0 r1
def candidate_F : List SV → Heap → Option (Prop × SV)
  | [.arr V, .int r], _ => some (isVF V = true ∧ V.length = 18 ∧ I64 V ∧ 0 ≤ r ∧ r < arrF (hidV V), .arr (madeF V r))
  | _, _ => none
theorem candidate_T : ∀ args H p v, candidate_F args H = some (p, v) → p → PureH Try.prog 64 args H v := by
  intro args H p v h hp
  unfold candidate_F at h
  split at h
  · cases h; exact (candidate_okI _ _ hp.1 hp.2.1 hp.2.2.1 hp.2.2.2.1 hp.2.2.2.2).any _
  · cases h
def caB (V : List Int) (r : Int) : Bool := isVF V && decide (0 ≤ r) && decide (r ≤ arrF (hidV V) - 1)
def caF (V : List Int) (r : Int) : List Int := if caB V r = true then madeF V r else List.replicate 24 0
theorem caF_len {V : List Int} {r : Int} (hV : V.length = 18) (h64 : I64 V) : (caF V r).length = 24 := by
  unfold caF
  split
  · rename_i h
    simp only [caB, Bool.and_eq_true, decide_eq_true_eq] at h
    have hf := isV_facts hV h64 h.1.1
    exact made_len (vG_of hV h64 h.1.1) hf.2.2.2.2.2.2.1 h.1.2 (by omega)
  · exact List.length_replicate
--@tbl CandidateAt = impl.CandidateAt
theorem CandidateAt_ok (V : List Int) (r : Int) (hV : V.length = 18) (h64 : I64 V) : PureH Try.prog 13 [.arr V, .int r] [] (.tup [.arr (caF V r), .bool (caB V r)]) := by
  have tkV : V.take 18 = V := List.take_of_length_le (by omega)
  have lC := caF_len (r := r) hV h64
  unfold caF at lC ⊢
  unfold caB at lC ⊢
  cases hv : isVF V
  · have tkz : List.take 24 (List.replicate 24 (0 : Int)) = List.replicate 24 0 := List.take_of_length_le (by simp)
    refine pure_of_vc (X := ⟨Try.prog, tys, [(27, IsView_F), (53, hidden_F), (55, arrangements_F), (63, within_F), (64, candidate_F)], [], true, true, 0, [], []⟩) fn_13 ⟨tys_ok, (.cons IsView_T (.cons hidden_T (.cons arrangements_T (.cons within_T (.cons candidate_T .nil))))), .nil, mixed⟩ (n0 := 0) (Nat.le_of_ble_eq_true rfl) (by simp [wfL, SV.wf]) (wfH_spec (by simp [wfH, SObj.wf, wfL, SV.wf])) (Nat.le_refl _) (fun _ => by simp [SV.wf, wfL]) ?_
    simp -implicitDefEqProofs only [Try.f13, Option.getD_some, argS, IsView_F, hidden_F, arrangements_F, within_F, candidate_F, hV, tkV, hv, tkz, ZB, Int.reduceToNat, Nat.reduceLT, Nat.reduceLeDiff, Int.reduceLE, Int.reduceLT, Nat.reduceEqDiff, Nat.reduceSub, SB, SV.known, packR, ne_eq, reduceCtorEq, Nat.reduceEqDiff, ↓reduceIte, if_true, if_false, eq_self, Nat.reduceAdd, Nat.reduceMul, Nat.reduceSub, forall_const, oneCellS, litOne, flat1, Kd.isSca, flat, TYB]
  obtain ⟨u1, u2, u3, z0, bC, lenH, h0, bH, hs, h18⟩ := isV_facts hV h64 hv
  have eH : hidL (V.take 6) (V.drop 12) 6 = hidV V := rfl
  have tkH : (hidV V).take 6 = hidV V := List.take_of_length_le (by omega)
  have ab := arrF_bd bH h18
  have bl : Bd 0 1000000 (hidV V) := fun x hx => by have := bH x hx; omega
  have i1 : In64 (arrF (hidV V) - 1) := by unfold In64; omega
  have tkz : List.take 24 (List.replicate 24 (0 : Int)) = List.replicate 24 0 := List.take_of_length_le (by simp)
  by_cases h1 : 0 ≤ r
  · by_cases h2 : r ≤ arrF (hidV V) - 1
    · have h3 : r < arrF (hidV V) := by omega
      have lM := made_len (vG_of hV h64 hv) h0 h1 h3
      have tkM := List.take_of_length_le (Nat.le_of_eq lM)
      refine pure_of_vc (X := ⟨Try.prog, tys, [(27, IsView_F), (53, hidden_F), (55, arrangements_F), (63, within_F), (64, candidate_F)], [], true, true, 0, [], []⟩) fn_13 ⟨tys_ok, (.cons IsView_T (.cons hidden_T (.cons arrangements_T (.cons within_T (.cons candidate_T .nil))))), .nil, mixed⟩ (n0 := 0) (Nat.le_of_ble_eq_true rfl) (by simp [wfL, SV.wf]) (wfH_spec (by simp [wfH, SObj.wf, wfL, SV.wf])) (Nat.le_refl _) (fun _ => by simp [SV.wf, wfL]) ?_
      simp -implicitDefEqProofs only [Try.f13, Option.getD_some, argS, IsView_F, hidden_F, arrangements_F, within_F, candidate_F, hV, tkV, hv, h64, u1, eH, lenH, tkH, bl, i1, h1, h2, h3, lM, tkM, ZB, Int.reduceToNat, Nat.reduceLT, Nat.reduceLeDiff, Int.reduceLE, Int.reduceLT, Nat.reduceEqDiff, Nat.reduceSub, SB, SV.known, packR, ne_eq, reduceCtorEq, Nat.reduceEqDiff, ↓reduceIte, if_true, if_false, eq_self, Nat.reduceAdd, Nat.reduceMul, Nat.reduceSub, forall_const, oneCellS, litOne, flat1, Kd.isSca, flat, TYB]
    · refine pure_of_vc (X := ⟨Try.prog, tys, [(27, IsView_F), (53, hidden_F), (55, arrangements_F), (63, within_F), (64, candidate_F)], [], true, true, 0, [], []⟩) fn_13 ⟨tys_ok, (.cons IsView_T (.cons hidden_T (.cons arrangements_T (.cons within_T (.cons candidate_T .nil))))), .nil, mixed⟩ (n0 := 0) (Nat.le_of_ble_eq_true rfl) (by simp [wfL, SV.wf]) (wfH_spec (by simp [wfH, SObj.wf, wfL, SV.wf])) (Nat.le_refl _) (fun _ => by simp [SV.wf, wfL]) ?_
      simp -implicitDefEqProofs only [Try.f13, Option.getD_some, argS, IsView_F, hidden_F, arrangements_F, within_F, candidate_F, hV, tkV, hv, u1, eH, lenH, tkH, bl, i1, h1, h2, tkz, ZB, Int.reduceToNat, Nat.reduceLT, Nat.reduceLeDiff, Int.reduceLE, Int.reduceLT, Nat.reduceEqDiff, Nat.reduceSub, SB, SV.known, packR, ne_eq, reduceCtorEq, Nat.reduceEqDiff, ↓reduceIte, if_true, if_false, eq_self, Nat.reduceAdd, Nat.reduceMul, Nat.reduceSub, forall_const, oneCellS, litOne, flat1, Kd.isSca, flat, TYB]
  · have e : ∀ p : Prop, (0 ≤ r ∧ p) = False := fun p => eq_false (fun h => h1 h.1)
    refine pure_of_vc (X := ⟨Try.prog, tys, [(27, IsView_F), (53, hidden_F), (55, arrangements_F), (63, within_F), (64, candidate_F)], [], true, true, 0, [], []⟩) fn_13 ⟨tys_ok, (.cons IsView_T (.cons hidden_T (.cons arrangements_T (.cons within_T (.cons candidate_T .nil))))), .nil, mixed⟩ (n0 := 0) (Nat.le_of_ble_eq_true rfl) (by simp [wfL, SV.wf]) (wfH_spec (by simp [wfH, SObj.wf, wfL, SV.wf])) (Nat.le_refl _) (fun _ => by simp [SV.wf, wfL]) ?_
    simp -implicitDefEqProofs only [Try.f13, Option.getD_some, argS, IsView_F, hidden_F, arrangements_F, within_F, candidate_F, hV, tkV, hv, u1, eH, lenH, tkH, bl, i1, h1, e, tkz, ZB, Int.reduceToNat, Nat.reduceLT, Nat.reduceLeDiff, Int.reduceLE, Int.reduceLT, Nat.reduceEqDiff, Nat.reduceSub, SB, SV.known, packR, ne_eq, reduceCtorEq, Nat.reduceEqDiff, ↓reduceIte, if_true, if_false, eq_self, Nat.reduceAdd, Nat.reduceMul, Nat.reduceSub, forall_const, oneCellS, litOne, flat1, Kd.isSca, flat, TYB]
    exact ⟨fun h => h.1.elim, fun _ => trivial⟩
def CandidateAt_F : List SV → Heap → Option (Prop × SV)
  | [.arr V, .int r], _ => some (V.length = 18 ∧ I64 V, .tup [.arr (caF V r), .bool (caB V r)])
  | _, _ => none
theorem CandidateAt_T : ∀ args H p v, CandidateAt_F args H = some (p, v) → p → PureH Try.prog 13 args H v := by
  intro args H p v h hp
  unfold CandidateAt_F at h
  split at h
  · cases h; exact (CandidateAt_ok _ _ hp.1 hp.2).any _
  · cases h
--@tbl FirstCandidate = impl.FirstCandidate
theorem FirstCandidate_ok (V : List Int) (hV : V.length = 18) (h64 : I64 V) : PureH Try.prog 17 [.arr V] [] (.tup [.arr (caF V 0), .bool (caB V 0)]) := by
  have tkV : V.take 18 = V := List.take_of_length_le (by omega)
  have lC := caF_len (r := 0) hV h64
  have tkC := List.take_of_length_le (Nat.le_of_eq lC)
  refine pure_of_vc (X := ⟨Try.prog, tys, [(13, CandidateAt_F)], [], true, true, 0, [], []⟩) fn_17 ⟨tys_ok, (.cons CandidateAt_T .nil), .nil, mixed⟩ (n0 := 0) (Nat.le_of_ble_eq_true rfl) (by simp [wfL, SV.wf]) (wfH_spec (by simp [wfH, SObj.wf, wfL, SV.wf])) (Nat.le_refl _) (fun _ => by simp [SV.wf, wfL]) ?_
  simp -implicitDefEqProofs only [Try.f17, Option.getD_some, argS, CandidateAt_F, hV, tkV, h64, lC, tkC, ZB, Int.reduceToNat, Nat.reduceLT, Nat.reduceLeDiff, Int.reduceLE, Int.reduceLT, Nat.reduceEqDiff, Nat.reduceSub, SB, SV.known, packR, ne_eq, reduceCtorEq, Nat.reduceEqDiff, ↓reduceIte, if_true, if_false, eq_self, Nat.reduceAdd, Nat.reduceMul, Nat.reduceSub, forall_const, oneCellS, litOne, flat1, Kd.isSca, flat, TYB]
def FirstCandidate_F : List SV → Heap → Option (Prop × SV)
  | [.arr V], _ => some (V.length = 18 ∧ I64 V, .tup [.arr (caF V 0), .bool (caB V 0)])
  | _, _ => none
theorem FirstCandidate_T : ∀ args H p v, FirstCandidate_F args H = some (p, v) → p → PureH Try.prog 17 args H v := by
  intro args H p v h hp
  unfold FirstCandidate_F at h
  split at h
  · cases h; exact (FirstCandidate_ok _ hp.1 hp.2).any _
  · cases h
theorem caB_zero {V : List Int} (hV : V.length = 18) (h64 : I64 V) : caB V 0 = isVF V := by
  unfold caB
  cases hv : isVF V
  · rfl
  · obtain ⟨u1, u2, u3, z0, bC, lenH, h0, bH, hs, h18⟩ := isV_facts hV h64 hv
    have ab := arrF_bd bH h18
    simp; omega
end Go.Proofs.Ytckcojgfgcjamaa
set_option maxRecDepth 100000
set_option linter.unusedSimpArgs false
set_option linter.unusedVariables false
namespace Go.Proofs.Ytckcojgfgcjamaa
open Go Go.RowKit
def plusQ (a b : List Int) : List Int := fracF (a.getD 0 0 * b.getD 1 0 + b.getD 0 0 * a.getD 1 0) (a.getD 1 0 * b.getD 1 0)
/-- The model's mean: chances are added one by one. -/
def mnS (all same : Int) (m : Nat) (s : Int) : Nat → List Int
  | 0 => [0, 1]
  | r + 1 => plusQ (mnS all same m s r) (fracF ((ltF all same m (r + 1)).getD 0 0 * min ((r + 1 : Nat) : Int) s) ((ltF all same m (r + 1)).getD 1 0))
/-- The program's mean: choices are added, and one fraction is made. -/
def mnN (all same : Int) (m : Nat) (s : Int) : Nat → Int
  | 0 => 0
  | q + 1 => mnN all same m s q + toVal all same m q * min (q : Int) s
def mnI (all same : Int) (m : Nat) (s : Int) : List Int := fracF (mnN all same m s 5) (chP all 0 (m - 1))
def certV (all same : Int) (m : Nat) (s v : Int) : Bool := (List.range 5).all fun r => decide (toVal all same m r = 0) || decide (min (r : Int) s = v)
/-- Both are the same; the mean lies in its bounds; it is the number itself where only one can be. -/
def mnOK (all same : Int) (m : Nat) (s : Int) : Bool :=
  decide (mnI all same m s = mnS all same m s m) &&
  !decide ((mnI all same m s).getD 0 0 * 1 < 1 * (mnI all same m s).getD 1 0) &&
  !decide (s * (mnI all same m s).getD 1 0 < (mnI all same m s).getD 0 0 * 1) &&
  !decide ((m : Int) * (mnI all same m s).getD 1 0 < (mnI all same m s).getD 0 0 * 1) &&
  ((List.range 5).all fun v => !certV all same m s v || decide (mnI all same m s = [(v : Int), 1]))
def mnAll (n : Nat) : Bool := (List.range 19).all fun all => (List.range (all + 1)).all fun same => (List.range 4).all fun m => decide (all < m) || mnOK all same (m + 1) ((n : Int) + 1)
theorem mn_all : (List.range 4).all mnAll = true := by decide +kernel
theorem mn_ok {all same m s : Nat} (h1 : all ≤ 18) (h2 : same ≤ all) (h3 : 1 ≤ m) (h4 : m ≤ 4) (h5 : m ≤ all + 1) (h6 : 1 ≤ s) (h7 : s ≤ 4) : mnOK (all : Int) (same : Int) m (s : Int) = true := by
  have a := List.all_eq_true.1 mn_all (s - 1) (List.mem_range.2 (by omega))
  have b := List.all_eq_true.1 a all (List.mem_range.2 (by omega))
  have c := List.all_eq_true.1 b same (List.mem_range.2 (by omega))
  have d := List.all_eq_true.1 c (m - 1) (List.mem_range.2 (by omega))
  rw [Bool.or_eq_true] at d
  rcases d with d | d
  · exact absurd (of_decide_eq_true d) (by omega)
  · rw [show m - 1 + 1 = m by omega, show ((s - 1 : Nat) : Int) + 1 = (s : Int) by omega] at d
    exact d
end Go.Proofs.Ytckcojgfgcjamaa
set_option maxRecDepth 100000
set_option linter.unusedSimpArgs false
set_option linter.unusedVariables false
namespace Go.Proofs.Ytckcojgfgcjamaa
open Go Go.RowKit
theorem view_hid (R : List Int) : hidV (viewF R) = hidL (topL R) (ctL R) 6 := by unfold hidV; rw [viewF_take, viewF_drop]
theorem remT_ge {R : List Int} {c : Int} {i : Nat} (hi : i < 6) : hcn (tubeAt R i) 0 c ≤ remT R c 6 := by
  have h := fun q => (hcn_bd (tubeAt R q) 0 c).1
  have e : remT R c 6 = hcn (tubeAt R (5 - 5)) 0 c + (hcn (tubeAt R (5 - 4)) 0 c + (hcn (tubeAt R (5 - 3)) 0 c + (hcn (tubeAt R (5 - 2)) 0 c + (hcn (tubeAt R (5 - 1)) 0 c + (hcn (tubeAt R (5 - 0)) 0 c + 0))))) := rfl
  rw [e]
  have h0 := h 0; have h1 := h 1; have h2 := h 2; have h3 := h 3; have h4 := h 4; have h5 := h 5
  simp only [Nat.sub_self, Nat.reduceSub, Nat.sub_zero]
  match i, hi with
  | 0, _ => omega
  | 1, _ => omega
  | 2, _ => omega
  | 3, _ => omega
  | 4, _ => omega
  | 5, _ => omega
theorem is1_same (x : Int) : is1 x x = 1 := if_pos rfl
/-- Hidden layers of the color of the top. -/
theorem hcn_run {t : List Int} {m r : Nat} (hm : layN t = m) (hm4 : m ≤ 4) (h : isRun t m r) : (r : Int) - 1 ≤ hcn t 0 (t.getD (m - 1) 0) := by
  obtain ⟨h1, h2, h3, _⟩ := h
  unfold hcn
  rw [hm]
  have b0 := is1_bd (t.getD 0 0) (t.getD (m - 1) 0)
  have b1 := is1_bd (t.getD 1 0) (t.getD (m - 1) 0)
  have b2 := is1_bd (t.getD 2 0) (t.getD (m - 1) 0)
  have k1 : 2 ≤ r → is1 (t.getD (m - 2) 0) (t.getD (m - 1) 0) = 1 := fun hr => by
    have := h3 1 (by omega)
    rw [show m - 1 - 1 = m - 2 by omega] at this
    rw [this]; exact is1_same _
  have k2 : 3 ≤ r → is1 (t.getD (m - 3) 0) (t.getD (m - 1) 0) = 1 := fun hr => by
    have := h3 2 (by omega)
    rw [show m - 1 - 2 = m - 3 by omega] at this
    rw [this]; exact is1_same _
  have k3 : 4 ≤ r → is1 (t.getD (m - 4) 0) (t.getD (m - 1) 0) = 1 := fun hr => by
    have := h3 3 (by omega)
    rw [show m - 1 - 3 = m - 4 by omega] at this
    rw [this]; exact is1_same _
  match m, hm4 with
  | 0, _ => omega
  | 1, _ => simp; omega
  | 2, _ => simp at *; omega
  | 3, _ => simp at *; omega
  | 4, _ => simp at *; omega
/-- A hidden layer of another color. -/
theorem hcn_other {t : List Int} {m r : Nat} (hm : layN t = m) (hm4 : m ≤ 4) (h1 : 1 ≤ r) (h : r < m) : 1 ≤ hcn t 0 (t.getD (m - 1 - r) 0) := by
  unfold hcn
  rw [hm]
  have b0 := is1_bd (t.getD 0 0) (t.getD (m - 1 - r) 0)
  have b1 := is1_bd (t.getD 1 0) (t.getD (m - 1 - r) 0)
  have b2 := is1_bd (t.getD 2 0) (t.getD (m - 1 - r) 0)
  have e := is1_same (t.getD (m - 1 - r) 0)
  have hk : m - 1 - r = 0 ∨ m - 1 - r = 1 ∨ m - 1 - r = 2 := by omega
  generalize hk2 : m - 1 - r = k at *
  rcases hk with rfl | rfl | rfl <;> (repeat' split) <;> omega
/-- The color of the top and the other one. -/
theorem sum_two {l : List Int} (hl : l.length = 6) (hb : ∀ k, k < 6 → 0 ≤ l.getD k 0) {a b : Nat} (ha : a < 6) (hb6 : b < 6) (hab : a ≠ b) : l.getD a 0 + l.getD b 0 ≤ l.sum := by
  rw [sum_six hl]
  have h0 := hb 0 (by omega); have h1 := hb 1 (by omega); have h2 := hb 2 (by omega); have h3 := hb 3 (by omega); have h4 := hb 4 (by omega); have h5 := hb 5 (by omega)
  match a, ha, b, hb6, hab with
  | 0, _, 0, _, h => exact absurd rfl h
  | 0, _, 1, _, _ => omega
  | 0, _, 2, _, _ => omega
  | 0, _, 3, _, _ => omega
  | 0, _, 4, _, _ => omega
  | 0, _, 5, _, _ => omega
  | 1, _, 0, _, _ => omega
  | 1, _, 1, _, h => exact absurd rfl h
  | 1, _, 2, _, _ => omega
  | 1, _, 3, _, _ => omega
  | 1, _, 4, _, _ => omega
  | 1, _, 5, _, _ => omega
  | 2, _, 0, _, _ => omega
  | 2, _, 1, _, _ => omega
  | 2, _, 2, _, h => exact absurd rfl h
  | 2, _, 3, _, _ => omega
  | 2, _, 4, _, _ => omega
  | 2, _, 5, _, _ => omega
  | 3, _, 0, _, _ => omega
  | 3, _, 1, _, _ => omega
  | 3, _, 2, _, _ => omega
  | 3, _, 3, _, h => exact absurd rfl h
  | 3, _, 4, _, _ => omega
  | 3, _, 5, _, _ => omega
  | 4, _, 0, _, _ => omega
  | 4, _, 1, _, _ => omega
  | 4, _, 2, _, _ => omega
  | 4, _, 3, _, _ => omega
  | 4, _, 4, _, h => exact absurd rfl h
  | 4, _, 5, _, _ => omega
  | 5, _, 0, _, _ => omega
  | 5, _, 1, _, _ => omega
  | 5, _, 2, _, _ => omega
  | 5, _, 3, _, _ => omega
  | 5, _, 4, _, _ => omega
  | 5, _, 5, _, h => exact absurd rfl h
/-- The run of a rack's own top has a chance in its view. -/
theorem own_top {R : List Int} (hR : R.length = 24) (hr : rackB R = true) (g : vG (viewF R)) {i : Nat} (hi : i < 6) (h0 : 0 < layN (tubeAt R i)) : ∃ r : Nat, (topF (tubeAt R i)).2 = (r : Int) ∧ 1 ≤ r ∧ r ≤ layN (tubeAt R i) ∧ tv (viewF R) i r ≠ 0 := by
  have ht := tubeAt_len hR hi
  have hb := tubeAt_ok hr hi
  obtain ⟨r, e, hrun⟩ := topF_run _ ht h0
  have h4 : layN (tubeAt R i) ≤ 4 := lay_le _ ht
  have hco := top_co ht hb h0
  have e1 : (topF (tubeAt R i)).1 = (tubeAt R i).getD (layN (tubeAt R i) - 1) 0 := by rw [e]
  have e2 : (topF (tubeAt R i)).2 = (r : Int) := by rw [e]
  have em : mm (viewF R) i = layN (tubeAt R i) := by unfold mm; rw [viewF_many hi]; simp
  have ec : (viewF R).getD i 0 = (tubeAt R i).getD (layN (tubeAt R i) - 1) 0 := by rw [viewF_top hi, e1]
  have hge : ∀ c : Nat, 1 ≤ c → c < 6 → hcn (tubeAt R i) 0 (c : Int) ≤ (hidV (viewF R)).getD c 0 := fun c h1 h2 => by
    rw [view_hid, hid_rack hR hr h1 h2]; exact remT_ge hi
  have hv := vsm_of g hi
  have hs1 := hcn_run rfl h4 hrun
  rw [e1] at hco
  obtain ⟨c, hc⟩ := Int.eq_ofNat_of_zero_le (show 0 ≤ (tubeAt R i).getD (layN (tubeAt R i) - 1) 0 by omega)
  rw [hc] at hs1 hco ec
  have hsa : (r : Int) - 1 ≤ sa (viewF R) i := by
    unfold sa
    rw [ec, Int.toNat_natCast]
    exact Int.le_trans hs1 (hge c (by omega) (by omega))
  refine ⟨r, e2, hrun.1, hrun.2.1, ?_⟩
  have cells := (tube_cells ht hb).1
  have hwy : 0 < wyF (sa (viewF R) i) (r - 1) := (wy_pos (by have := hv.b; omega) _).2 (by have := hrun.1; omega)
  have r1 := hrun.1
  have r2 := hrun.2.1
  unfold tv toVal
  rw [em, if_neg (by omega)]
  by_cases hlt : r < layN (tubeAt R i)
  · rw [if_pos hlt]
    have hne : ¬ (tubeAt R i).getD (layN (tubeAt R i) - 1 - r) 0 = (tubeAt R i).getD (layN (tubeAt R i) - 1) 0 := by
      rcases hrun.2.2.2 with h | h
      · omega
      · exact h
    have ho := hcn_other (t := tubeAt R i) rfl h4 r1 hlt
    have hcell := cells (layN (tubeAt R i) - 1 - r) (by omega)
    obtain ⟨c', hc'⟩ := Int.eq_ofNat_of_zero_le (show 0 ≤ (tubeAt R i).getD (layN (tubeAt R i) - 1 - r) 0 by omega)
    rw [hc'] at ho hcell hne
    rw [hc] at hne
    have h1 := hge c' (by omega) (by omega)
    have h2 := sum_two g.lenH (fun k hk => (g.bH.getD (by rw [g.lenH]; exact hk)).1) (a := c) (b := c') (by omega) (by omega) (by omega)
    have h3 : sa (viewF R) i = (hidV (viewF R)).getD c 0 := by unfold sa; rw [ec, Int.toNat_natCast]
    have h5 : al (viewF R) = (hidV (viewF R)).sum := rfl
    have hd := hv.d
    rw [em] at hd
    have hch := (chP_bd (all := al (viewF R)) (b := r) (by have := hv.a; omega) (layN (tubeAt R i) - 1 - r) (.inr (by omega))).1
    have p1 : 0 < al (viewF R) - ((r : Int) - 1) - (sa (viewF R) i - ((r : Int) - 1)) := by omega
    have := Int.mul_pos (Int.mul_pos hwy p1) (show 0 < chP (al (viewF R)) r (layN (tubeAt R i) - 1 - r) by omega)
    omega
  · have hre : r = layN (tubeAt R i) := by omega
    rw [if_neg hlt, if_pos hre, ← hre]
    omega
end Go.Proofs.Ytckcojgfgcjamaa
set_option maxRecDepth 100000
set_option linter.unusedSimpArgs false
set_option linter.unusedVariables false
namespace Go.Proofs.Ytckcojgfgcjamaa
open Go Go.RowKit
theorem cn_sum {t : List Int} (ht : t.length = 4) (hb : tubeB t = true) : cn t 1 + cn t 2 + cn t 3 + cn t 4 + cn t 5 = (layN t : Int) := by
  have hl := lay_le _ ht
  obtain ⟨h1, h2⟩ := tube_cells ht hb
  have key : ∀ k, k < 4 → is1 (t.getD k 0) 1 + is1 (t.getD k 0) 2 + is1 (t.getD k 0) 3 + is1 (t.getD k 0) 4 + is1 (t.getD k 0) 5 = if k < layN t then 1 else 0 := fun k hk => by
    by_cases h : k < layN t
    · have hc := h1 k h
      rw [is1_sum (by omega), if_neg (by omega), if_pos h]
    · rw [h2 k (by omega), is1_sum (by omega), if_pos rfl, if_neg h]
  have k0 := key 0 (by omega); have k1 := key 1 (by omega); have k2 := key 2 (by omega); have k3 := key 3 (by omega)
  unfold cn
  split at k0 <;> split at k1 <;> split at k2 <;> split at k3 <;> omega
theorem ctL_get (R : List Int) {c : Nat} (h1 : 1 ≤ c) : (ctL R).getD c 0 = (cntL R).getD c 0 := by
  unfold ctL
  rw [List.getD_eq_getElem?_getD, List.getElem?_set_ne (by omega), ← List.getD_eq_getElem?_getD]
theorem ctL_zero (R : List Int) : (ctL R).getD 0 0 = 0 := by
  unfold ctL
  rw [List.getD_eq_getElem?_getD, List.getElem?_set_self (by rw [cntL_len]; omega)]; rfl
theorem view_sum {R : List Int} (hR : R.length = 24) (hr : rackB R = true) : (ctL R).sum = (manL R).sum := by
  rw [sum_six (ctL_len R), sum_six (manL_len R), ctL_zero, ctL_get R (by omega), ctL_get R (by omega), ctL_get R (by omega), ctL_get R (by omega), ctL_get R (by omega)]
  have tk : R.take (6 * 4) = R := List.take_of_length_le (by omega)
  have e : ∀ c : Nat, c < 6 → (cntL R).getD c 0 = cn (tubeAt R 0) c + (cn (tubeAt R 1) c + (cn (tubeAt R 2) c + (cn (tubeAt R 3) c + (cn (tubeAt R 4) c + (cn (tubeAt R 5) c + 0))))) := fun c hc => by
    have := cnt_cells hR hr hc 6 (Nat.le_refl _)
    rw [tk] at this
    rw [this, show List.range 6 = [0, 1, 2, 3, 4, 5] by decide]
    simp only [List.map_cons, List.map_nil, List.sum_cons, List.sum_nil]
  have m : ∀ q, q < 6 → (manL R).getD q 0 = cn (tubeAt R q) 1 + cn (tubeAt R q) 2 + cn (tubeAt R q) 3 + cn (tubeAt R q) 4 + cn (tubeAt R q) 5 := fun q hq => by
    rw [manL_getD R q hq, cn_sum (tubeAt_len hR hq) (tubeAt_ok hr hq)]
  rw [e 1 (by omega), e 2 (by omega), e 3 (by omega), e 4 (by omega), e 5 (by omega), m 0 (by omega), m 1 (by omega), m 2 (by omega), m 3 (by omega), m 4 (by omega), m 5 (by omega)]
  simp only [Int.natCast_one, show ((2 : Nat) : Int) = 2 from rfl, show ((3 : Nat) : Int) = 3 from rfl, show ((4 : Nat) : Int) = 4 from rfl, show ((5 : Nat) : Int) = 5 from rfl]
  omega
theorem view_good {R : List Int} (hR : R.length = 24) (hr : rackB R = true) : isVF (viewF R) = true := by
  obtain ⟨v1, v2, v3⟩ := viewF_ok hR hr
  have d12 := viewF_drop R
  have g12 : (viewF R).getD 12 0 = 0 := by
    have : ((viewF R).drop 12).getD 0 0 = (viewF R).getD 12 0 := by simp [List.getD]
    rw [← this, d12, ctL_zero]
  have h1 : vok (viewF R) = true := vok_of fun k hk => vk_t (v1 k hk) (v2 k hk) (v3 k hk).symm
  have h3 : (ctL R).all in024 = true := (all_six (ctL_len R) _).2 fun k hk => by
    unfold in024
    refine decide_eq_true ?_
    by_cases h0 : k = 0
    · rw [h0, ctL_zero]; omega
    · rw [ctL_get R (by omega)]
      have := cntL_bd R k
      omega
  have h4 : (hidV (viewF R)).all nn = true := (all_six (by rw [view_hid, hidL_len, ctL_len]) _).2 fun k hk => by
    unfold nn
    refine decide_eq_true ?_
    rw [view_hid]
    by_cases h0 : k = 0
    · rw [h0, hidL_zero _ _ (by rw [ctL_len]; omega), ctL_zero]; omega
    · rw [hid_rack hR hr (by omega) hk]
      exact (remT_bd R k 6).1
  have h5 : ((viewF R).drop 6).take 6 = manL R := by rw [viewF_man, List.take_left' (manL_len R)]
  unfold isVF
  rw [h1, g12, d12, h3, h4, h5, view_sum hR hr]
  simp
end Go.Proofs.Ytckcojgfgcjamaa
set_option maxRecDepth 100000
set_option linter.unusedSimpArgs false
set_option linter.unusedVariables false
namespace Go.Proofs.Ytckcojgfgcjamaa
open Go Go.RowKit
--@tbl isViewAt = impl.isViewAt
theorem isViewAt_ok (V : List Int) (x y : Int) (hV : V.length = 18) : PureH Try.prog 71 [.arr V, .slice 0 0 2 2] [(0, .ints [x, y] 3)] (.bool (isVF V && (plF x && plF y))) := by
  have tkV : V.take 18 = V := List.take_of_length_le (by omega)
  cases hv : isVF V
  · refine pure_of_vc (X := ⟨Try.prog, tys, [(27, IsView_F), (78, areAll_place_F)], [], true, true, 1, [], []⟩) fn_71 ⟨tys_ok, (.cons IsView_T (.cons areAll_place_T .nil)), .nil, mixed⟩ (n0 := 1) (Nat.le_of_ble_eq_true rfl) (by simp [wfL, SV.wf]) (wfH_spec (by simp [wfH, SObj.wf, wfL, SV.wf])) (Nat.le_refl _) (fun _ => by simp [SV.wf, wfL]) ?_
    simp -implicitDefEqProofs only [Try.f71, Option.getD_some, argS, IsView_F, areAll_place_F, hV, tkV, hv, areAllI_F, areAll_place_F, ZB, Int.reduceToNat, Nat.reduceLT, Nat.reduceLeDiff, Int.reduceLE, Int.reduceLT, Nat.reduceEqDiff, Nat.reduceSub, SB, SV.known, packR, ne_eq, reduceCtorEq, Nat.reduceEqDiff, ↓reduceIte, if_true, if_false, eq_self, Nat.reduceAdd, Nat.reduceMul, Nat.reduceSub, forall_const, oneCellS, litOne, flat1, Kd.isSca, flat, TYB]
  · refine pure_of_vc (X := ⟨Try.prog, tys, [(27, IsView_F), (78, areAll_place_F)], [], true, true, 1, [], []⟩) fn_71 ⟨tys_ok, (.cons IsView_T (.cons areAll_place_T .nil)), .nil, mixed⟩ (n0 := 1) (Nat.le_of_ble_eq_true rfl) (by simp [wfL, SV.wf]) (wfH_spec (by simp [wfH, SObj.wf, wfL, SV.wf])) (Nat.le_refl _) (fun _ => by simp [SV.wf, wfL]) ?_
    simp -implicitDefEqProofs only [Try.f71, Option.getD_some, argS, IsView_F, areAll_place_F, hV, tkV, hv, areAllI_F, areAll_place_F, ZB, Int.reduceToNat, Nat.reduceLT, Nat.reduceLeDiff, Int.reduceLE, Int.reduceLT, Nat.reduceEqDiff, Nat.reduceSub, SB, SV.known, packR, ne_eq, reduceCtorEq, Nat.reduceEqDiff, ↓reduceIte, if_true, if_false, eq_self, Nat.reduceAdd, Nat.reduceMul, Nat.reduceSub, forall_const, oneCellS, litOne, flat1, Kd.isSca, flat, TYB]
def isViewAt_F : List SV → Heap → Option (Prop × SV)
  | [.arr V, .slice b 0 2 2], H => match hget H b with
    | some (.ints L e) => some (V.length = 18 ∧ e = 3 ∧ L.length = 2, .bool (isVF V && (plF (L.getD 0 0) && plF (L.getD 1 0))))
    | _ => none
  | _, _ => none
theorem isViewAt_T : ∀ args H p v, isViewAt_F args H = some (p, v) → p → PureH Try.prog 71 args H v := by
  intro args H p v h hp
  unfold isViewAt_F at h
  split at h
  · rename_i V b
    split at h
    · rename_i L e hb
      cases h
      obtain ⟨hV, rfl, hL⟩ := hp
      obtain ⟨x, y, rfl⟩ : ∃ x y, L = [x, y] := by
        match L, hL with
        | [x, y], _ => exact ⟨x, y, rfl⟩
      have := (isViewAt_ok V x y hV).sub (H := H) (fun _ => b) (fun j o hj => by
        rw [hget_cons] at hj
        split at hj
        · cases hj; exact ⟨hb, fun _ => by omega, by simp [*]⟩
        · cases hj) (fun a ha c hc _ => by simp at ha hc; omega) (fun _ => trivial)
      simpa [renL, SV.ren] using this
    · cases h
  · cases h
def cpaF (V : List Int) (x y : Int) : Bool := isVF V && plF x && plF y && !decide (x = y)
--@tbl CanPourAt = impl.CanPourAt
--@tbl sCanPourAt = spec.CanPourAt
theorem CanPourAt_ok (V : List Int) (x y : Int) (hV : V.length = 18) : PureH Try.prog 31 [.arr V, .int x, .int y] [] (.tup [.bool (cpaF V x y && vcan V x.toNat y.toNat), .bool (cpaF V x y)]) := by
  have tkV : V.take 18 = V := List.take_of_length_le (by omega)
  unfold cpaF
  cases hv : isVF V && (plF x && plF y)
  · have e : (isVF V && plF x && plF y && !decide (x = y)) = false := by rw [Bool.and_assoc (isVF V), hv]; rfl
    rw [e]
    refine pure_of_vc (X := ⟨Try.prog, tys, [(71, isViewAt_F), (82, vcanPour_F)], [], true, true, 0, [], []⟩) fn_31 ⟨tys_ok, (.cons isViewAt_T (.cons vcanPour_T .nil)), .nil, mixed⟩ (n0 := 0) (Nat.le_of_ble_eq_true rfl) (by simp [wfL, SV.wf]) (wfH_spec (by simp [wfH, SObj.wf, wfL, SV.wf])) (Nat.le_refl _) (fun _ => by simp [SV.wf, wfL]) ?_
    simp -implicitDefEqProofs only [Try.f31, Option.getD_some, argS, isViewAt_F, vcanPour_F, List.getD_cons_zero, List.getD_cons_succ, hV, tkV, hv, ZB, Int.reduceToNat, Nat.reduceLT, Nat.reduceLeDiff, Int.reduceLE, Int.reduceLT, Nat.reduceEqDiff, Nat.reduceSub, SB, SV.known, packR, ne_eq, reduceCtorEq, Nat.reduceEqDiff, ↓reduceIte, if_true, if_false, eq_self, Nat.reduceAdd, Nat.reduceMul, Nat.reduceSub, forall_const, oneCellS, litOne, flat1, Kd.isSca, flat, TYB]
  · have hp : plF x = true ∧ plF y = true := by
      simp only [Bool.and_eq_true] at hv
      exact hv.2
    have hvf : isVF V = true := by
      simp only [Bool.and_eq_true] at hv
      exact hv.1
    have hp1 := hp.1; have hp2 := hp.2
    have hx : 0 ≤ x ∧ x < 6 := by have := of_decide_eq_true hp.1; omega
    have hy : 0 ≤ y ∧ y < 6 := by have := of_decide_eq_true hp.2; omega
    by_cases hxy : x = y
    · have e : (isVF V && plF x && plF y && !decide (x = y)) = false := by rw [decide_eq_true hxy]; simp
      rw [e]
      refine pure_of_vc (X := ⟨Try.prog, tys, [(71, isViewAt_F), (82, vcanPour_F)], [], true, true, 0, [], []⟩) fn_31 ⟨tys_ok, (.cons isViewAt_T (.cons vcanPour_T .nil)), .nil, mixed⟩ (n0 := 0) (Nat.le_of_ble_eq_true rfl) (by simp [wfL, SV.wf]) (wfH_spec (by simp [wfH, SObj.wf, wfL, SV.wf])) (Nat.le_refl _) (fun _ => by simp [SV.wf, wfL]) ?_
      simp -implicitDefEqProofs only [Try.f31, Option.getD_some, argS, isViewAt_F, vcanPour_F, List.getD_cons_zero, List.getD_cons_succ, Bool.and_self, hV, tkV, hvf, hp1, hp2, hxy, ZB, Int.reduceToNat, Nat.reduceLT, Nat.reduceLeDiff, Int.reduceLE, Int.reduceLT, Nat.reduceEqDiff, Nat.reduceSub, SB, SV.known, packR, ne_eq, reduceCtorEq, Nat.reduceEqDiff, ↓reduceIte, if_true, if_false, eq_self, Nat.reduceAdd, Nat.reduceMul, Nat.reduceSub, forall_const, oneCellS, litOne, flat1, Kd.isSca, flat, TYB]
    · have e : (isVF V && plF x && plF y && !decide (x = y)) = true := by rw [Bool.and_assoc (isVF V), hv, decide_eq_false hxy]; rfl
      rw [e]
      refine pure_of_vc (X := ⟨Try.prog, tys, [(71, isViewAt_F), (82, vcanPour_F)], [], true, true, 0, [], []⟩) fn_31 ⟨tys_ok, (.cons isViewAt_T (.cons vcanPour_T .nil)), .nil, mixed⟩ (n0 := 0) (Nat.le_of_ble_eq_true rfl) (by simp [wfL, SV.wf]) (wfH_spec (by simp [wfH, SObj.wf, wfL, SV.wf])) (Nat.le_refl _) (fun _ => by simp [SV.wf, wfL]) ?_
      simp -implicitDefEqProofs only [Try.f31, Option.getD_some, argS, isViewAt_F, vcanPour_F, List.getD_cons_zero, List.getD_cons_succ, hV, tkV, hv, hxy, hx, hy, ZB, Int.reduceToNat, Nat.reduceLT, Nat.reduceLeDiff, Int.reduceLE, Int.reduceLT, Nat.reduceEqDiff, Nat.reduceSub, SB, SV.known, packR, ne_eq, reduceCtorEq, Nat.reduceEqDiff, ↓reduceIte, if_true, if_false, eq_self, Nat.reduceAdd, Nat.reduceMul, Nat.reduceSub, forall_const, oneCellS, litOne, flat1, Kd.isSca, flat, TYB]
def CanPourAt_F : List SV → Heap → Option (Prop × SV)
  | [.arr V, .int x, .int y], _ => some (V.length = 18, .tup [.bool (cpaF V x y && vcan V x.toNat y.toNat), .bool (cpaF V x y)])
  | _, _ => none
theorem CanPourAt_T : ∀ args H p v, CanPourAt_F args H = some (p, v) → p → PureH Try.prog 31 args H v := by
  intro args H p v h hp
  unfold CanPourAt_F at h
  split at h
  · cases h; exact (CanPourAt_ok _ _ _ hp).any _
  · cases h
theorem sCanPourAt_ok (V : List Int) (x y : Int) (hV : V.length = 18) (h64 : I64 V) : PureH Try.prog 32 [.arr V, .int x, .int y] [] (.tup [.bool (cpaF V x y && vcan V x.toNat y.toNat), .bool (cpaF V x y)]) := by
  have tkV : V.take 18 = V := List.take_of_length_le (by omega)
  unfold cpaF
  cases hv : isVF V
  · refine pure_of_vc (X := ⟨Try.prog, tys, [(67, l7Good_F), (74, l2Place_F), (83, l7Can_F)], [], true, true, 0, [], []⟩) fn_32 ⟨tys_ok, (.cons l7Good_T (.cons l2Place_T (.cons l7Can_T .nil))), .nil, mixed⟩ (n0 := 0) (Nat.le_of_ble_eq_true rfl) (by simp [wfL, SV.wf]) (wfH_spec (by simp [wfH, SObj.wf, wfL, SV.wf])) (Nat.le_refl _) (fun _ => by simp [SV.wf, wfL]) ?_
    simp -implicitDefEqProofs only [Try.f32, Option.getD_some, argS, l7Good_F, l2Place_F, l7Can_F, hV, tkV, hv, h64, ZB, Int.reduceToNat, Nat.reduceLT, Nat.reduceLeDiff, Int.reduceLE, Int.reduceLT, Nat.reduceEqDiff, Nat.reduceSub, SB, SV.known, packR, ne_eq, reduceCtorEq, Nat.reduceEqDiff, ↓reduceIte, if_true, if_false, eq_self, Nat.reduceAdd, Nat.reduceMul, Nat.reduceSub, forall_const, oneCellS, litOne, flat1, Kd.isSca, flat, TYB]
  cases hp1 : plF x
  · refine pure_of_vc (X := ⟨Try.prog, tys, [(67, l7Good_F), (74, l2Place_F), (83, l7Can_F)], [], true, true, 0, [], []⟩) fn_32 ⟨tys_ok, (.cons l7Good_T (.cons l2Place_T (.cons l7Can_T .nil))), .nil, mixed⟩ (n0 := 0) (Nat.le_of_ble_eq_true rfl) (by simp [wfL, SV.wf]) (wfH_spec (by simp [wfH, SObj.wf, wfL, SV.wf])) (Nat.le_refl _) (fun _ => by simp [SV.wf, wfL]) ?_
    simp -implicitDefEqProofs only [Try.f32, Option.getD_some, argS, l7Good_F, l2Place_F, l7Can_F, hV, tkV, hv, h64, hp1, ZB, Int.reduceToNat, Nat.reduceLT, Nat.reduceLeDiff, Int.reduceLE, Int.reduceLT, Nat.reduceEqDiff, Nat.reduceSub, SB, SV.known, packR, ne_eq, reduceCtorEq, Nat.reduceEqDiff, ↓reduceIte, if_true, if_false, eq_self, Nat.reduceAdd, Nat.reduceMul, Nat.reduceSub, forall_const, oneCellS, litOne, flat1, Kd.isSca, flat, TYB]
  cases hp2 : plF y
  · refine pure_of_vc (X := ⟨Try.prog, tys, [(67, l7Good_F), (74, l2Place_F), (83, l7Can_F)], [], true, true, 0, [], []⟩) fn_32 ⟨tys_ok, (.cons l7Good_T (.cons l2Place_T (.cons l7Can_T .nil))), .nil, mixed⟩ (n0 := 0) (Nat.le_of_ble_eq_true rfl) (by simp [wfL, SV.wf]) (wfH_spec (by simp [wfH, SObj.wf, wfL, SV.wf])) (Nat.le_refl _) (fun _ => by simp [SV.wf, wfL]) ?_
    simp -implicitDefEqProofs only [Try.f32, Option.getD_some, argS, l7Good_F, l2Place_F, l7Can_F, hV, tkV, hv, h64, hp1, hp2, ZB, Int.reduceToNat, Nat.reduceLT, Nat.reduceLeDiff, Int.reduceLE, Int.reduceLT, Nat.reduceEqDiff, Nat.reduceSub, SB, SV.known, packR, ne_eq, reduceCtorEq, Nat.reduceEqDiff, ↓reduceIte, if_true, if_false, eq_self, Nat.reduceAdd, Nat.reduceMul, Nat.reduceSub, forall_const, oneCellS, litOne, flat1, Kd.isSca, flat, TYB]
  have hx : 0 ≤ x ∧ x < 6 := by have := of_decide_eq_true hp1; omega
  have hy : 0 ≤ y ∧ y < 6 := by have := of_decide_eq_true hp2; omega
  have g := vG_of hV h64 hv
  have u1 := g.u1; have u2 := g.u2; have u3 := g.u3
  by_cases hxy : x = y
  · refine pure_of_vc (X := ⟨Try.prog, tys, [(67, l7Good_F), (74, l2Place_F), (83, l7Can_F)], [], true, true, 0, [], []⟩) fn_32 ⟨tys_ok, (.cons l7Good_T (.cons l2Place_T (.cons l7Can_T .nil))), .nil, mixed⟩ (n0 := 0) (Nat.le_of_ble_eq_true rfl) (by simp [wfL, SV.wf]) (wfH_spec (by simp [wfH, SObj.wf, wfL, SV.wf])) (Nat.le_refl _) (fun _ => by simp [SV.wf, wfL]) ?_
    simp -implicitDefEqProofs only [Try.f32, Option.getD_some, argS, l7Good_F, l2Place_F, l7Can_F, hV, tkV, hv, h64, hp1, hp2, hxy, ZB, Int.reduceToNat, Nat.reduceLT, Nat.reduceLeDiff, Int.reduceLE, Int.reduceLT, Nat.reduceEqDiff, Nat.reduceSub, SB, SV.known, packR, ne_eq, reduceCtorEq, Nat.reduceEqDiff, ↓reduceIte, if_true, if_false, eq_self, Nat.reduceAdd, Nat.reduceMul, Nat.reduceSub, forall_const, oneCellS, litOne, flat1, Kd.isSca, flat, TYB]
  · refine pure_of_vc (X := ⟨Try.prog, tys, [(67, l7Good_F), (74, l2Place_F), (83, l7Can_F)], [], true, true, 0, [], []⟩) fn_32 ⟨tys_ok, (.cons l7Good_T (.cons l2Place_T (.cons l7Can_T .nil))), .nil, mixed⟩ (n0 := 0) (Nat.le_of_ble_eq_true rfl) (by simp [wfL, SV.wf]) (wfH_spec (by simp [wfH, SObj.wf, wfL, SV.wf])) (Nat.le_refl _) (fun _ => by simp [SV.wf, wfL]) ?_
    simp -implicitDefEqProofs only [Try.f32, Option.getD_some, argS, l7Good_F, l2Place_F, l7Can_F, hV, tkV, hv, h64, hp1, hp2, hxy, hx, hy, u1, u2, u3, ZB, Int.reduceToNat, Nat.reduceLT, Nat.reduceLeDiff, Int.reduceLE, Int.reduceLT, Nat.reduceEqDiff, Nat.reduceSub, SB, SV.known, packR, ne_eq, reduceCtorEq, Nat.reduceEqDiff, ↓reduceIte, if_true, if_false, eq_self, Nat.reduceAdd, Nat.reduceMul, Nat.reduceSub, forall_const, oneCellS, litOne, flat1, Kd.isSca, flat, TYB]
def sCanPourAt_F : List SV → Heap → Option (Prop × SV)
  | [.arr V, .int x, .int y], _ => some (V.length = 18 ∧ I64 V, .tup [.bool (cpaF V x y && vcan V x.toNat y.toNat), .bool (cpaF V x y)])
  | _, _ => none
theorem sCanPourAt_T : ∀ args H p v, sCanPourAt_F args H = some (p, v) → p → PureH Try.prog 32 args H v := by
  intro args H p v h hp
  unfold sCanPourAt_F at h
  split at h
  · cases h; exact (sCanPourAt_ok _ _ _ hp.1 hp.2).any _
  · cases h
end Go.Proofs.Ytckcojgfgcjamaa
set_option maxRecDepth 100000
set_option linter.unusedSimpArgs false
set_option linter.unusedVariables false
namespace Go.Proofs.Ytckcojgfgcjamaa
open Go Go.RowKit
/-- Bounds of what is met. -/
def mnB (all same : Int) (m : Nat) (s : Int) : Bool :=
  ((List.range 6).all fun q => decide (0 ≤ mnN all same m s q) && decide (mnN all same m s q ≤ 1000000000)) &&
  ((List.range 5).all fun q => decide (0 ≤ toVal all same m q * min (q : Int) s) && decide (toVal all same m q * min (q : Int) s ≤ 1000000000)) &&
  ((List.range (m + 1)).all fun r => decide (0 ≤ (mnS all same m s r).getD 0 0) && decide ((mnS all same m s r).getD 0 0 ≤ 1000000000) && decide (0 < (mnS all same m s r).getD 1 0) && decide ((mnS all same m s r).getD 1 0 ≤ 1000000000)) &&
  ((List.range m).all fun r => decide (0 ≤ (ltF all same m (r + 1)).getD 0 0 * min ((r + 1 : Nat) : Int) s) && decide ((ltF all same m (r + 1)).getD 0 0 * min ((r + 1 : Nat) : Int) s ≤ 1000000000) && decide (0 < (ltF all same m (r + 1)).getD 1 0) && decide ((ltF all same m (r + 1)).getD 1 0 ≤ 1000000000))
def mnBAll (n : Nat) : Bool := (List.range 19).all fun all => (List.range (all + 1)).all fun same => (List.range 4).all fun m => decide (all < m) || mnB all same (m + 1) ((n : Int) + 1)
theorem mnB_all : (List.range 4).all mnBAll = true := by decide +kernel
theorem mnB_ok {all same m s : Nat} (h1 : all ≤ 18) (h2 : same ≤ all) (h3 : 1 ≤ m) (h4 : m ≤ 4) (h5 : m ≤ all + 1) (h6 : 1 ≤ s) (h7 : s ≤ 4) : mnB (all : Int) (same : Int) m (s : Int) = true := by
  have a := List.all_eq_true.1 mnB_all (s - 1) (List.mem_range.2 (by omega))
  have b := List.all_eq_true.1 a all (List.mem_range.2 (by omega))
  have c := List.all_eq_true.1 b same (List.mem_range.2 (by omega))
  have d := List.all_eq_true.1 c (m - 1) (List.mem_range.2 (by omega))
  rw [Bool.or_eq_true] at d
  rcases d with d | d
  · exact absurd (of_decide_eq_true d) (by omega)
  · rw [show m - 1 + 1 = m by omega, show ((s - 1 : Nat) : Int) + 1 = (s : Int) by omega] at d
    exact d
structure mnX (all same : Int) (m : Nat) (s : Int) : Prop where
  n : ∀ q, q < 6 → 0 ≤ mnN all same m s q ∧ mnN all same m s q ≤ 1000000000
  t : ∀ q, q < 5 → 0 ≤ toVal all same m q * min (q : Int) s ∧ toVal all same m q * min (q : Int) s ≤ 1000000000
  f : ∀ r, r ≤ m → 0 ≤ (mnS all same m s r).getD 0 0 ∧ (mnS all same m s r).getD 0 0 ≤ 1000000000 ∧ 0 < (mnS all same m s r).getD 1 0 ∧ (mnS all same m s r).getD 1 0 ≤ 1000000000
  l : ∀ r, r < m → 0 ≤ (ltF all same m (r + 1)).getD 0 0 * min ((r + 1 : Nat) : Int) s ∧ (ltF all same m (r + 1)).getD 0 0 * min ((r + 1 : Nat) : Int) s ≤ 1000000000 ∧ 0 < (ltF all same m (r + 1)).getD 1 0 ∧ (ltF all same m (r + 1)).getD 1 0 ≤ 1000000000
theorem mnX_of {all same s : Int} {m : Nat} (h1 : 0 ≤ all ∧ all ≤ 18) (h2 : 0 ≤ same ∧ same ≤ all) (h3 : 1 ≤ m) (h4 : m ≤ 4) (h5 : (m : Int) - 1 ≤ all) (h6 : 1 ≤ s ∧ s ≤ 4) : mnX all same m s ∧ mnOK all same m s = true := by
  obtain ⟨a, rfl⟩ := Int.eq_ofNat_of_zero_le h1.1
  obtain ⟨b, rfl⟩ := Int.eq_ofNat_of_zero_le h2.1
  obtain ⟨c, rfl⟩ := Int.eq_ofNat_of_zero_le (show 0 ≤ s by omega)
  refine ⟨?_, mn_ok (by omega) (by omega) h3 h4 (by omega) (by omega) (by omega)⟩
  have h := mnB_ok (all := a) (same := b) (m := m) (s := c) (by omega) (by omega) h3 h4 (by omega) (by omega) (by omega)
  simp only [mnB, Bool.and_eq_true, List.all_eq_true, List.mem_range, decide_eq_true_eq] at h
  obtain ⟨⟨⟨p1, p2⟩, p3⟩, p4⟩ := h
  exact ⟨fun q hq => p1 q hq, fun q hq => p2 q hq, fun r hr => by have := p3 r (by omega); exact ⟨this.1.1.1, this.1.1.2, this.1.2, this.2⟩, fun r hr => by have := p4 r hr; exact ⟨this.1.1.1, this.1.1.2, this.1.2, this.2⟩⟩
end Go.Proofs.Ytckcojgfgcjamaa
set_option maxRecDepth 100000
set_option linter.unusedSimpArgs false
set_option linter.unusedVariables false
namespace Go.Proofs.Ytckcojgfgcjamaa
open Go Go.RowKit
def mmB (V : List Int) (x y : Int) : Bool := isVF V && plF x && plF y && vcan V x.toNat y.toNat
def rmV (V : List Int) (j : Nat) : Int := 4 - V.getD (6 + j) 0
def mmF (V : List Int) (x y : Int) : List Int := if mmB V x y = true then mnI (al V) (sa V x.toNat) (mm V x.toNat) (rmV V y.toNat) else [0, 0]
/-- What is known of a pour in a view. -/
theorem vcan_x {V : List Int} (g : vG V) {i j : Nat} (hi : i < 6) (hj : j < 6) (h : vcan V i j = true) : mnX (al V) (sa V i) (mm V i) (rmV V j) ∧ mnOK (al V) (sa V i) (mm V i) (rmV V j) = true ∧ 1 ≤ mm V i ∧ mm V i ≤ 4 ∧ 1 ≤ rmV V j ∧ rmV V j ≤ 4 := by
  have sm := vsm_of g hi
  simp only [vcan, Bool.and_eq_true, decide_eq_true_eq] at h
  have u2 := g.u2 j hj
  have u3 := g.u3 i hi
  have m1 : 1 ≤ mm V i := by unfold mm; omega
  have hs : 1 ≤ rmV V j ∧ rmV V j ≤ 4 := by unfold rmV; omega
  have := mnX_of sm.a sm.b m1 sm.c sm.d hs
  exact ⟨this.1, this.2, m1, sm.c, hs.1, hs.2⟩
theorem ltF_len (all same : Int) (m r : Nat) : (ltF all same m r).length = 2 := by
  have k : ∀ q, (ltK all same q).length = 2 := fun q => by cases q <;> rfl
  unfold ltF
  repeat' split
  · rfl
  · rfl
  · exact k _
--@tbl MeanMoved = impl.MeanMoved
--@tbl sMeanMoved = spec.MeanMoved
theorem MeanMoved_ok (V : List Int) (x y : Int) (hV : V.length = 18) (h64 : I64 V) : PureH Try.prog 33 [.arr V, .int x, .int y] [] (.tup [.arr (mmF V x y), .bool (mmB V x y)]) := by
  have tkV : V.take 18 = V := List.take_of_length_le (by omega)
  unfold mmF mmB
  cases hv : isVF V && (plF x && plF y)
  · have e : (isVF V && plF x && plF y && vcan V x.toNat y.toNat) = false := by rw [Bool.and_assoc (isVF V), hv]; rfl
    rw [e]
    refine pure_of_vc (X := ⟨Try.prog, tys, [(71, isViewAt_F), (82, vcanPour_F)], [], true, true, 0, [], []⟩) fn_33 ⟨tys_ok, (.cons isViewAt_T (.cons vcanPour_T .nil)), .nil, mixed⟩ (n0 := 0) (Nat.le_of_ble_eq_true rfl) (by simp [wfL, SV.wf]) (wfH_spec (by simp [wfH, SObj.wf, wfL, SV.wf])) (Nat.le_refl _) (fun _ => by simp [SV.wf, wfL]) ?_
    simp -implicitDefEqProofs only [Try.f33, Option.getD_some, argS, isViewAt_F, vcanPour_F, rep2_take, List.getD_cons_zero, List.getD_cons_succ, hV, tkV, hv, ZB, Int.reduceToNat, Nat.reduceLT, Nat.reduceLeDiff, Int.reduceLE, Int.reduceLT, Nat.reduceEqDiff, Nat.reduceSub, SB, SV.known, packR, ne_eq, reduceCtorEq, Nat.reduceEqDiff, ↓reduceIte, if_true, if_false, eq_self, Nat.reduceAdd, Nat.reduceMul, Nat.reduceSub, forall_const, oneCellS, litOne, flat1, Kd.isSca, flat, TYB]
  have hp : plF x = true ∧ plF y = true := by
    simp only [Bool.and_eq_true] at hv
    exact hv.2
  have hvf : isVF V = true := by
    simp only [Bool.and_eq_true] at hv
    exact hv.1
  have hx : 0 ≤ x ∧ x < 6 := by have := of_decide_eq_true hp.1; omega
  have hy : 0 ≤ y ∧ y < 6 := by have := of_decide_eq_true hp.2; omega
  have hp1 := hp.1; have hp2 := hp.2
  have g := vG_of hV h64 hvf
  cases hc : vcan V x.toNat y.toNat
  · have e : (isVF V && plF x && plF y && false) = false := by simp
    rw [e]
    refine pure_of_vc (X := ⟨Try.prog, tys, [(71, isViewAt_F), (82, vcanPour_F)], [], true, true, 0, [], []⟩) fn_33 ⟨tys_ok, (.cons isViewAt_T (.cons vcanPour_T .nil)), .nil, mixed⟩ (n0 := 0) (Nat.le_of_ble_eq_true rfl) (by simp [wfL, SV.wf]) (wfH_spec (by simp [wfH, SObj.wf, wfL, SV.wf])) (Nat.le_refl _) (fun _ => by simp [SV.wf, wfL]) ?_
    simp -implicitDefEqProofs only [Try.f33, Option.getD_some, argS, isViewAt_F, vcanPour_F, rep2_take, List.getD_cons_zero, List.getD_cons_succ, Bool.and_self, hV, tkV, hvf, hp1, hp2, hx, hy, hc, ZB, Int.reduceToNat, Nat.reduceLT, Nat.reduceLeDiff, Int.reduceLE, Int.reduceLT, Nat.reduceEqDiff, Nat.reduceSub, SB, SV.known, packR, ne_eq, reduceCtorEq, Nat.reduceEqDiff, ↓reduceIte, if_true, if_false, eq_self, Nat.reduceAdd, Nat.reduceMul, Nat.reduceSub, forall_const, oneCellS, litOne, flat1, Kd.isSca, flat, TYB]
  · have e : (isVF V && plF x && plF y && true) = true := by rw [Bool.and_assoc (isVF V), hv]; rfl
    rw [e]
    obtain ⟨X, ok, m1, m4, s1, s4⟩ := vcan_x g (i := x.toNat) (j := y.toNat) (by omega) (by omega) hc
    have lL := toL_len (al V) (sa V x.toNat) (mm V x.toNat) (mm V x.toNat)
    have tk5 := List.take_of_length_le (Nat.le_of_eq lL)
    refine pure_of_vc (X := ⟨Try.prog, tys, [(71, isViewAt_F), (82, vcanPour_F), (76, tops_F), (73, fraction_F)], [], true, true, 0, [], []⟩) fn_33 ⟨tys_ok, (.cons isViewAt_T (.cons vcanPour_T (.cons tops_T (.cons fraction_T .nil)))), .nil, mixed⟩ (n0 := 0) (Nat.le_of_ble_eq_true rfl) (by simp [wfL, SV.wf]) (wfH_spec (by simp [wfH, SObj.wf, wfL, SV.wf])) (Nat.le_refl _) (fun _ => by simp [SV.wf, wfL]) ?_
    simp -implicitDefEqProofs only [Try.f33, Option.getD_some, argS, isViewAt_F, vcanPour_F, tops_F, fraction_F, rep2_take, List.getD_cons_zero, List.getD_cons_succ, hV, tkV, hv, hx, hy, hc, g, lL, tk5, ZB, Int.reduceToNat, Nat.reduceLT, Nat.reduceLeDiff, Int.reduceLE, Int.reduceLT, Nat.reduceEqDiff, Nat.reduceSub, SB, SV.known, packR, ne_eq, reduceCtorEq, Nat.reduceEqDiff, ↓reduceIte, if_true, if_false, eq_self, Nat.reduceAdd, Nat.reduceMul, Nat.reduceSub, forall_const, oneCellS, litOne, flat1, Kd.isSca, flat, TYB]
    have ha := (vsm_of g (i := x.toNat) (by omega)).a
    have hd := (vsm_of g (i := x.toNat) (by omega)).d
    have cb := chP_bd (b := 0) ha.2 (mm V x.toNat - 1) (by omega)
    have pm := p18_mono (show mm V x.toNat - 1 ≤ 4 by omega)
    rw [p18_four] at pm
    have gL : ∀ r, r < 5 → (toL (al V) (sa V x.toNat) (mm V x.toNat) (mm V x.toNat)).getD r 0 = toVal (al V) (sa V x.toNat) (mm V x.toNat) r := fun r hr => tv_get hr
    have Xn := X.n; have Xt := X.t
    have yi : y.toNat < 6 := by omega
    have er : 4 - V.getD (6 + y.toNat) 0 = rmV V y.toNat := rfl
    have y6 : 6 + y.toNat < 18 := by omega
    have u2 := g.u2 y.toNat yi
    unfold mnI
    generalize al V = all at *
    generalize sa V x.toNat = same at *
    generalize mm V x.toNat = m at *
    generalize rmV V y.toNat = s at *
    generalize toL all same m m = L at *
    generalize chP all 0 (m - 1) = c at *
    refine loop_intro (fun q : Nat => [(34, .int q), (33, .arr L), (10, .int (mnN all same m s q)), (9, .int c), (2, .int y), (6, .ptr 1 0), (3, .ptr 0 0)]) (fun q => [(1, .ints (List.replicate 2 0) 47), (0, .ints V 31)]) 4 (fun q => q ≤ 5) (fun q => 5 - q) ?_ ?_
    · refine ⟨0, ?_, Sub.mk_id ?_ ?_ ?_ ?_ ?_⟩
      all_goals (try (simp only [mnN, LB, subS, subH, wfS, wfH, SV.ren, renL, SObj.ren, SV.wf, SObj.wf, wfL, SV.known, Nat.reduceEqDiff, ↓reduceIte, if_true, if_false, eq_self, Nat.reduceAdd, Nat.reduceLT, Nat.reduceLeDiff, implies_true, reduceCtorEq, forall_const]; done))
      all_goals (try (simp only [mnN, LB, subS, subH, wfS, wfH, SV.ren, renL, SObj.ren, SV.wf, SObj.wf, wfL, SV.known, Nat.reduceEqDiff, ↓reduceIte, if_true, if_false, eq_self, Nat.reduceAdd, Nat.reduceLT, Nat.reduceLeDiff, implies_true, reduceCtorEq, forall_const]; simp; done))
      all_goals (try (simp only [mnN, LB, subS, subH, wfS, wfH, SV.ren, renL, SObj.ren, SV.wf, SObj.wf, wfL, SV.known, Nat.reduceEqDiff, ↓reduceIte, if_true, if_false, eq_self, Nat.reduceAdd, Nat.reduceLT, Nat.reduceLeDiff, implies_true, reduceCtorEq, forall_const]; (and_intros <;> (first | omega | rfl | (simp; done) | (simp; omega))); done))
      all_goals (try dsimp only)
      all_goals (and_intros <;> try (first | omega | (unfold In64; omega) | trivial | assumption))
    · intro q hq
      by_cases hlt : q < 5
      · have ql : (q : Int) < 5 := by omega
        have ge := gL q hlt
        have x1 := Xn q (by omega)
        have x2 := Xn (q + 1) (by omega)
        have x3 := Xt q hlt
        have es : mnN all same m s (q + 1) = mnN all same m s q + toVal all same m q * min (q : Int) s := rfl
        have i1 : In64 (toVal all same m q * min (q : Int) s) := by unfold In64; omega
        have i2 : In64 (mnN all same m s q + toVal all same m q * min (q : Int) s) := by unfold In64; omega
        simp -implicitDefEqProofs only [lk_normal, ql, lL, ge, hV, hy, y6, er, i1, i2, ZB, Int.reduceToNat, Nat.reduceLT, Nat.reduceLeDiff, Int.reduceLE, Int.reduceLT, Nat.reduceEqDiff, Nat.reduceSub, SB, SV.known, packR, ne_eq, reduceCtorEq, Nat.reduceEqDiff, ↓reduceIte, if_true, if_false, eq_self, Nat.reduceAdd, Nat.reduceMul, Nat.reduceSub, forall_const, oneCellS, litOne, flat1, Kd.isSca, flat, TYB]
        (try (and_intros <;> try (first | omega | (unfold In64; omega) | trivial | assumption)))
        refine ⟨q + 1, ?_, ?_, Sub.mk_id ?_ ?_ ?_ ?_ ?_⟩
        all_goals (try (simp only [es, LB, subS, subH, wfS, wfH, SV.ren, renL, SObj.ren, SV.wf, SObj.wf, wfL, SV.known, Nat.reduceEqDiff, ↓reduceIte, if_true, if_false, eq_self, Nat.reduceAdd, Nat.reduceLT, Nat.reduceLeDiff, implies_true, reduceCtorEq, forall_const]; done))
        all_goals (try (simp only [es, LB, subS, subH, wfS, wfH, SV.ren, renL, SObj.ren, SV.wf, SObj.wf, wfL, SV.known, Nat.reduceEqDiff, ↓reduceIte, if_true, if_false, eq_self, Nat.reduceAdd, Nat.reduceLT, Nat.reduceLeDiff, implies_true, reduceCtorEq, forall_const]; simp; done))
        all_goals (try (simp only [es, LB, subS, subH, wfS, wfH, SV.ren, renL, SObj.ren, SV.wf, SObj.wf, wfL, SV.known, Nat.reduceEqDiff, ↓reduceIte, if_true, if_false, eq_self, Nat.reduceAdd, Nat.reduceLT, Nat.reduceLeDiff, implies_true, reduceCtorEq, forall_const]; (and_intros <;> (first | omega | rfl | (simp; done) | (simp; omega))); done))
        all_goals (try dsimp only)
        all_goals (and_intros <;> try (first | omega | (unfold In64; omega) | trivial | assumption))
      · have ql : ¬ (5 : Int) < 5 := by omega
        obtain rfl : q = 5 := by omega
        have x1 := Xn 5 (by omega)
        have i1 : In64 (mnN all same m s 5) := by unfold In64; omega
        have i2 : In64 c := by unfold In64; omega
        have i3 : 0 < c := by omega
        have i4 := x1.1
        simp -implicitDefEqProofs only [lk_normal, ql, fraction_F, i1, i2, i3, i4, fracF_len, fracF_take, ZB, Int.reduceToNat, Nat.reduceLT, Nat.reduceLeDiff, Int.reduceLE, Int.reduceLT, Nat.reduceEqDiff, Nat.reduceSub, SB, SV.known, packR, ne_eq, reduceCtorEq, Nat.reduceEqDiff, ↓reduceIte, if_true, if_false, eq_self, Nat.reduceAdd, Nat.reduceMul, Nat.reduceSub, forall_const, oneCellS, litOne, flat1, Kd.isSca, flat, TYB]
        (try (and_intros <;> try (first | omega | (unfold In64; omega) | trivial | assumption)))
def MeanMoved_F : List SV → Heap → Option (Prop × SV)
  | [.arr V, .int x, .int y], _ => some (V.length = 18 ∧ I64 V, .tup [.arr (mmF V x y), .bool (mmB V x y)])
  | _, _ => none
theorem MeanMoved_T : ∀ args H p v, MeanMoved_F args H = some (p, v) → p → PureH Try.prog 33 args H v := by
  intro args H p v h hp
  unfold MeanMoved_F at h
  split at h
  · cases h; exact (MeanMoved_ok _ _ _ hp.1 hp.2).any _
  · cases h
theorem sMeanMoved_ok (V : List Int) (x y : Int) (hV : V.length = 18) (h64 : I64 V) : PureH Try.prog 34 [.arr V, .int x, .int y] [] (.tup [.arr (mmF V x y), .bool (mmB V x y)]) := by
  have tkV : V.take 18 = V := List.take_of_length_le (by omega)
  unfold mmF mmB
  cases hv : isVF V
  · refine pure_of_vc (X := ⟨Try.prog, tys, [(67, l7Good_F), (74, l2Place_F), (83, l7Can_F)], [], true, true, 0, [], []⟩) fn_34 ⟨tys_ok, (.cons l7Good_T (.cons l2Place_T (.cons l7Can_T .nil))), .nil, mixed⟩ (n0 := 0) (Nat.le_of_ble_eq_true rfl) (by simp [wfL, SV.wf]) (wfH_spec (by simp [wfH, SObj.wf, wfL, SV.wf])) (Nat.le_refl _) (fun _ => by simp [SV.wf, wfL]) ?_
    simp -implicitDefEqProofs only [Try.f34, Option.getD_some, argS, l7Good_F, l2Place_F, l7Can_F, rep2_take, hV, tkV, hv, h64, ZB, Int.reduceToNat, Nat.reduceLT, Nat.reduceLeDiff, Int.reduceLE, Int.reduceLT, Nat.reduceEqDiff, Nat.reduceSub, SB, SV.known, packR, ne_eq, reduceCtorEq, Nat.reduceEqDiff, ↓reduceIte, if_true, if_false, eq_self, Nat.reduceAdd, Nat.reduceMul, Nat.reduceSub, forall_const, oneCellS, litOne, flat1, Kd.isSca, flat, TYB]
  cases hp1 : plF x
  · refine pure_of_vc (X := ⟨Try.prog, tys, [(67, l7Good_F), (74, l2Place_F), (83, l7Can_F)], [], true, true, 0, [], []⟩) fn_34 ⟨tys_ok, (.cons l7Good_T (.cons l2Place_T (.cons l7Can_T .nil))), .nil, mixed⟩ (n0 := 0) (Nat.le_of_ble_eq_true rfl) (by simp [wfL, SV.wf]) (wfH_spec (by simp [wfH, SObj.wf, wfL, SV.wf])) (Nat.le_refl _) (fun _ => by simp [SV.wf, wfL]) ?_
    simp -implicitDefEqProofs only [Try.f34, Option.getD_some, argS, l7Good_F, l2Place_F, l7Can_F, rep2_take, hV, tkV, hv, h64, hp1, ZB, Int.reduceToNat, Nat.reduceLT, Nat.reduceLeDiff, Int.reduceLE, Int.reduceLT, Nat.reduceEqDiff, Nat.reduceSub, SB, SV.known, packR, ne_eq, reduceCtorEq, Nat.reduceEqDiff, ↓reduceIte, if_true, if_false, eq_self, Nat.reduceAdd, Nat.reduceMul, Nat.reduceSub, forall_const, oneCellS, litOne, flat1, Kd.isSca, flat, TYB]
  cases hp2 : plF y
  · refine pure_of_vc (X := ⟨Try.prog, tys, [(67, l7Good_F), (74, l2Place_F), (83, l7Can_F)], [], true, true, 0, [], []⟩) fn_34 ⟨tys_ok, (.cons l7Good_T (.cons l2Place_T (.cons l7Can_T .nil))), .nil, mixed⟩ (n0 := 0) (Nat.le_of_ble_eq_true rfl) (by simp [wfL, SV.wf]) (wfH_spec (by simp [wfH, SObj.wf, wfL, SV.wf])) (Nat.le_refl _) (fun _ => by simp [SV.wf, wfL]) ?_
    simp -implicitDefEqProofs only [Try.f34, Option.getD_some, argS, l7Good_F, l2Place_F, l7Can_F, rep2_take, hV, tkV, hv, h64, hp1, hp2, ZB, Int.reduceToNat, Nat.reduceLT, Nat.reduceLeDiff, Int.reduceLE, Int.reduceLT, Nat.reduceEqDiff, Nat.reduceSub, SB, SV.known, packR, ne_eq, reduceCtorEq, Nat.reduceEqDiff, ↓reduceIte, if_true, if_false, eq_self, Nat.reduceAdd, Nat.reduceMul, Nat.reduceSub, forall_const, oneCellS, litOne, flat1, Kd.isSca, flat, TYB]
  have hx : 0 ≤ x ∧ x < 6 := by have := of_decide_eq_true hp1; omega
  have hy : 0 ≤ y ∧ y < 6 := by have := of_decide_eq_true hp2; omega
  have g := vG_of hV h64 hv
  have u1 := g.u1; have u2 := g.u2; have u3 := g.u3
  cases hc : vcan V x.toNat y.toNat
  · refine pure_of_vc (X := ⟨Try.prog, tys, [(67, l7Good_F), (74, l2Place_F), (83, l7Can_F)], [], true, true, 0, [], []⟩) fn_34 ⟨tys_ok, (.cons l7Good_T (.cons l2Place_T (.cons l7Can_T .nil))), .nil, mixed⟩ (n0 := 0) (Nat.le_of_ble_eq_true rfl) (by simp [wfL, SV.wf]) (wfH_spec (by simp [wfH, SObj.wf, wfL, SV.wf])) (Nat.le_refl _) (fun _ => by simp [SV.wf, wfL]) ?_
    simp -implicitDefEqProofs only [Try.f34, Option.getD_some, argS, l7Good_F, l2Place_F, l7Can_F, rep2_take, hV, tkV, hv, h64, hp1, hp2, hx, hy, u1, u2, u3, hc, ZB, Int.reduceToNat, Nat.reduceLT, Nat.reduceLeDiff, Int.reduceLE, Int.reduceLT, Nat.reduceEqDiff, Nat.reduceSub, SB, SV.known, packR, ne_eq, reduceCtorEq, Nat.reduceEqDiff, ↓reduceIte, if_true, if_false, eq_self, Nat.reduceAdd, Nat.reduceMul, Nat.reduceSub, forall_const, oneCellS, litOne, flat1, Kd.isSca, flat, TYB]
  · obtain ⟨X, ok, m1, m4, s1, s4⟩ := vcan_x g (i := x.toNat) (j := y.toNat) (by omega) (by omega) hc
    refine pure_of_vc (X := ⟨Try.prog, tys, [(67, l7Good_F), (74, l2Place_F), (83, l7Can_F), (77, l7Top_F), (85, l1Least_F), (75, l7Cut_F), (84, l7Plus_F)], [], true, true, 0, [], []⟩) fn_34 ⟨tys_ok, (.cons l7Good_T (.cons l2Place_T (.cons l7Can_T (.cons l7Top_T (.cons l1Least_T (.cons l7Cut_T (.cons l7Plus_T .nil))))))), .nil, mixed⟩ (n0 := 0) (Nat.le_of_ble_eq_true rfl) (by simp [wfL, SV.wf]) (wfH_spec (by simp [wfH, SObj.wf, wfL, SV.wf])) (Nat.le_refl _) (fun _ => by simp [SV.wf, wfL]) ?_
    simp -implicitDefEqProofs only [Try.f34, Option.getD_some, argS, l7Good_F, l2Place_F, l7Can_F, l7Top_F, l1Least_F, l7Cut_F, l7Plus_F, rep2_take, hV, tkV, hv, h64, hp1, hp2, hx, hy, u1, u2, u3, hc, ZB, Int.reduceToNat, Nat.reduceLT, Nat.reduceLeDiff, Int.reduceLE, Int.reduceLT, Nat.reduceEqDiff, Nat.reduceSub, SB, SV.known, packR, ne_eq, reduceCtorEq, Nat.reduceEqDiff, ↓reduceIte, if_true, if_false, eq_self, Nat.reduceAdd, Nat.reduceMul, Nat.reduceSub, forall_const, oneCellS, litOne, flat1, Kd.isSca, flat, TYB]
    have e1 : mnI (al V) (sa V x.toNat) (mm V x.toNat) (rmV V y.toNat) = mnS (al V) (sa V x.toNat) (mm V x.toNat) (rmV V y.toNat) (mm V x.toNat) := by
      simp only [mnOK, Bool.and_eq_true, decide_eq_true_eq] at ok
      exact ok.1.1.1.1
    rw [e1]
    have Xf := X.f; have Xl := X.l
    have xi : x.toNat < 6 := by omega
    have yi : y.toNat < 6 := by omega
    have er : 4 - V.getD (6 + y.toNat) 0 = rmV V y.toNat := rfl
    have x6 : 6 + x.toNat < 18 := by omega
    have y6 : 6 + y.toNat < 18 := by omega
    have em := (vsm_of g xi).m_
    have lS : ∀ r, (mnS (al V) (sa V x.toNat) (mm V x.toNat) (rmV V y.toNat) r).length = 2 := fun r => by cases r <;> rfl
    have lF := fun r => ltF_len (al V) (sa V x.toNat) (mm V x.toNat) r
    have h2y := u2 y.toNat yi
    generalize hA : al V = all at *
    generalize hS : sa V x.toNat = same at *
    generalize hM : mm V x.toNat = m at *
    generalize hs : rmV V y.toNat = s at *
    refine loop_intro (fun r : Nat => [(9, .int ((r : Int) + 1)), (8, .ptr 2 0), (6, .ptr 1 0), (3, .ptr 0 0), (1, .int x), (2, .int y)]) (fun r => [(2, .ints (mnS all same m s r) 47), (1, .ints (List.replicate 2 0) 47), (0, .ints V 31)]) 3 (fun r => r ≤ m) (fun r => 5 - r) ?_ ?_
    · refine ⟨0, ?_, Sub.mk_id ?_ ?_ ?_ ?_ ?_⟩
      all_goals (try (simp only [mnS, LB, subS, subH, wfS, wfH, SV.ren, renL, SObj.ren, SV.wf, SObj.wf, wfL, SV.known, Nat.reduceEqDiff, ↓reduceIte, if_true, if_false, eq_self, Nat.reduceAdd, Nat.reduceLT, Nat.reduceLeDiff, implies_true, reduceCtorEq, forall_const]; done))
      all_goals (try (simp only [mnS, LB, subS, subH, wfS, wfH, SV.ren, renL, SObj.ren, SV.wf, SObj.wf, wfL, SV.known, Nat.reduceEqDiff, ↓reduceIte, if_true, if_false, eq_self, Nat.reduceAdd, Nat.reduceLT, Nat.reduceLeDiff, implies_true, reduceCtorEq, forall_const]; simp; done))
      all_goals (try (simp only [mnS, LB, subS, subH, wfS, wfH, SV.ren, renL, SObj.ren, SV.wf, SObj.wf, wfL, SV.known, Nat.reduceEqDiff, ↓reduceIte, if_true, if_false, eq_self, Nat.reduceAdd, Nat.reduceLT, Nat.reduceLeDiff, implies_true, reduceCtorEq, forall_const]; (and_intros <;> (first | omega | rfl | (simp; done) | (simp; omega))); done))
      all_goals (try dsimp only)
      all_goals (and_intros <;> try (first | omega | (unfold In64; omega) | trivial | assumption))
    · intro r hr
      have ls := lS r
      have tk2 := List.take_of_length_le (Nat.le_of_eq ls)
      have dr2 := List.drop_of_length_le (Nat.le_of_eq ls)
      by_cases hlt : r < m
      · have rl : (r : Int) + 1 ≤ m := by omega
        have rt : ((r : Int) + 1).toNat = r + 1 := by omega
        have r1 : 1 ≤ (r : Int) + 1 ∧ (r : Int) + 1 ≤ 4 := by omega
        obtain ⟨f1, f2, f3, f4⟩ := Xf r (by omega)
        obtain ⟨l1, l2, l3, l4⟩ := Xl r hlt
        have lf := lF (r + 1)
        have tkf := List.take_of_length_le (Nat.le_of_eq lf)
        have es : mnS all same m s (r + 1) = plusF (mnS all same m s r) (fracF ((ltF all same m (r + 1)).getD 0 0 * min ((r + 1 : Nat) : Int) s) ((ltF all same m (r + 1)).getD 1 0)) := rfl
        have ec : ((r + 1 : Nat) : Int) = (r : Int) + 1 := by omega
        rw [ec] at es l1 l2
        have lsn := lS (r + 1)
        have i1 : In64 ((ltF all same m (r + 1)).getD 0 0 * min ((r : Int) + 1) s) := by unfold In64; omega
        have i2 : In64 ((ltF all same m (r + 1)).getD 1 0) := by unfold In64; omega
        have fp := fracF_pos l1 l3
        have sf1 : smallF (mnS all same m s r) := ⟨ls, f1, f2, f3, f4⟩
        have sf2 : smallF (fracF ((ltF all same m (r + 1)).getD 0 0 * min ((r : Int) + 1) s) ((ltF all same m (r + 1)).getD 1 0)) := ⟨fracF_len _ _, fp.1, by omega, fp.2.2.1, by omega⟩
        simp -implicitDefEqProofs only [lk_normal, l7Top_F, l1Least_F, l7Cut_F, l7Plus_F, hV, tkV, x6, y6, hx, hy, em, er, g, hA, hS, hM, rl, rt, r1, ls, lf, tk2, tkf, dr2, i1, i2, l1, l3, sf1, sf2, fracF_len, fracF_take, plusF_len, ZB, Int.reduceToNat, Nat.reduceLT, Nat.reduceLeDiff, Int.reduceLE, Int.reduceLT, Nat.reduceEqDiff, Nat.reduceSub, SB, SV.known, packR, ne_eq, reduceCtorEq, Nat.reduceEqDiff, ↓reduceIte, if_true, if_false, eq_self, Nat.reduceAdd, Nat.reduceMul, Nat.reduceSub, forall_const, oneCellS, litOne, flat1, Kd.isSca, flat, TYB]
        (try (and_intros <;> try (first | omega | (unfold In64; omega) | trivial | assumption)))
        refine ⟨r + 1, ?_, ?_, Sub.mk_id ?_ ?_ ?_ ?_ ?_⟩
        all_goals (try (simp only [es, LB, subS, subH, wfS, wfH, SV.ren, renL, SObj.ren, SV.wf, SObj.wf, wfL, SV.known, Nat.reduceEqDiff, ↓reduceIte, if_true, if_false, eq_self, Nat.reduceAdd, Nat.reduceLT, Nat.reduceLeDiff, implies_true, reduceCtorEq, forall_const]; done))
        all_goals (try (simp only [es, LB, subS, subH, wfS, wfH, SV.ren, renL, SObj.ren, SV.wf, SObj.wf, wfL, SV.known, Nat.reduceEqDiff, ↓reduceIte, if_true, if_false, eq_self, Nat.reduceAdd, Nat.reduceLT, Nat.reduceLeDiff, implies_true, reduceCtorEq, forall_const]; simp; done))
        all_goals (try (simp only [es, LB, subS, subH, wfS, wfH, SV.ren, renL, SObj.ren, SV.wf, SObj.wf, wfL, SV.known, Nat.reduceEqDiff, ↓reduceIte, if_true, if_false, eq_self, Nat.reduceAdd, Nat.reduceLT, Nat.reduceLeDiff, implies_true, reduceCtorEq, forall_const]; (and_intros <;> (first | omega | rfl | (simp; done) | (simp; omega))); done))
        all_goals (try dsimp only)
        all_goals (and_intros <;> try (first | omega | (unfold In64; omega) | trivial | assumption))
      · have rl : ¬ (r : Int) + 1 ≤ m := by omega
        obtain rfl : r = m := by omega
        simp -implicitDefEqProofs only [lk_normal, hV, x6, hx, em, rl, ls, tk2, ZB, Int.reduceToNat, Nat.reduceLT, Nat.reduceLeDiff, Int.reduceLE, Int.reduceLT, Nat.reduceEqDiff, Nat.reduceSub, SB, SV.known, packR, ne_eq, reduceCtorEq, Nat.reduceEqDiff, ↓reduceIte, if_true, if_false, eq_self, Nat.reduceAdd, Nat.reduceMul, Nat.reduceSub, forall_const, oneCellS, litOne, flat1, Kd.isSca, flat, TYB]
        (try (and_intros <;> try (first | omega | (unfold In64; omega) | trivial | assumption)))
def sMeanMoved_F : List SV → Heap → Option (Prop × SV)
  | [.arr V, .int x, .int y], _ => some (V.length = 18 ∧ I64 V, .tup [.arr (mmF V x y), .bool (mmB V x y)])
  | _, _ => none
theorem sMeanMoved_T : ∀ args H p v, sMeanMoved_F args H = some (p, v) → p → PureH Try.prog 34 args H v := by
  intro args H p v h hp
  unfold sMeanMoved_F at h
  split at h
  · cases h; exact (sMeanMoved_ok _ _ _ hp.1 hp.2).any _
  · cases h
end Go.Proofs.Ytckcojgfgcjamaa
set_option maxRecDepth 100000
set_option linter.unusedSimpArgs false
set_option linter.unusedVariables false
namespace Go.Proofs.Ytckcojgfgcjamaa
open Go Go.RowKit
end Go.Proofs.Ytckcojgfgcjamaa
set_option maxRecDepth 100000
set_option linter.unusedSimpArgs false
set_option linter.unusedVariables false
namespace Go.Proofs.Ytckcojgfgcjamaa
open Go Go.RowKit
def cpO (R : List Int) (i j : Int) : Bool := rackB R && plF i && plF j && !decide (i = j)
def poF (R : List Int) : List Int := if rackB R = true then PL R 36 else []
theorem PoursOf_ok (R : List Int) (hR : R.length = 24) : FreshP Try.prog 47 [.arr R] [] (poF R) ((poF R).length / 2) 2 47 (decide (rackB R = false ∨ PL R 36 = [])) (.more [.bool (rackB R)]) := by
  have tkR : R.take 24 = R := List.take_of_length_le (by omega)
  unfold poF
  cases hr : rackB R
  · refine fresh_of_vc (X := ⟨Try.prog, tys, [(49, IsRack_F)], [(99, pours_F)], true, true, 0, [], []⟩) fn_47 ⟨tys_ok, (.cons IsRack_T .nil), (.cons pours_T .nil), mixed⟩ (n0 := 0) rfl (Nat.le_of_ble_eq_true rfl) (by simp [wfL, SV.wf]) (wfH_spec (by simp [wfH, SObj.wf, wfL, SV.wf])) (Nat.le_refl _) ?_
    simp -implicitDefEqProofs only [Try.f47, Option.getD_some, argS, IsRack_F, pours_F, hR, tkR, hr, freshK, Wrap.ap, ZB, Int.reduceToNat, Nat.reduceLT, Nat.reduceLeDiff, Int.reduceLE, Int.reduceLT, Nat.reduceEqDiff, Nat.reduceSub, SB, SV.known, packR, ne_eq, reduceCtorEq, Nat.reduceEqDiff, ↓reduceIte, if_true, if_false, eq_self, Nat.reduceAdd, Nat.reduceMul, Nat.reduceSub, forall_const, oneCellS, litOne, flat1, Kd.isSca, flat, TYB]
    exact .inl ⟨by simp, rfl, rfl⟩
  · refine fresh_of_vc (X := ⟨Try.prog, tys, [(49, IsRack_F)], [(99, pours_F)], true, true, 0, [], []⟩) fn_47 ⟨tys_ok, (.cons IsRack_T .nil), (.cons pours_T .nil), mixed⟩ (n0 := 0) rfl (Nat.le_of_ble_eq_true rfl) (by simp [wfL, SV.wf]) (wfH_spec (by simp [wfH, SObj.wf, wfL, SV.wf])) (Nat.le_refl _) ?_
    simp -implicitDefEqProofs only [Try.f47, Option.getD_some, argS, IsRack_F, pours_F, hR, tkR, hr, freshK, Wrap.ap, ZB, Int.reduceToNat, Nat.reduceLT, Nat.reduceLeDiff, Int.reduceLE, Int.reduceLT, Nat.reduceEqDiff, Nat.reduceSub, SB, SV.known, packR, ne_eq, reduceCtorEq, Nat.reduceEqDiff, ↓reduceIte, if_true, if_false, eq_self, Nat.reduceAdd, Nat.reduceMul, Nat.reduceSub, forall_const, oneCellS, litOne, flat1, Kd.isSca, flat, TYB]
    exact ⟨fun h1 => .inl ⟨by simp [h1], h1, rfl⟩, fun h cap junk hj => .inr ⟨1, cap, junk, rfl, by simp [hget_cons], by omega, hj, by simpa using h⟩⟩
def PoursOf_F : List SV → Heap → Nat → Nat → K1 → Prop
  | [.arr R], H, n, _, κ => R.length = 24 ∧ freshK (.more [.bool (rackB R)]) (poF R) ((poF R).length / 2) 2 47 (decide (rackB R = false ∨ PL R 36 = [])) H n κ
  | _, _, _, _, _ => False
theorem PoursOf_T : ∀ args H n m κ, PoursOf_F args H n m κ → GenOK Try.prog 47 args H n m κ := by
  intro args H n m κ h
  unfold PoursOf_F at h
  split at h
  · exact gen_of_fresh (PoursOf_ok _ h.1) (fun k o hk => by cases hk) h.2
  · exact h.elim
def loF (R : List Int) (i : Int) : Int := if (rackB R && plF i) = true then (layN (tubeAt R i.toNat) : Int) else 0
--@tbl LayersOf = impl.LayersOf
end Go.Proofs.Ytckcojgfgcjamaa
set_option maxRecDepth 100000
set_option linter.unusedSimpArgs false
set_option linter.unusedVariables false
namespace Go.Proofs.Ytckcojgfgcjamaa
open Go Go.RowKit
/-- Is a pair among these? -/
def inP (L : List Int) (m : Nat) (p : List Int) : Bool := (List.range m).any fun i => decide ((L.drop (i * 2)).take 2 = p)
theorem inP_of {L p : List Int} {m i : Nat} (hi : i < m) (h : (L.drop (i * 2)).take 2 = p) : inP L m p = true := List.any_eq_true.2 ⟨i, List.mem_range.2 hi, by simp [h]⟩
theorem inP_not {L p : List Int} {m : Nat} (h : ∀ i, i < m → (L.drop (i * 2)).take 2 ≠ p) : inP L m p = false := List.any_eq_false.2 fun i hi => by simpa using h i (List.mem_range.1 hi)
theorem pl_of {R : List Int} {x y : Int} (h : cpO R x y = true) : rackB R = true ∧ (0 ≤ x ∧ x ≤ 5) ∧ (0 ≤ y ∧ y ≤ 5) ∧ x ≠ y := by
  unfold cpO at h
  simp only [Bool.and_eq_true, Bool.not_eq_true', decide_eq_false_iff_not] at h
  exact ⟨h.1.1.1, pl_bd h.1.1.2, pl_bd h.1.2, h.2⟩
/-! A pour exchanges cells. -/
theorem cnt_swap (L : List Int) (p q : Nat) (hp : p < L.length) (hq : q < L.length) (hpq : p ≠ q) (c : Int) (h1 : L.getD p 0 = c) (h2 : L.getD q 0 = 0) : ((L.set p 0).set q c).Perm L := by
  rw [List.perm_iff_count]
  intro a
  rw [List.getD_eq_getElem?_getD, List.getElem?_eq_getElem hp] at h1
  rw [List.getD_eq_getElem?_getD, List.getElem?_eq_getElem hq] at h2
  simp only [Option.getD_some] at h1 h2
  have hq' : q < (L.set p 0).length := by rw [List.length_set]; exact hq
  rw [List.count_set hq', List.count_set hp, List.getElem_set_ne hpq, h1, h2]
  have g1 : 0 < L.count c := List.count_pos_iff.2 (h1 ▸ List.getElem_mem hp)
  have g2 : 0 < L.count 0 := List.count_pos_iff.2 (h2 ▸ List.getElem_mem hq)
  by_cases ha : c = a
  · subst ha
    by_cases h0 : (0 : Int) = c
    · subst h0; simp; omega
    · simp [h0]; omega
  · by_cases h0 : (0 : Int) = a
    · subst h0; simp [ha]
    · simp [ha, h0]
theorem incr_comm (L : List Int) (a b : Nat) : incr (incr L a) b = incr (incr L b) a := by
  apply List.ext_getElem (by simp [incr])
  intro k h1 h2
  simp only [incr, List.length_set] at h1
  simp only [incr, List.getElem_set, List.getD_eq_getElem?_getD, List.getElem?_set]
  by_cases hab : a = b
  · subst hab; rfl
  · by_cases hak : a = k
    · subst hak
      by_cases hbk : b = a
      · exact absurd hbk.symm hab
      · simp [hbk, Ne.symm hbk, h1]
    · by_cases hbk : b = k
      · subst hbk; simp [hab, h1]
      · simp [hak, hbk]
theorem cntL_perm {L M : List Int} (h : L.Perm M) : cntL L = cntL M := by
  unfold cntL
  refine List.Perm.foldl_eq' h (fun x _ y _ z => incr_comm _ _ _) _
theorem pm_perm {R : List Int} (hR : R.length = 24) (hr : rackB R = true) {i j : Nat} (hi : i < 6) (hj : j < 6) (hij : i ≠ j) {r : Nat} (hrun : isRun (tubeAt R i) (layN (tubeAt R i)) r) (ht : (topF (tubeAt R i)).1 = (tubeAt R i).getD (layN (tubeAt R i) - 1) 0) :
    ∀ m, m ≤ r → m + layN (tubeAt R j) ≤ 4 → (pmR R i j m).Perm R
  | 0, _, _ => List.Perm.refl _
  | m + 1, hm, hm2 => by
    have ih := pm_perm hR hr hi hj hij hrun ht m (by omega) (by omega)
    have li := lay_le _ (tubeAt_len hR hi)
    have hr1 := hrun.2.1
    have cell := pmR_cell hR hi hj hij m (by omega) (by omega)
    have hP : (pmR R i j m).length = 24 := by rw [pmR_len, hR]
    have cj := tube_cells (tubeAt_len hR hj) (tubeAt_ok hr hj)
    refine List.Perm.trans (cnt_swap (pmR R i j m) _ _ (by omega) (by omega) (by omega) _ ?_ ?_) ih
    · rw [cell i _ hi (by omega), if_neg (by omega), if_neg (by omega), ← tubeAt_getD _ _ _ (by omega), show layN (tubeAt R i) - 1 - m = layN (tubeAt R i) - 1 - m by rfl, hrun.2.2.1 m (by omega), ht]
    · rw [cell j _ hj (by omega), if_neg (by omega), if_neg (by omega), ← tubeAt_getD _ _ _ (by omega)]
      exact cj.2 _ (by omega)
theorem pour_facts {R : List Int} (hR : R.length = 24) (hr : rackB R = true) {x y : Int} (ho : cpO R x y = true) (hc : canF R x y = true) : rackB (pourT R x y) = true ∧ cntL (pourT R x y) = cntL R ∧ 1 ≤ pourM R x y ∧ pourM R x y ≤ (topF (tubeAt R x.toNat)).2 ∧ (¬ pourM R x y < (topF (tubeAt R x.toNat)).2 → canF (pourT R x y) y x = decide (loF (pourT R x y) x = 0)) := by
  obtain ⟨_, hx, hy, hxy⟩ := pl_of ho
  obtain ⟨g1, g2, g3, g4, g5, g6, g7⟩ := can_facts hR hr hx hy hc
  have hi : x.toNat < 6 := by omega
  have hj : y.toNat < 6 := by omega
  have hij : x.toNat ≠ y.toNat := by omega
  have ho' := ho
  unfold cpO at ho'
  simp only [Bool.and_eq_true] at ho'
  have hp : pourB R x y = true := by unfold pourB; rw [ho'.1.1.1, ho'.1.1.2, ho'.1.2, hc]; rfl
  have eT : pourT R x y = pourF R x.toNat y.toNat := by unfold pourT; rw [if_pos hp]
  have eM : pourM R x y = pmN R x.toNat y.toNat := by unfold pourM; rw [if_pos hp]
  have li := tubeAt_len hR hi
  have lj := tubeAt_len hR hj
  obtain ⟨r, e1, e2⟩ := topF_run _ li g2
  have hrN := pour_rack hR hr hx hy hc
  have et1 : (topF (tubeAt R x.toNat)).1 = (tubeAt R x.toNat).getD (layN (tubeAt R x.toNat) - 1) 0 := by rw [e1]
  have et2 : (topF (tubeAt R x.toNat)).2 = (r : Int) := by rw [e1]
  have hmr : pmN R x.toNat y.toNat ≤ (r : Int) := by unfold pmN; rw [et2]; omega
  obtain ⟨M, hM⟩ : ∃ M : Nat, pmN R x.toNat y.toNat = M := ⟨(pmN R x.toNat y.toNat).toNat, by omega⟩
  have eM' : (pmN R x.toNat y.toNat).toNat = M := by omega
  rw [eT, eM, et2]
  refine ⟨hrN, cntL_perm ?_, by omega, hmr, fun hnlt => ?_⟩
  · unfold pourF
    rw [eM']
    exact pm_perm hR hr hi hj hij e2 et1 M (by omega) (by omega)
  · have hMr : M = r := by omega
    have hMi : M ≤ layN (tubeAt R x.toNat) := by omega
    have hMj : M + layN (tubeAt R y.toNat) ≤ 4 := by omega
    obtain ⟨⟨p1, p2⟩, ⟨p3, p4⟩, _⟩ := pm_facts hR hr hi hj hij hMi hMj
    have cell := pmR_cell hR hi hj hij M hMi hMj
    have eN : pourF R x.toNat y.toNat = pmR R x.toNat y.toNat M := by unfold pourF; rw [eM']
    rw [eN] at hrN ⊢
    have hN : (pmR R x.toNat y.toNat M).length = 24 := by rw [pmR_len, hR]
    have nli := tubeAt_len hN hi
    have nlj := tubeAt_len hN hj
    have lo : loF (pmR R x.toNat y.toNat M) x = (layN (tubeAt (pmR R x.toNat y.toNat M) x.toNat) : Int) := by
      unfold loF
      rw [hrN, ho'.1.1.2]; rfl
    have hlayi := lay_le _ li
    obtain ⟨s, f1, f2⟩ := topF_run _ nlj (by omega)
    have tc : (topF (tubeAt (pmR R x.toNat y.toNat M) y.toNat)).1 = (topF (tubeAt R x.toNat)).1 := by
      rw [f1, p4, tubeAt_getD _ _ _ (by omega), cell y.toNat _ hj (by omega), if_neg (by omega), if_pos (by omega)]
    have tpos := (top_co li (tubeAt_ok hr hi) g2).1
    unfold canF
    rw [tc, lo, p2]
    have d1 : decide (y = x) = false := decide_eq_false (fun e => hxy e.symm)
    have d2 : decide (0 < (topF (tubeAt R x.toNat)).1) = true := decide_eq_true (by omega)
    have d3 : decide (((layN (tubeAt R x.toNat) - M : Nat) : Int) < 4) = true := decide_eq_true (by omega)
    rw [d1, d2, d3]
    by_cases h0 : layN (tubeAt R x.toNat) - M = 0
    · have t0 : (topF (tubeAt (pmR R x.toNat y.toNat M) x.toNat)).1 = 0 := by
        have hl0 : layN (tubeAt (pmR R x.toNat y.toNat M) x.toNat) = 0 := by rw [p2]; exact h0
        have : topF (tubeAt (pmR R x.toNat y.toNat M) x.toNat) = (0, 0) := by simp [topF, runsL, hl0]
        rw [this]
      rw [t0, h0]; simp
    · obtain ⟨s2, k1, k2⟩ := topF_run _ nli (by omega)
      have tx : (topF (tubeAt (pmR R x.toNat y.toNat M) x.toNat)).1 = (tubeAt R x.toNat).getD (layN (tubeAt R x.toNat) - M - 1) 0 := by
        rw [k1, p2, tubeAt_getD _ _ _ (by omega), cell x.toNat _ hi (by omega), if_neg (by omega), if_neg (by omega), ← tubeAt_getD _ _ _ (by omega)]
      have hne : ¬ (tubeAt R x.toNat).getD (layN (tubeAt R x.toNat) - M - 1) 0 = (topF (tubeAt R x.toNat)).1 := by
        rw [et1]
        rcases e2.2.2.2 with h | h
        · omega
        · rw [← hMr, show layN (tubeAt R x.toNat) - 1 - M = layN (tubeAt R x.toNat) - M - 1 by omega] at h
          exact h
      have hpos := ((tube_cells li (tubeAt_ok hr hi)).1 (layN (tubeAt R x.toNat) - M - 1) (by omega)).1
      rw [tx]
      have d4 : decide ((tubeAt R x.toNat).getD (layN (tubeAt R x.toNat) - M - 1) 0 = 0) = false := decide_eq_false (by omega)
      have d5 : decide ((tubeAt R x.toNat).getD (layN (tubeAt R x.toNat) - M - 1) 0 = (topF (tubeAt R x.toNat)).1) = false := decide_eq_false hne
      have d6 : decide (((layN (tubeAt R x.toNat) - M : Nat) : Int) = 0) = false := decide_eq_false (by omega)
      rw [d4, d5, d6]; rfl
/-! Sorted racks. -/
end Go.Proofs.Ytckcojgfgcjamaa
set_option maxRecDepth 100000
set_option linter.unusedSimpArgs false
set_option linter.unusedVariables false
namespace Go.Proofs.Ytckcojgfgcjamaa
open Go Go.RowKit
theorem eqI_p2 : EqI Try.prog 47 2 := eqI_of (D := 2) (by omega) (eqA_ints (i := (Try.prog.info? 3).getD default) Try.underlying47 (by kernel_rfl) (by kernel_rfl) rfl Try.underlying3) (by kernel_rfl)
--@tbl rPairs = laws.rPairs
--@tbl rIn = laws.rIn
--@tbl rPart = laws.rPart
end Go.Proofs.Ytckcojgfgcjamaa
