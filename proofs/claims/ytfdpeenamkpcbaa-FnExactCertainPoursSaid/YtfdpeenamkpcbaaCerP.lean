/- Walks: CertainPours. -/
import Derived.Test.YtfdpeenamkpcbaaCert
import Derived.Test.YtfdpeenamkpcbaaSl
set_option maxRecDepth 100000
set_option linter.unusedSimpArgs false
set_option linter.unusedVariables false
namespace Go.Proofs.Ytfdpeenamkpcbaa
open Go Go.RowKit
def isCertain_F : List SV → Heap → Option (Prop × SV)
  | [.arr V, .int x, .int y], _ => some (vG V ∧ (0 ≤ x ∧ x < 6) ∧ (0 ≤ y ∧ y < 6) ∧ V.getD (6 + y.toNat) 0 < 4, .bool (certB V x.toNat y.toNat))
  | _, _ => none
theorem isCertain_T : ∀ args H p v, isCertain_F args H = some (p, v) → p → PureH Try.prog 65 args H v := by
  intro args H p v h hp
  unfold isCertain_F at h
  split at h
  · cases h; exact (isCertain_okI _ _ _ hp.1 hp.2.1 hp.2.2.1 hp.2.2.2).any _
  · cases h
def l7Top_F : List SV → Heap → Option (Prop × SV)
  | [.arr V, .int x, .int r], _ => some (vG V ∧ (0 ≤ x ∧ x < 6) ∧ (1 ≤ r ∧ r ≤ 4), .arr (ltF (al V) (sa V x.toNat) (mm V x.toNat) r.toNat))
  | _, _ => none
theorem l7Top_T : ∀ args H p v, l7Top_F args H = some (p, v) → p → PureH Try.prog 60 args H v := by
  intro args H p v h hp
  unfold l7Top_F at h
  split at h
  · cases h; exact (l7Top_okI _ _ _ hp.1 hp.2.1 hp.2.2).any _
  · cases h
theorem vG_of {V : List Int} (hV : V.length = 18) (h64 : I64 V) (h : isVF V = true) : vG V := by
  obtain ⟨u1, u2, u3, z0, bC, lenH, h0, bH, hs, h18⟩ := isV_facts hV h64 h
  exact ⟨hV, u1, u2, u3, lenH, bH, hs, h18⟩
theorem wy_pos {same : Int} (h : 0 ≤ same) : ∀ k : Nat, 0 < wyF same k ↔ (k : Int) ≤ same
  | 0 => by simp [wyF, h]
  | k + 1 => by
    have ih := wy_pos h k
    constructor
    · intro h1
      have h2 : 0 < max (same - (k : Int)) 0 := by
        rcases Int.lt_or_eq_of_le (show 0 ≤ max (same - (k : Int)) 0 by omega) with h2 | h2
        · exact h2
        · unfold wyF at h1; rw [← h2, Int.mul_zero] at h1; omega
      omega
    · intro h1
      exact Int.mul_pos (ih.2 (by omega)) (by omega)
theorem tv_sign {V : List Int} (g : vG V) {i r : Nat} (hi : i < 6) (hr : 1 ≤ r) (hrm : r ≤ mm V i) : 0 < (ltF (al V) (sa V i) (mm V i) r).getD 0 0 ↔ tv V i r ≠ 0 := by
  have sm := vsm_of g hi
  have ha := sm.a
  have hb := sm.b
  have hc := sm.c
  have hd := sm.d
  unfold tv
  generalize al V = all at *
  generalize sa V i = same at *
  generalize mm V i = m at *
  obtain ⟨g0, g1, g2, g3, g4, g5⟩ := ltK_bd (all := all) (same := same) (by omega) (by omega) (r - 1) (by omega)
  have wb := wyF_bd (same := same) (by omega) (r - 1)
  have wp := wy_pos hb.1 (r - 1)
  have r1 : (((r - 1 : Nat) : Int)) = (r : Int) - 1 := by omega
  rw [r1] at wp
  unfold ltF toVal
  rw [if_neg (by omega), if_neg (show ¬ r = 0 by omega)]
  by_cases hlt : r < m
  · rw [if_pos hlt, if_pos hlt]
    obtain ⟨c1, c2⟩ := chP_bd (b := r) (all := all) (by omega) (m - 1 - r) (by omega)
    have f0 : 0 ≤ all - ((r : Int) - 1) - max (same - ((r : Int) - 1)) 0 := by omega
    have fa : 0 < all - ((r : Int) - 1) := by omega
    rw [fracF_sign (Int.mul_nonneg g1 f0) (Int.mul_pos g3 fa)]
    constructor
    · intro h h0
      have hn : 0 < (ltK all same (r - 1)).getD 0 0 := by
        rcases Int.lt_or_eq_of_le g1 with h2 | h2
        · exact h2
        · rw [← h2, Int.zero_mul] at h; omega
      have hf : 0 < all - ((r : Int) - 1) - max (same - ((r : Int) - 1)) 0 := by
        rcases Int.lt_or_eq_of_le f0 with h2 | h2
        · exact h2
        · rw [← h2, Int.mul_zero] at h; omega
      have hw := g5.1 hn
      have hs := wp.1 hw
      have := Int.mul_pos (Int.mul_pos hw (show 0 < all - ((r : Int) - 1) - (same - ((r : Int) - 1)) by omega)) (show 0 < chP all r (m - 1 - r) by omega)
      omega
    · intro h
      have hw : 0 < wyF same (r - 1) := by
        rcases Int.lt_or_eq_of_le wb.1 with h2 | h2
        · exact h2
        · exact absurd (by rw [← h2, Int.zero_mul, Int.zero_mul]) h
      have hs := wp.1 hw
      have hf : all - ((r : Int) - 1) - (same - ((r : Int) - 1)) ≠ 0 := fun h2 => h (by rw [h2, Int.mul_zero, Int.zero_mul])
      exact Int.mul_pos (g5.2 hw) (by omega)
  · rw [if_neg hlt, if_neg hlt, if_pos (by omega), g5, show m - 1 = r - 1 by omega]
    omega
theorem tv_some {V : List Int} (g : vG V) {i : Nat} (hi : i < 6) (hm : 1 ≤ mm V i) : ∃ r, 1 ≤ r ∧ r ≤ mm V i ∧ tv V i r ≠ 0 := by
  have sm := vsm_of g hi
  have ha := sm.a
  have hb := sm.b
  have hc := sm.c
  have hd := sm.d
  unfold tv
  generalize al V = all at *
  generalize sa V i = same at *
  generalize mm V i = m at *
  by_cases h : same = all
  · refine ⟨m, hm, Nat.le_refl _, ?_⟩
    unfold toVal
    rw [if_neg (by omega), if_neg (by omega), if_pos rfl]
    have := (wy_pos hb.1 (m - 1)).2 (by omega)
    omega
  · by_cases h1 : m = 1
    · refine ⟨1, by omega, by omega, ?_⟩
      unfold toVal
      rw [if_neg (by omega), if_neg (by omega), if_pos (by omega), h1]
      simp [wyF]
    · refine ⟨1, by omega, by omega, ?_⟩
      unfold toVal
      rw [if_neg (by omega), if_pos (by omega)]
      obtain ⟨c1, c2⟩ := chP_bd (b := 1) (all := all) (by omega) (m - 1 - 1) (by omega)
      have := Int.mul_pos (Int.mul_pos (show 0 < wyF same (1 - 1) by simp [wyF]) (show 0 < all - (((1 : Nat) : Int) - 1) - (same - (((1 : Nat) : Int) - 1)) by omega)) (show 0 < chP all 1 (m - 1 - 1) by omega)
      omega
theorem tv_out {V : List Int} {i r : Nat} (h : mm V i < r) : tv V i r = 0 := by
  unfold tv toVal
  rw [if_neg (by omega), if_neg (by omega), if_neg (by omega)]
def lsA (V : List Int) (i j : Nat) : Nat → Int
  | 0 => 4
  | q + 1 => if tv V i (q + 1) = 0 then lsA V i j q else min (lsA V i j q) (mvR V j (q + 1))
def msA (V : List Int) (i j : Nat) : Nat → Int
  | 0 => 0
  | q + 1 => if tv V i (q + 1) = 0 then msA V i j q else max (msA V i j q) (mvR V j (q + 1))
theorem ls_spec {V : List Int} {i j : Nat} (hj : V.getD (6 + j) 0 < 4) (h0 : 0 ≤ V.getD (6 + j) 0) : ∀ q, q ≤ 4 → (∀ r, 1 ≤ r → r ≤ q → tv V i r ≠ 0 → lsA V i j q ≤ mvR V j r ∧ mvR V j r ≤ msA V i j q) ∧
    (((∀ r, 1 ≤ r → r ≤ q → tv V i r = 0) ∧ lsA V i j q = 4 ∧ msA V i j q = 0) ∨ ((∃ r, 1 ≤ r ∧ r ≤ q ∧ tv V i r ≠ 0 ∧ mvR V j r = lsA V i j q) ∧ (∃ r, 1 ≤ r ∧ r ≤ q ∧ tv V i r ≠ 0 ∧ mvR V j r = msA V i j q)))
  | 0, _ => ⟨fun r h1 h2 => by omega, .inl ⟨fun r h1 h2 => by omega, rfl, rfl⟩⟩
  | q + 1, hq => by
    obtain ⟨ih1, ih2⟩ := ls_spec (i := i) hj h0 q (by omega)
    by_cases hz : tv V i (q + 1) = 0
    · have e1 : lsA V i j (q + 1) = lsA V i j q := by rw [lsA, if_pos hz]
      have e2 : msA V i j (q + 1) = msA V i j q := by rw [msA, if_pos hz]
      rw [e1, e2]
      refine ⟨fun r h1 h2 h3 => ?_, ?_⟩
      · by_cases hrq : r = q + 1
        · rw [hrq] at h3; exact absurd hz h3
        · exact ih1 r h1 (by omega) h3
      · rcases ih2 with ⟨a, b⟩ | ⟨⟨r, a1, a2, a3, a4⟩, ⟨s, b1, b2, b3, b4⟩⟩
        · refine .inl ⟨fun r h1 h2 => ?_, b⟩
          by_cases hrq : r = q + 1
          · rw [hrq]; exact hz
          · exact a r h1 (by omega)
        · exact .inr ⟨⟨r, a1, by omega, a3, a4⟩, ⟨s, b1, by omega, b3, b4⟩⟩
    · have e1 : lsA V i j (q + 1) = min (lsA V i j q) (mvR V j (q + 1)) := by rw [lsA, if_neg hz]
      have e2 : msA V i j (q + 1) = max (msA V i j q) (mvR V j (q + 1)) := by rw [msA, if_neg hz]
      have hm := mvR_pos hj (show 1 ≤ q + 1 by omega) (by omega) h0
      rw [e1, e2]
      refine ⟨fun r h1 h2 h3 => ?_, .inr ⟨?_, ?_⟩⟩
      · by_cases hrq : r = q + 1
        · rw [hrq]; omega
        · have := ih1 r h1 (by omega) h3
          omega
      · rcases ih2 with ⟨a, b⟩ | ⟨⟨r, a1, a2, a3, a4⟩, _⟩
        · exact ⟨q + 1, by omega, by omega, hz, by omega⟩
        · by_cases hle : lsA V i j q ≤ mvR V j (q + 1)
          · exact ⟨r, a1, by omega, a3, by omega⟩
          · exact ⟨q + 1, by omega, by omega, hz, by omega⟩
      · rcases ih2 with ⟨a, b⟩ | ⟨_, ⟨r, a1, a2, a3, a4⟩⟩
        · exact ⟨q + 1, by omega, by omega, hz, by omega⟩
        · by_cases hle : msA V i j q ≤ mvR V j (q + 1)
          · exact ⟨q + 1, by omega, by omega, hz, by omega⟩
          · exact ⟨r, a1, by omega, a3, by omega⟩
theorem ls_cert {V : List Int} (g : vG V) {i j : Nat} (hi : i < 6) (hm : 1 ≤ mm V i) (hj : V.getD (6 + j) 0 < 4) (h0 : 0 ≤ V.getD (6 + j) 0) : decide (lsA V i j (mm V i) = msA V i j (mm V i)) = certB V i j := by
  have hc := (vsm_of g hi).c
  obtain ⟨h1, h2⟩ := ls_spec (i := i) hj h0 (mm V i) hc
  obtain ⟨r0, a1, a2, a3⟩ := tv_some g hi hm
  have pos : ∀ r, r < 5 → tv V i r ≠ 0 → 1 ≤ r ∧ r ≤ mm V i := fun r hr hz => by
    constructor
    · rcases Nat.eq_zero_or_pos r with rfl | h
      · exact absurd (tv_zero V i) hz
      · exact h
    · by_cases h : r ≤ mm V i
      · exact h
      · exact absurd (tv_out (by omega)) hz
  rw [Bool.eq_iff_iff, decide_eq_true_eq, certB_iff]
  constructor
  · intro h r s hr hs hz hz2
    have p1 := pos r hr hz
    have p2 := pos s hs hz2
    have := h1 r p1.1 p1.2 hz
    have := h1 s p2.1 p2.2 hz2
    omega
  · intro h
    rcases h2 with ⟨a, _⟩ | ⟨⟨r, b1, b2, b3, b4⟩, ⟨s, c1, c2, c3, c4⟩⟩
    · exact absurd (a r0 a1 a2) a3
    · rw [← b4, ← c4]; exact h r s (by omega) (by omega) b3 c3
def cpB (V : List Int) (i j : Nat) : Bool := vcan V i j && certB V i j
def cpL (V : List Int) : List Int := if isVF V = true then GL (cpB V) 36 else []
--@tbl CertainPours = impl.CertainPours
--@tbl sCertainPours = spec.CertainPours
theorem CertainPours_ok (V : List Int) (hV : V.length = 18) (h64 : I64 V) : FreshP Try.prog 22 [.arr V] [] (cpL V) ((cpL V).length / 2) 2 50 true (.more [.bool (isVF V)]) := by
  have tkV : V.take 18 = V := List.take_of_length_le (by omega)
  unfold cpL
  cases hv : isVF V
  · refine fresh_of_vc (X := ⟨Try.prog, tys, [(63, IsView_F), (64, vcanPour_F), (65, isCertain_F)], [], true, true, 0, [], []⟩) fn_22 ⟨tys_ok, (.cons IsView_T (.cons vcanPour_T (.cons isCertain_T .nil))), .nil, mixed⟩ (n0 := 0) rfl (Nat.le_of_ble_eq_true rfl) (by simp [wfL, SV.wf]) (wfH_spec (by simp [wfH, SObj.wf])) (Nat.le_refl _) ?_
    simp -implicitDefEqProofs only [Try.f22, Option.getD_some, argS, IsView_F, vcanPour_F, isCertain_F, hV, tkV, hv, ZB, Int.reduceToNat, Nat.reduceLT, Nat.reduceLeDiff, Int.reduceLE, Int.reduceLT, Nat.reduceEqDiff, Nat.reduceSub, SB, SV.known, packR, ne_eq, reduceCtorEq, Nat.reduceEqDiff, ↓reduceIte, if_true, if_false, eq_self, Nat.reduceAdd, Nat.reduceMul, Nat.reduceSub, forall_const, oneCellS, Kd.isSca, flat, TYB]
    exact .inl ⟨rfl, rfl, rfl⟩
  have g := vG_of hV h64 hv
  refine fresh_of_vc (X := ⟨Try.prog, tys, [(63, IsView_F), (64, vcanPour_F), (65, isCertain_F)], [], true, true, 0, [], []⟩) fn_22 ⟨tys_ok, (.cons IsView_T (.cons vcanPour_T (.cons isCertain_T .nil))), .nil, mixed⟩ (n0 := 0) rfl (Nat.le_of_ble_eq_true rfl) (by simp [wfL, SV.wf]) (wfH_spec (by simp [wfH, SObj.wf])) (Nat.le_refl _) ?_
  simp -implicitDefEqProofs only [Try.f22, Option.getD_some, argS, IsView_F, vcanPour_F, isCertain_F, hV, tkV, hv, ZB, Int.reduceToNat, Nat.reduceLT, Nat.reduceLeDiff, Int.reduceLE, Int.reduceLT, Nat.reduceEqDiff, Nat.reduceSub, SB, SV.known, packR, ne_eq, reduceCtorEq, Nat.reduceEqDiff, ↓reduceIte, if_true, if_false, eq_self, Nat.reduceAdd, Nat.reduceMul, Nat.reduceSub, forall_const, oneCellS, Kd.isSca, flat, TYB]
  refine loop_intro (fun s : Nat × Nat × Nat × List Int => [(1, .ptr 0 0), (4, outVn 1 s.2.1 s.2.1 s.2.2.1), (10, .int s.1)]) (fun s => outHn 1 s.2.1 (GL (cpB V) (s.1 * 6) ++ s.2.2.2) 50 [(0, .ints V 44)]) 2
    (fun s => s.1 ≤ 6 ∧ (GL (cpB V) (s.1 * 6)).length = s.2.1 * 2 ∧ s.2.1 ≤ 37 ∧ s.2.1 ≤ s.1 * 6 ∧ s.2.2.2.length + s.2.1 * 2 = s.2.2.1 * 2) (fun s => 6 - s.1) ?_ ?_
  · refine ⟨(0, 0, 0, []), ⟨by omega, by simp [GL_zero], by simp, by simp, by simp⟩, Sub.mk_id ?_ ?_ ?_ ?_ ?_⟩
    all_goals simp only [outVn_zero, outHn_zero, LB, subS, subH, wfS, wfH, SV.ren, renL, SObj.ren, SV.wf, SObj.wf, wfL, SV.known, Nat.reduceEqDiff, ↓reduceIte, if_true, if_false, eq_self, Nat.reduceAdd, Nat.reduceLT, Nat.reduceLeDiff, implies_true, reduceCtorEq, forall_const]
    all_goals (try simp)
  · rintro ⟨i, n, cap, junk⟩ ⟨hi, hL, hn, hni, hj⟩
    simp only at hi hL hn hni hj
    simp -implicitDefEqProofs only [lk_normal, hV, ZB, Int.reduceToNat, Nat.reduceLT, Nat.reduceLeDiff, Int.reduceLE, Int.reduceLT, Nat.reduceEqDiff, Nat.reduceSub, SB, SV.known, packR, ne_eq, reduceCtorEq, Nat.reduceEqDiff, ↓reduceIte, if_true, if_false, eq_self, Nat.reduceAdd, Nat.reduceMul, Nat.reduceSub, forall_const, oneCellS, Kd.isSca, flat, TYB]
    refine ⟨fun h => ?_, fun h => ?_⟩
    · have hi6 : i < 6 := by omega
      have il : (i : Int) < 6 := by omega
      refine loop_intro (fun s : Nat × Nat × Nat × List Int => [(1, .ptr 0 0), (4, outVn 1 s.2.1 s.2.1 s.2.2.1), (5, .int i), (10, .int i), (13, .int s.1)]) (fun s => outHn 1 s.2.1 (GL (cpB V) (i * 6 + s.1) ++ s.2.2.2) 50 [(0, .ints V 44)]) 2
        (fun s => s.1 ≤ 6 ∧ (GL (cpB V) (i * 6 + s.1)).length = s.2.1 * 2 ∧ s.2.1 ≤ 37 ∧ s.2.1 ≤ i * 6 + s.1 ∧ s.2.2.2.length + s.2.1 * 2 = s.2.2.1 * 2) (fun s => 6 - s.1) ?_ ?_
      · refine ⟨(0, n, cap, junk), ⟨by simp, by simpa using hL, by simpa using hn, by simpa using hni, by simpa using hj⟩, ?_⟩
        cases n with
        | zero =>
          refine Sub.mk_id ?_ ?_ ?_ ?_ ?_
          all_goals simp only [outVn_zero, outHn_zero, LB, subS, subH, wfS, wfH, SV.ren, renL, SObj.ren, SV.wf, SObj.wf, wfL, SV.known, Nat.reduceEqDiff, ↓reduceIte, if_true, if_false, eq_self, Nat.reduceAdd, Nat.reduceLT, Nat.reduceLeDiff, implies_true, reduceCtorEq, forall_const]
          all_goals (try simp)
        | succ n =>
          refine Sub.mk_id ?_ ?_ ?_ ?_ ?_
          all_goals simp only [outVn_succ, outHn_succ, LB, subS, subH, wfS, wfH, SV.ren, renL, SObj.ren, SV.wf, SObj.wf, wfL, SV.known, Nat.reduceEqDiff, ↓reduceIte, if_true, if_false, eq_self, Nat.reduceAdd, Nat.reduceLT, Nat.reduceLeDiff, implies_true, reduceCtorEq, forall_const]
          all_goals (try simp)
      · rintro ⟨j, n, cap, junk⟩ ⟨gj, gL, gn, gni, gk⟩
        simp only at gj gL gn gni gk
        have e6 : (i + 1) * 6 = i * 6 + 6 := by omega
        by_cases jt : j < 6
        · have jl : (j : Int) < 6 := by omega
          have jlt : j < 6 := jt
          have e1 := GL_at (cpB V) i j jt
          cases hvc : vcan V i j with
          | false =>
           have hc : cpB V i j = false := by unfold cpB; rw [hvc]; rfl
           rw [hc] at e1
           simp only [Bool.false_eq_true, if_false, List.append_nil] at e1
           cases n with
           | zero =>
             simp -implicitDefEqProofs only [lk_normal, vcanPour_F, isCertain_F, outVn_zero, outHn_zero, hV, tkV, g, il, jl, jlt, hvc, ZB, Int.reduceToNat, Nat.reduceLT, Nat.reduceLeDiff, Int.reduceLE, Int.reduceLT, Nat.reduceEqDiff, Nat.reduceSub, SB, SV.known, packR, ne_eq, reduceCtorEq, Nat.reduceEqDiff, ↓reduceIte, if_true, if_false, eq_self, Nat.reduceAdd, Nat.reduceMul, Nat.reduceSub, forall_const, oneCellS, Kd.isSca, flat, TYB]
             (try (and_intros <;> try (first | omega | (unfold In64; omega) | trivial | assumption)))
             refine ⟨(j + 1, 0, cap, junk), ⟨by simp only; omega, by simp only [← Nat.add_assoc]; rw [e1]; exact gL, by simp only; omega, by simp only; omega, by simp only; omega⟩, by simp only; omega, Sub.mk_id ?_ ?_ ?_ ?_ ?_⟩
             all_goals simp only [outVn_zero, outHn_zero, ← Nat.add_assoc, e1, LB, subS, subH, wfS, wfH, SV.ren, renL, SObj.ren, SV.wf, SObj.wf, wfL, SV.known, Nat.reduceEqDiff, ↓reduceIte, if_true, if_false, eq_self, Nat.reduceAdd, Nat.reduceLT, Nat.reduceLeDiff, implies_true, reduceCtorEq, forall_const]
             all_goals (try simp)
           | succ n =>
             simp -implicitDefEqProofs only [lk_normal, vcanPour_F, isCertain_F, outVn_succ, outHn_succ, hV, tkV, g, il, jl, jlt, hvc, ZB, Int.reduceToNat, Nat.reduceLT, Nat.reduceLeDiff, Int.reduceLE, Int.reduceLT, Nat.reduceEqDiff, Nat.reduceSub, SB, SV.known, packR, ne_eq, reduceCtorEq, Nat.reduceEqDiff, ↓reduceIte, if_true, if_false, eq_self, Nat.reduceAdd, Nat.reduceMul, Nat.reduceSub, forall_const, oneCellS, Kd.isSca, flat, TYB]
             (try (and_intros <;> try (first | omega | (unfold In64; omega) | trivial | assumption)))
             refine ⟨(j + 1, n + 1, cap, junk), ⟨by simp only; omega, by simp only [← Nat.add_assoc]; rw [e1]; exact gL, by simp only; omega, by simp only; omega, by simp only; omega⟩, by simp only; omega, Sub.mk_id ?_ ?_ ?_ ?_ ?_⟩
             all_goals simp only [outVn_succ, outHn_succ, ← Nat.add_assoc, e1, LB, subS, subH, wfS, wfH, SV.ren, renL, SObj.ren, SV.wf, SObj.wf, wfL, SV.known, Nat.reduceEqDiff, ↓reduceIte, if_true, if_false, eq_self, Nat.reduceAdd, Nat.reduceLT, Nat.reduceLeDiff, implies_true, reduceCtorEq, forall_const]
             all_goals (try simp)
          | true =>
           have hj4 : V.getD (6 + j) 0 < 4 := by
             unfold vcan at hvc
             simp only [Bool.and_eq_true, decide_eq_true_eq] at hvc
             exact hvc.1.2
           cases hct : certB V i j with
           | false =>
            have hc : cpB V i j = false := by unfold cpB; rw [hvc, hct]; rfl
            rw [hc] at e1
            simp only [Bool.false_eq_true, if_false, List.append_nil] at e1
            cases n with
            | zero =>
              simp -implicitDefEqProofs only [lk_normal, vcanPour_F, isCertain_F, outVn_zero, outHn_zero, hV, tkV, g, il, jl, jlt, hvc, hct, hj4, ZB, Int.reduceToNat, Nat.reduceLT, Nat.reduceLeDiff, Int.reduceLE, Int.reduceLT, Nat.reduceEqDiff, Nat.reduceSub, SB, SV.known, packR, ne_eq, reduceCtorEq, Nat.reduceEqDiff, ↓reduceIte, if_true, if_false, eq_self, Nat.reduceAdd, Nat.reduceMul, Nat.reduceSub, forall_const, oneCellS, Kd.isSca, flat, TYB]
              (try (and_intros <;> try (first | omega | (unfold In64; omega) | trivial | assumption)))
              refine ⟨(j + 1, 0, cap, junk), ⟨by simp only; omega, by simp only [← Nat.add_assoc]; rw [e1]; exact gL, by simp only; omega, by simp only; omega, by simp only; omega⟩, by simp only; omega, Sub.mk_id ?_ ?_ ?_ ?_ ?_⟩
              all_goals simp only [outVn_zero, outHn_zero, ← Nat.add_assoc, e1, LB, subS, subH, wfS, wfH, SV.ren, renL, SObj.ren, SV.wf, SObj.wf, wfL, SV.known, Nat.reduceEqDiff, ↓reduceIte, if_true, if_false, eq_self, Nat.reduceAdd, Nat.reduceLT, Nat.reduceLeDiff, implies_true, reduceCtorEq, forall_const]
              all_goals (try simp)
            | succ n =>
              simp -implicitDefEqProofs only [lk_normal, vcanPour_F, isCertain_F, outVn_succ, outHn_succ, hV, tkV, g, il, jl, jlt, hvc, hct, hj4, ZB, Int.reduceToNat, Nat.reduceLT, Nat.reduceLeDiff, Int.reduceLE, Int.reduceLT, Nat.reduceEqDiff, Nat.reduceSub, SB, SV.known, packR, ne_eq, reduceCtorEq, Nat.reduceEqDiff, ↓reduceIte, if_true, if_false, eq_self, Nat.reduceAdd, Nat.reduceMul, Nat.reduceSub, forall_const, oneCellS, Kd.isSca, flat, TYB]
              (try (and_intros <;> try (first | omega | (unfold In64; omega) | trivial | assumption)))
              refine ⟨(j + 1, n + 1, cap, junk), ⟨by simp only; omega, by simp only [← Nat.add_assoc]; rw [e1]; exact gL, by simp only; omega, by simp only; omega, by simp only; omega⟩, by simp only; omega, Sub.mk_id ?_ ?_ ?_ ?_ ?_⟩
              all_goals simp only [outVn_succ, outHn_succ, ← Nat.add_assoc, e1, LB, subS, subH, wfS, wfH, SV.ren, renL, SObj.ren, SV.wf, SObj.wf, wfL, SV.known, Nat.reduceEqDiff, ↓reduceIte, if_true, if_false, eq_self, Nat.reduceAdd, Nat.reduceLT, Nat.reduceLeDiff, implies_true, reduceCtorEq, forall_const]
              all_goals (try simp)
           | true =>
            have hc : cpB V i j = true := by unfold cpB; rw [hvc, hct]; rfl
            rw [hc] at e1
            simp only [if_true] at e1
            cases n with
            | zero =>
              have e0 : GL (cpB V) (i * 6 + j) = [] := List.length_eq_zero_iff.1 (by simpa using gL)
              rw [e0] at e1
              simp only [List.nil_append] at e1
              simp -implicitDefEqProofs only [lk_normal, vcanPour_F, isCertain_F, outVn_zero, outHn_zero, hV, tkV, g, il, jl, jlt, hvc, hct, hj4, ZB, Int.reduceToNat, Nat.reduceLT, Nat.reduceLeDiff, Int.reduceLE, Int.reduceLT, Nat.reduceEqDiff, Nat.reduceSub, SB, SV.known, packR, ne_eq, reduceCtorEq, Nat.reduceEqDiff, ↓reduceIte, if_true, if_false, eq_self, Nat.reduceAdd, Nat.reduceMul, Nat.reduceSub, forall_const, oneCellS, Kd.isSca, flat, TYB]
              (try (and_intros <;> try (first | omega | (unfold In64; omega) | trivial | assumption)))
              intro junk' cap' hj'
              (try (and_intros <;> try (first | omega | (unfold In64; omega) | trivial | assumption)))
              refine ⟨(j + 1, 1, cap', junk'), ⟨by simp only; omega, by simp only [← Nat.add_assoc]; rw [e1]; rfl, by simp only; omega, by simp only; omega, by simp only; omega⟩, by simp only; omega, Sub.mk_to 1 3 ?_ ?_ ?_ ?_ ?_ ?_ ?_⟩
              all_goals simp only [outVn_succ, outHn_succ, ← Nat.add_assoc, e1, LB, subS, subH, wfS, wfH, SV.ren, renL, SObj.ren, SV.wf, SObj.wf, wfL, SV.known, Nat.reduceEqDiff, ↓reduceIte, if_true, if_false, eq_self, Nat.reduceAdd, Nat.reduceLT, Nat.reduceLeDiff, implies_true, reduceCtorEq, forall_const]
              all_goals (try simp)
            | succ n =>
              have tkL : (GL (cpB V) (i * 6 + j) ++ junk).take ((n + 1) * 2) = GL (cpB V) (i * 6 + j) := List.take_left' gL
              have lenL : (GL (cpB V) (i * 6 + j) ++ junk).length = cap * 2 := by rw [List.length_append]; omega
              simp -implicitDefEqProofs only [lk_normal, vcanPour_F, isCertain_F, outVn_succ, outHn_succ, hV, tkV, g, il, jl, jlt, hvc, hct, hj4, tkL, lenL, ZB, Int.reduceToNat, Nat.reduceLT, Nat.reduceLeDiff, Int.reduceLE, Int.reduceLT, Nat.reduceEqDiff, Nat.reduceSub, SB, SV.known, packR, ne_eq, reduceCtorEq, Nat.reduceEqDiff, ↓reduceIte, if_true, if_false, eq_self, Nat.reduceAdd, Nat.reduceMul, Nat.reduceSub, forall_const, oneCellS, Kd.isSca, flat, TYB]
              (try (and_intros <;> try (first | omega | (unfold In64; omega) | trivial | assumption)))
              intro junk' cap' hj'
              (try (and_intros <;> try (first | omega | (unfold In64; omega) | trivial | assumption)))
              refine ⟨(j + 1, n + 1 + 1, cap', junk'), ⟨by simp only; omega, by simp only [← Nat.add_assoc]; rw [e1, List.length_append, gL]; simp; omega, by simp only; omega, by simp only; omega, by simp only; omega⟩, by simp only; omega, Sub.mk_to 1 3 ?_ ?_ ?_ ?_ ?_ ?_ ?_⟩
              all_goals simp only [outVn_succ, outHn_succ, ← Nat.add_assoc, e1, LB, subS, subH, wfS, wfH, SV.ren, renL, SObj.ren, SV.wf, SObj.wf, wfL, SV.known, Nat.reduceEqDiff, ↓reduceIte, if_true, if_false, eq_self, Nat.reduceAdd, Nat.reduceLT, Nat.reduceLeDiff, implies_true, reduceCtorEq, forall_const]
              all_goals (try simp)
        · have hj6 : j = 6 := by omega
          subst hj6
          have jl : ¬ (6 : Int) < 6 := by omega
          cases n with
          | zero =>
            simp -implicitDefEqProofs only [lk_normal, outVn_zero, outHn_zero, hV, jl, ZB, Int.reduceToNat, Nat.reduceLT, Nat.reduceLeDiff, Int.reduceLE, Int.reduceLT, Nat.reduceEqDiff, Nat.reduceSub, SB, SV.known, packR, ne_eq, reduceCtorEq, Nat.reduceEqDiff, ↓reduceIte, if_true, if_false, eq_self, Nat.reduceAdd, Nat.reduceMul, Nat.reduceSub, forall_const, oneCellS, Kd.isSca, flat, TYB]
            (try (and_intros <;> try (first | omega | (unfold In64; omega) | trivial | assumption)))
            refine ⟨(i + 1, 0, cap, junk), ⟨by simp only; omega, by simp only; rw [e6]; exact gL, by simp only; omega, by simp only; omega, by simp only; omega⟩, by simp only; omega, Sub.mk_id ?_ ?_ ?_ ?_ ?_⟩
            all_goals simp only [outVn_zero, outHn_zero, e6, LB, subS, subH, wfS, wfH, SV.ren, renL, SObj.ren, SV.wf, SObj.wf, wfL, SV.known, Nat.reduceEqDiff, ↓reduceIte, if_true, if_false, eq_self, Nat.reduceAdd, Nat.reduceLT, Nat.reduceLeDiff, implies_true, reduceCtorEq, forall_const]
            all_goals (try simp)
          | succ n =>
            simp -implicitDefEqProofs only [lk_normal, outVn_succ, outHn_succ, hV, jl, ZB, Int.reduceToNat, Nat.reduceLT, Nat.reduceLeDiff, Int.reduceLE, Int.reduceLT, Nat.reduceEqDiff, Nat.reduceSub, SB, SV.known, packR, ne_eq, reduceCtorEq, Nat.reduceEqDiff, ↓reduceIte, if_true, if_false, eq_self, Nat.reduceAdd, Nat.reduceMul, Nat.reduceSub, forall_const, oneCellS, Kd.isSca, flat, TYB]
            (try (and_intros <;> try (first | omega | (unfold In64; omega) | trivial | assumption)))
            refine ⟨(i + 1, n + 1, cap, junk), ⟨by simp only; omega, by simp only; rw [e6]; exact gL, by simp only; omega, by simp only; omega, by simp only; omega⟩, by simp only; omega, Sub.mk_id ?_ ?_ ?_ ?_ ?_⟩
            all_goals simp only [outVn_succ, outHn_succ, e6, LB, subS, subH, wfS, wfH, SV.ren, renL, SObj.ren, SV.wf, SObj.wf, wfL, SV.known, Nat.reduceEqDiff, ↓reduceIte, if_true, if_false, eq_self, Nat.reduceAdd, Nat.reduceLT, Nat.reduceLeDiff, implies_true, reduceCtorEq, forall_const]
            all_goals (try simp)
    · obtain rfl : i = 6 := by omega
      have kn : ∀ a b c, (outVn 1 a b c).known = true := fun a b c => by cases a <;> rfl
      refine ⟨kn _ _ _, ?_⟩
      cases n with
      | zero => 
        refine .inl ⟨rfl, List.length_eq_zero_iff.1 (by simpa using hL), ?_⟩
        simp [outVn_zero, Wrap.ap]
      | succ n =>
        refine .inr ⟨1, cap, junk, ?_, ?_, by omega, ?_, ?_⟩
        · rw [show (GL (cpB V) 36).length = (n + 1) * 2 from hL]; simp [Wrap.ap, outVn_succ]
        · simp [hget_cons, outHn_succ]
        · have : (GL (cpB V) 36).length = (n + 1) * 2 := hL
          omega
        · intro _ h0
          have : (GL (cpB V) 36).length = (n + 1) * 2 := hL
          rw [h0] at this
          simp at this
theorem sCertainPours_ok (V : List Int) (hV : V.length = 18) (h64 : I64 V) : FreshP Try.prog 20 [.arr V] [] (cpL V) ((cpL V).length / 2) 2 50 false (.more [.bool (isVF V)]) := by
  have tkV : V.take 18 = V := List.take_of_length_le (by omega)
  unfold cpL
  cases hv : isVF V
  · refine fresh_of_vc (X := ⟨Try.prog, tys, [(58, l7Good_F), (59, l7Can_F), (60, l7Top_F), (61, l1Least_F), (62, l1Most_F)], [], true, true, 0, [], []⟩) fn_20 ⟨tys_ok, (.cons l7Good_T (.cons l7Can_T (.cons l7Top_T (.cons l1Least_T (.cons l1Most_T .nil))))), .nil, mixed⟩ (n0 := 0) rfl (Nat.le_of_ble_eq_true rfl) (by simp [wfL, SV.wf]) (wfH_spec (by simp [wfH, SObj.wf])) (Nat.le_refl _) ?_
    simp -implicitDefEqProofs only [Try.f20, Option.getD_some, argS, l7Good_F, l7Can_F, l7Top_F, l1Least_F, l1Most_F, hV, tkV, hv, h64, ZB, Int.reduceToNat, Nat.reduceLT, Nat.reduceLeDiff, Int.reduceLE, Int.reduceLT, Nat.reduceEqDiff, Nat.reduceSub, SB, SV.known, packR, ne_eq, reduceCtorEq, Nat.reduceEqDiff, ↓reduceIte, if_true, if_false, eq_self, Nat.reduceAdd, Nat.reduceMul, Nat.reduceSub, forall_const, oneCellS, Kd.isSca, flat, TYB]
    exact .inr ⟨1, 0, [], rfl, rfl, by omega, by simp, by simp⟩
  have g := vG_of hV h64 hv
  refine fresh_of_vc (X := ⟨Try.prog, tys, [(58, l7Good_F), (59, l7Can_F), (60, l7Top_F), (61, l1Least_F), (62, l1Most_F)], [], true, true, 0, [], []⟩) fn_20 ⟨tys_ok, (.cons l7Good_T (.cons l7Can_T (.cons l7Top_T (.cons l1Least_T (.cons l1Most_T .nil))))), .nil, mixed⟩ (n0 := 0) rfl (Nat.le_of_ble_eq_true rfl) (by simp [wfL, SV.wf]) (wfH_spec (by simp [wfH, SObj.wf])) (Nat.le_refl _) ?_
  simp -implicitDefEqProofs only [Try.f20, Option.getD_some, argS, l7Good_F, l7Can_F, l7Top_F, l1Least_F, l1Most_F, hV, tkV, hv, h64, ZB, Int.reduceToNat, Nat.reduceLT, Nat.reduceLeDiff, Int.reduceLE, Int.reduceLT, Nat.reduceEqDiff, Nat.reduceSub, SB, SV.known, packR, ne_eq, reduceCtorEq, Nat.reduceEqDiff, ↓reduceIte, if_true, if_false, eq_self, Nat.reduceAdd, Nat.reduceMul, Nat.reduceSub, forall_const, oneCellS, Kd.isSca, flat, TYB]
  refine loop_intro (fun s : Nat × Nat × Nat × List Int => [(1, .ptr 0 0), (4, .slice 1 0 s.2.1 s.2.2.1), (5, .int s.1)]) (fun s => [(1, .ints (GL (cpB V) (s.1 * 6) ++ s.2.2.2) 50), (0, .ints V 44)]) 2
    (fun s => s.1 ≤ 6 ∧ (GL (cpB V) (s.1 * 6)).length = s.2.1 * 2 ∧ s.2.1 ≤ 37 ∧ s.2.1 ≤ s.1 * 6 ∧ s.2.2.2.length + s.2.1 * 2 = s.2.2.1 * 2) (fun s => 6 - s.1) ?_ ?_
  · refine ⟨(0, 0, 0, []), ⟨by omega, by simp [GL_zero], by simp, by simp, by simp⟩, Sub.mk_id ?_ ?_ ?_ ?_ ?_⟩
    all_goals simp only [Nat.zero_mul, GL_zero, List.append_nil, LB, subS, subH, wfS, wfH, SV.ren, renL, SObj.ren, SV.wf, SObj.wf, wfL, SV.known, Nat.reduceEqDiff, ↓reduceIte, if_true, if_false, eq_self, Nat.reduceAdd, Nat.reduceLT, Nat.reduceLeDiff, implies_true, reduceCtorEq, forall_const]
    all_goals (try simp)
  · rintro ⟨i, n, cap, junk⟩ ⟨hi, hL, hn, hni, hj⟩
    simp only at hi hL hn hni hj
    simp -implicitDefEqProofs only [lk_normal, hV, ZB, Int.reduceToNat, Nat.reduceLT, Nat.reduceLeDiff, Int.reduceLE, Int.reduceLT, Nat.reduceEqDiff, Nat.reduceSub, SB, SV.known, packR, ne_eq, reduceCtorEq, Nat.reduceEqDiff, ↓reduceIte, if_true, if_false, eq_self, Nat.reduceAdd, Nat.reduceMul, Nat.reduceSub, forall_const, oneCellS, Kd.isSca, flat, TYB]
    refine ⟨fun h => ?_, fun h => ?_⟩
    · have hi6 : i < 6 := by omega
      have il : (i : Int) < 6 := by omega
      refine loop_intro (fun s : Nat × Nat × Nat × List Int => [(1, .ptr 0 0), (4, .slice 1 0 s.2.1 s.2.2.1), (5, .int i), (6, .int s.1)]) (fun s => [(1, .ints (GL (cpB V) (i * 6 + s.1) ++ s.2.2.2) 50), (0, .ints V 44)]) 2
        (fun s => s.1 ≤ 6 ∧ (GL (cpB V) (i * 6 + s.1)).length = s.2.1 * 2 ∧ s.2.1 ≤ 37 ∧ s.2.1 ≤ i * 6 + s.1 ∧ s.2.2.2.length + s.2.1 * 2 = s.2.2.1 * 2) (fun s => 6 - s.1) ?_ ?_
      · refine ⟨(0, n, cap, junk), ⟨by simp, by simpa using hL, by simpa using hn, by simpa using hni, by simpa using hj⟩, Sub.mk_id ?_ ?_ ?_ ?_ ?_⟩
        all_goals simp only [Nat.add_zero, LB, subS, subH, wfS, wfH, SV.ren, renL, SObj.ren, SV.wf, SObj.wf, wfL, SV.known, Nat.reduceEqDiff, ↓reduceIte, if_true, if_false, eq_self, Nat.reduceAdd, Nat.reduceLT, Nat.reduceLeDiff, implies_true, reduceCtorEq, forall_const]
        all_goals (try simp)
      · rintro ⟨j, n, cap, junk⟩ ⟨gj, gL, gn, gni, gk⟩
        simp only at gj gL gn gni gk
        have e6 : (i + 1) * 6 = i * 6 + 6 := by omega
        have tkL : (GL (cpB V) (i * 6 + j) ++ junk).take (n * 2) = GL (cpB V) (i * 6 + j) := List.take_left' gL
        have lenL : (GL (cpB V) (i * 6 + j) ++ junk).length = cap * 2 := by rw [List.length_append]; omega
        have u1 := g.u1
        have u2 := g.u2
        have u3 := g.u3
        by_cases jt : j < 6
        · have jl : (j : Int) < 6 := by omega
          have e1 := GL_at (cpB V) i j jt
          cases hvc : vcan V i j with
          | false =>
            have hc : cpB V i j = false := by unfold cpB; rw [hvc]; rfl
            rw [hc] at e1
            simp only [Bool.false_eq_true, if_false, List.append_nil] at e1
            simp -implicitDefEqProofs only [lk_normal, l7Can_F, hV, tkV, g, u1, u2, u3, il, jl, hvc, ZB, Int.reduceToNat, Nat.reduceLT, Nat.reduceLeDiff, Int.reduceLE, Int.reduceLT, Nat.reduceEqDiff, Nat.reduceSub, SB, SV.known, packR, ne_eq, reduceCtorEq, Nat.reduceEqDiff, ↓reduceIte, if_true, if_false, eq_self, Nat.reduceAdd, Nat.reduceMul, Nat.reduceSub, forall_const, oneCellS, Kd.isSca, flat, TYB]
            (try (and_intros <;> try (first | omega | (unfold In64; omega) | trivial | assumption)))
            refine ⟨(j + 1, n, cap, junk), ⟨by simp only; omega, by simp only [← Nat.add_assoc]; rw [e1]; exact gL, by simp only; omega, by simp only; omega, by simp only; omega⟩, by simp only; omega, Sub.mk_id ?_ ?_ ?_ ?_ ?_⟩
            all_goals simp only [← Nat.add_assoc, e1, LB, subS, subH, wfS, wfH, SV.ren, renL, SObj.ren, SV.wf, SObj.wf, wfL, SV.known, Nat.reduceEqDiff, ↓reduceIte, if_true, if_false, eq_self, Nat.reduceAdd, Nat.reduceLT, Nat.reduceLeDiff, implies_true, reduceCtorEq, forall_const]
            all_goals (try simp)
          | true =>
            have hj4 : V.getD (6 + j) 0 < 4 := by
              unfold vcan at hvc
              simp only [Bool.and_eq_true, decide_eq_true_eq] at hvc
              exact hvc.1.2
            have hi0 : 0 < V.getD i 0 := by
              unfold vcan at hvc
              simp only [Bool.and_eq_true, decide_eq_true_eq] at hvc
              exact hvc.1.1.2
            have hj0 := (g.u2 j jt).1
            have sm := vsm_of g hi6
            have hm1 : 1 ≤ mm V i := by
              have := (g.u3 i hi6).2 hi0
              have := sm.m_
              omega
            have hfin := ls_cert g hi6 hm1 hj4 hj0
            simp -implicitDefEqProofs only [lk_normal, l7Can_F, hV, tkV, g, u1, u2, u3, il, jl, hvc, ZB, Int.reduceToNat, Nat.reduceLT, Nat.reduceLeDiff, Int.reduceLE, Int.reduceLT, Nat.reduceEqDiff, Nat.reduceSub, SB, SV.known, packR, ne_eq, reduceCtorEq, Nat.reduceEqDiff, ↓reduceIte, if_true, if_false, eq_self, Nat.reduceAdd, Nat.reduceMul, Nat.reduceSub, forall_const, oneCellS, Kd.isSca, flat, TYB]
            (try (and_intros <;> try (first | omega | (unfold In64; omega) | trivial | assumption)))
            refine loop_intro (fun q : Nat => [(9, .int ((q : Int) + 1)), (8, .int (msA V i j q)), (7, .int (lsA V i j q)), (1, .ptr 0 0), (4, .slice 1 0 n cap), (5, .int i), (6, .int j)]) (fun q => [(1, .ints (GL (cpB V) (i * 6 + j) ++ junk) 50), (0, .ints V 44)]) 2 (fun q => q ≤ mm V i) (fun q => 5 - q) ?_ ?_
            · refine ⟨0, ?_, Sub.mk_id ?_ ?_ ?_ ?_ ?_⟩
              all_goals (try (simp only [lsA, msA, LB, subS, subH, wfS, wfH, SV.ren, renL, SObj.ren, SV.wf, SObj.wf, wfL, SV.known, Nat.reduceEqDiff, ↓reduceIte, if_true, if_false, eq_self, Nat.reduceAdd, Nat.reduceLT, Nat.reduceLeDiff, implies_true, reduceCtorEq, forall_const]; done))
              all_goals (try (simp only [lsA, msA, LB, subS, subH, wfS, wfH, SV.ren, renL, SObj.ren, SV.wf, SObj.wf, wfL, SV.known, Nat.reduceEqDiff, ↓reduceIte, if_true, if_false, eq_self, Nat.reduceAdd, Nat.reduceLT, Nat.reduceLeDiff, implies_true, reduceCtorEq, forall_const]; simp; done))
              all_goals (try (simp only [lsA, msA, LB, subS, subH, wfS, wfH, SV.ren, renL, SObj.ren, SV.wf, SObj.wf, wfL, SV.known, Nat.reduceEqDiff, ↓reduceIte, if_true, if_false, eq_self, Nat.reduceAdd, Nat.reduceLT, Nat.reduceLeDiff, implies_true, reduceCtorEq, forall_const]; (and_intros <;> (first | omega | rfl | (simp; done) | (simp; omega))); done))
              all_goals (try dsimp only)
              all_goals (and_intros <;> try (first | omega | (unfold In64; omega) | trivial | assumption))
            · intro q hq
              have em := sm.m_
              have hc4 := sm.c
              have i6 : 6 + i < 18 := by omega
              have j6 : 6 + j < 18 := by omega
              have i0 : 0 ≤ (i : Int) := by omega
              have j0 : 0 ≤ (j : Int) := by omega
              by_cases hqm : (q : Int) + 1 ≤ mm V i
              · have tn : ((q : Int) + 1).toNat = q + 1 := by omega
                have rb : 1 ≤ (q : Int) + 1 ∧ (q : Int) + 1 ≤ 4 := by omega
                have sg := tv_sign g hi6 (show 1 ≤ q + 1 by omega) (show q + 1 ≤ mm V i by omega)
                have ll : (ltF (al V) (sa V i) (mm V i) (q + 1)).length = 2 := by
                  unfold ltF
                  split
                  · rfl
                  · split
                    · exact fracF_len _ _
                    · exact (ltK_bd (by have := sm.a; omega) (by have := sm.a; have := sm.b; omega) _ (by have := sm.d; omega)).1
                have tk2 := List.take_of_length_le (Nat.le_of_eq ll)
                have emv : min ((q : Int) + 1) (4 - V.getD (6 + j) 0) = mvR V j (q + 1) := by unfold mvR; omega
                by_cases hz : tv V i (q + 1) = 0
                · have s1 : lsA V i j (q + 1) = lsA V i j q := by rw [lsA, if_pos hz]
                  have s2 : msA V i j (q + 1) = msA V i j q := by rw [msA, if_pos hz]
                  have np : ¬ 0 < (ltF (al V) (sa V i) (mm V i) (q + 1)).getD 0 0 := fun h => sg.1 h hz
                  simp -implicitDefEqProofs only [lk_normal, l7Top_F, l1Least_F, l1Most_F, hV, tkV, g, il, jl, i0, j0, i6, j6, em, hqm, tn, rb, ll, tk2, np, ZB, Int.reduceToNat, Nat.reduceLT, Nat.reduceLeDiff, Int.reduceLE, Int.reduceLT, Nat.reduceEqDiff, Nat.reduceSub, SB, SV.known, packR, ne_eq, reduceCtorEq, Nat.reduceEqDiff, ↓reduceIte, if_true, if_false, eq_self, Nat.reduceAdd, Nat.reduceMul, Nat.reduceSub, forall_const, oneCellS, Kd.isSca, flat, TYB]
                  (try (and_intros <;> try (first | omega | (unfold In64; omega) | trivial | assumption)))
                  refine ⟨q + 1, ?_, ?_, Sub.mk_id ?_ ?_ ?_ ?_ ?_⟩
                  all_goals (try (simp only [s1, s2, LB, subS, subH, wfS, wfH, SV.ren, renL, SObj.ren, SV.wf, SObj.wf, wfL, SV.known, Nat.reduceEqDiff, ↓reduceIte, if_true, if_false, eq_self, Nat.reduceAdd, Nat.reduceLT, Nat.reduceLeDiff, implies_true, reduceCtorEq, forall_const]; done))
                  all_goals (try (simp only [s1, s2, LB, subS, subH, wfS, wfH, SV.ren, renL, SObj.ren, SV.wf, SObj.wf, wfL, SV.known, Nat.reduceEqDiff, ↓reduceIte, if_true, if_false, eq_self, Nat.reduceAdd, Nat.reduceLT, Nat.reduceLeDiff, implies_true, reduceCtorEq, forall_const]; simp; done))
                  all_goals (try (simp only [s1, s2, LB, subS, subH, wfS, wfH, SV.ren, renL, SObj.ren, SV.wf, SObj.wf, wfL, SV.known, Nat.reduceEqDiff, ↓reduceIte, if_true, if_false, eq_self, Nat.reduceAdd, Nat.reduceLT, Nat.reduceLeDiff, implies_true, reduceCtorEq, forall_const]; (and_intros <;> (first | omega | rfl | (simp; done) | (simp; omega))); done))
                  all_goals (try dsimp only)
                  all_goals (and_intros <;> try (first | omega | (unfold In64; omega) | trivial | assumption))
                · have s1 : lsA V i j (q + 1) = min (lsA V i j q) (mvR V j (q + 1)) := by rw [lsA, if_neg hz]
                  have s2 : msA V i j (q + 1) = max (msA V i j q) (mvR V j (q + 1)) := by rw [msA, if_neg hz]
                  have np : 0 < (ltF (al V) (sa V i) (mm V i) (q + 1)).getD 0 0 := sg.2 hz
                  simp -implicitDefEqProofs only [lk_normal, l7Top_F, l1Least_F, l1Most_F, hV, tkV, g, il, jl, i0, j0, i6, j6, em, hqm, tn, rb, ll, tk2, np, emv, ZB, Int.reduceToNat, Nat.reduceLT, Nat.reduceLeDiff, Int.reduceLE, Int.reduceLT, Nat.reduceEqDiff, Nat.reduceSub, SB, SV.known, packR, ne_eq, reduceCtorEq, Nat.reduceEqDiff, ↓reduceIte, if_true, if_false, eq_self, Nat.reduceAdd, Nat.reduceMul, Nat.reduceSub, forall_const, oneCellS, Kd.isSca, flat, TYB]
                  (try (and_intros <;> try (first | omega | (unfold In64; omega) | trivial | assumption)))
                  refine ⟨q + 1, ?_, ?_, Sub.mk_id ?_ ?_ ?_ ?_ ?_⟩
                  all_goals (try (simp only [s1, s2, LB, subS, subH, wfS, wfH, SV.ren, renL, SObj.ren, SV.wf, SObj.wf, wfL, SV.known, Nat.reduceEqDiff, ↓reduceIte, if_true, if_false, eq_self, Nat.reduceAdd, Nat.reduceLT, Nat.reduceLeDiff, implies_true, reduceCtorEq, forall_const]; done))
                  all_goals (try (simp only [s1, s2, LB, subS, subH, wfS, wfH, SV.ren, renL, SObj.ren, SV.wf, SObj.wf, wfL, SV.known, Nat.reduceEqDiff, ↓reduceIte, if_true, if_false, eq_self, Nat.reduceAdd, Nat.reduceLT, Nat.reduceLeDiff, implies_true, reduceCtorEq, forall_const]; simp; done))
                  all_goals (try (simp only [s1, s2, LB, subS, subH, wfS, wfH, SV.ren, renL, SObj.ren, SV.wf, SObj.wf, wfL, SV.known, Nat.reduceEqDiff, ↓reduceIte, if_true, if_false, eq_self, Nat.reduceAdd, Nat.reduceLT, Nat.reduceLeDiff, implies_true, reduceCtorEq, forall_const]; (and_intros <;> (first | omega | rfl | (simp; done) | (simp; omega))); done))
                  all_goals (try dsimp only)
                  all_goals (and_intros <;> try (first | omega | (unfold In64; omega) | trivial | assumption))
              · obtain rfl : q = mm V i := by omega
                by_cases hd : lsA V i j (mm V i) = msA V i j (mm V i)
                · have hct : certB V i j = true := by rw [← hfin]; exact decide_eq_true hd
                  have hc : cpB V i j = true := by unfold cpB; rw [hvc, hct]; rfl
                  rw [hc] at e1
                  simp only [if_true] at e1
                  simp -implicitDefEqProofs only [lk_normal, l7Top_F, l1Least_F, l1Most_F, hV, i0, j0, i6, j6, em, hqm, hd, tkL, lenL, ZB, Int.reduceToNat, Nat.reduceLT, Nat.reduceLeDiff, Int.reduceLE, Int.reduceLT, Nat.reduceEqDiff, Nat.reduceSub, SB, SV.known, packR, ne_eq, reduceCtorEq, Nat.reduceEqDiff, ↓reduceIte, if_true, if_false, eq_self, Nat.reduceAdd, Nat.reduceMul, Nat.reduceSub, forall_const, oneCellS, Kd.isSca, flat, TYB]
                  (try (and_intros <;> try (first | omega | (unfold In64; omega) | trivial | assumption)))
                  intro junk' cap' hj'
                  (try (and_intros <;> try (first | omega | (unfold In64; omega) | trivial | assumption)))
                  refine ⟨(j + 1, n + 1, cap', junk'), ⟨by simp only; omega, by simp only [← Nat.add_assoc]; rw [e1, List.length_append, gL]; simp; omega, by simp only; omega, by simp only; omega, by simp only; omega⟩, by simp only; omega, Sub.mk_to 1 3 ?_ ?_ ?_ ?_ ?_ ?_ ?_⟩
                  all_goals simp only [← Nat.add_assoc, e1, LB, subS, subH, wfS, wfH, SV.ren, renL, SObj.ren, SV.wf, SObj.wf, wfL, SV.known, Nat.reduceEqDiff, ↓reduceIte, if_true, if_false, eq_self, Nat.reduceAdd, Nat.reduceLT, Nat.reduceLeDiff, implies_true, reduceCtorEq, forall_const]
                  all_goals (try simp)
                · have hct : certB V i j = false := by rw [← hfin]; exact decide_eq_false hd
                  have hc : cpB V i j = false := by unfold cpB; rw [hvc, hct]; rfl
                  rw [hc] at e1
                  simp only [Bool.false_eq_true, if_false, List.append_nil] at e1
                  simp -implicitDefEqProofs only [lk_normal, l7Top_F, l1Least_F, l1Most_F, hV, i0, j0, i6, j6, em, hqm, hd, tkL, lenL, ZB, Int.reduceToNat, Nat.reduceLT, Nat.reduceLeDiff, Int.reduceLE, Int.reduceLT, Nat.reduceEqDiff, Nat.reduceSub, SB, SV.known, packR, ne_eq, reduceCtorEq, Nat.reduceEqDiff, ↓reduceIte, if_true, if_false, eq_self, Nat.reduceAdd, Nat.reduceMul, Nat.reduceSub, forall_const, oneCellS, Kd.isSca, flat, TYB]
                  (try (and_intros <;> try (first | omega | (unfold In64; omega) | trivial | assumption)))
                  refine ⟨(j + 1, n, cap, junk), ⟨by simp only; omega, by simp only [← Nat.add_assoc]; rw [e1]; exact gL, by simp only; omega, by simp only; omega, by simp only; omega⟩, by simp only; omega, Sub.mk_id ?_ ?_ ?_ ?_ ?_⟩
                  all_goals simp only [← Nat.add_assoc, e1, LB, subS, subH, wfS, wfH, SV.ren, renL, SObj.ren, SV.wf, SObj.wf, wfL, SV.known, Nat.reduceEqDiff, ↓reduceIte, if_true, if_false, eq_self, Nat.reduceAdd, Nat.reduceLT, Nat.reduceLeDiff, implies_true, reduceCtorEq, forall_const]
                  all_goals (try simp)
        · have hj6 : j = 6 := by omega
          subst hj6
          have jl : ¬ (6 : Int) < 6 := by omega
          simp -implicitDefEqProofs only [lk_normal, hV, jl, ZB, Int.reduceToNat, Nat.reduceLT, Nat.reduceLeDiff, Int.reduceLE, Int.reduceLT, Nat.reduceEqDiff, Nat.reduceSub, SB, SV.known, packR, ne_eq, reduceCtorEq, Nat.reduceEqDiff, ↓reduceIte, if_true, if_false, eq_self, Nat.reduceAdd, Nat.reduceMul, Nat.reduceSub, forall_const, oneCellS, Kd.isSca, flat, TYB]
          (try (and_intros <;> try (first | omega | (unfold In64; omega) | trivial | assumption)))
          refine ⟨(i + 1, n, cap, junk), ⟨by simp only; omega, by simp only; rw [e6]; exact gL, by simp only; omega, by simp only; omega, by simp only; omega⟩, by simp only; omega, Sub.mk_id ?_ ?_ ?_ ?_ ?_⟩
          all_goals simp only [e6, LB, subS, subH, wfS, wfH, SV.ren, renL, SObj.ren, SV.wf, SObj.wf, wfL, SV.known, Nat.reduceEqDiff, ↓reduceIte, if_true, if_false, eq_self, Nat.reduceAdd, Nat.reduceLT, Nat.reduceLeDiff, implies_true, reduceCtorEq, forall_const]
          all_goals (try simp)
    · obtain rfl : i = 6 := by omega
      refine .inr ⟨1, cap, junk, ?_, ?_, by omega, ?_, by simp⟩
      · rw [show (GL (cpB V) 36).length = n * 2 from hL]; simp [Wrap.ap]
      · simp [hget_cons]
      · have : (GL (cpB V) 36).length = n * 2 := hL
        omega
theorem cpL_even (V : List Int) : ∃ k, (cpL V).length = k * 2 ∧ k ≤ 36 := by
  unfold cpL
  split
  · exact GL_even _ 36
  · exact ⟨0, rfl, by omega⟩
def cpNl : Bool := true
def CertainPours_F : List SV → Heap → Nat → Nat → K1 → Prop
  | [.arr V], H, n, _, κ => (V.length = 18 ∧ I64 V) ∧ freshK (.more [.bool (isVF V)]) (cpL V) ((cpL V).length / 2) 2 50 cpNl H n κ
  | _, _, _, _, _ => False
theorem CertainPours_T : ∀ args H n m κ, CertainPours_F args H n m κ → GenOK Try.prog 22 args H n m κ := by
  intro args H n m κ h
  unfold CertainPours_F at h
  split at h
  · exact gen_of_fresh (CertainPours_ok _ h.1.1 h.1.2) (fun k o hk => by cases hk) h.2
  · exact h.elim
def sCertainPours_F : List SV → Heap → Nat → Nat → K1 → Prop
  | [.arr V], H, n, _, κ => (V.length = 18 ∧ I64 V) ∧ freshK (.more [.bool (isVF V)]) (cpL V) ((cpL V).length / 2) 2 50 false H n κ
  | _, _, _, _, _ => False
theorem sCertainPours_T : ∀ args H n m κ, sCertainPours_F args H n m κ → GenOK Try.prog 20 args H n m κ := by
  intro args H n m κ h
  unfold sCertainPours_F at h
  split at h
  · exact gen_of_fresh (sCertainPours_ok _ h.1.1 h.1.2) (fun k o hk => by cases hk) h.2
  · exact h.elim
theorem lawCertainPours (V : List Int) (hV : V.length = 18) (hb : ∀ x ∈ V, In64 x) : PureH Try.prog 5 [.arr V] [] (.bool true) := by
  have tkV : V.take 18 = V := List.take_of_length_le (by omega)
  have h64 : I64 V := hb
  obtain ⟨m, hm, hm36⟩ := cpL_even V
  have e2 : (cpL V).length / 2 = m := by omega
  generalize hnl : cpNl = nl
  refine pure_of_vc (X := ⟨Try.prog, tys, [(21, toView_F), (17, eqS2_F), (24, held2_F)], [(22, CertainPours_F), (20, sCertainPours_F), (23, mark2_F)], true, true, 0, [], []⟩) fn_5 ⟨tys_ok, (.cons toView_T (.cons eqS2_T (.cons held2_T .nil))), (.cons CertainPours_T (.cons sCertainPours_T (.cons mark2_T .nil))), mixed⟩ (n0 := 0) (Nat.le_of_ble_eq_true rfl) (by simp [wfL, SV.wf]) (wfH_spec (by simp [wfH, SObj.wf])) (Nat.le_refl _) (fun _ => by simp [SV.wf, wfL]) ?_
  simp -implicitDefEqProofs only [Try.f5, Option.getD_some, argS, toView_F, eqS2_F, held2_F, CertainPours_F, sCertainPours_F, mark2_F, hV, tkV, h64, hnl, e2, freshK, Wrap.ap, ZB, Int.reduceToNat, Nat.reduceLT, Nat.reduceLeDiff, Int.reduceLE, Int.reduceLT, Nat.reduceEqDiff, Nat.reduceSub, SB, SV.known, packR, ne_eq, reduceCtorEq, Nat.reduceEqDiff, ↓reduceIte, if_true, if_false, eq_self, Nat.reduceAdd, Nat.reduceMul, Nat.reduceSub, forall_const, oneCellS, Kd.isSca, flat, TYB]
  exact lawS2 nl hm (by omega)
end Go.Proofs.Ytfdpeenamkpcbaa
