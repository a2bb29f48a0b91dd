/- Texts of this claim, joined (VPo, Sn0, Cmp, Form, Rule, RulC, Com, RE1, Draw, DrawR, DrawT, DrawB, Back, Src, Sl3, Arg, Good, GPath, Path, Backs, Sl1, Along, DrawP, DrawU, Map, DelR, Gen, Beh, DrawV, DrawX). -/
import Derived.Test.YtckcojgfgcjamaaQ1
import Derived.Test.YtckcojgfgcjamaaQ2
import Derived.Test.YtckcojgfgcjamaaQ3
import Derived.Test.YtckcojgfgcjamaaQ4
import Derived.Test.YtckcojgfgcjamaaQ5
import Derived.Test.YtckcojgfgcjamaaQ6
import Derived.Test.YtckcojgfgcjamaaQ7
set_option maxRecDepth 100000
set_option linter.unusedSimpArgs false
set_option linter.unusedVariables false
namespace Go.Proofs.Ytckcojgfgcjamaa
open Go Go.RowKit
theorem vGL_pre (c : Nat → Nat → Bool) (m : Nat) : ∀ k, ∃ r, GL c (m + k) = GL c m ++ r
  | 0 => ⟨[], by simp⟩
  | k + 1 => by
    obtain ⟨r, hr⟩ := vGL_pre c m k
    exact ⟨r ++ prG c (m + k), by rw [show m + (k + 1) = m + k + 1 by omega, GL_succ, hr, List.append_assoc]⟩
theorem vGL_in (c : Nat → Nat → Bool) {a b : Nat} (ha : a < 6) (hb : b < 6) {np : Nat} (hnp : (GL c 36).length = np * 2) (j : List Int) : inP (GL c 36 ++ j) np [(a : Int), (b : Int)] = c a b := by
  have cut : ∀ i, i < np → ((GL c 36 ++ j).drop (i * 2)).take 2 = ((GL c 36).drop (i * 2)).take 2 := fun i hi => by
    rw [List.drop_append_of_le_length (by omega), List.take_append_of_le_length (by rw [List.length_drop]; omega)]
  cases hc : c a b
  · refine inP_not fun i hi he => ?_
    rw [cut i hi] at he
    obtain ⟨p, q, h1, h2, h3, h4⟩ := GL_pair c 36 (Nat.le_refl _) i (by omega)
    rw [he] at h4
    simp only [List.cons.injEq, and_true] at h4
    have e1 : a = p := by omega
    have e2 : b = q := by omega
    rw [e1, e2, h3] at hc; cases hc
  · obtain ⟨n, hn, _⟩ := GL_even c (a * 6 + b)
    have e1 : GL c (a * 6 + b + 1) = GL c (a * 6 + b) ++ [(a : Int), (b : Int)] := by
      have d1 : (a * 6 + b) / 6 = a := by omega
      have d2 : (a * 6 + b) % 6 = b := by omega
      rw [GL_succ]
      simp only [prG, d1, d2, hc, if_true]
    obtain ⟨r, hr⟩ := vGL_pre c (a * 6 + b + 1) (36 - (a * 6 + b + 1))
    rw [show a * 6 + b + 1 + (36 - (a * 6 + b + 1)) = 36 by omega, e1] at hr
    have hl : n < np := by
      have := congrArg List.length hr
      rw [List.length_append, List.length_append, hn, hnp] at this
      simp at this; omega
    refine inP_of hl ?_
    rw [cut n hl, hr, List.append_assoc, List.drop_left' hn]; rfl
--@tbl vPour = laws.vPour
theorem vPour_ok (L p : List Int) (e c m : Nat) (h1 : m * 2 ≤ L.length) (hp : p.length = 2) (hm : m ≤ 4611686018427387903) :
    PureH Try.prog 45 [.slice 0 0 m c, .arr p] [(0, .ints L e)] (.bool (inP L m p)) := by
  have tkp : p.take 2 = p := List.take_of_length_le (by omega)
  refine pure_of_vc (X := ⟨Try.prog, tys, [], [], true, true, 1, [], []⟩) fn_45 ⟨tys_ok, .nil, .nil, mixed⟩ (n0 := 1) (Nat.le_of_ble_eq_true rfl) (by simp [wfL, SV.wf]) (wfH_spec (by simp [wfH, SObj.wf, wfL, SV.wf])) (Nat.le_refl _) (fun _ => by simp [SV.wf, wfL]) ?_
  simp -implicitDefEqProofs only [Try.f45, Option.getD_some, argS, hp, tkp, ZB, Int.reduceToNat, Nat.reduceLT, Nat.reduceLeDiff, Int.reduceLE, Int.reduceLT, Nat.reduceEqDiff, Nat.reduceSub, SB, SV.known, packR, ne_eq, reduceCtorEq, Nat.reduceEqDiff, ↓reduceIte, if_true, if_false, eq_self, Nat.reduceAdd, Nat.reduceMul, Nat.reduceSub, forall_const, oneCellS, litOne, flat1, Kd.isSca, flat, TYB]
  refine loop_intro (fun i : Nat => [(5, .int i), (3, .ptr 1 0), (0, .slice 0 0 m c)]) (fun _ => [(1, .ints p 47), (0, .ints L e)]) 2 (fun i => i ≤ m ∧ ∀ j, j < i → (L.drop (j * 2)).take 2 ≠ p) (fun i => m - i) ?_ ?_
  · refine ⟨0, ⟨Nat.zero_le _, fun j hj => absurd hj (by omega)⟩, ?_⟩
    refine Sub.mk_id ?_ ?_ ?_ ?_ ?_
    all_goals ((try simp only [LB, subS, subH, wfS, wfH, SV.ren, renL, SObj.ren, SV.wf, SObj.wf, wfL, SV.known, Nat.reduceEqDiff, ↓reduceIte, if_true, if_false, eq_self, Nat.reduceAdd, Nat.reduceLT, Nat.reduceLeDiff, implies_true, reduceCtorEq, forall_const]) <;> simp)
  · rintro i ⟨hi, hno⟩
    by_cases hlt : i < m
    · have hil : (i : Int) < m := by omega
      have l2 : ((L.drop (i * 2)).take 2).length = 2 := by rw [List.length_take, List.length_drop]; omega
      have hL : i * 2 + 2 ≤ L.length := by omega
      have tkx : ((L.drop (i * 2)).take 2).take 2 = (L.drop (i * 2)).take 2 := List.take_of_length_le (by omega)
      have hyes := inP_of (L := L) (p := p) hlt
      have hnx : (L.drop (i * 2)).take 2 ≠ p → ∀ j, j < i + 1 → (L.drop (j * 2)).take 2 ≠ p := fun h j hj => by
        by_cases hji : j = i
        · subst hji; exact h
        · exact hno j (by omega)
      simp -implicitDefEqProofs only [lk_normal, hil, l2, hp, tkp, hL, eqI_p2, ZB, Int.reduceToNat, Nat.reduceLT, Nat.reduceLeDiff, Int.reduceLE, Int.reduceLT, Nat.reduceEqDiff, Nat.reduceSub, SB, SV.known, packR, ne_eq, reduceCtorEq, Nat.reduceEqDiff, ↓reduceIte, if_true, if_false, eq_self, Nat.reduceAdd, Nat.reduceMul, Nat.reduceSub, forall_const, oneCellS, litOne, flat1, Kd.isSca, flat, TYB]
      refine ⟨by omega, fun h => (hyes h).symm, fun h => ⟨by unfold In64; omega, i + 1, ⟨by omega, hnx h⟩, by omega, Sub.mk_id ?_ ?_ ?_ ?_ ?_⟩⟩
      all_goals ((try simp only [LB, subS, subH, wfS, wfH, SV.ren, renL, SObj.ren, SV.wf, SObj.wf, wfL, SV.known, Nat.reduceEqDiff, ↓reduceIte, if_true, if_false, eq_self, Nat.reduceAdd, Nat.reduceLT, Nat.reduceLeDiff, implies_true, reduceCtorEq, forall_const]) <;> simp)
    · have hil : ¬ (i : Int) < m := by omega
      obtain rfl : i = m := by omega
      simp -implicitDefEqProofs only [lk_normal, hil, inP_not hno, ZB, Int.reduceToNat, Nat.reduceLT, Nat.reduceLeDiff, Int.reduceLE, Int.reduceLT, Nat.reduceEqDiff, Nat.reduceSub, SB, SV.known, packR, ne_eq, reduceCtorEq, Nat.reduceEqDiff, ↓reduceIte, if_true, if_false, eq_self, Nat.reduceAdd, Nat.reduceMul, Nat.reduceSub, forall_const, oneCellS, litOne, flat1, Kd.isSca, flat, TYB]
theorem vPour_nil (p : List Int) (H : Heap) (hp : p.length = 2) : PureH Try.prog 45 [.nils, .arr p] H (.bool false) := by
  refine PureH.any ?_ H
  have tkp : p.take 2 = p := List.take_of_length_le (by omega)
  refine pure_of_vc (X := ⟨Try.prog, tys, [], [], true, true, 0, [], []⟩) fn_45 ⟨tys_ok, .nil, .nil, mixed⟩ (n0 := 0) (Nat.le_of_ble_eq_true rfl) (by simp [wfL, SV.wf]) (wfH_spec (by simp [wfH, SObj.wf, wfL, SV.wf])) (Nat.le_refl _) (fun _ => by simp [SV.wf, wfL]) ?_
  simp -implicitDefEqProofs only [Try.f45, Option.getD_some, argS, hp, tkp, ZB, Int.reduceToNat, Nat.reduceLT, Nat.reduceLeDiff, Int.reduceLE, Int.reduceLT, Nat.reduceEqDiff, Nat.reduceSub, SB, SV.known, packR, ne_eq, reduceCtorEq, Nat.reduceEqDiff, ↓reduceIte, if_true, if_false, eq_self, Nat.reduceAdd, Nat.reduceMul, Nat.reduceSub, forall_const, oneCellS, litOne, flat1, Kd.isSca, flat, TYB]
  refine loop_intro (fun i : Nat => [(5, .int 0), (3, .ptr 0 0), (0, .nils)]) (fun _ => [(0, .ints p 47)]) 1 (fun i => True) (fun i => 0) ?_ ?_
  · refine ⟨0, trivial, Sub.mk_id ?_ ?_ ?_ ?_ ?_⟩
    all_goals ((try simp only [LB, subS, subH, wfS, wfH, SV.ren, renL, SObj.ren, SV.wf, SObj.wf, wfL, SV.known, Nat.reduceEqDiff, ↓reduceIte, if_true, if_false, eq_self, Nat.reduceAdd, Nat.reduceLT, Nat.reduceLeDiff, implies_true, reduceCtorEq, forall_const]) <;> simp)
  · intro i hi
    simp -implicitDefEqProofs only [lk_normal, ZB, Int.reduceToNat, Nat.reduceLT, Nat.reduceLeDiff, Int.reduceLE, Int.reduceLT, Nat.reduceEqDiff, Nat.reduceSub, SB, SV.known, packR, ne_eq, reduceCtorEq, Nat.reduceEqDiff, ↓reduceIte, if_true, if_false, eq_self, Nat.reduceAdd, Nat.reduceMul, Nat.reduceSub, forall_const, oneCellS, litOne, flat1, Kd.isSca, flat, TYB]
def vPour_F : List SV → Heap → Option (Prop × SV)
  | [.slice a 0 m _, .arr p], H => match hget H a with
    | some (.ints L _) => some (m * 2 ≤ L.length ∧ p.length = 2 ∧ m ≤ 4611686018427387903, .bool (inP L m p))
    | _ => none
  | [.nils, .arr p], _ => some (p.length = 2, .bool false)
  | _, _ => none
theorem vPour_T : ∀ args H p v, vPour_F args H = some (p, v) → p → PureH Try.prog 45 args H v := by
  intro args H p v h hp
  unfold vPour_F at h
  split at h
  · rename_i a m c q
    split at h
    · rename_i L e g
      cases h
      exact one_block (vPour_ok L q e c m hp.1 hp.2.1 hp.2.2) g rfl (fun _ => trivial)
    · cases h
  · cases h
    exact vPour_nil _ H hp
  · cases h
end Go.Proofs.Ytckcojgfgcjamaa
set_option maxRecDepth 100000
set_option linter.unusedSimpArgs false
set_option linter.unusedVariables false
namespace Go.Proofs.Ytckcojgfgcjamaa
open Go Go.RowKit
/-! Views of racks. -/
def voF (R : List Int) : List Int := if rackB R = true then viewF R else List.replicate 18 0
theorem voF_len (R : List Int) : (voF R).length = 18 := by
  unfold voF
  split
  · exact viewF_len R
  · simp
--@tbl ViewOf = impl.ViewOf
--@tbl sViewOf = spec.ViewOf
theorem ViewOf_ok (R : List Int) (hR : R.length = 24) : PureH Try.prog 7 [.arr R] [] (.tup [.arr (voF R), .bool (rackB R)]) := by
  have tkR : R.take 24 = R := List.take_of_length_le (by omega)
  have lV := viewF_len R
  have tkV := List.take_of_length_le (Nat.le_of_eq lV)
  have z : List.take 18 (List.replicate 18 (0 : Int)) = List.replicate 18 0 := rfl
  unfold voF
  cases hr : rackB R
  · refine pure_of_vc (X := ⟨Try.prog, tys, [(49, IsRack_F), (50, viewOf_F)], [], true, true, 0, [], []⟩) fn_7 ⟨tys_ok, (.cons IsRack_T (.cons viewOf_T .nil)), .nil, mixed⟩ (n0 := 0) (Nat.le_of_ble_eq_true rfl) (by simp [wfL, SV.wf]) (wfH_spec (by simp [wfH, SObj.wf, wfL, SV.wf])) (Nat.le_refl _) (fun _ => by simp [SV.wf, wfL]) ?_
    simp -implicitDefEqProofs only [Try.f7, Option.getD_some, argS, IsRack_F, viewOf_F, hR, tkR, hr, z, ZB, Int.reduceToNat, Nat.reduceLT, Nat.reduceLeDiff, Int.reduceLE, Int.reduceLT, Nat.reduceEqDiff, Nat.reduceSub, SB, SV.known, packR, ne_eq, reduceCtorEq, Nat.reduceEqDiff, ↓reduceIte, if_true, if_false, eq_self, Nat.reduceAdd, Nat.reduceMul, Nat.reduceSub, forall_const, oneCellS, litOne, flat1, Kd.isSca, flat, TYB]
  · refine pure_of_vc (X := ⟨Try.prog, tys, [(49, IsRack_F), (50, viewOf_F)], [], true, true, 0, [], []⟩) fn_7 ⟨tys_ok, (.cons IsRack_T (.cons viewOf_T .nil)), .nil, mixed⟩ (n0 := 0) (Nat.le_of_ble_eq_true rfl) (by simp [wfL, SV.wf]) (wfH_spec (by simp [wfH, SObj.wf, wfL, SV.wf])) (Nat.le_refl _) (fun _ => by simp [SV.wf, wfL]) ?_
    simp -implicitDefEqProofs only [Try.f7, Option.getD_some, argS, IsRack_F, viewOf_F, hR, tkR, hr, lV, tkV, ZB, Int.reduceToNat, Nat.reduceLT, Nat.reduceLeDiff, Int.reduceLE, Int.reduceLT, Nat.reduceEqDiff, Nat.reduceSub, SB, SV.known, packR, ne_eq, reduceCtorEq, Nat.reduceEqDiff, ↓reduceIte, if_true, if_false, eq_self, Nat.reduceAdd, Nat.reduceMul, Nat.reduceSub, forall_const, oneCellS, litOne, flat1, Kd.isSca, flat, TYB]
def ViewOf_F : List SV → Heap → Option (Prop × SV)
  | [.arr R], _ => some (R.length = 24, .tup [.arr (voF R), .bool (rackB R)])
  | _, _ => none
theorem ViewOf_T : ∀ args H p v, ViewOf_F args H = some (p, v) → p → PureH Try.prog 7 args H v := by
  intro args H p v h hp
  unfold ViewOf_F at h
  split at h
  · cases h; exact (ViewOf_ok _ hp).any _
  · cases h
/-! How many candidates. -/
def ccV (V : List Int) : Int := if isVF V = true then arrF (hidV V) else 0
--@tbl CountCandidates = impl.CountCandidates
--@tbl sCountCandidates = spec.CountCandidates
theorem CountCandidates_ok (V : List Int) (hV : V.length = 18) (h64 : I64 V) : PureH Try.prog 15 [.arr V] [] (.tup [.int (ccV V), .bool (isVF V)]) := by
  have tkV : V.take 18 = V := List.take_of_length_le (by omega)
  unfold ccV
  cases hv : isVF V
  · refine pure_of_vc (X := ⟨Try.prog, tys, [(27, IsView_F), (53, hidden_F), (55, arrangements_F)], [], true, true, 0, [], []⟩) fn_15 ⟨tys_ok, (.cons IsView_T (.cons hidden_T (.cons arrangements_T .nil))), .nil, mixed⟩ (n0 := 0) (Nat.le_of_ble_eq_true rfl) (by simp [wfL, SV.wf]) (wfH_spec (by simp [wfH, SObj.wf, wfL, SV.wf])) (Nat.le_refl _) (fun _ => by simp [SV.wf, wfL]) ?_
    simp -implicitDefEqProofs only [Try.f15, Option.getD_some, argS, IsView_F, hidden_F, arrangements_F, hV, tkV, hv, ZB, Int.reduceToNat, Nat.reduceLT, Nat.reduceLeDiff, Int.reduceLE, Int.reduceLT, Nat.reduceEqDiff, Nat.reduceSub, SB, SV.known, packR, ne_eq, reduceCtorEq, Nat.reduceEqDiff, ↓reduceIte, if_true, if_false, eq_self, Nat.reduceAdd, Nat.reduceMul, Nat.reduceSub, forall_const, oneCellS, litOne, flat1, Kd.isSca, flat, TYB]
  obtain ⟨u1, u2, u3, z0, bC, lenH, h0, bH, hs, h18⟩ := isV_facts hV h64 hv
  have eH : hidL (V.take 6) (V.drop 12) 6 = hidV V := rfl
  have tkH : (hidV V).take 6 = hidV V := List.take_of_length_le (by omega)
  have bl : Bd 0 1000000 (hidV V) := fun x hx => by have := bH x hx; omega
  refine pure_of_vc (X := ⟨Try.prog, tys, [(27, IsView_F), (53, hidden_F), (55, arrangements_F)], [], true, true, 0, [], []⟩) fn_15 ⟨tys_ok, (.cons IsView_T (.cons hidden_T (.cons arrangements_T .nil))), .nil, mixed⟩ (n0 := 0) (Nat.le_of_ble_eq_true rfl) (by simp [wfL, SV.wf]) (wfH_spec (by simp [wfH, SObj.wf, wfL, SV.wf])) (Nat.le_refl _) (fun _ => by simp [SV.wf, wfL]) ?_
  simp -implicitDefEqProofs only [Try.f15, Option.getD_some, argS, IsView_F, hidden_F, arrangements_F, hV, tkV, hv, u1, eH, lenH, tkH, bl, ZB, Int.reduceToNat, Nat.reduceLT, Nat.reduceLeDiff, Int.reduceLE, Int.reduceLT, Nat.reduceEqDiff, Nat.reduceSub, SB, SV.known, packR, ne_eq, reduceCtorEq, Nat.reduceEqDiff, ↓reduceIte, if_true, if_false, eq_self, Nat.reduceAdd, Nat.reduceMul, Nat.reduceSub, forall_const, oneCellS, litOne, flat1, Kd.isSca, flat, TYB]
def CountCandidates_F : List SV → Heap → Option (Prop × SV)
  | [.arr V], _ => some (V.length = 18 ∧ I64 V, .tup [.int (ccV V), .bool (isVF V)])
  | _, _ => none
theorem CountCandidates_T : ∀ args H p v, CountCandidates_F args H = some (p, v) → p → PureH Try.prog 15 args H v := by
  intro args H p v h hp
  unfold CountCandidates_F at h
  split at h
  · cases h; exact (CountCandidates_ok _ hp.1 hp.2).any _
  · cases h
theorem vLess_ok (A B : List Int) (hA : A.length = 2) (hB : B.length = 2) (h1 : In64 (A.getD 0 0 * B.getD 1 0)) (h2 : In64 (B.getD 0 0 * A.getD 1 0)) : PureH Try.prog 46 [.arr A, .arr B] [] (.bool (decide (A.getD 0 0 * B.getD 1 0 < B.getD 0 0 * A.getD 1 0))) := by
  refine pure_of_vc (X := ⟨Try.prog, tys, [], [], true, true, 0, [], []⟩) fn_46 ⟨tys_ok, .nil, .nil, mixed⟩ (n0 := 0) (Nat.le_of_ble_eq_true rfl) (by simp [wfL, SV.wf]) (wfH_spec (by simp [wfH, SObj.wf, wfL, SV.wf])) (Nat.le_refl _) (fun _ => by simp [SV.wf, wfL]) ?_
  simp -implicitDefEqProofs only [Try.f46, Option.getD_some, argS, hA, hB, h1, h2, ZB, Int.reduceToNat, Nat.reduceLT, Nat.reduceLeDiff, Int.reduceLE, Int.reduceLT, Nat.reduceEqDiff, Nat.reduceSub, SB, SV.known, packR, ne_eq, reduceCtorEq, Nat.reduceEqDiff, ↓reduceIte, if_true, if_false, eq_self, Nat.reduceAdd, Nat.reduceMul, Nat.reduceSub, forall_const, oneCellS, litOne, flat1, Kd.isSca, flat, TYB]
def vLess_F : List SV → Heap → Option (Prop × SV)
  | [.arr A, .arr B], _ => some ((A.length = 2 ∧ B.length = 2) ∧ In64 (A.getD 0 0 * B.getD 1 0) ∧ In64 (B.getD 0 0 * A.getD 1 0), .bool (decide (A.getD 0 0 * B.getD 1 0 < B.getD 0 0 * A.getD 1 0)))
  | _, _ => none
theorem vLess_T : ∀ args H p v, vLess_F args H = some (p, v) → p → PureH Try.prog 46 args H v := by
  intro args H p v h hp
  unfold vLess_F at h
  split at h
  · cases h; exact (vLess_ok _ _ hp.1.1 hp.1.2 hp.2.1 hp.2.2).any _
  · cases h
end Go.Proofs.Ytckcojgfgcjamaa
set_option maxRecDepth 100000
set_option linter.unusedSimpArgs false
set_option linter.unusedVariables false
namespace Go.Proofs.Ytckcojgfgcjamaa
open Go Go.RowKit
def lexC : List Int → List Int → Int
  | a :: A, b :: B => if a < b then -1 else if b < a then 1 else lexC A B
  | _, _ => 0
/-! The order. -/
theorem lexC_refl : ∀ x : List Int, lexC x x = 0
  | [] => rfl
  | a :: A => by
    show (if a < a then -1 else if a < a then 1 else lexC A A) = 0
    rw [if_neg (by omega), if_neg (by omega), lexC_refl A]
theorem lexC_lt {a b : Int} {A B : List Int} : lexC (a :: A) (b :: B) < 0 ↔ a < b ∨ (a = b ∧ lexC A B < 0) := by
  show (if a < b then -1 else if b < a then 1 else lexC A B) < 0 ↔ _
  split
  · rename_i h; simp [h]
  · split
    · rename_i h1 h2; constructor
      · intro h; omega
      · rintro (h | ⟨h, _⟩) <;> omega
    · rename_i h1 h2
      have : a = b := by omega
      simp [this]
theorem lexC_trans : ∀ {x y z : List Int}, x.length = y.length → y.length = z.length → lexC x y < 0 → lexC y z < 0 → lexC x z < 0
  | [], _, _, _, _, h, _ => by simp [lexC] at h
  | _ :: _, [], _, h, _, _, _ => by simp at h
  | _ :: _, _ :: _, [], _, h, _, _ => by simp at h
  | a :: A, b :: B, c :: C, h1, h2, h3, h4 => by
    rw [lexC_lt] at h3 h4 ⊢
    have := lexC_trans (x := A) (y := B) (z := C) (by simpa using h1) (by simpa using h2)
    rcases h3 with h3 | ⟨h3, h5⟩ <;> rcases h4 with h4 | ⟨h4, h6⟩
    · left; omega
    · left; omega
    · left; omega
    · right; exact ⟨by omega, this h5 h6⟩
theorem lexC_total : ∀ {x y : List Int}, x.length = y.length → ¬ lexC x y < 0 → ¬ lexC y x < 0 → x = y
  | [], [], _, _, _ => rfl
  | [], _ :: _, h, _, _ => by simp at h
  | _ :: _, [], h, _, _ => by simp at h
  | a :: A, b :: B, h1, h2, h3 => by
    rw [lexC_lt] at h2 h3
    have hab : a = b := by omega
    subst hab
    have := lexC_total (x := A) (y := B) (by simpa using h1) (fun h => h2 (.inr ⟨rfl, h⟩)) (fun h => h3 (.inr ⟨rfl, h⟩))
    rw [this]
/-- At most. -/
def lexL (x y : List Int) : Bool := !decide (lexC y x < 0)
theorem lexL_trans {x y z : List Int} (h1 : x.length = y.length) (h2 : y.length = z.length) (h3 : lexL x y = true) (h4 : lexL y z = true) : lexL x z = true := by
  simp only [lexL, Bool.not_eq_true', decide_eq_false_iff_not] at *
  intro h
  by_cases hxy : lexC x y < 0
  · exact h4 (lexC_trans (by omega) (by omega) h hxy)
  · rw [lexC_total h1 hxy h3] at h; exact h4 h
theorem lexL_anti {x y : List Int} (h : x.length = y.length) (h1 : lexL x y = true) (h2 : lexL y x = true) : x = y := by
  simp only [lexL, Bool.not_eq_true', decide_eq_false_iff_not] at *
  exact lexC_total h h2 h1
theorem lexL_total (x y : List Int) (h : x.length = y.length) : lexL x y = true ∨ lexL y x = true := by
  simp only [lexL, Bool.not_eq_true', decide_eq_false_iff_not]
  by_cases h1 : lexC y x < 0
  · right
    intro h2
    have := lexC_trans (by omega) (by omega) h1 h2
    rw [lexC_refl] at this; omega
  · exact .inl h1
/-- There is one sorted list of given lists. -/
theorem lexL_one {w : Nat} {l1 l2 : List (List Int)} (h1 : ∀ x ∈ l1, x.length = w) (hp : l1.Perm l2) (s1 : l1.Pairwise (fun x y => lexL x y = true)) (s2 : l2.Pairwise (fun x y => lexL x y = true)) : l1 = l2 :=
  List.Perm.eq_of_pairwise (le := fun x y => lexL x y = true) (fun a b ha hb ab ba => lexL_anti (by rw [h1 a ha, h1 b (hp.mem_iff.2 hb)]) ab ba) s1 s2 hp
end Go.Proofs.Ytckcojgfgcjamaa
set_option maxRecDepth 100000
set_option linter.unusedSimpArgs false
set_option linter.unusedVariables false
namespace Go.Proofs.Ytckcojgfgcjamaa
open Go Go.RowKit
--@tbl l3Below = spec.l3Below
/-! Sorted tubes. -/
def insT (x : List Int) : List (List Int) → List (List Int)
  | [] => [x]
  | y :: l => if lexL x y = true then x :: y :: l else y :: insT x l
def srtT : List (List Int) → List (List Int)
  | [] => []
  | x :: l => insT x (srtT l)
theorem insT_perm (x : List Int) : ∀ l, (insT x l).Perm (x :: l)
  | [] => List.Perm.refl _
  | y :: l => by
    unfold insT
    split
    · exact List.Perm.refl _
    · exact (List.Perm.cons y (insT_perm x l)).trans (List.Perm.swap x y l)
theorem srtT_perm : ∀ l, (srtT l).Perm l
  | [] => List.Perm.refl _
  | x :: l => (insT_perm x (srtT l)).trans (List.Perm.cons x (srtT_perm l))
theorem insT_pw {w : Nat} {x : List Int} (hx : x.length = w) : ∀ {l : List (List Int)}, (∀ y ∈ l, y.length = w) → l.Pairwise (fun a b => lexL a b = true) → (insT x l).Pairwise (fun a b => lexL a b = true)
  | [], _, _ => by simp [insT]
  | y :: l, h, hp => by
    have hy := h y (List.mem_cons_self ..)
    rw [List.pairwise_cons] at hp
    unfold insT
    split
    · rename_i hxy
      rw [List.pairwise_cons]
      refine ⟨fun z hz => ?_, List.pairwise_cons.2 hp⟩
      rcases List.mem_cons.1 hz with rfl | hz
      · exact hxy
      · exact lexL_trans (by rw [hx, hy]) (by rw [hy, h z (List.mem_cons_of_mem _ hz)]) hxy (hp.1 z hz)
    · rename_i hxy
      have hyx := (lexL_total x y (by rw [hx, hy])).resolve_left hxy
      rw [List.pairwise_cons]
      refine ⟨fun z hz => ?_, insT_pw hx (fun z hz => h z (List.mem_cons_of_mem _ hz)) hp.2⟩
      rcases List.mem_cons.1 ((insT_perm x l).mem_iff.1 hz) with rfl | hz
      · exact hyx
      · exact hp.1 z hz
theorem srtT_pw {w : Nat} : ∀ {l : List (List Int)}, (∀ y ∈ l, y.length = w) → (srtT l).Pairwise (fun a b => lexL a b = true)
  | [], _ => List.Pairwise.nil
  | x :: l, h => insT_pw (h x (List.mem_cons_self ..)) (fun y hy => h y (List.mem_cons_of_mem _ ((srtT_perm l).mem_iff.1 hy))) (srtT_pw fun y hy => h y (List.mem_cons_of_mem _ hy))
def tubs (R : List Int) : List (List Int) := (List.range 6).map (tubeAt R)
theorem tubs_len {R : List Int} (hR : R.length = 24) : ∀ y ∈ tubs R, y.length = 4 := fun y hy => by
  obtain ⟨i, hi, rfl⟩ := List.mem_map.1 hy
  exact tubeAt_len hR (List.mem_range.1 hi)
theorem tubs_flat {R : List Int} (hR : R.length = 24) : (tubs R).flatten = R := by
  have h : ∀ m, m ≤ 6 → ((List.range m).map (tubeAt R)).flatten = R.take (m * 4) := fun m => by
    induction m with
    | zero => intro _; simp
    | succ m ih =>
      intro hm
      rw [List.range_succ, List.map_append, List.flatten_append, ih (by omega), show (m + 1) * 4 = m * 4 + 4 by omega, List.take_add]
      simp [tubeAt]
  have := h 6 (by omega)
  unfold tubs
  rw [this, List.take_of_length_le (by omega)]
def frm (R : List Int) : List Int := (srtT (tubs R)).flatten
/-- Another order of the tubes, sorted: the form. -/
theorem frm_of {R R' : List Int} (hR : R.length = 24) (hR' : R'.length = 24) (hp : (tubs R').Perm (tubs R)) (hs : (tubs R').Pairwise (fun a b => lexL a b = true)) : R' = frm R := by
  unfold frm
  rw [← lexL_one (tubs_len hR') (hp.trans (srtT_perm _).symm) hs (srtT_pw (tubs_len hR)), tubs_flat hR']
/-! Exchanges of tubes. -/
def putT (R : List Int) (k : Nat) (v : List Int) : List Int := R.take (k * 4) ++ v ++ R.drop (k * 4 + 4)
theorem putT_len {R v : List Int} {k : Nat} (hR : R.length = 24) (hv : v.length = 4) (hk : k < 6) : (putT R k v).length = 24 := by
  unfold putT
  rw [List.length_append, List.length_append, List.length_take, List.length_drop]; omega
theorem tubeAt_put {R v : List Int} {k q : Nat} (hR : R.length = 24) (hv : v.length = 4) (hk : k < 6) (hq : q < 6) : tubeAt (putT R k v) q = if q = k then v else tubeAt R q := by
  have l1 : (R.take (k * 4)).length = k * 4 := by rw [List.length_take]; omega
  unfold tubeAt putT
  by_cases h : q = k
  · subst h
    rw [if_pos rfl, List.append_assoc, List.drop_left' l1, List.take_left' hv]
  · rw [if_neg h]
    by_cases hlt : q < k
    · rw [List.append_assoc, List.drop_append_of_le_length (by omega), List.take_append_of_le_length (by rw [List.length_drop]; omega), List.drop_take, List.take_take, Nat.min_eq_left (by omega)]
    · obtain ⟨d, rfl⟩ : ∃ d, q = k + 1 + d := ⟨q - (k + 1), by omega⟩
      rw [show (k + 1 + d) * 4 = (k * 4 + 4) + d * 4 by omega, ← List.drop_drop, List.drop_left' (by rw [List.length_append, l1, hv]), List.drop_drop]
def swT (R : List Int) (k : Nat) : List Int := putT (putT R k (tubeAt R (k + 1))) (k + 1) (tubeAt R k)
theorem swT_len {R : List Int} {k : Nat} (hR : R.length = 24) (hk : k < 5) : (swT R k).length = 24 :=
  putT_len (putT_len hR (tubeAt_len hR (by omega)) (by omega)) (tubeAt_len hR (by omega)) (by omega)
theorem tubeAt_sw {R : List Int} {k q : Nat} (hR : R.length = 24) (hk : k < 5) (hq : q < 6) : tubeAt (swT R k) q = if q = k then tubeAt R (k + 1) else if q = k + 1 then tubeAt R k else tubeAt R q := by
  unfold swT
  rw [tubeAt_put (putT_len hR (tubeAt_len hR (by omega)) (by omega)) (tubeAt_len hR (by omega)) (by omega) hq, tubeAt_put hR (tubeAt_len hR (by omega)) (by omega) hq]
  by_cases h1 : q = k + 1
  · rw [if_pos h1, if_neg (by omega), if_pos h1]
  · rw [if_neg h1, if_neg h1]
theorem tubs_sw {R : List Int} {k : Nat} (hR : R.length = 24) (hk : k < 5) : (tubs (swT R k)).Perm (tubs R) := by
  have e : tubs (swT R k) = (List.range 6).map fun q => if q = k then tubeAt R (k + 1) else if q = k + 1 then tubeAt R k else tubeAt R q :=
    List.map_congr_left fun q hq => tubeAt_sw hR hk (List.mem_range.1 hq)
  rw [e]
  have r6 : List.range 6 = [0, 1, 2, 3, 4, 5] := rfl
  unfold tubs
  rw [r6]
  obtain rfl | rfl | rfl | rfl | rfl : k = 0 ∨ k = 1 ∨ k = 2 ∨ k = 3 ∨ k = 4 := by omega
  · exact List.Perm.swap ..
  · exact (List.Perm.swap ..).cons _
  · exact ((List.Perm.swap ..).cons _).cons _
  · exact (((List.Perm.swap ..).cons _).cons _).cons _
  · exact ((((List.Perm.swap ..).cons _).cons _).cons _).cons _
/-- What a bubble sort keeps, in round i at place k. -/
structure Bub (R0 R : List Int) (i k : Nat) : Prop where
  len : R.length = 24
  perm : (tubs R).Perm (tubs R0)
  tail : ∀ p q, p < q → q ≤ 5 → 6 - i ≤ q → lexL (tubeAt R p) (tubeAt R q) = true
  top : ∀ p, p < k → lexL (tubeAt R p) (tubeAt R k) = true
  fin : 5 - i ≤ k → ∀ p, p < 5 - i → lexL (tubeAt R p) (tubeAt R (5 - i)) = true
theorem Bub.start {R : List Int} (hR : R.length = 24) : Bub R R 0 0 := ⟨hR, List.Perm.refl _, fun p q h1 h2 h3 => by omega, fun p h => by omega, fun h => by omega⟩
theorem Bub.round {R0 R : List Int} {i : Nat} (h : Bub R0 R i 5) (hi : i < 6) : Bub R0 R (i + 1) 0 := by
  refine ⟨h.len, h.perm, fun p q h1 h2 h3 => ?_, fun p hp => by omega, fun h0 p hp => by omega⟩
  by_cases hq : 6 - i ≤ q
  · exact h.tail p q h1 h2 hq
  · obtain rfl : q = 5 - i := by omega
    exact h.fin (by omega) p h1
theorem Bub.swap {R0 R : List Int} {i k : Nat} (h : Bub R0 R i k) (hk : k < 5) (hc : lexC (tubeAt R (k + 1)) (tubeAt R k) < 0) : Bub R0 (swT R k) i (k + 1) := by
  have l4 := fun q (hq : q < 6) => tubeAt_len h.len hq
  have hl : lexL (tubeAt R (k + 1)) (tubeAt R k) = true := by
    simp only [lexL, Bool.not_eq_true', decide_eq_false_iff_not]
    intro h2
    have := lexC_trans (by rw [l4 k (by omega), l4 (k + 1) (by omega)]) (by rw [l4 k (by omega), l4 (k + 1) (by omega)]) h2 hc
    rw [lexC_refl] at this; omega
  have hnot : k + 1 < 6 - i := by
    rcases Nat.lt_or_ge (k + 1) (6 - i) with h1 | h1
    · exact h1
    · have := h.tail k (k + 1) (by omega) (by omega) h1
      simp only [lexL, Bool.not_eq_true', decide_eq_false_iff_not] at this
      exact absurd hc this
  have ts := fun q (hq : q < 6) => tubeAt_sw (k := k) h.len hk hq
  have htop : ∀ p, p < k + 1 → lexL (tubeAt (swT R k) p) (tubeAt (swT R k) (k + 1)) = true := fun p hp => by
    rw [ts p (by omega), ts (k + 1) (by omega), if_neg (by omega : ¬ k + 1 = k), if_pos (rfl : k + 1 = k + 1)]
    by_cases hpk : p = k
    · rw [if_pos hpk]; exact hl
    · rw [if_neg hpk, if_neg (by omega)]; exact h.top p (by omega)
  refine ⟨swT_len h.len hk, (tubs_sw h.len hk).trans h.perm, fun p q h1 h2 h3 => ?_, htop, fun h1 p hp => ?_⟩
  · rw [ts p (by omega), ts q (by omega), if_neg (by omega : ¬ q = k), if_neg (by omega : ¬ q = k + 1)]
    by_cases hp1 : p = k
    · rw [if_pos hp1]; exact h.tail (k + 1) q (by omega) h2 h3
    · rw [if_neg hp1]
      by_cases hp2 : p = k + 1
      · rw [if_pos hp2]; exact h.tail k q (by omega) h2 h3
      · rw [if_neg hp2]; exact h.tail p q h1 h2 h3
  · obtain h4 : 5 - i = k + 1 := by omega
    rw [h4]
    exact htop p (by omega)
theorem Bub.done {R0 R : List Int} {k : Nat} (hR : R0.length = 24) (h : Bub R0 R 6 k) : R = frm R0 := by
  refine frm_of hR h.len h.perm ?_
  unfold tubs
  rw [List.pairwise_map]
  have : (List.range 6).Pairwise (fun a b => a < b ∧ b < 6) := by decide
  exact this.imp fun {a b} hab => h.tail a b hab.1 (by omega) (by omega)
--@tbl l3Form = spec.l3Form
end Go.Proofs.Ytckcojgfgcjamaa
set_option maxRecDepth 100000
set_option linter.unusedSimpArgs false
set_option linter.unusedVariables false
namespace Go.Proofs.Ytckcojgfgcjamaa
open Go Go.RowKit
/-! Moved layers. -/
end Go.Proofs.Ytckcojgfgcjamaa
set_option maxRecDepth 100000
set_option linter.unusedSimpArgs false
set_option linter.unusedVariables false
namespace Go.Proofs.Ytckcojgfgcjamaa
open Go Go.RowKit
/-! CountRules. -/
end Go.Proofs.Ytckcojgfgcjamaa
set_option maxRecDepth 100000
set_option linter.unusedSimpArgs false
set_option linter.unusedVariables false
namespace Go.Proofs.Ytckcojgfgcjamaa
open Go Go.RowKit
/-! DeleteFunc with a closure over a rack and depths. -/
/-! The lists. -/
end Go.Proofs.Ytckcojgfgcjamaa
set_option maxRecDepth 100000
set_option linter.unusedSimpArgs false
set_option linter.unusedVariables false
namespace Go.Proofs.Ytckcojgfgcjamaa
open Go Go.RowKit
theorem GL_cnt (c : Nat → Nat → Bool) : ∀ m, (GL c m).length = 2 * ((List.range m).countP fun k => c (k / 6) (k % 6))
  | 0 => rfl
  | m + 1 => by
    rw [GL_succ, List.length_append, GL_cnt c m, List.range_succ, List.countP_append]
    unfold prG
    by_cases h : c (m / 6) (m % 6) = true
    · rw [if_pos h]; simp [h]; omega
    · rw [if_neg h]; simp [h]
end Go.Proofs.Ytckcojgfgcjamaa
set_option maxRecDepth 100000
set_option linter.unusedSimpArgs false
set_option linter.unusedVariables false
namespace Go.Proofs.Ytckcojgfgcjamaa
open Go Go.RowKit
/-- A code of bytes: nil, or a window of a block. -/
def BytV (kc : Nat) (v : SV) (H : Heap) : Prop := (v = .nils ∧ ∃ o, hget H kc = some o) ∨ ∃ (off len cap : Nat) (L : List Int), v = .slice kc off len cap ∧ hget H kc = some (.winU off L) ∧ L.length = len ∧ len ≤ 1000000000 ∧ ∀ x ∈ L, 0 ≤ x ∧ x ≤ 255
theorem BytV.wf {kc n : Nat} {v : SV} {H : Heap} (h : BytV kc v H) (hw : hwf n H) : v.wf n ∧ kc < n := by
  rcases h with ⟨rfl, o, h⟩ | ⟨off, len, cap, L, rfl, h, _⟩
  · exact ⟨trivial, (hw _ _ h).1⟩
  · exact ⟨(hw _ _ h).1, (hw _ _ h).1⟩
theorem BytV.one {kc : Nat} {v : SV} {H : Heap} (h : BytV kc v H) : oneCellS v = true := by
  rcases h with ⟨rfl, o, h⟩ | ⟨off, len, cap, L, rfl, h, _⟩ <;> rfl
theorem BytV.at {kc : Nat} {v : SV} {H H' : Heap} (h : BytV kc v H) (hf : ∀ o, hget H kc = some o → hget H' kc = some o) : BytV kc v H' := by
  rcases h with ⟨rfl, o, h⟩ | ⟨off, len, cap, L, rfl, h, h2⟩
  · exact .inl ⟨rfl, o, hf _ h⟩
  · exact .inr ⟨off, len, cap, L, rfl, hf _ h, h2⟩
/-- A cursor, its bytes, and the number of draws. -/
def CurH (c kc a : Nat) (H : Heap) : Prop := ∃ (v : SV) (s : Int), hget H c = some (.cells [v, .int a, .lit (.int .u64 s)] 80) ∧ BytV kc v H ∧ kc ≠ c
/-- What draws leave. -/
structure Drawn (c kc a k n : Nat) (H H' : Heap) (n' : Nat) : Prop where
  le : n ≤ n'
  wf : hwf n' H'
  cur : ∃ a', a ≤ a' ∧ a' ≤ a + k ∧ CurH c kc a' H'
  fr : ∀ i o, i < n → i ≠ c → hget H i = some o → hget H' i = some o
theorem u8_in {x : Int} (h : 0 ≤ x ∧ x ≤ 255) : In64 x := by unfold In64; omega
theorem and_255 (x : Int) : 0 ≤ IntKind.u64.wrap ((BitVec.ofInt IntKind.u64.bits x &&& BitVec.ofInt IntKind.u64.bits 255).toNat : Int) ∧ IntKind.u64.wrap ((BitVec.ofInt IntKind.u64.bits x &&& BitVec.ofInt IntKind.u64.bits 255).toNat : Int) ≤ 255 := by
  have h : (BitVec.ofInt IntKind.u64.bits x &&& BitVec.ofInt IntKind.u64.bits 255).toNat ≤ 255 := by
    rw [BitVec.toNat_and]
    exact Nat.le_trans Nat.and_le_right (by decide)
  generalize (BitVec.ofInt IntKind.u64.bits x &&& BitVec.ofInt IntKind.u64.bits 255).toNat = y at h ⊢
  have e : IntKind.u64.wrap (y : Int) = y := by
    unfold IntKind.wrap
    have h2 : ((y : Int) % (2 ^ IntKind.u64.bits : Int)) = y := Int.emod_eq_of_lt (by omega) (by show (y : Int) < 18446744073709551616; omega)
    simp only [h2]
    rfl
  rw [e]; omega
def next_F : List SV → Heap → Nat → Nat → K1 → Prop
  | [.ptr c 0], H, n, m, κ => ∃ kc a, CurH c kc a H ∧ m ≤ c ∧ a ≤ 1000000 ∧ ∀ x H', 0 ≤ x → x ≤ 255 → Drawn c kc a 1 n H H' n → κ (.int x) H' n
  | _, _, _, _, _ => False
theorem next_vc (c kc a m n : Nat) (H : Heap) (hC : CurH c kc a H) (hm : m ≤ c) (ha : a ≤ 1000000) (hwH : hwf n H) :
    codeVC (⟨Try.prog, tys, [], [], true, true, m, [], []⟩ : Cx) n (Try.f107.body.getD .skip) (argS 0 [.ptr c 0]) H n
      (retK tys Try.f107.results.toList fun v H' n' => ∃ x : Int, v = .int x ∧ 0 ≤ x ∧ x ≤ 255 ∧ Drawn c kc a 1 n H H' n ∧ n' = n) := by
  obtain ⟨v, s, h1, h2, h6⟩ := hC
  have hc := (hwH _ _ h1).1
  obtain ⟨hvw, hk⟩ := h2.wf hwH
  have fin : ∀ s', Drawn c kc a 1 n H ((c, .cells [v, .int ((a : Int) + 1), .lit (.int .u64 s')] 80) :: (c, .cells [v, .int ((a : Int) + 1), .lit (.int .u64 s)] 80) :: H) n := fun s' =>
    ⟨Nat.le_refl _, hwf_cons (hwf_cons hwH hc (by simp [SObj.wf, wfL, SV.wf]; exact hvw)) hc (by simp [SObj.wf, wfL, SV.wf]; exact hvw),
      ⟨a + 1, by omega, by omega, v, s', by simp [hget_cons], h2.at (fun o ho => by rw [hget_cons, if_neg h6, hget_cons, if_neg h6]; exact ho), h6⟩,
      fun i o _ hi ho => by rw [hget_cons, if_neg hi, hget_cons, if_neg hi]; exact ho⟩
  rcases h2 with ⟨rfl, o, h2⟩ | ⟨off, len, cap, L, rfl, h2, h3, h4, h5⟩
  · have hil : ¬ (a : Int) < 0 := by omega
    have hil2 : ¬ (a : Int) + 1 ≤ 0 := by omega
    simp -implicitDefEqProofs only [Try.f107, Option.getD_some, argS, h1, hil, hil2, ZB, Int.reduceToNat, Nat.reduceLT, Nat.reduceLeDiff, Int.reduceLE, Int.reduceLT, Nat.reduceEqDiff, Nat.reduceSub, SB, SV.known, packR, ne_eq, reduceCtorEq, Nat.reduceEqDiff, ↓reduceIte, if_true, if_false, eq_self, Nat.reduceAdd, Nat.reduceMul, Nat.reduceSub, forall_const, oneCellS, litOne, flat1, Kd.isSca, flat, TYB]
    exact ⟨by unfold In64; omega, hm, hm, u8_in (and_255 _), _, rfl, (and_255 _).1, (and_255 _).2, fin _⟩
  by_cases hal : a < len
  · have hil : (a : Int) < len := by omega
    have hil2 : (a : Int) + 1 ≤ len := by omega
    have gL : off ≤ off + a ∧ off + a < off + L.length := by omega
    have ga : off + a - off = a := by omega
    have bL : 0 ≤ L.getD a 0 ∧ L.getD a 0 ≤ 255 := by
      rw [List.getD_eq_getElem?_getD, List.getElem?_eq_getElem (by omega)]
      exact h5 _ (List.getElem_mem _)
    have iL := u8_in bL
    simp -implicitDefEqProofs only [Try.f107, Option.getD_some, argS, h1, h2, hil, hil2, gL, ga, iL, ZB, Int.reduceToNat, Nat.reduceLT, Nat.reduceLeDiff, Int.reduceLE, Int.reduceLT, Nat.reduceEqDiff, Nat.reduceSub, SB, SV.known, packR, ne_eq, reduceCtorEq, Nat.reduceEqDiff, ↓reduceIte, if_true, if_false, eq_self, Nat.reduceAdd, Nat.reduceMul, Nat.reduceSub, forall_const, oneCellS, litOne, flat1, Kd.isSca, flat, TYB]
    exact ⟨by omega, by unfold In64; omega, hm, hm, _, rfl, bL.1, bL.2, fin _⟩
  · have hil : ¬ (a : Int) < len := by omega
    have hil2 : ¬ (a : Int) + 1 ≤ len := by omega
    simp -implicitDefEqProofs only [Try.f107, Option.getD_some, argS, h1, h2, hil, hil2, ZB, Int.reduceToNat, Nat.reduceLT, Nat.reduceLeDiff, Int.reduceLE, Int.reduceLT, Nat.reduceEqDiff, Nat.reduceSub, SB, SV.known, packR, ne_eq, reduceCtorEq, Nat.reduceEqDiff, ↓reduceIte, if_true, if_false, eq_self, Nat.reduceAdd, Nat.reduceMul, Nat.reduceSub, forall_const, oneCellS, litOne, flat1, Kd.isSca, flat, TYB]
    exact ⟨by unfold In64; omega, hm, hm, u8_in (and_255 _), _, rfl, (and_255 _).1, (and_255 _).2, fin _⟩
theorem fnx_next : FnOK Try.prog 107 Try.f107 (Try.f107.body.getD .skip) [] [] := ⟨Try.func107, rfl, by kernel_rfl, by kernel_rfl⟩
theorem next_T : ∀ args H n m κ, next_F args H n m κ → GenOK Try.prog 107 args H n m κ := by
  intro args H n m κ h
  unfold next_F at h
  split at h
  · rename_i c
    obtain ⟨kc, a, hC, hm, ha, h1⟩ := h
    exact gen_direct (X := ⟨Try.prog, tys, [], [], true, true, m, [], []⟩) fnx_next ⟨tys_ok, .nil, .nil, mixed⟩ rfl (Nat.le_of_ble_eq_true rfl) (fun hwH hwa => next_vc c kc a m n H hC hm ha hwH) fun hwH v H' n' hψ h3 h4 h5 => by
      obtain ⟨x, rfl, g1, g2, g3, rfl⟩ := hψ
      exact h1 x H' g1 g2 g3
  · exact h.elim
theorem Drawn.trans {c kc a k a' k' n n1 n2 : Nat} {H H1 H2 : Heap} (h1 : Drawn c kc a k n H H1 n1) (h2 : Drawn c kc a' k' n1 H1 H2 n2) (h : a' ≤ a + k) (h' : a ≤ a') : Drawn c kc a (k + k') n H H2 n2 :=
  ⟨Nat.le_trans h1.le h2.le, h2.wf, by
    obtain ⟨b, g1, g2, g3⟩ := h2.cur
    exact ⟨b, by omega, by omega, g3⟩, fun i o hi hc ho => h2.fr i o (Nat.lt_of_lt_of_le hi h1.le) hc (h1.fr i o hi hc ho)⟩
theorem Drawn.more {c kc a k k' n n1 : Nat} {H H1 : Heap} (h1 : Drawn c kc a k n H H1 n1) (h : k ≤ k') : Drawn c kc a k' n H H1 n1 :=
  ⟨h1.le, h1.wf, by
    obtain ⟨b, g1, g2, g3⟩ := h1.cur
    exact ⟨b, g1, by omega, g3⟩, h1.fr⟩
/-- A number below another one. -/
def pick_F : List SV → Heap → Nat → Nat → K1 → Prop
  | [.ptr c 0, .int k], H, n, m, κ => ∃ kc a, CurH c kc a H ∧ m ≤ c ∧ a ≤ 999990 ∧ ∀ (x : Int) H', 0 ≤ x → (x < k ∨ x = 0) → Drawn c kc a 2 n H H' n → κ (.int x) H' n
  | _, _, _, _, _ => False
theorem pick_vc (c kc a m n : Nat) (k : Int) (H : Heap) (hC : CurH c kc a H) (hm : m ≤ c) (ha : a ≤ 999990) (hwH : hwf n H) :
    codeVC (⟨Try.prog, tys, [], [(107, next_F)], true, true, m, [107], []⟩ : Cx) n (Try.f61.body.getD .skip) (argS 0 [.ptr c 0, .int k]) H n
      (retK tys Try.f61.results.toList fun v H' n' => ∃ x : Int, v = .int x ∧ 0 ≤ x ∧ (x < k ∨ x = 0) ∧ Drawn c kc a 2 n H H' n ∧ n' = n) := by
  have d0 : Drawn c kc a 2 n H H n := ⟨Nat.le_refl _, hwH, ⟨a, Nat.le_refl _, by omega, hC⟩, fun i o _ _ h => h⟩
  by_cases hk : k ≤ 1
  · simp -implicitDefEqProofs only [Try.f61, Option.getD_some, argS, hk, ZB, Int.reduceToNat, Nat.reduceLT, Nat.reduceLeDiff, Int.reduceLE, Int.reduceLT, Nat.reduceEqDiff, Nat.reduceSub, SB, SV.known, packR, ne_eq, reduceCtorEq, Nat.reduceEqDiff, ↓reduceIte, if_true, if_false, eq_self, Nat.reduceAdd, Nat.reduceMul, Nat.reduceSub, forall_const, oneCellS, litOne, flat1, Kd.isSca, flat, TYB]
    exact ⟨0, rfl, Int.le_refl _, .inr rfl, d0⟩
  · simp -implicitDefEqProofs only [Try.f61, Option.getD_some, argS, next_F, hk, ZB, Int.reduceToNat, Nat.reduceLT, Nat.reduceLeDiff, Int.reduceLE, Int.reduceLT, Nat.reduceEqDiff, Nat.reduceSub, SB, SV.known, packR, ne_eq, reduceCtorEq, Nat.reduceEqDiff, ↓reduceIte, if_true, if_false, eq_self, Nat.reduceAdd, Nat.reduceMul, Nat.reduceSub, forall_const, oneCellS, litOne, flat1, Kd.isSca, flat, TYB]
    refine ⟨kc, a, hC, hm, by omega, fun x H1 hx0 hx1 hd1 => ?_⟩
    obtain ⟨a1, ha1, ha1', hC1⟩ := hd1.cur
    by_cases hk2 : 200 < k
    · simp -implicitDefEqProofs only [next_F, hk2, ZB, Int.reduceToNat, Nat.reduceLT, Nat.reduceLeDiff, Int.reduceLE, Int.reduceLT, Nat.reduceEqDiff, Nat.reduceSub, SB, SV.known, packR, ne_eq, reduceCtorEq, Nat.reduceEqDiff, ↓reduceIte, if_true, if_false, eq_self, Nat.reduceAdd, Nat.reduceMul, Nat.reduceSub, forall_const, oneCellS, litOne, flat1, Kd.isSca, flat, TYB]
      refine ⟨⟨by unfold In64; omega, kc, a1, hC1, hm, by omega, fun y H2 hy0 hy1 hd2 => ?_⟩, fun h => absurd trivial h⟩
      have hr := Int.tmod_lt_of_pos (x * 256 + y) (show 0 < k by omega)
      have hr0 := Int.tmod_nonneg k (show 0 ≤ x * 256 + y by omega)
      exact ⟨by unfold In64; omega, by omega, _, rfl, hr0, .inl hr, hd1.trans hd2 ha1' ha1⟩
    · simp -implicitDefEqProofs only [next_F, hk2, ZB, Int.reduceToNat, Nat.reduceLT, Nat.reduceLeDiff, Int.reduceLE, Int.reduceLT, Nat.reduceEqDiff, Nat.reduceSub, SB, SV.known, packR, ne_eq, reduceCtorEq, Nat.reduceEqDiff, ↓reduceIte, if_true, if_false, eq_self, Nat.reduceAdd, Nat.reduceMul, Nat.reduceSub, forall_const, oneCellS, litOne, flat1, Kd.isSca, flat, TYB]
      exact ⟨by omega, _, rfl, Int.tmod_nonneg k hx0, .inl (Int.tmod_lt_of_pos x (show 0 < k by omega)), hd1.more (by omega)⟩
theorem fnx_pick : FnOK Try.prog 61 Try.f61 (Try.f61.body.getD .skip) [107] [] := ⟨Try.func61, rfl, by kernel_rfl, by kernel_rfl⟩
theorem pick_T : ∀ args H n m κ, pick_F args H n m κ → GenOK Try.prog 61 args H n m κ := by
  intro args H n m κ h
  unfold pick_F at h
  split at h
  · rename_i c k
    obtain ⟨kc, a, hC, hm, ha, h1⟩ := h
    exact gen_direct (X := ⟨Try.prog, tys, [], [(107, next_F)], true, true, m, [107], []⟩) fnx_pick ⟨tys_ok, .nil, .cons next_T .nil, mixed⟩ rfl (Nat.le_of_ble_eq_true rfl) (fun hwH hwa => pick_vc c kc a m n k H hC hm ha hwH) fun hwH v H' n' hψ h3 h4 h5 => by
      obtain ⟨x, rfl, g1, g2, g3, rfl⟩ := hψ
      exact h1 x H' g1 g2 g3
  · exact h.elim
def one_F : List SV → Heap → Nat → Nat → K1 → Prop
  | [.ptr c 0, .int _], H, n, m, κ => ∃ kc a, CurH c kc a H ∧ m ≤ c ∧ a ≤ 999990 ∧ ∀ (b : Bool) H', Drawn c kc a 2 n H H' n → κ (.bool b) H' n
  | _, _, _, _, _ => False
theorem one_vc (c kc a m n : Nat) (k : Int) (H : Heap) (hC : CurH c kc a H) (hm : m ≤ c) (ha : a ≤ 999990) (hwH : hwf n H) :
    codeVC (⟨Try.prog, tys, [], [(61, pick_F)], true, true, m, [61], []⟩ : Cx) n (Try.f60.body.getD .skip) (argS 0 [.ptr c 0, .int k]) H n
      (retK tys Try.f60.results.toList fun v H' n' => ∃ b : Bool, v = .bool b ∧ Drawn c kc a 2 n H H' n ∧ n' = n) := by
  simp -implicitDefEqProofs only [Try.f60, Option.getD_some, argS, pick_F, ZB, Int.reduceToNat, Nat.reduceLT, Nat.reduceLeDiff, Int.reduceLE, Int.reduceLT, Nat.reduceEqDiff, Nat.reduceSub, SB, SV.known, packR, ne_eq, reduceCtorEq, Nat.reduceEqDiff, ↓reduceIte, if_true, if_false, eq_self, Nat.reduceAdd, Nat.reduceMul, Nat.reduceSub, forall_const, oneCellS, litOne, flat1, Kd.isSca, flat, TYB]
  exact ⟨kc, a, hC, hm, ha, fun x H1 _ _ hd1 => ⟨_, rfl, hd1⟩⟩
theorem fnx_one : FnOK Try.prog 60 Try.f60 (Try.f60.body.getD .skip) [61] [] := ⟨Try.func60, rfl, by kernel_rfl, by kernel_rfl⟩
theorem one_T : ∀ args H n m κ, one_F args H n m κ → GenOK Try.prog 60 args H n m κ := by
  intro args H n m κ h
  unfold one_F at h
  split at h
  · rename_i c k
    obtain ⟨kc, a, hC, hm, ha, h1⟩ := h
    exact gen_direct (X := ⟨Try.prog, tys, [], [(61, pick_F)], true, true, m, [61], []⟩) fnx_one ⟨tys_ok, .nil, .cons pick_T .nil, mixed⟩ rfl (Nat.le_of_ble_eq_true rfl) (fun hwH hwa => one_vc c kc a m n k H hC hm ha hwH) fun hwH v H' n' hψ h3 h4 h5 => by
      obtain ⟨b, rfl, g3, rfl⟩ := hψ
      exact h1 b H' g3
  · exact h.elim
/-- One of some numbers. -/
def among_F : List SV → Heap → Nat → Nat → K1 → Prop
  | [.ptr c 0, .slice b 0 len _], H, n, m, κ => match hget H b with
    | some (.ints L _) => 0 < len ∧ len ≤ L.length ∧ len ≤ 1000 ∧ b < n ∧ b ≠ c ∧ ∃ kc a, CurH c kc a H ∧ m ≤ c ∧ a ≤ 999990 ∧ ∀ (i : Nat) H', i < len → Drawn c kc a 2 n H H' n → κ (.int (L.getD i 0)) H' n
    | _ => False
  | _, _, _, _, _ => False
theorem among_vc (c kc a m n b len cap e : Nat) (L : List Int) (H : Heap) (hb : hget H b = some (.ints L e)) (hl : 0 < len ∧ len ≤ L.length) (hl2 : len ≤ 1000) (hbn : b < n) (hbc : b ≠ c) (hC : CurH c kc a H) (hm : m ≤ c) (ha : a ≤ 999990) (hwH : hwf n H) :
    codeVC (⟨Try.prog, tys, [], [(61, pick_F)], true, true, m, [61], []⟩ : Cx) n (Try.f62.body.getD .skip) (argS 0 [.ptr c 0, .slice b 0 len cap]) H n
      (retK tys Try.f62.results.toList fun v H' n' => ∃ i : Nat, v = .int (L.getD i 0) ∧ i < len ∧ Drawn c kc a 2 n H H' n ∧ n' = n) := by
  simp -implicitDefEqProofs only [Try.f62, Option.getD_some, argS, pick_F, hb, ZB, Int.reduceToNat, Nat.reduceLT, Nat.reduceLeDiff, Int.reduceLE, Int.reduceLT, Nat.reduceEqDiff, Nat.reduceSub, SB, SV.known, packR, ne_eq, reduceCtorEq, Nat.reduceEqDiff, ↓reduceIte, if_true, if_false, eq_self, Nat.reduceAdd, Nat.reduceMul, Nat.reduceSub, forall_const, oneCellS, litOne, flat1, Kd.isSca, flat, TYB]
  refine ⟨kc, a, hC, hm, ha, fun x H1 hx0 hx1 hd1 => ?_⟩
  obtain ⟨i, rfl⟩ : ∃ i : Nat, x = i := ⟨x.toNat, by omega⟩
  have hi : i < len := by omega
  have hil : (i : Int) < len := by omega
  have hb1 := hd1.fr b _ hbn hbc hb
  simp -implicitDefEqProofs only [hb1, hil, ZB, Int.reduceToNat, Nat.reduceLT, Nat.reduceLeDiff, Int.reduceLE, Int.reduceLT, Nat.reduceEqDiff, Nat.reduceSub, SB, SV.known, packR, ne_eq, reduceCtorEq, Nat.reduceEqDiff, ↓reduceIte, if_true, if_false, eq_self, Nat.reduceAdd, Nat.reduceMul, Nat.reduceSub, forall_const, oneCellS, litOne, flat1, Kd.isSca, flat, TYB]
  exact ⟨by omega, by omega, i, rfl, hi, hd1⟩
theorem fnx_among : FnOK Try.prog 62 Try.f62 (Try.f62.body.getD .skip) [61] [] := ⟨Try.func62, rfl, by kernel_rfl, by kernel_rfl⟩
theorem among_T : ∀ args H n m κ, among_F args H n m κ → GenOK Try.prog 62 args H n m κ := by
  intro args H n m κ h
  unfold among_F at h
  split at h
  · rename_i c b len cap
    split at h
    · rename_i L e hb
      obtain ⟨g1, g2, g3, g4, g5, kc, a, hC, hm, ha, h1⟩ := h
      exact gen_direct (X := ⟨Try.prog, tys, [], [(61, pick_F)], true, true, m, [61], []⟩) fnx_among ⟨tys_ok, .nil, .cons pick_T .nil, mixed⟩ rfl (Nat.le_of_ble_eq_true rfl) (fun hwH hwa => among_vc c kc a m n b len cap e L H hb ⟨g1, g2⟩ g3 g4 g5 hC hm ha hwH) fun hwH v H' n' hψ h3 h4 h5 => by
        obtain ⟨i, rfl, hi, g6, rfl⟩ := hψ
        exact h1 i H' hi g6
    · exact h.elim
  · exact h.elim
theorem CurH.lt {c kc a n : Nat} {H : Heap} (h : CurH c kc a H) (hw : hwf n H) : c < n ∧ kc < n ∧ kc ≠ c := by
  obtain ⟨v, s, h1, h2, h6⟩ := h
  exact ⟨(hw _ _ h1).1, (h2.wf hw).2, h6⟩
theorem CurH.cons {c kc a k : Nat} {H : Heap} (h : CurH c kc a H) (o : SObj) (h1 : k ≠ c) (h2 : k ≠ kc) : CurH c kc a ((k, o) :: H) := by
  obtain ⟨v, s, g1, g2, g6⟩ := h
  exact ⟨v, s, by rw [hget_cons, if_neg (fun e => h1 e.symm)]; exact g1, g2.at (fun o ho => by rw [hget_cons, if_neg (fun e => h2 e.symm)]; exact ho), g6⟩
/-- A block put beside. -/
theorem Drawn.put {c kc a k n0 n n' k0 : Nat} {H0 H : Heap} (h : Drawn c kc a k n0 H0 H n) (hc : c < n0 ∧ kc < n0 ∧ kc ≠ c) (o : SObj) (h0 : n0 ≤ k0) (hk : k0 < n') (hn : n ≤ n') (ho : o.wf n') : Drawn c kc a k n0 H0 ((k0, o) :: H) n' := by
  obtain ⟨b, g1, g2, g3⟩ := h.cur
  exact ⟨Nat.le_trans h.le hn, hwf_cons (hwf_mono hn h.wf) hk ho, ⟨b, g1, g2, g3.cons o (by omega) (by omega)⟩, fun i o' hi hic ho' => by
    rw [hget_cons, if_neg (by omega)]
    exact h.fr i o' hi hic ho'⟩
theorem Drawn.start {c kc a n : Nat} {H : Heap} (h : CurH c kc a H) (hw : hwf n H) : Drawn c kc a 0 n H H n := ⟨Nat.le_refl _, hw, ⟨a, Nat.le_refl _, Nat.le_refl _, h⟩, fun _ _ _ _ h => h⟩
/-- One of a few numbers, drawn from a list just made. -/
theorem among_new {c kc a k n0 n m : Nat} {H0 H : Heap} {κ : K1} (h : Drawn c kc a k n0 H0 H n) (hC : CurH c kc a H0) (hw0 : hwf n0 H0) (hm : m ≤ c) (ha : a + k ≤ 999980) (L : List Int) (e len cap : Nat) (hl : 0 < len ∧ len ≤ L.length) (hl2 : len ≤ 1000)
    (hκ : ∀ (i : Nat) H', i < len → Drawn c kc a (k + 2) n0 H0 H' (n + 1) → κ (.int (L.getD i 0)) H' (n + 1)) : among_F [.ptr c 0, .slice n 0 len cap] ((n, .ints L e) :: H) (n + 1) m κ := by
  obtain ⟨q1, q2, q3⟩ := hC.lt hw0
  have h2 := h.put (hC.lt hw0) (k0 := n) (n' := n + 1) (.ints L e) h.le (by omega) (by omega) trivial
  obtain ⟨b, g1, g2, g3⟩ := h2.cur
  have hle := h.le
  simp only [among_F, hget_cons, if_true]
  exact ⟨hl.1, hl.2, hl2, by omega, by omega, kc, b, g3, hm, by omega, fun i H' hi hd => hκ i H' hi (h2.trans hd g2 g1)⟩
def place_F : List SV → Heap → Nat → Nat → K1 → Prop
  | [.ptr c 0], H, n, m, κ => ∃ kc a, CurH c kc a H ∧ m ≤ c ∧ a ≤ 999900 ∧ ∀ (x : Int) H' n', In64 x → Drawn c kc a 4 n H H' n' → κ (.int x) H' n'
  | _, _, _, _, _ => False
theorem place_vc (c kc a m n : Nat) (H : Heap) (hC : CurH c kc a H) (hm : m ≤ c) (ha : a ≤ 999900) (hwH : hwf n H) :
    codeVC (⟨Try.prog, tys, [], [(61, pick_F), (60, one_F), (62, among_F)], true, true, m, [61, 60, 62], []⟩ : Cx) n (Try.f69.body.getD .skip) (argS 0 [.ptr c 0]) H n
      (retK tys Try.f69.results.toList fun v H' n' => ∃ x : Int, v = .int x ∧ In64 x ∧ Drawn c kc a 4 n H H' n') := by
  simp -implicitDefEqProofs only [Try.f69, Option.getD_some, argS, one_F, ZB, Int.reduceToNat, Nat.reduceLT, Nat.reduceLeDiff, Int.reduceLE, Int.reduceLT, Nat.reduceEqDiff, Nat.reduceSub, SB, SV.known, packR, ne_eq, reduceCtorEq, Nat.reduceEqDiff, ↓reduceIte, if_true, if_false, eq_self, Nat.reduceAdd, Nat.reduceMul, Nat.reduceSub, forall_const, oneCellS, litOne, flat1, Kd.isSca, flat, TYB]
  refine ⟨kc, a, hC, hm, by omega, fun b H1 hd1 => ?_⟩
  obtain ⟨a1, ha1, ha1', hC1⟩ := hd1.cur
  cases b
  · simp -implicitDefEqProofs only [pick_F, ZB, Int.reduceToNat, Nat.reduceLT, Nat.reduceLeDiff, Int.reduceLE, Int.reduceLT, Nat.reduceEqDiff, Nat.reduceSub, SB, SV.known, packR, ne_eq, reduceCtorEq, Nat.reduceEqDiff, ↓reduceIte, if_true, if_false, eq_self, Nat.reduceAdd, Nat.reduceMul, Nat.reduceSub, forall_const, oneCellS, litOne, flat1, Kd.isSca, flat, TYB]
    exact ⟨kc, a1, hC1, hm, by omega, fun x H2 hx0 hx1 hd2 => ⟨x, rfl, by unfold In64; omega, hd1.trans hd2 ha1' ha1⟩⟩
  · simp -implicitDefEqProofs only [ZB, Int.reduceToNat, Nat.reduceLT, Nat.reduceLeDiff, Int.reduceLE, Int.reduceLT, Nat.reduceEqDiff, Nat.reduceSub, SB, SV.known, packR, ne_eq, reduceCtorEq, Nat.reduceEqDiff, ↓reduceIte, if_true, if_false, eq_self, Nat.reduceAdd, Nat.reduceMul, Nat.reduceSub, forall_const, oneCellS, litOne, flat1, Kd.isSca, flat, TYB]
    refine among_new hd1 hC hwH hm (by omega) _ _ _ _ (by simp) (by omega) fun i H' hi hd => ?_
    have hI : In64 (([-1, 6, 4611686018427387904] : List Int).getD i 0) := by
      match i, hi with
      | 0, _ => simp [In64]
      | 1, _ => simp [In64]
      | 2, _ => simp [In64]
    simp -implicitDefEqProofs only [ZB, Int.reduceToNat, Nat.reduceLT, Nat.reduceLeDiff, Int.reduceLE, Int.reduceLT, Nat.reduceEqDiff, Nat.reduceSub, SB, SV.known, packR, ne_eq, reduceCtorEq, Nat.reduceEqDiff, ↓reduceIte, if_true, if_false, eq_self, Nat.reduceAdd, Nat.reduceMul, Nat.reduceSub, forall_const, oneCellS, litOne, flat1, Kd.isSca, flat, TYB]
    exact ⟨_, rfl, hI, hd⟩
theorem fnx_place : FnOK Try.prog 69 Try.f69 (Try.f69.body.getD .skip) [61, 60, 62] [] := ⟨Try.func69, rfl, by kernel_rfl, by kernel_rfl⟩
theorem place_T : ∀ args H n m κ, place_F args H n m κ → GenOK Try.prog 69 args H n m κ := by
  intro args H n m κ h
  unfold place_F at h
  split at h
  · rename_i c
    obtain ⟨kc, a, hC, hm, ha, h1⟩ := h
    exact gen_direct (X := ⟨Try.prog, tys, [], [(61, pick_F), (60, one_F), (62, among_F)], true, true, m, [61, 60, 62], []⟩) fnx_place ⟨tys_ok, .nil, .cons pick_T (.cons one_T (.cons among_T .nil)), mixed⟩ rfl (Nat.le_of_ble_eq_true rfl) (fun hwH hwa => place_vc c kc a m n H hC hm ha hwH) fun hwH v H' n' hψ h3 h4 h5 => by
      obtain ⟨x, rfl, hI, g3⟩ := hψ
      exact h1 x H' n' hI g3
  · exact h.elim
theorem Drawn.push {c kc a k n0 n : Nat} {H0 H : Heap} (h : Drawn c kc a k n0 H0 H n) (hc : c < n0 ∧ kc < n0 ∧ kc ≠ c) (o : SObj) (ho : o.wf (n + 1)) : Drawn c kc a k n0 H0 ((n, o) :: H) (n + 1) := h.put hc o h.le (by omega) (by omega) ho
theorem Drawn.pushI {c kc a k n0 n : Nat} {H0 H : Heap} (h : Drawn c kc a k n0 H0 H n) (hc : c < n0 ∧ kc < n0 ∧ kc ≠ c) {L : List Int} {e : Nat} : Drawn c kc a k n0 H0 ((n, .ints L e) :: H) (n + 1) := h.push hc _ trivial
theorem Drawn.putI {c kc a k n0 n k0 : Nat} {H0 H : Heap} (h : Drawn c kc a k n0 H0 H n) (hc : c < n0 ∧ kc < n0 ∧ kc ≠ c) {L : List Int} {e : Nat} (h0 : n0 ≤ k0) (hk : k0 < n) : Drawn c kc a k n0 H0 ((k0, .ints L e) :: H) n := h.put hc _ h0 hk (Nat.le_refl _) trivial
/-- What is kept of one's own blocks. -/
def Fr (n0 n : Nat) (H H' : Heap) : Prop := ∀ j o, n0 ≤ j → j < n → hget H j = some o → hget H' j = some o
theorem Fr.use {n0 n j : Nat} {H H' : Heap} {o : SObj} (h : Fr n0 n H H') (h1 : n0 ≤ j) (h2 : j < n) (h3 : hget H j = some o) : hget H' j = some o := h j o h1 h2 h3
theorem Drawn.own {c kc a k n0 n n' : Nat} {H H' : Heap} (h : Drawn c kc a k n H H' n') (hc : c < n0) : Fr n0 n H H' := fun j o h1 h2 h3 => h.fr j o h2 (by omega) h3
theorem among_use {c kc a k n0 n m b len cap e : Nat} {H0 H : Heap} {κ : K1} {L : List Int} (h : Drawn c kc a k n0 H0 H n) (hc : c < n0 ∧ kc < n0 ∧ kc ≠ c) (hm : m ≤ c) (ha : a + k ≤ 999980) (hb : hget H b = some (.ints L e)) (h0 : n0 ≤ b) (hl : 0 < len ∧ len ≤ L.length ∧ len ≤ 1000)
    (hκ : ∀ (x : Int) H', x ∈ L → Drawn c kc a (k + 2) n0 H0 H' n → Fr n0 n H H' → κ (.int x) H' n) : among_F [.ptr c 0, .slice b 0 len cap] H n m κ := by
  obtain ⟨b', g1, g2, g3⟩ := h.cur
  have hbn := (h.wf _ _ hb).1
  simp only [among_F, hb]
  refine ⟨hl.1, hl.2.1, hl.2.2, hbn, by omega, kc, b', g3, hm, by omega, fun i H' hi hd => hκ _ H' ?_ (h.trans hd g2 g1) (hd.own hc.1)⟩
  rw [List.getD_eq_getElem?_getD, List.getElem?_eq_getElem (by omega)]
  exact List.getElem_mem _
theorem pick_use {c kc a k n0 n m : Nat} {H0 H : Heap} {κ : K1} (h : Drawn c kc a k n0 H0 H n) (hc : c < n0 ∧ kc < n0 ∧ kc ≠ c) (hm : m ≤ c) (ha : a + k ≤ 999980) {z : Int}
    (hκ : ∀ (x : Int) H', 0 ≤ x → (x < z ∨ x = 0) → Drawn c kc a (k + 2) n0 H0 H' n → Fr n0 n H H' → κ (.int x) H' n) : pick_F [.ptr c 0, .int z] H n m κ := by
  obtain ⟨b', g1, g2, g3⟩ := h.cur
  exact ⟨kc, b', g3, hm, by omega, fun x H' h1 h2 hd => hκ x H' h1 h2 (h.trans hd g2 g1) (hd.own hc.1)⟩
theorem one_use {c kc a k n0 n m : Nat} {H0 H : Heap} {κ : K1} (h : Drawn c kc a k n0 H0 H n) (hc : c < n0 ∧ kc < n0 ∧ kc ≠ c) (hm : m ≤ c) (ha : a + k ≤ 999980) {z : Int}
    (hκ : ∀ (x : Bool) H', Drawn c kc a (k + 2) n0 H0 H' n → Fr n0 n H H' → κ (.bool x) H' n) : one_F [.ptr c 0, .int z] H n m κ := by
  obtain ⟨b', g1, g2, g3⟩ := h.cur
  exact ⟨kc, b', g3, hm, by omega, fun x H' hd => hκ x H' (h.trans hd g2 g1) (hd.own hc.1)⟩
theorem place_use {c kc a k n0 n m : Nat} {H0 H : Heap} {κ : K1} (h : Drawn c kc a k n0 H0 H n) (hc : c < n0 ∧ kc < n0 ∧ kc ≠ c) (hm : m ≤ c) (ha : a + k ≤ 999900)
    (hκ : ∀ (x : Int) H' n', In64 x → Drawn c kc a (k + 4) n0 H0 H' n' → n ≤ n' → Fr n0 n H H' → κ (.int x) H' n') : place_F [.ptr c 0] H n m κ := by
  obtain ⟨b', g1, g2, g3⟩ := h.cur
  exact ⟨kc, b', g3, hm, by omega, fun x H' n' hI hd => hκ x H' n' hI (h.trans hd g2 g1) hd.le (hd.own hc.1)⟩
end Go.Proofs.Ytckcojgfgcjamaa
set_option maxRecDepth 100000
set_option linter.unusedSimpArgs false
set_option linter.unusedVariables false
namespace Go.Proofs.Ytckcojgfgcjamaa
open Go Go.RowKit
theorem fnx_rack : FnOK Try.prog 100 Try.f100 (Try.f100.body.getD .skip) [61, 60, 62] [(21, .tree (.one 0 (.one 1 (.one 2 (.one 3 (.one 4 (.one 5 (.one 6 (.alt 7 (.alt 8 (.one 9 (.one 10 (.one 11 .done))) (.alt 9 (.one 8 (.one 10 (.one 11 .done))) .stop)) (.alt 8 (.alt 7 (.one 9 (.one 10 (.one 11 .done))) (.alt 9 (.alt 7 (.one 10 (.one 11 .done)) (.alt 10 (.one 7 (.one 11 .done)) .stop)) .stop)) (.alt 9 (.alt 7 (.one 8 (.one 10 (.one 11 .done))) (.alt 8 (.alt 7 (.one 10 (.one 11 .done)) (.alt 10 (.one 7 (.one 11 .done)) .stop)) .stop)) .stop))))))))))), (26, .tree (.one 0 (.one 2 (.one 4 (.one 7 (.alt 1 (.one 8 (.alt 3 (.one 5 (.one 6 (.one 9 (.one 10 .done)))) (.alt 5 (.one 3 (.one 6 (.one 9 (.one 10 .done)))) .stop))) (.alt 5 (.one 1 (.one 3 (.one 6 (.one 8 (.one 9 (.one 10 .done)))))) .stop)))))))] := ⟨Try.func100, rfl, by kernel_rfl, by kernel_rfl⟩
/-- A rack that is being drawn. -/
structure RkS (c kc a n : Nat) (H : Heap) (b : Nat) (R : List Int) (k : Nat) (H' : Heap) (n' : Nat) : Prop where
  d : Drawn c kc a k n H H' n'
  lt : n < b ∧ b < n'
  r : hget H' b = some (.ints R 27)
  l : R.length = 24
  i : ∀ x ∈ R, In64 x
  z : hget H' n = some (.ints (List.replicate 24 0) 27)
theorem RkS.set {c kc a n b k n' : Nat} {H H' : Heap} {R : List Int} (h : RkS c kc a n H b R k H' n') (hlt : c < n ∧ kc < n ∧ kc ≠ c) {R' : List Int} (hl : R'.length = 24) (hi : ∀ x ∈ R', In64 x) : RkS c kc a n H b R' k ((b, .ints R' 27) :: H') n' :=
  ⟨h.d.put hlt _ (Nat.le_of_lt h.lt.1) h.lt.2 (Nat.le_refl _) trivial, h.lt, by simp [hget_cons], hl, hi, by rw [hget_cons, if_neg (Nat.ne_of_lt h.lt.1)]; exact h.z⟩
theorem RkS.push {c kc a n b k n' : Nat} {H H' : Heap} {R : List Int} (h : RkS c kc a n H b R k H' n') (hlt : c < n ∧ kc < n ∧ kc ≠ c) (o : SObj) (ho : o.wf (n' + 1)) : RkS c kc a n H b R k ((n', o) :: H') (n' + 1) :=
  ⟨h.d.push hlt o ho, ⟨h.lt.1, Nat.lt_succ_of_lt h.lt.2⟩, by rw [hget_cons, if_neg (Nat.ne_of_lt h.lt.2)]; exact h.r, h.l, h.i, by rw [hget_cons, if_neg (Nat.ne_of_lt (Nat.lt_trans h.lt.1 h.lt.2))]; exact h.z⟩
theorem RkS.pushI {c kc a n b k n' : Nat} {H H' : Heap} {R : List Int} (h : RkS c kc a n H b R k H' n') (hlt : c < n ∧ kc < n ∧ kc ≠ c) {L : List Int} {e : Nat} : RkS c kc a n H b R k ((n', .ints L e) :: H') (n' + 1) := h.push hlt _ trivial
theorem RkS.draw {c kc a n b k n' k2 n2 : Nat} {H H' H2 : Heap} {R : List Int} (h : RkS c kc a n H b R k H' n') (hd : Drawn c kc a k2 n H H2 n2) (hf : Fr n n' H' H2) (hn : n' ≤ n2) : RkS c kc a n H b R k2 H2 n2 :=
  ⟨hd, ⟨h.lt.1, Nat.lt_of_lt_of_le h.lt.2 hn⟩, hf.use (Nat.le_of_lt h.lt.1) h.lt.2 h.r, h.l, h.i, hf.use (Nat.le_refl _) (Nat.lt_trans h.lt.1 h.lt.2) h.z⟩
theorem RkS.more {c kc a n b k k' n' : Nat} {H H' : Heap} {R : List Int} (h : RkS c kc a n H b R k H' n') (hk : k ≤ k') : RkS c kc a n H b R k' H' n' := ⟨h.d.more hk, h.lt, h.r, h.l, h.i, h.z⟩
theorem CurH.frame {c kc a n : Nat} {H H' : Heap} (h : CurH c kc a H) (hw : hwf n H) (hf : ∀ j o, j < n → hget H j = some o → hget H' j = some o) : CurH c kc a H' := by
  obtain ⟨q1, q2, _⟩ := h.lt hw
  obtain ⟨v, s, h1, h2, h6⟩ := h
  exact ⟨v, s, hf _ _ q1 h1, h2.at (fun o ho => hf _ _ q2 ho), h6⟩
theorem RkS.ext {c kc a n b k n' n2 : Nat} {H H' Hc : Heap} {R : List Int} (h : RkS c kc a n H b R k H' n') (hw : hwf n2 Hc) (hn : n' ≤ n2) (hf : ∀ j o, j < n' → hget H' j = some o → hget Hc j = some o) : RkS c kc a n H b R k Hc n2 :=
  ⟨⟨Nat.le_trans h.d.le hn, hw, by
    obtain ⟨b', g1, g2, g3⟩ := h.d.cur
    exact ⟨b', g1, g2, g3.frame h.d.wf hf⟩, fun i o hi hc ho => hf i o (Nat.lt_of_lt_of_le hi h.d.le) (h.d.fr i o hi hc ho)⟩,
   ⟨h.lt.1, Nat.lt_of_lt_of_le h.lt.2 hn⟩, hf _ _ h.lt.2 h.r, h.l, h.i, hf _ _ (Nat.lt_trans h.lt.1 h.lt.2) h.z⟩
theorem in64_set {R : List Int} (h : ∀ x ∈ R, In64 x) {i : Nat} {v : Int} (hv : In64 v) : ∀ x ∈ R.set i v, In64 x := fun x hx => by
  rcases List.mem_or_eq_of_mem_set hx with hx | hx
  · exact h x hx
  · exact hx ▸ hv
theorem in64_getD {R : List Int} (h : ∀ x ∈ R, In64 x) {i : Nat} (hi : i < R.length) : In64 (R.getD i 0) := by
  rw [List.getD_eq_getElem?_getD, List.getElem?_eq_getElem hi]
  exact h _ (List.getElem_mem _)
theorem rack_vc (c kc a m n : Nat) (H : Heap) (hC : CurH c kc a H) (hm : m ≤ c) (hmn : m ≤ n) (ha : a ≤ 990000) (hwH : hwf n H) :
    codeVC (⟨Try.prog, tys, [], [(61, pick_F), (60, one_F), (62, among_F)], true, true, m, [61, 60, 62], [(21, .tree (.one 0 (.one 1 (.one 2 (.one 3 (.one 4 (.one 5 (.one 6 (.alt 7 (.alt 8 (.one 9 (.one 10 (.one 11 .done))) (.alt 9 (.one 8 (.one 10 (.one 11 .done))) .stop)) (.alt 8 (.alt 7 (.one 9 (.one 10 (.one 11 .done))) (.alt 9 (.alt 7 (.one 10 (.one 11 .done)) (.alt 10 (.one 7 (.one 11 .done)) .stop)) .stop)) (.alt 9 (.alt 7 (.one 8 (.one 10 (.one 11 .done))) (.alt 8 (.alt 7 (.one 10 (.one 11 .done)) (.alt 10 (.one 7 (.one 11 .done)) .stop)) .stop)) .stop))))))))))), (26, .tree (.one 0 (.one 2 (.one 4 (.one 7 (.alt 1 (.one 8 (.alt 3 (.one 5 (.one 6 (.one 9 (.one 10 .done)))) (.alt 5 (.one 3 (.one 6 (.one 9 (.one 10 .done)))) .stop))) (.alt 5 (.one 1 (.one 3 (.one 6 (.one 8 (.one 9 (.one 10 .done)))))) .stop)))))))]⟩ : Cx) n (Try.f100.body.getD .skip) (argS 0 [.ptr c 0]) H n
      (retK tys Try.f100.results.toList fun v H' n' => ∃ R : List Int, v = .arr R ∧ R.length = 24 ∧ (∀ x ∈ R, In64 x) ∧ Drawn c kc a 1000 n H H' n') := by
  have hlt := hC.lt hwH
  have xne : ∀ i, (n + (i + 1) = n) = False := fun i => by simp
  simp -implicitDefEqProofs only [Try.f100, Option.getD_some, argS, Nat.add_assoc, add_self, self_add, add_add, ZB, Int.reduceToNat, Nat.reduceLT, Nat.reduceLeDiff, Int.reduceLE, Int.reduceLT, Nat.reduceEqDiff, Nat.reduceSub, SB, SV.known, packR, ne_eq, reduceCtorEq, Nat.reduceEqDiff, ↓reduceIte, if_true, if_false, eq_self, Nat.reduceAdd, Nat.reduceMul, Nat.reduceSub, forall_const, oneCellS, litOne, flat1, Kd.isSca, flat, TYB]
  have d0 : Drawn c kc a 0 n H ((n, .ints (List.replicate 24 0) 27) :: H) (n + 1) := (Drawn.start hC hwH).push hlt _ trivial
  refine among_use (d0.pushI hlt) hlt hm (by omega) (L := [2, 3, 2, 4, 5, 1]) (by simp [hget_cons]; rfl) (by omega) (by simp) fun col H1 hx1 hd1 hf1 => ?_
  have hc1 : 1 ≤ col ∧ col ≤ 5 := by simp at hx1; omega
  have hz1 := hf1.use (Nat.le_refl _) (by omega) (show hget _ n = some (.ints (List.replicate 24 0) 27) by simp [hget_cons])
  simp -implicitDefEqProofs only [Nat.add_assoc, add_self, self_add, add_add, ZB, Int.reduceToNat, Nat.reduceLT, Nat.reduceLeDiff, Int.reduceLE, Int.reduceLT, Nat.reduceEqDiff, Nat.reduceSub, SB, SV.known, packR, ne_eq, reduceCtorEq, Nat.reduceEqDiff, ↓reduceIte, if_true, if_false, eq_self, Nat.reduceAdd, Nat.reduceMul, Nat.reduceSub, forall_const, oneCellS, litOne, flat1, Kd.isSca, flat, TYB]
  refine among_use (hd1.pushI hlt) hlt hm (by omega) (L := [3, 4, 2, 5, 6]) (by simp [hget_cons]; rfl) (by omega) (by simp) fun tub H2 hx2 hd2 hf2 => ?_
  have ht1 : 2 ≤ tub ∧ tub ≤ 6 := by simp at hx2; omega
  have hz2 := hf2.use (Nat.le_refl _) (by omega) (show hget _ n = some (.ints (List.replicate 24 0) 27) by simp [hget_cons, hz1])
  have hS0 : RkS c kc a n H (n + 3) (List.replicate 24 0) 4 ((n + 3, .ints (List.replicate 24 0) 27) :: (n + 3, .ints (List.replicate 24 0) 27) :: H2) (n + 4) :=
    ⟨(hd2.pushI hlt).putI hlt (by omega) (by omega), by omega, by simp [hget_cons], by simp, fun x hx => by rw [List.eq_of_mem_replicate hx]; simp [In64], by simp [hget_cons]; exact hz2⟩
  clear hf1 hf2 hd1 hd2 hz1 hz2
  simp -implicitDefEqProofs only [Nat.add_assoc, add_self, self_add, add_add, ZB, Int.reduceToNat, Nat.reduceLT, Nat.reduceLeDiff, Int.reduceLE, Int.reduceLT, Nat.reduceEqDiff, Nat.reduceSub, SB, SV.known, packR, ne_eq, reduceCtorEq, Nat.reduceEqDiff, ↓reduceIte, if_true, if_false, eq_self, Nat.reduceAdd, Nat.reduceMul, Nat.reduceSub, forall_const, oneCellS, litOne, flat1, Kd.isSca, flat, TYB]
  refine ⟨by omega, ?_⟩
  refine loop_introN (fun s : (Nat × List Int) × Heap × Nat => [(6, .int s.1.1), (5, .int tub), (4, .int col), (3, .ptr (n + 3) 0), (2, .ptr n 0), (0, .ptr c 0)]) (fun s => s.2.1) (fun s => s.2.2)
    (fun s => s.1.1 ≤ 6 ∧ RkS c kc a n H (n + 3) s.1.2 (4 + 26 * s.1.1) s.2.1 s.2.2) (fun s => 6 - s.1.1) ?_ ?_
  · exact ⟨((0, List.replicate 24 0), _, n + 4), ⟨Nat.zero_le _, hS0⟩, Sub.same (by simp only [LB, subS, subH, wfS, wfH, SV.ren, renL, SObj.ren, SV.wf, SObj.wf, wfL, SV.known, Nat.reduceEqDiff, ↓reduceIte, if_true, if_false, eq_self, Nat.reduceAdd, Nat.reduceLT, Nat.reduceLeDiff, implies_true, reduceCtorEq, forall_const]; try rfl) (by simp [subS, subH, wfS, wfH, SV.ren, renL, SObj.ren, SV.wf, SObj.wf, wfL, sget_cons, hget_cons] <;> omega) hS0.d.wf hS0.d.le⟩
  · rintro ⟨⟨i, R⟩, H3, n3⟩ ⟨hi, hS⟩
    simp only at hi hS
    by_cases hit : (i : Int) < tub
    · simp -implicitDefEqProofs only [lk_normal, hit, ZB, Int.reduceToNat, Nat.reduceLT, Nat.reduceLeDiff, Int.reduceLE, Int.reduceLT, Nat.reduceEqDiff, Nat.reduceSub, SB, SV.known, packR, ne_eq, reduceCtorEq, Nat.reduceEqDiff, ↓reduceIte, if_true, if_false, eq_self, Nat.reduceAdd, Nat.reduceMul, Nat.reduceSub, forall_const, oneCellS, litOne, flat1, Kd.isSca, flat, TYB]
      refine loop_introN (fun s : (Nat × List Int) × Heap × Nat => [(7, .int s.1.1), (6, .int i), (5, .int tub), (4, .int col), (3, .ptr (n + 3) 0), (2, .ptr n 0), (0, .ptr c 0)]) (fun s => s.2.1) (fun s => s.2.2)
        (fun s => s.1.1 ≤ 4 ∧ RkS c kc a n H (n + 3) s.1.2 (4 + 26 * i + 6 * s.1.1) s.2.1 s.2.2) (fun s => 4 - s.1.1) ?_ ?_
      · have hq := hS.lt
        exact ⟨((0, R), H3, n3), ⟨Nat.zero_le _, hS⟩, Sub.same (by simp only [LB, subS, subH, wfS, wfH, SV.ren, renL, SObj.ren, SV.wf, SObj.wf, wfL, SV.known, Nat.reduceEqDiff, ↓reduceIte, if_true, if_false, eq_self, Nat.reduceAdd, Nat.reduceLT, Nat.reduceLeDiff, implies_true, reduceCtorEq, forall_const]; try rfl) (by simp [subS, subH, wfS, wfH, SV.ren, renL, SObj.ren, SV.wf, SObj.wf, wfL, sget_cons, hget_cons] <;> omega) hS.d.wf hS.d.le⟩
      · rintro ⟨⟨j, R1⟩, H4, n4⟩ ⟨hj, hS1⟩
        simp only at hj hS1
        have hn4 := hS1.lt
        have e4 := ne_add' hn4.2
        simp -implicitDefEqProofs only [lk_normal, ZB, Int.reduceToNat, Nat.reduceLT, Nat.reduceLeDiff, Int.reduceLE, Int.reduceLT, Nat.reduceEqDiff, Nat.reduceSub, SB, SV.known, packR, ne_eq, reduceCtorEq, Nat.reduceEqDiff, ↓reduceIte, if_true, if_false, eq_self, Nat.reduceAdd, Nat.reduceMul, Nat.reduceSub, forall_const, oneCellS, litOne, flat1, Kd.isSca, flat, TYB]
        refine among_use (hS1.d.pushI hlt) hlt hm (by omega) (L := [4, 3, 4, 2, 1, 0]) (by simp [hget_cons]; rfl) (by omega) (by simp) fun x H5 hx hd5 hf5 => ?_
        have hx1 : 0 ≤ x ∧ x ≤ 4 := by simp at hx; omega
        have hS5 := (hS1.pushI hlt).draw hd5 hf5 (Nat.le_refl _)
        by_cases hjx : (j : Int) < x
        · have hr5 := hS5.r
          have l5 := hS5.l
          simp -implicitDefEqProofs only [lk_normal, hjx, ZB, Int.reduceToNat, Nat.reduceLT, Nat.reduceLeDiff, Int.reduceLE, Int.reduceLT, Nat.reduceEqDiff, Nat.reduceSub, SB, SV.known, packR, ne_eq, reduceCtorEq, Nat.reduceEqDiff, ↓reduceIte, if_true, if_false, eq_self, Nat.reduceAdd, Nat.reduceMul, Nat.reduceSub, forall_const, oneCellS, litOne, flat1, Kd.isSca, flat, TYB]
          refine pick_use hS5.d hlt hm (by omega) fun y H6 hy0 hy1 hd6 hf6 => ?_
          have hS6 := hS5.draw hd6 hf6 (Nat.le_refl _)
          have hr6 := hS6.r
          have hy : In64 (1 + y) := by unfold In64; omega
          have i0 : 0 ≤ (i : Int) := by omega
          have j0 : 0 ≤ (j : Int) := by omega
          have j4 : (j : Int) < 4 := by omega
          have i6 : (i : Int) < 6 := by omega
          have ij : i * 4 + j < 24 := by omega
          simp -implicitDefEqProofs only [hr6, hy, i0, j0, j4, i6, hS6.l, ij, ZB, Int.reduceToNat, Nat.reduceLT, Nat.reduceLeDiff, Int.reduceLE, Int.reduceLT, Nat.reduceEqDiff, Nat.reduceSub, SB, SV.known, packR, ne_eq, reduceCtorEq, Nat.reduceEqDiff, ↓reduceIte, if_true, if_false, eq_self, Nat.reduceAdd, Nat.reduceMul, Nat.reduceSub, forall_const, oneCellS, litOne, flat1, Kd.isSca, flat, TYB]
          have hS7 := hS6.set hlt (R' := R1.set (i * 4 + j) (1 + y)) (by rw [List.length_set]; exact hS6.l) (in64_set hS6.i hy)
          have hnext : ∀ (R' : List Int) (H8 : Heap), RkS c kc a n H (n + 3) R' (4 + 26 * i + 6 * (j + 1)) H8 (n4 + 1) → j + 1 ≤ 4 ∧ RkS c kc a n H (n + 3) R' (4 + 26 * i + 6 * (j + 1)) H8 (n4 + 1) := fun R' H8 h => ⟨by omega, h⟩
          refine ⟨by omega, fun hj0 => one_use hS7.d hlt hm (by omega) fun o H8 hd8 hf8 => ?_, fun hj0 => ?_⟩
          · have hS8 := hS7.draw hd8 hf8 (Nat.le_refl _)
            cases o
            · simp -implicitDefEqProofs only [lk_normal, ZB, Int.reduceToNat, Nat.reduceLT, Nat.reduceLeDiff, Int.reduceLE, Int.reduceLT, Nat.reduceEqDiff, Nat.reduceSub, SB, SV.known, packR, ne_eq, reduceCtorEq, Nat.reduceEqDiff, ↓reduceIte, if_true, if_false, eq_self, Nat.reduceAdd, Nat.reduceMul, Nat.reduceSub, forall_const, oneCellS, litOne, flat1, Kd.isSca, flat, TYB]
              have hq := hS8.lt
              exact ⟨by unfold In64; omega, ((j + 1, R1.set (i * 4 + j) (1 + y)), H8, n4 + 1), ⟨by show j + 1 ≤ 4; omega, RkS.more hS8 (by show _ ≤ 4 + 26 * i + 6 * (j + 1); omega)⟩, by show 4 - (j + 1) < 4 - j; omega, Sub.same (by simp only [LB, subS, subH, wfS, wfH, SV.ren, renL, SObj.ren, SV.wf, SObj.wf, wfL, SV.known, Nat.reduceEqDiff, ↓reduceIte, if_true, if_false, eq_self, Nat.reduceAdd, Nat.reduceLT, Nat.reduceLeDiff, implies_true, reduceCtorEq, forall_const]; try rfl) (by simp [subS, subH, wfS, wfH, SV.ren, renL, SObj.ren, SV.wf, SObj.wf, wfL, sget_cons, hget_cons] <;> omega) (RkS.d hS8).wf (RkS.d hS8).le⟩
            · have hr8 := hS8.r
              have l8 := hS8.l
              have j1 : 0 ≤ (j : Int) - 1 := by omega
              have j5 : (j : Int) - 1 < 4 := by omega
              have j6 : ((j : Int) - 1).toNat = j - 1 := by omega
              have j7 : In64 ((j : Int) - 1) := by unfold In64; omega
              have ij1 : i * 4 + (j - 1) < 24 := by omega
              simp -implicitDefEqProofs only [lk_normal, hr8, l8, j1, j5, j6, j7, i0, j0, j4, i6, ij, ij1, ZB, Int.reduceToNat, Nat.reduceLT, Nat.reduceLeDiff, Int.reduceLE, Int.reduceLT, Nat.reduceEqDiff, Nat.reduceSub, SB, SV.known, packR, ne_eq, reduceCtorEq, Nat.reduceEqDiff, ↓reduceIte, if_true, if_false, eq_self, Nat.reduceAdd, Nat.reduceMul, Nat.reduceSub, forall_const, oneCellS, litOne, flat1, Kd.isSca, flat, TYB]
              have hq := hS8.lt
              have hS9 := hS8.set hlt (R' := (R1.set (i * 4 + j) (1 + y)).set (i * 4 + j) ((R1.set (i * 4 + j) (1 + y)).getD (i * 4 + (j - 1)) 0)) (by rw [List.length_set]; exact hS8.l) (in64_set hS8.i (in64_getD hS8.i (by rw [l8]; exact ij1)))
              refine ⟨by omega, ?_⟩
              exact ⟨by unfold In64; omega, ((j + 1, _), _, n4 + 1), ⟨by show j + 1 ≤ 4; omega, RkS.more hS9 (by show _ ≤ 4 + 26 * i + 6 * (j + 1); omega)⟩, by show 4 - (j + 1) < 4 - j; omega, Sub.same (by simp only [LB, subS, subH, wfS, wfH, SV.ren, renL, SObj.ren, SV.wf, SObj.wf, wfL, SV.known, Nat.reduceEqDiff, ↓reduceIte, if_true, if_false, eq_self, Nat.reduceAdd, Nat.reduceLT, Nat.reduceLeDiff, implies_true, reduceCtorEq, forall_const]; try rfl) (by simp [subS, subH, wfS, wfH, SV.ren, renL, SObj.ren, SV.wf, SObj.wf, wfL, sget_cons, hget_cons] <;> omega) (RkS.d hS9).wf (RkS.d hS9).le⟩
          · simp -implicitDefEqProofs only [lk_normal, ZB, Int.reduceToNat, Nat.reduceLT, Nat.reduceLeDiff, Int.reduceLE, Int.reduceLT, Nat.reduceEqDiff, Nat.reduceSub, SB, SV.known, packR, ne_eq, reduceCtorEq, Nat.reduceEqDiff, ↓reduceIte, if_true, if_false, eq_self, Nat.reduceAdd, Nat.reduceMul, Nat.reduceSub, forall_const, oneCellS, litOne, flat1, Kd.isSca, flat, TYB]
            have hq := hS7.lt
            exact ⟨by unfold In64; omega, ((j + 1, _), _, n4 + 1), ⟨by show j + 1 ≤ 4; omega, RkS.more hS7 (by show _ ≤ 4 + 26 * i + 6 * (j + 1); omega)⟩, by show 4 - (j + 1) < 4 - j; omega, Sub.same (by simp only [LB, subS, subH, wfS, wfH, SV.ren, renL, SObj.ren, SV.wf, SObj.wf, wfL, SV.known, Nat.reduceEqDiff, ↓reduceIte, if_true, if_false, eq_self, Nat.reduceAdd, Nat.reduceLT, Nat.reduceLeDiff, implies_true, reduceCtorEq, forall_const]; try rfl) (by simp [subS, subH, wfS, wfH, SV.ren, renL, SObj.ren, SV.wf, SObj.wf, wfL, sget_cons, hget_cons] <;> omega) (RkS.d hS7).wf (RkS.d hS7).le⟩
        · simp -implicitDefEqProofs only [lk_normal, hjx, ZB, Int.reduceToNat, Nat.reduceLT, Nat.reduceLeDiff, Int.reduceLE, Int.reduceLT, Nat.reduceEqDiff, Nat.reduceSub, SB, SV.known, packR, ne_eq, reduceCtorEq, Nat.reduceEqDiff, ↓reduceIte, if_true, if_false, eq_self, Nat.reduceAdd, Nat.reduceMul, Nat.reduceSub, forall_const, oneCellS, litOne, flat1, Kd.isSca, flat, TYB]
          have hq := hS5.lt
          exact ⟨by unfold In64; omega, ((i + 1, R1), H5, n4 + 1), ⟨by show i + 1 ≤ 6; omega, hS5.more (by show _ ≤ 4 + 26 * (i + 1); omega)⟩, by show 6 - (i + 1) < 6 - i; omega, Sub.same (by simp only [LB, subS, subH, wfS, wfH, SV.ren, renL, SObj.ren, SV.wf, SObj.wf, wfL, SV.known, Nat.reduceEqDiff, ↓reduceIte, if_true, if_false, eq_self, Nat.reduceAdd, Nat.reduceLT, Nat.reduceLeDiff, implies_true, reduceCtorEq, forall_const]; try rfl) (by simp [subS, subH, wfS, wfH, SV.ren, renL, SObj.ren, SV.wf, SObj.wf, wfL, sget_cons, hget_cons] <;> omega) hS5.d.wf hS5.d.le⟩
    · simp -implicitDefEqProofs only [lk_normal, hit, ZB, Int.reduceToNat, Nat.reduceLT, Nat.reduceLeDiff, Int.reduceLE, Int.reduceLT, Nat.reduceEqDiff, Nat.reduceSub, SB, SV.known, packR, ne_eq, reduceCtorEq, Nat.reduceEqDiff, ↓reduceIte, if_true, if_false, eq_self, Nat.reduceAdd, Nat.reduceMul, Nat.reduceSub, forall_const, oneCellS, litOne, flat1, Kd.isSca, flat, TYB]
      have hS1 := hS.more (k' := 160) (by omega)
      clear hS hit
      refine loop_introN (fun s : (Nat × List Int) × Heap × Nat => [(8, .int s.1.1), (5, .int tub), (4, .int col), (3, .ptr (n + 3) 0), (2, .ptr n 0), (0, .ptr c 0)]) (fun s => s.2.1) (fun s => s.2.2)
        (fun s => s.1.1 ≤ 6 ∧ RkS c kc a n H (n + 3) s.1.2 160 s.2.1 s.2.2) (fun s => 6 - s.1.1) ?_ ?_
      · have hq := hS1.lt
        exact ⟨((0, R), H3, n3), ⟨Nat.zero_le _, hS1⟩, Sub.same (by simp only [LB, subS, subH, wfS, wfH, SV.ren, renL, SObj.ren, SV.wf, SObj.wf, wfL, SV.known, Nat.reduceEqDiff, ↓reduceIte, if_true, if_false, eq_self, Nat.reduceAdd, Nat.reduceLT, Nat.reduceLeDiff, implies_true, reduceCtorEq, forall_const]; try rfl) (by simp [subS, subH, wfS, wfH, SV.ren, renL, SObj.ren, SV.wf, SObj.wf, wfL, sget_cons, hget_cons] <;> omega) hS1.d.wf hS1.d.le⟩
      · rintro ⟨⟨k, R2⟩, H4, n4⟩ ⟨hk, hS2⟩
        simp only at hk hS2
        have hq := hS2.lt
        by_cases hk6 : (k : Int) < 6
        · simp -implicitDefEqProofs only [lk_normal, hk6, ZB, Int.reduceToNat, Nat.reduceLT, Nat.reduceLeDiff, Int.reduceLE, Int.reduceLT, Nat.reduceEqDiff, Nat.reduceSub, SB, SV.known, packR, ne_eq, reduceCtorEq, Nat.reduceEqDiff, ↓reduceIte, if_true, if_false, eq_self, Nat.reduceAdd, Nat.reduceMul, Nat.reduceSub, forall_const, oneCellS, litOne, flat1, Kd.isSca, flat, TYB]
          refine loop_introN (fun s : (Nat × List Int) × Heap × Nat => [(9, .int (s.1.1 : Nat)), (8, .int k), (5, .int tub), (4, .int col), (3, .ptr (n + 3) 0), (2, .ptr n 0), (0, .ptr c 0)]) (fun s => s.2.1) (fun s => s.2.2)
            (fun s => (1 ≤ s.1.1 ∧ s.1.1 ≤ 4) ∧ RkS c kc a n H (n + 3) s.1.2 160 s.2.1 s.2.2) (fun s => 4 - s.1.1) ?_ ?_
          · exact ⟨((1, R2), H4, n4), ⟨⟨Nat.le_refl _, by show 1 ≤ 4; omega⟩, hS2⟩, Sub.same (by simp only [LB, subS, subH, wfS, wfH, SV.ren, renL, SObj.ren, SV.wf, SObj.wf, wfL, SV.known, Nat.reduceEqDiff, ↓reduceIte, if_true, if_false, eq_self, Nat.reduceAdd, Nat.reduceLT, Nat.reduceLeDiff, implies_true, reduceCtorEq, forall_const]; try rfl) (by simp [subS, subH, wfS, wfH, SV.ren, renL, SObj.ren, SV.wf, SObj.wf, wfL, sget_cons, hget_cons] <;> omega) hS2.d.wf hS2.d.le⟩
          · rintro ⟨⟨j, R3⟩, H5, n5⟩ ⟨hj, hS3⟩
            simp only at hj hS3
            have hq3 := hS3.lt
            by_cases hj4 : (j : Int) < 4
            · have hr3 := hS3.r
              have l3 := hS3.l
              have k0 : 0 ≤ (k : Int) := by omega
              have j0 : 0 ≤ (j : Int) := by omega
              have j1 : 0 ≤ (j : Int) - 1 := by omega
              have j5 : (j : Int) - 1 < 4 := by omega
              have j6 : ((j : Int) - 1).toNat = j - 1 := by omega
              have j7 : In64 ((j : Int) - 1) := by unfold In64; omega
              have kj : k * 4 + j < 24 := by omega
              have kj1 : k * 4 + (j - 1) < 24 := by omega
              simp -implicitDefEqProofs only [lk_normal, hr3, l3, hk6, hj4, k0, j0, j1, j5, j6, j7, kj, kj1, ZB, Int.reduceToNat, Nat.reduceLT, Nat.reduceLeDiff, Int.reduceLE, Int.reduceLT, Nat.reduceEqDiff, Nat.reduceSub, SB, SV.known, packR, ne_eq, reduceCtorEq, Nat.reduceEqDiff, ↓reduceIte, if_true, if_false, eq_self, Nat.reduceAdd, Nat.reduceMul, Nat.reduceSub, forall_const, oneCellS, litOne, flat1, Kd.isSca, flat, TYB]
              refine ⟨fun _ => ⟨by omega, ?_⟩, fun _ => ?_⟩
              · have hS4 := hS3.set hlt (R' := R3.set (k * 4 + j) 0) (by rw [List.length_set]; exact l3) (in64_set hS3.i (by simp [In64]))
                exact ⟨by unfold In64; omega, ((j + 1, R3.set (k * 4 + j) 0), _, n5), ⟨⟨by show 1 ≤ j + 1; omega, by show j + 1 ≤ 4; omega⟩, hS4⟩, by show 4 - (j + 1) < 4 - j; omega, Sub.same (by simp only [LB, subS, subH, wfS, wfH, SV.ren, renL, SObj.ren, SV.wf, SObj.wf, wfL, SV.known, Nat.reduceEqDiff, ↓reduceIte, if_true, if_false, eq_self, Nat.reduceAdd, Nat.reduceLT, Nat.reduceLeDiff, implies_true, reduceCtorEq, forall_const]; try rfl) (by simp [subS, subH, wfS, wfH, SV.ren, renL, SObj.ren, SV.wf, SObj.wf, wfL, sget_cons, hget_cons] <;> omega) hS4.d.wf hS4.d.le⟩
              · exact ⟨by unfold In64; omega, ((j + 1, R3), _, n5), ⟨⟨by show 1 ≤ j + 1; omega, by show j + 1 ≤ 4; omega⟩, hS3⟩, by show 4 - (j + 1) < 4 - j; omega, Sub.same (by simp only [LB, subS, subH, wfS, wfH, SV.ren, renL, SObj.ren, SV.wf, SObj.wf, wfL, SV.known, Nat.reduceEqDiff, ↓reduceIte, if_true, if_false, eq_self, Nat.reduceAdd, Nat.reduceLT, Nat.reduceLeDiff, implies_true, reduceCtorEq, forall_const]; try rfl) (by simp [subS, subH, wfS, wfH, SV.ren, renL, SObj.ren, SV.wf, SObj.wf, wfL, sget_cons, hget_cons] <;> omega) hS3.d.wf hS3.d.le⟩
            · simp -implicitDefEqProofs only [lk_normal, hj4, ZB, Int.reduceToNat, Nat.reduceLT, Nat.reduceLeDiff, Int.reduceLE, Int.reduceLT, Nat.reduceEqDiff, Nat.reduceSub, SB, SV.known, packR, ne_eq, reduceCtorEq, Nat.reduceEqDiff, ↓reduceIte, if_true, if_false, eq_self, Nat.reduceAdd, Nat.reduceMul, Nat.reduceSub, forall_const, oneCellS, litOne, flat1, Kd.isSca, flat, TYB]
              exact ⟨by unfold In64; omega, ((k + 1, R3), H5, n5), ⟨by show k + 1 ≤ 6; omega, hS3⟩, by show 6 - (k + 1) < 6 - k; omega, Sub.same (by simp only [LB, subS, subH, wfS, wfH, SV.ren, renL, SObj.ren, SV.wf, SObj.wf, wfL, SV.known, Nat.reduceEqDiff, ↓reduceIte, if_true, if_false, eq_self, Nat.reduceAdd, Nat.reduceLT, Nat.reduceLeDiff, implies_true, reduceCtorEq, forall_const]; try rfl) (by simp [subS, subH, wfS, wfH, SV.ren, renL, SObj.ren, SV.wf, SObj.wf, wfL, sget_cons, hget_cons] <;> omega) hS3.d.wf hS3.d.le⟩
        · clear hS1
          simp -implicitDefEqProofs only [lk_normal, hk6, ZB, Int.reduceToNat, Nat.reduceLT, Nat.reduceLeDiff, Int.reduceLE, Int.reduceLT, Nat.reduceEqDiff, Nat.reduceSub, SB, SV.known, packR, ne_eq, reduceCtorEq, Nat.reduceEqDiff, ↓reduceIte, if_true, if_false, eq_self, Nat.reduceAdd, Nat.reduceMul, Nat.reduceSub, forall_const, oneCellS, litOne, flat1, Kd.isSca, flat, TYB]
          refine one_use hS2.d hlt hm (by omega) fun o H6 hd6 hf6 => ?_
          have hS6 := hS2.draw hd6 hf6 (Nat.le_refl _)
          cases o
          · simp -implicitDefEqProofs only [lk_normal, ZB, Int.reduceToNat, Nat.reduceLT, Nat.reduceLeDiff, Int.reduceLE, Int.reduceLT, Nat.reduceEqDiff, Nat.reduceSub, SB, SV.known, packR, ne_eq, reduceCtorEq, Nat.reduceEqDiff, ↓reduceIte, if_true, if_false, eq_self, Nat.reduceAdd, Nat.reduceMul, Nat.reduceSub, forall_const, oneCellS, litOne, flat1, Kd.isSca, flat, TYB]
            refine pick_use hS6.d hlt hm (by omega) fun w H7 hw0 hw1 hd7 hf7 => ?_
            have hS7 := hS6.draw hd7 hf7 (Nat.le_refl _)
            have hr7 := hS7.r
            have hz7 := hS7.z
            have l7 := hS7.l
            have tk7 : R2.take 24 = R2 := List.take_of_length_le (by omega)
            have fin : ∀ (R' : List Int) (k' : Nat) (H' : Heap) (n' : Nat), R'.length = 24 → (∀ x ∈ R', In64 x) → Drawn c kc a k' n H H' n' → n < n' → k' ≤ 1000 → ∃ R : List Int, R' = R ∧ R.length = 24 ∧ (∀ x ∈ R, In64 x) ∧ Drawn c kc a 1000 n H ((n, .ints R' 27) :: H') n' := fun R' k' H' n' h1 h2 h3 h4 h5 => ⟨R', rfl, h1, h2, (h3.more h5).putI hlt (Nat.le_refl _) h4⟩
            have hq7 := hS7.lt
            by_cases w0 : w = 0
            · have w0' : (w = 0) = True := eq_true w0
              simp -implicitDefEqProofs only [lk_normal, w0', ZB, Int.reduceToNat, Nat.reduceLT, Nat.reduceLeDiff, Int.reduceLE, Int.reduceLT, Nat.reduceEqDiff, Nat.reduceSub, SB, SV.known, packR, ne_eq, reduceCtorEq, Nat.reduceEqDiff, ↓reduceIte, if_true, if_false, eq_self, Nat.reduceAdd, Nat.reduceMul, Nat.reduceSub, forall_const, oneCellS, litOne, flat1, Kd.isSca, flat, TYB]
              refine ⟨{q : List Int × Heap × Nat // RkS c kc a n H (n + 3) q.1 300 q.2.1 q.2.2}, fun q => [(3, .ptr (n + 3) 0), (2, .ptr n 0)], fun q => q.1.2.1, fun q => q.1.2.2, ?_, ?_⟩
              · simp -implicitDefEqProofs only [ZB, Int.reduceToNat, Nat.reduceLT, Nat.reduceLeDiff, Int.reduceLE, Int.reduceLT, Nat.reduceEqDiff, Nat.reduceSub, SB, SV.known, packR, ne_eq, reduceCtorEq, Nat.reduceEqDiff, ↓reduceIte, if_true, if_false, eq_self, Nat.reduceAdd, Nat.reduceMul, Nat.reduceSub, forall_const, oneCellS, litOne, flat1, Kd.isSca, flat, TYB]
                refine ⟨?_, ?_⟩
                · refine pick_use hS7.d hlt hm (by omega) fun x H8 g0 g1 hd8 hf8 => ?_
                  have hS8 := hS7.draw hd8 hf8 (Nat.le_refl _)
                  obtain ⟨X, rfl⟩ : ∃ X : Nat, x = X := ⟨x.toNat, by omega⟩
                  have x6 : (X : Int) < 6 := by omega
                  simp -implicitDefEqProofs only [x6, g0, ZB, Int.reduceToNat, Nat.reduceLT, Nat.reduceLeDiff, Int.reduceLE, Int.reduceLT, Nat.reduceEqDiff, Nat.reduceSub, SB, SV.known, packR, ne_eq, reduceCtorEq, Nat.reduceEqDiff, ↓reduceIte, if_true, if_false, eq_self, Nat.reduceAdd, Nat.reduceMul, Nat.reduceSub, forall_const, oneCellS, litOne, flat1, Kd.isSca, flat, TYB]
                  refine ⟨?_, ?_⟩
                  · refine pick_use hS8.d hlt hm (by omega) fun y H9 k0 k1 hd9 hf9 => ?_
                    have hS9 := hS8.draw hd9 hf9 (Nat.le_refl _)
                    simp -implicitDefEqProofs only [ZB, Int.reduceToNat, Nat.reduceLT, Nat.reduceLeDiff, Int.reduceLE, Int.reduceLT, Nat.reduceEqDiff, Nat.reduceSub, SB, SV.known, packR, ne_eq, reduceCtorEq, Nat.reduceEqDiff, ↓reduceIte, if_true, if_false, eq_self, Nat.reduceAdd, Nat.reduceMul, Nat.reduceSub, forall_const, oneCellS, litOne, flat1, Kd.isSca, flat, TYB]
                    refine among_use (hS9.d.pushI hlt) hlt hm (by omega) (L := [-1, 6, 4611686018427387904]) (by simp [hget_cons]; rfl) (by omega) (by simp) fun z Hz hzl hdz hfz => ?_
                    have hSz := (hS9.pushI hlt).draw hdz hfz (Nat.le_refl _)
                    obtain ⟨Y, rfl⟩ : ∃ Y : Nat, y = Y := ⟨y.toNat, by omega⟩
                    have y4 : (Y : Int) < 4 := by omega
                    have xy : X * 4 + Y < 24 := by omega
                    have hz : In64 z := by simp at hzl; unfold In64; omega
                    have hrz := hSz.r
                    have lz := hSz.l
                    have hqz := hSz.lt
                    have hSw := (hSz.set hlt (R' := R2.set (X * 4 + Y) z) (by rw [List.length_set]; exact lz) (in64_set hSz.i hz)).more (k' := 300) (by omega)
                    simp -implicitDefEqProofs only [lk_normal, hrz, lz, x6, y4, xy, g0, k0, ZB, Int.reduceToNat, Nat.reduceLT, Nat.reduceLeDiff, Int.reduceLE, Int.reduceLT, Nat.reduceEqDiff, Nat.reduceSub, SB, SV.known, packR, ne_eq, reduceCtorEq, Nat.reduceEqDiff, ↓reduceIte, if_true, if_false, eq_self, Nat.reduceAdd, Nat.reduceMul, Nat.reduceSub, forall_const, oneCellS, litOne, flat1, Kd.isSca, flat, TYB]
                    exact ⟨by omega, ⟨(R2.set (X * 4 + Y) z, _, _), hSw⟩, Sub.same (by simp only [LB, subS, subH, wfS, wfH, SV.ren, renL, SObj.ren, SV.wf, SObj.wf, wfL, SV.known, Nat.reduceEqDiff, ↓reduceIte, if_true, if_false, eq_self, Nat.reduceAdd, Nat.reduceLT, Nat.reduceLeDiff, implies_true, reduceCtorEq, forall_const]; try rfl) (by simp [subS, subH, wfS, wfH, SV.ren, renL, SObj.ren, SV.wf, SObj.wf, wfL, sget_cons, hget_cons] <;> omega) hSw.d.wf hSw.d.le⟩
                  · refine pick_use (hS8.pushI hlt).d hlt hm (by omega) fun y H9 k0 k1 hd9 hf9 => ?_
                    have hS9 := (hS8.pushI hlt).draw hd9 hf9 (Nat.le_refl _)
                    simp -implicitDefEqProofs only [ZB, Int.reduceToNat, Nat.reduceLT, Nat.reduceLeDiff, Int.reduceLE, Int.reduceLT, Nat.reduceEqDiff, Nat.reduceSub, SB, SV.known, packR, ne_eq, reduceCtorEq, Nat.reduceEqDiff, ↓reduceIte, if_true, if_false, eq_self, Nat.reduceAdd, Nat.reduceMul, Nat.reduceSub, forall_const, oneCellS, litOne, flat1, Kd.isSca, flat, TYB]
                    refine among_use hS9.d hlt hm (by omega) (L := [-1, 6, 4611686018427387904]) (hf9.use (by omega) (by omega) (by simp [hget_cons]; rfl)) (by omega) (by simp) fun z Hz hzl hdz hfz => ?_
                    have hSz := hS9.draw hdz hfz (Nat.le_refl _)
                    obtain ⟨Y, rfl⟩ : ∃ Y : Nat, y = Y := ⟨y.toNat, by omega⟩
                    have y4 : (Y : Int) < 4 := by omega
                    have xy : X * 4 + Y < 24 := by omega
                    have hz : In64 z := by simp at hzl; unfold In64; omega
                    have hrz := hSz.r
                    have lz := hSz.l
                    have hqz := hSz.lt
                    have hSw := (hSz.set hlt (R' := R2.set (X * 4 + Y) z) (by rw [List.length_set]; exact lz) (in64_set hSz.i hz)).more (k' := 300) (by omega)
                    simp -implicitDefEqProofs only [lk_normal, hrz, lz, x6, y4, xy, g0, k0, ZB, Int.reduceToNat, Nat.reduceLT, Nat.reduceLeDiff, Int.reduceLE, Int.reduceLT, Nat.reduceEqDiff, Nat.reduceSub, SB, SV.known, packR, ne_eq, reduceCtorEq, Nat.reduceEqDiff, ↓reduceIte, if_true, if_false, eq_self, Nat.reduceAdd, Nat.reduceMul, Nat.reduceSub, forall_const, oneCellS, litOne, flat1, Kd.isSca, flat, TYB]
                    exact ⟨by omega, ⟨(R2.set (X * 4 + Y) z, _, _), hSw⟩, Sub.same (by simp only [LB, subS, subH, wfS, wfH, SV.ren, renL, SObj.ren, SV.wf, SObj.wf, wfL, SV.known, Nat.reduceEqDiff, ↓reduceIte, if_true, if_false, eq_self, Nat.reduceAdd, Nat.reduceLT, Nat.reduceLeDiff, implies_true, reduceCtorEq, forall_const]; try rfl) (by simp [subS, subH, wfS, wfH, SV.ren, renL, SObj.ren, SV.wf, SObj.wf, wfL, sget_cons, hget_cons] <;> omega) hSw.d.wf hSw.d.le⟩
                · refine pick_use (hS7.pushI hlt).d hlt hm (by omega) fun x H8 g0 g1 hd8 hf8 => ?_
                  have hS8 := (hS7.pushI hlt).draw hd8 hf8 (Nat.le_refl _)
                  have hb8 := hf8.use (by omega) (by omega) (show hget _ n4 = some (.ints [-1, 6, 4611686018427387904] 3) by simp [hget_cons])
                  obtain ⟨X, rfl⟩ : ∃ X : Nat, x = X := ⟨x.toNat, by omega⟩
                  have x6 : (X : Int) < 6 := by omega
                  simp -implicitDefEqProofs only [x6, g0, ZB, Int.reduceToNat, Nat.reduceLT, Nat.reduceLeDiff, Int.reduceLE, Int.reduceLT, Nat.reduceEqDiff, Nat.reduceSub, SB, SV.known, packR, ne_eq, reduceCtorEq, Nat.reduceEqDiff, ↓reduceIte, if_true, if_false, eq_self, Nat.reduceAdd, Nat.reduceMul, Nat.reduceSub, forall_const, oneCellS, litOne, flat1, Kd.isSca, flat, TYB]
                  refine pick_use hS8.d hlt hm (by omega) fun y H9 k0 k1 hd9 hf9 => ?_
                  have hS9 := hS8.draw hd9 hf9 (Nat.le_refl _)
                  simp -implicitDefEqProofs only [ZB, Int.reduceToNat, Nat.reduceLT, Nat.reduceLeDiff, Int.reduceLE, Int.reduceLT, Nat.reduceEqDiff, Nat.reduceSub, SB, SV.known, packR, ne_eq, reduceCtorEq, Nat.reduceEqDiff, ↓reduceIte, if_true, if_false, eq_self, Nat.reduceAdd, Nat.reduceMul, Nat.reduceSub, forall_const, oneCellS, litOne, flat1, Kd.isSca, flat, TYB]
                  refine among_use hS9.d hlt hm (by omega) (L := [-1, 6, 4611686018427387904]) (hf9.use (by omega) (by omega) hb8) (by omega) (by simp) fun z Hz hzl hdz hfz => ?_
                  have hSz := hS9.draw hdz hfz (Nat.le_refl _)
                  obtain ⟨Y, rfl⟩ : ∃ Y : Nat, y = Y := ⟨y.toNat, by omega⟩
                  have y4 : (Y : Int) < 4 := by omega
                  have xy : X * 4 + Y < 24 := by omega
                  have hz : In64 z := by simp at hzl; unfold In64; omega
                  have hrz := hSz.r
                  have lz := hSz.l
                  have hqz := hSz.lt
                  have hSw := (hSz.set hlt (R' := R2.set (X * 4 + Y) z) (by rw [List.length_set]; exact lz) (in64_set hSz.i hz)).more (k' := 300) (by omega)
                  simp -implicitDefEqProofs only [lk_normal, hrz, lz, x6, y4, xy, g0, k0, ZB, Int.reduceToNat, Nat.reduceLT, Nat.reduceLeDiff, Int.reduceLE, Int.reduceLT, Nat.reduceEqDiff, Nat.reduceSub, SB, SV.known, packR, ne_eq, reduceCtorEq, Nat.reduceEqDiff, ↓reduceIte, if_true, if_false, eq_self, Nat.reduceAdd, Nat.reduceMul, Nat.reduceSub, forall_const, oneCellS, litOne, flat1, Kd.isSca, flat, TYB]
                  exact ⟨by omega, ⟨(R2.set (X * 4 + Y) z, _, _), hSw⟩, Sub.same (by simp only [LB, subS, subH, wfS, wfH, SV.ren, renL, SObj.ren, SV.wf, SObj.wf, wfL, SV.known, Nat.reduceEqDiff, ↓reduceIte, if_true, if_false, eq_self, Nat.reduceAdd, Nat.reduceLT, Nat.reduceLeDiff, implies_true, reduceCtorEq, forall_const]; try rfl) (by simp [subS, subH, wfS, wfH, SV.ren, renL, SObj.ren, SV.wf, SObj.wf, wfL, sget_cons, hget_cons] <;> omega) hSw.d.wf hSw.d.le⟩
              · rintro ⟨⟨R9, H9, n9⟩, hS9⟩
                simp only at hS9
                have hr9 := hS9.r
                have l9 := hS9.l
                have hz9 := hS9.z
                have hq9 := hS9.lt
                have tk9 : R9.take 24 = R9 := List.take_of_length_le (by omega)
                simp -implicitDefEqProofs only [lk_normal, hr9, hz9, l9, tk9, ZB, Int.reduceToNat, Nat.reduceLT, Nat.reduceLeDiff, Int.reduceLE, Int.reduceLT, Nat.reduceEqDiff, Nat.reduceSub, SB, SV.known, packR, ne_eq, reduceCtorEq, Nat.reduceEqDiff, ↓reduceIte, if_true, if_false, eq_self, Nat.reduceAdd, Nat.reduceMul, Nat.reduceSub, forall_const, oneCellS, litOne, flat1, Kd.isSca, flat, TYB]
                exact ⟨hmn, fin R9 _ H9 n9 hS9.l hS9.i hS9.d (by omega) (by omega)⟩
            by_cases w1 : w = 1
            · have w1' : (w = 1) = True := eq_true w1
              simp -implicitDefEqProofs only [lk_normal, w0, w1', ZB, Int.reduceToNat, Nat.reduceLT, Nat.reduceLeDiff, Int.reduceLE, Int.reduceLT, Nat.reduceEqDiff, Nat.reduceSub, SB, SV.known, packR, ne_eq, reduceCtorEq, Nat.reduceEqDiff, ↓reduceIte, if_true, if_false, eq_self, Nat.reduceAdd, Nat.reduceMul, Nat.reduceSub, forall_const, oneCellS, litOne, flat1, Kd.isSca, flat, TYB]
              refine pick_use hS7.d hlt hm (by omega) fun x H8 g0 g1 hd8 hf8 => ?_
              have hS8 := hS7.draw hd8 hf8 (Nat.le_refl _)
              have hr8 := hS8.r
              have l8 := hS8.l
              have hz8 := hS8.z
              have hq8 := hS8.lt
              obtain ⟨X, rfl⟩ : ∃ X : Nat, x = X := ⟨x.toNat, by omega⟩
              have x6 : (X : Int) < 6 := by omega
              have x4 : X * 4 + 4 ≤ 24 := by omega
              let V : List Int := ((((List.replicate 4 (0 : Int)).set 0 0).set 1 1).set 2 0).set 3 0
              have e3 : (n = n + 3) = False := by simp
              have lV : V.length = 4 := rfl
              have eV : (((((List.replicate 4 (0 : Int)).set 0 0).set 1 1).set 2 0).set 3 0) = V := rfl
              have hRl : (R2.take (X * 4) ++ V ++ R2.drop (X * 4 + 4)).length = 24 := by
                rw [List.length_append, List.length_append, List.length_take, List.length_drop, lV]; omega
              have hRi : ∀ y ∈ R2.take (X * 4) ++ V ++ R2.drop (X * 4 + 4), In64 y := fun y hy => by
                rcases List.mem_append.1 hy with hy | hy
                · rcases List.mem_append.1 hy with hy | hy
                  · exact hS8.i y (List.mem_of_mem_take hy)
                  · have hy' : y ∈ ([0, 1, 0, 0] : List Int) := hy
                    simp at hy'; unfold In64; omega
                · exact hS8.i y (List.mem_of_mem_drop hy)
              have hS9 := hS8.set hlt hRl hRi
              have tk8 : (R2.take (X * 4) ++ V ++ R2.drop (X * 4 + 4)).take 24 = R2.take (X * 4) ++ V ++ R2.drop (X * 4 + 4) := List.take_of_length_le (by omega)
              simp -implicitDefEqProofs only [lk_normal, hr8, l8, hz8, x6, x4, g0, eV, lV, tk8, hRl, e3, ZB, Int.reduceToNat, Nat.reduceLT, Nat.reduceLeDiff, Int.reduceLE, Int.reduceLT, Nat.reduceEqDiff, Nat.reduceSub, SB, SV.known, packR, ne_eq, reduceCtorEq, Nat.reduceEqDiff, ↓reduceIte, if_true, if_false, eq_self, Nat.reduceAdd, Nat.reduceMul, Nat.reduceSub, forall_const, oneCellS, litOne, flat1, Kd.isSca, flat, TYB]
              exact ⟨by omega, hmn, fin _ _ _ n4 hRl hRi hS9.d (by omega) (by omega)⟩
            by_cases w2 : w = 2
            · have w2' : (w = 2) = True := eq_true w2
              simp -implicitDefEqProofs only [lk_normal, hz7, w0, w1, w2', ZB, Int.reduceToNat, Nat.reduceLT, Nat.reduceLeDiff, Int.reduceLE, Int.reduceLT, Nat.reduceEqDiff, Nat.reduceSub, SB, SV.known, packR, ne_eq, reduceCtorEq, Nat.reduceEqDiff, ↓reduceIte, if_true, if_false, eq_self, Nat.reduceAdd, Nat.reduceMul, Nat.reduceSub, forall_const, oneCellS, litOne, flat1, Kd.isSca, flat, TYB]
              exact ⟨hmn, fin (List.replicate 24 0) _ H7 n4 (by simp) (fun x hx => by rw [List.eq_of_mem_replicate hx]; simp [In64]) hS7.d (by omega) (by omega)⟩
            · simp -implicitDefEqProofs only [lk_normal, hr7, hz7, l7, tk7, w0, w1, w2, ZB, Int.reduceToNat, Nat.reduceLT, Nat.reduceLeDiff, Int.reduceLE, Int.reduceLT, Nat.reduceEqDiff, Nat.reduceSub, SB, SV.known, packR, ne_eq, reduceCtorEq, Nat.reduceEqDiff, ↓reduceIte, if_true, if_false, eq_self, Nat.reduceAdd, Nat.reduceMul, Nat.reduceSub, forall_const, oneCellS, litOne, flat1, Kd.isSca, flat, TYB]
              exact ⟨hmn, fin R2 _ H7 n4 l7 hS7.i hS7.d (by omega) (by omega)⟩
          · simp -implicitDefEqProofs only [lk_normal, ZB, Int.reduceToNat, Nat.reduceLT, Nat.reduceLeDiff, Int.reduceLE, Int.reduceLT, Nat.reduceEqDiff, Nat.reduceSub, SB, SV.known, packR, ne_eq, reduceCtorEq, Nat.reduceEqDiff, ↓reduceIte, if_true, if_false, eq_self, Nat.reduceAdd, Nat.reduceMul, Nat.reduceSub, forall_const, oneCellS, litOne, flat1, Kd.isSca, flat, TYB]
            refine pick_use hS6.d hlt hm (by omega) fun x Ha x0 x1 hda hfa => ?_
            have hSa := hS6.draw hda hfa (Nat.le_refl _)
            simp -implicitDefEqProofs only [ZB, Int.reduceToNat, Nat.reduceLT, Nat.reduceLeDiff, Int.reduceLE, Int.reduceLT, Nat.reduceEqDiff, Nat.reduceSub, SB, SV.known, packR, ne_eq, reduceCtorEq, Nat.reduceEqDiff, ↓reduceIte, if_true, if_false, eq_self, Nat.reduceAdd, Nat.reduceMul, Nat.reduceSub, forall_const, oneCellS, litOne, flat1, Kd.isSca, flat, TYB]
            refine pick_use hSa.d hlt hm (by omega) fun y Hb y0 y1 hdb hfb => ?_
            have hSb := hSa.draw hdb hfb (Nat.le_refl _)
            obtain ⟨X, rfl⟩ : ∃ X : Nat, x = X := ⟨x.toNat, by omega⟩
            obtain ⟨Y, rfl⟩ : ∃ Y : Nat, y = Y := ⟨y.toNat, by omega⟩
            have x6 : (X : Int) < 6 := by omega
            have y6 : (Y : Int) < 6 := by omega
            have x4 : X * 4 + 4 ≤ 24 := by omega
            have y4 : Y * 4 + 4 ≤ 24 := by omega
            have hrb := hSb.r
            have lb := hSb.l
            have hqb := hSb.lt
            simp -implicitDefEqProofs only [ZB, Int.reduceToNat, Nat.reduceLT, Nat.reduceLeDiff, Int.reduceLE, Int.reduceLT, Nat.reduceEqDiff, Nat.reduceSub, SB, SV.known, packR, ne_eq, reduceCtorEq, Nat.reduceEqDiff, ↓reduceIte, if_true, if_false, eq_self, Nat.reduceAdd, Nat.reduceMul, Nat.reduceSub, forall_const, oneCellS, litOne, flat1, Kd.isSca, flat, TYB]
            refine ⟨{q : (Nat × Nat) × Heap × Nat // RkS c kc a n H (n + 3) R2 170 q.2.1 q.2.2 ∧ hget q.2.1 q.1.1 = some (.ints ((R2.drop (X * 4)).take 4) 24) ∧ hget q.2.1 q.1.2 = some (.ints ((R2.drop (Y * 4)).take 4) 24) ∧ n + 3 < q.1.1 ∧ n + 3 < q.1.2 ∧ q.1.1 < q.2.2 ∧ q.1.2 < q.2.2},
              fun q => [(13, .ptr q.1.1.2 0), (12, .ptr q.1.1.1 0), (11, .int Y), (10, .int X), (3, .ptr (n + 3) 0), (2, .ptr n 0), (0, .ptr c 0)], fun q => q.1.2.1, fun q => q.1.2.2, ?_, ?_⟩
            · have lA : ((R2.drop (X * 4)).take 4).length = 4 := by rw [List.length_take, List.length_drop]; omega
              have lB : ((R2.drop (Y * 4)).take 4).length = 4 := by rw [List.length_take, List.length_drop]; omega
              have tA : ((R2.drop (X * 4)).take 4).take 4 = (R2.drop (X * 4)).take 4 := List.take_of_length_le (by omega)
              have tB : ((R2.drop (Y * 4)).take 4).take 4 = (R2.drop (Y * 4)).take 4 := List.take_of_length_le (by omega)
              have e3 : ∀ i, (n4 + i = n + 3) = False := fun i => by simp; omega
              have e4 : ∀ i, (n + 3 = n4 + i) = False := fun i => by simp; omega
              have e5 : (n4 = n + 3) = False := by simp; omega
              have e6 : (n + 3 = n4) = False := by simp; omega
              simp -implicitDefEqProofs only [hrb, lb, x0, x6, x4, y0, y6, y4, Nat.add_assoc, add_self, self_add, add_add, e3, e4, e5, e6, lA, lB, tA, tB, ZB, Int.reduceToNat, Nat.reduceLT, Nat.reduceLeDiff, Int.reduceLE, Int.reduceLT, Nat.reduceEqDiff, Nat.reduceSub, SB, SV.known, packR, ne_eq, reduceCtorEq, Nat.reduceEqDiff, ↓reduceIte, if_true, if_false, eq_self, Nat.reduceAdd, Nat.reduceMul, Nat.reduceSub, forall_const, oneCellS, litOne, flat1, Kd.isSca, flat, TYB]
              have hwk : ∀ (L1 L2 L3 L4 : List Int) (e1 e2 e3 e4 k1 k2 k3 k4 : Nat), n4 ≤ k1 → n4 ≤ k2 → n4 ≤ k3 → n4 ≤ k4 → k1 < n4 + 2 → k2 < n4 + 2 → k3 < n4 + 2 → k4 < n4 + 2 →
                  RkS c kc a n H (n + 3) R2 170 ((k1, .ints L1 e1) :: (k2, .ints L2 e2) :: (k3, .ints L3 e3) :: (k4, .ints L4 e4) :: Hb) (n4 + 2) := fun L1 L2 L3 L4 e1 e2 e3 e4 k1 k2 k3 k4 h1 h2 h3 h4 g1 g2 g3 g4 =>
                (hSb.more (by omega)).ext (hwf_cons (hwf_cons (hwf_cons (hwf_cons (hwf_mono (by omega) hSb.d.wf) g4 trivial) g3 trivial) g2 trivial) g1 trivial) (by omega) fun j o hj ho => by
                  rw [hget_cons, if_neg (by omega), hget_cons, if_neg (by omega), hget_cons, if_neg (by omega), hget_cons, if_neg (by omega)]
                  exact ho
              have hwj := fun (L1 L2 L3 L4 : List Int) (e1 e2 e3 e4 k1 k2 k3 k4 : Nat) h1 h2 h3 h4 g1 g2 g3 g4 => (hwk L1 L2 L3 L4 e1 e2 e3 e4 k1 k2 k3 k4 h1 h2 h3 h4 g1 g2 g3 g4).d.wf
              repeat' first
                | apply And.intro
                | omega
                | refine ⟨⟨((n4, n4 + 1), _, n4 + 2), hwk _ _ _ _ _ _ _ _ _ _ _ _ (by omega) (by omega) (by omega) (by omega) (by omega) (by omega) (by omega) (by omega), ?_, ?_, by show n + 3 < n4; omega, by show n + 3 < n4 + 1; omega, by show n4 < n4 + 2; omega, by show n4 + 1 < n4 + 2; omega⟩, Sub.same ?_ ?_ (hwj _ _ _ _ _ _ _ _ _ _ _ _ (by omega) (by omega) (by omega) (by omega) (by omega) (by omega) (by omega) (by omega)) (by show n ≤ n4 + 2; omega)⟩ <;> first | (simp [hget_cons]; done) | (simp only [LB, subS, subH, wfS, wfH, SV.ren, renL, SObj.ren, SV.wf, SObj.wf, wfL, SV.known, Nat.reduceEqDiff, ↓reduceIte, if_true, if_false, eq_self, Nat.reduceAdd, Nat.reduceLT, Nat.reduceLeDiff, implies_true, reduceCtorEq, forall_const]; done) | (simp [subS, subH, wfS, wfH, SV.ren, renL, SObj.ren, SV.wf, SObj.wf, wfL, sget_cons, hget_cons] <;> omega)
                | refine ⟨⟨((n4 + 1, n4), _, n4 + 2), hwk _ _ _ _ _ _ _ _ _ _ _ _ (by omega) (by omega) (by omega) (by omega) (by omega) (by omega) (by omega) (by omega), ?_, ?_, by show n + 3 < n4 + 1; omega, by show n + 3 < n4; omega, by show n4 + 1 < n4 + 2; omega, by show n4 < n4 + 2; omega⟩, Sub.same ?_ ?_ (hwj _ _ _ _ _ _ _ _ _ _ _ _ (by omega) (by omega) (by omega) (by omega) (by omega) (by omega) (by omega) (by omega)) (by show n ≤ n4 + 2; omega)⟩ <;> first | (simp [hget_cons]; done) | (simp only [LB, subS, subH, wfS, wfH, SV.ren, renL, SObj.ren, SV.wf, SObj.wf, wfL, SV.known, Nat.reduceEqDiff, ↓reduceIte, if_true, if_false, eq_self, Nat.reduceAdd, Nat.reduceLT, Nat.reduceLeDiff, implies_true, reduceCtorEq, forall_const]; done) | (simp [subS, subH, wfS, wfH, SV.ren, renL, SObj.ren, SV.wf, SObj.wf, wfL, sget_cons, hget_cons] <;> omega)
            · rintro ⟨⟨⟨b1, b2⟩, Hc, nc⟩, hSc, g1, g2, g3, g4, g5, g6⟩
              simp only at hSc g1 g2 g3 g4 g5 g6
              have lA : ((R2.drop (X * 4)).take 4).length = 4 := by rw [List.length_take, List.length_drop]; omega
              have lB : ((R2.drop (Y * 4)).take 4).length = 4 := by rw [List.length_take, List.length_drop]; omega
              have tA : ((R2.drop (X * 4)).take 4).take 4 = (R2.drop (X * 4)).take 4 := List.take_of_length_le (by omega)
              have tB : ((R2.drop (Y * 4)).take 4).take 4 = (R2.drop (Y * 4)).take 4 := List.take_of_length_le (by omega)
              have hrc := hSc.r
              have e1 : (b1 = n + 3) = False := by simp; omega
              simp -implicitDefEqProofs only [lk_normal, g1, g2, hrc, lb, lA, lB, tA, tB, x0, x6, x4, y0, y6, y4, e1, ZB, Int.reduceToNat, Nat.reduceLT, Nat.reduceLeDiff, Int.reduceLE, Int.reduceLT, Nat.reduceEqDiff, Nat.reduceSub, SB, SV.known, packR, ne_eq, reduceCtorEq, Nat.reduceEqDiff, ↓reduceIte, if_true, if_false, eq_self, Nat.reduceAdd, Nat.reduceMul, Nat.reduceSub, forall_const, oneCellS, litOne, flat1, Kd.isSca, flat, TYB]
              have hl4 : (R2.take (X * 4) ++ (R2.drop (Y * 4)).take 4 ++ R2.drop (X * 4 + 4)).length = 24 := by
                rw [List.length_append, List.length_append, List.length_take, List.length_drop, lB]; omega
              have hi4 : ∀ z ∈ R2.take (X * 4) ++ (R2.drop (Y * 4)).take 4 ++ R2.drop (X * 4 + 4), In64 z := fun z hz => by
                rcases List.mem_append.1 hz with hz | hz
                · rcases List.mem_append.1 hz with hz | hz
                  · exact hSb.i z (List.mem_of_mem_take hz)
                  · exact hSb.i z (List.mem_of_mem_drop (List.mem_of_mem_take hz))
                · exact hSb.i z (List.mem_of_mem_drop hz)
              have hSc1 := hSc.set hlt hl4 hi4
              generalize R2.take (X * 4) ++ (R2.drop (Y * 4)).take 4 ++ R2.drop (X * 4 + 4) = R4 at *
              have hl5 : (R4.take (Y * 4) ++ (R2.drop (X * 4)).take 4 ++ R4.drop (Y * 4 + 4)).length = 24 := by
                rw [List.length_append, List.length_append, List.length_take, List.length_drop, lA]; omega
              have hi5 : ∀ z ∈ R4.take (Y * 4) ++ (R2.drop (X * 4)).take 4 ++ R4.drop (Y * 4 + 4), In64 z := fun z hz => by
                rcases List.mem_append.1 hz with hz | hz
                · rcases List.mem_append.1 hz with hz | hz
                  · exact hi4 z (List.mem_of_mem_take hz)
                  · exact hSb.i z (List.mem_of_mem_drop (List.mem_of_mem_take hz))
                · exact hi4 z (List.mem_of_mem_drop hz)
              have hSd := hSc1.set hlt hl5 hi5
              generalize R4.take (Y * 4) ++ (R2.drop (X * 4)).take 4 ++ R4.drop (Y * 4 + 4) = R5 at *
              refine ⟨by omega, by omega, by omega, ?_⟩
              refine pick_use hSd.d hlt hm (by omega) fun w H7 hw0 hw1 hd7 hf7 => ?_
              have hS7 := hSd.draw hd7 hf7 (Nat.le_refl _)
              have hr7 := hS7.r
              have hz7 := hS7.z
              have l7 := hS7.l
              have tk7 : R5.take 24 = R5 := List.take_of_length_le (by omega)
              have fin : ∀ (R' : List Int) (k' : Nat) (H' : Heap) (n' : Nat), R'.length = 24 → (∀ x ∈ R', In64 x) → Drawn c kc a k' n H H' n' → n < n' → k' ≤ 1000 → ∃ R : List Int, R' = R ∧ R.length = 24 ∧ (∀ x ∈ R, In64 x) ∧ Drawn c kc a 1000 n H ((n, .ints R' 27) :: H') n' := fun R' k' H' n' h1 h2 h3 h4 h5 => ⟨R', rfl, h1, h2, (h3.more h5).putI hlt (Nat.le_refl _) h4⟩
              have hq7 := hS7.lt
              by_cases w0 : w = 0
              · have w0' : (w = 0) = True := eq_true w0
                simp -implicitDefEqProofs only [lk_normal, w0', ZB, Int.reduceToNat, Nat.reduceLT, Nat.reduceLeDiff, Int.reduceLE, Int.reduceLT, Nat.reduceEqDiff, Nat.reduceSub, SB, SV.known, packR, ne_eq, reduceCtorEq, Nat.reduceEqDiff, ↓reduceIte, if_true, if_false, eq_self, Nat.reduceAdd, Nat.reduceMul, Nat.reduceSub, forall_const, oneCellS, litOne, flat1, Kd.isSca, flat, TYB]
                refine ⟨{q : List Int × Heap × Nat // RkS c kc a n H (n + 3) q.1 300 q.2.1 q.2.2}, fun q => [(3, .ptr (n + 3) 0), (2, .ptr n 0)], fun q => q.1.2.1, fun q => q.1.2.2, ?_, ?_⟩
                · simp -implicitDefEqProofs only [ZB, Int.reduceToNat, Nat.reduceLT, Nat.reduceLeDiff, Int.reduceLE, Int.reduceLT, Nat.reduceEqDiff, Nat.reduceSub, SB, SV.known, packR, ne_eq, reduceCtorEq, Nat.reduceEqDiff, ↓reduceIte, if_true, if_false, eq_self, Nat.reduceAdd, Nat.reduceMul, Nat.reduceSub, forall_const, oneCellS, litOne, flat1, Kd.isSca, flat, TYB]
                  refine ⟨?_, ?_⟩
                  · refine pick_use hS7.d hlt hm (by omega) fun x H8 g0 g1 hd8 hf8 => ?_
                    have hS8 := hS7.draw hd8 hf8 (Nat.le_refl _)
                    obtain ⟨X, rfl⟩ : ∃ X : Nat, x = X := ⟨x.toNat, by omega⟩
                    have x6 : (X : Int) < 6 := by omega
                    simp -implicitDefEqProofs only [x6, g0, ZB, Int.reduceToNat, Nat.reduceLT, Nat.reduceLeDiff, Int.reduceLE, Int.reduceLT, Nat.reduceEqDiff, Nat.reduceSub, SB, SV.known, packR, ne_eq, reduceCtorEq, Nat.reduceEqDiff, ↓reduceIte, if_true, if_false, eq_self, Nat.reduceAdd, Nat.reduceMul, Nat.reduceSub, forall_const, oneCellS, litOne, flat1, Kd.isSca, flat, TYB]
                    refine ⟨?_, ?_⟩
                    · refine pick_use hS8.d hlt hm (by omega) fun y H9 k0 k1 hd9 hf9 => ?_
                      have hS9 := hS8.draw hd9 hf9 (Nat.le_refl _)
                      simp -implicitDefEqProofs only [ZB, Int.reduceToNat, Nat.reduceLT, Nat.reduceLeDiff, Int.reduceLE, Int.reduceLT, Nat.reduceEqDiff, Nat.reduceSub, SB, SV.known, packR, ne_eq, reduceCtorEq, Nat.reduceEqDiff, ↓reduceIte, if_true, if_false, eq_self, Nat.reduceAdd, Nat.reduceMul, Nat.reduceSub, forall_const, oneCellS, litOne, flat1, Kd.isSca, flat, TYB]
                      refine among_use (hS9.d.pushI hlt) hlt hm (by omega) (L := [-1, 6, 4611686018427387904]) (by simp [hget_cons]; rfl) (by omega) (by simp) fun z Hz hzl hdz hfz => ?_
                      have hSz := (hS9.pushI hlt).draw hdz hfz (Nat.le_refl _)
                      obtain ⟨Y, rfl⟩ : ∃ Y : Nat, y = Y := ⟨y.toNat, by omega⟩
                      have y4 : (Y : Int) < 4 := by omega
                      have xy : X * 4 + Y < 24 := by omega
                      have hz : In64 z := by simp at hzl; unfold In64; omega
                      have hrz := hSz.r
                      have lz := hSz.l
                      have hqz := hSz.lt
                      have hSw := (hSz.set hlt (R' := R5.set (X * 4 + Y) z) (by rw [List.length_set]; exact lz) (in64_set hSz.i hz)).more (k' := 300) (by omega)
                      simp -implicitDefEqProofs only [lk_normal, hrz, lz, x6, y4, xy, g0, k0, ZB, Int.reduceToNat, Nat.reduceLT, Nat.reduceLeDiff, Int.reduceLE, Int.reduceLT, Nat.reduceEqDiff, Nat.reduceSub, SB, SV.known, packR, ne_eq, reduceCtorEq, Nat.reduceEqDiff, ↓reduceIte, if_true, if_false, eq_self, Nat.reduceAdd, Nat.reduceMul, Nat.reduceSub, forall_const, oneCellS, litOne, flat1, Kd.isSca, flat, TYB]
                      exact ⟨by omega, ⟨(R5.set (X * 4 + Y) z, _, _), hSw⟩, Sub.same (by simp only [LB, subS, subH, wfS, wfH, SV.ren, renL, SObj.ren, SV.wf, SObj.wf, wfL, SV.known, Nat.reduceEqDiff, ↓reduceIte, if_true, if_false, eq_self, Nat.reduceAdd, Nat.reduceLT, Nat.reduceLeDiff, implies_true, reduceCtorEq, forall_const]; try rfl) (by simp [subS, subH, wfS, wfH, SV.ren, renL, SObj.ren, SV.wf, SObj.wf, wfL, sget_cons, hget_cons] <;> omega) hSw.d.wf hSw.d.le⟩
                    · refine pick_use (hS8.pushI hlt).d hlt hm (by omega) fun y H9 k0 k1 hd9 hf9 => ?_
                      have hS9 := (hS8.pushI hlt).draw hd9 hf9 (Nat.le_refl _)
                      simp -implicitDefEqProofs only [ZB, Int.reduceToNat, Nat.reduceLT, Nat.reduceLeDiff, Int.reduceLE, Int.reduceLT, Nat.reduceEqDiff, Nat.reduceSub, SB, SV.known, packR, ne_eq, reduceCtorEq, Nat.reduceEqDiff, ↓reduceIte, if_true, if_false, eq_self, Nat.reduceAdd, Nat.reduceMul, Nat.reduceSub, forall_const, oneCellS, litOne, flat1, Kd.isSca, flat, TYB]
                      refine among_use hS9.d hlt hm (by omega) (L := [-1, 6, 4611686018427387904]) (hf9.use (by omega) (by omega) (by simp [hget_cons]; rfl)) (by omega) (by simp) fun z Hz hzl hdz hfz => ?_
                      have hSz := hS9.draw hdz hfz (Nat.le_refl _)
                      obtain ⟨Y, rfl⟩ : ∃ Y : Nat, y = Y := ⟨y.toNat, by omega⟩
                      have y4 : (Y : Int) < 4 := by omega
                      have xy : X * 4 + Y < 24 := by omega
                      have hz : In64 z := by simp at hzl; unfold In64; omega
                      have hrz := hSz.r
                      have lz := hSz.l
                      have hqz := hSz.lt
                      have hSw := (hSz.set hlt (R' := R5.set (X * 4 + Y) z) (by rw [List.length_set]; exact lz) (in64_set hSz.i hz)).more (k' := 300) (by omega)
                      simp -implicitDefEqProofs only [lk_normal, hrz, lz, x6, y4, xy, g0, k0, ZB, Int.reduceToNat, Nat.reduceLT, Nat.reduceLeDiff, Int.reduceLE, Int.reduceLT, Nat.reduceEqDiff, Nat.reduceSub, SB, SV.known, packR, ne_eq, reduceCtorEq, Nat.reduceEqDiff, ↓reduceIte, if_true, if_false, eq_self, Nat.reduceAdd, Nat.reduceMul, Nat.reduceSub, forall_const, oneCellS, litOne, flat1, Kd.isSca, flat, TYB]
                      exact ⟨by omega, ⟨(R5.set (X * 4 + Y) z, _, _), hSw⟩, Sub.same (by simp only [LB, subS, subH, wfS, wfH, SV.ren, renL, SObj.ren, SV.wf, SObj.wf, wfL, SV.known, Nat.reduceEqDiff, ↓reduceIte, if_true, if_false, eq_self, Nat.reduceAdd, Nat.reduceLT, Nat.reduceLeDiff, implies_true, reduceCtorEq, forall_const]; try rfl) (by simp [subS, subH, wfS, wfH, SV.ren, renL, SObj.ren, SV.wf, SObj.wf, wfL, sget_cons, hget_cons] <;> omega) hSw.d.wf hSw.d.le⟩
                  · refine pick_use (hS7.pushI hlt).d hlt hm (by omega) fun x H8 g0 g1 hd8 hf8 => ?_
                    have hS8 := (hS7.pushI hlt).draw hd8 hf8 (Nat.le_refl _)
                    have hb8 := hf8.use (by omega) (by omega) (show hget _ nc = some (.ints [-1, 6, 4611686018427387904] 3) by simp [hget_cons])
                    obtain ⟨X, rfl⟩ : ∃ X : Nat, x = X := ⟨x.toNat, by omega⟩
                    have x6 : (X : Int) < 6 := by omega
                    simp -implicitDefEqProofs only [x6, g0, ZB, Int.reduceToNat, Nat.reduceLT, Nat.reduceLeDiff, Int.reduceLE, Int.reduceLT, Nat.reduceEqDiff, Nat.reduceSub, SB, SV.known, packR, ne_eq, reduceCtorEq, Nat.reduceEqDiff, ↓reduceIte, if_true, if_false, eq_self, Nat.reduceAdd, Nat.reduceMul, Nat.reduceSub, forall_const, oneCellS, litOne, flat1, Kd.isSca, flat, TYB]
                    refine pick_use hS8.d hlt hm (by omega) fun y H9 k0 k1 hd9 hf9 => ?_
                    have hS9 := hS8.draw hd9 hf9 (Nat.le_refl _)
                    simp -implicitDefEqProofs only [ZB, Int.reduceToNat, Nat.reduceLT, Nat.reduceLeDiff, Int.reduceLE, Int.reduceLT, Nat.reduceEqDiff, Nat.reduceSub, SB, SV.known, packR, ne_eq, reduceCtorEq, Nat.reduceEqDiff, ↓reduceIte, if_true, if_false, eq_self, Nat.reduceAdd, Nat.reduceMul, Nat.reduceSub, forall_const, oneCellS, litOne, flat1, Kd.isSca, flat, TYB]
                    refine among_use hS9.d hlt hm (by omega) (L := [-1, 6, 4611686018427387904]) (hf9.use (by omega) (by omega) hb8) (by omega) (by simp) fun z Hz hzl hdz hfz => ?_
                    have hSz := hS9.draw hdz hfz (Nat.le_refl _)
                    obtain ⟨Y, rfl⟩ : ∃ Y : Nat, y = Y := ⟨y.toNat, by omega⟩
                    have y4 : (Y : Int) < 4 := by omega
                    have xy : X * 4 + Y < 24 := by omega
                    have hz : In64 z := by simp at hzl; unfold In64; omega
                    have hrz := hSz.r
                    have lz := hSz.l
                    have hqz := hSz.lt
                    have hSw := (hSz.set hlt (R' := R5.set (X * 4 + Y) z) (by rw [List.length_set]; exact lz) (in64_set hSz.i hz)).more (k' := 300) (by omega)
                    simp -implicitDefEqProofs only [lk_normal, hrz, lz, x6, y4, xy, g0, k0, ZB, Int.reduceToNat, Nat.reduceLT, Nat.reduceLeDiff, Int.reduceLE, Int.reduceLT, Nat.reduceEqDiff, Nat.reduceSub, SB, SV.known, packR, ne_eq, reduceCtorEq, Nat.reduceEqDiff, ↓reduceIte, if_true, if_false, eq_self, Nat.reduceAdd, Nat.reduceMul, Nat.reduceSub, forall_const, oneCellS, litOne, flat1, Kd.isSca, flat, TYB]
                    exact ⟨by omega, ⟨(R5.set (X * 4 + Y) z, _, _), hSw⟩, Sub.same (by simp only [LB, subS, subH, wfS, wfH, SV.ren, renL, SObj.ren, SV.wf, SObj.wf, wfL, SV.known, Nat.reduceEqDiff, ↓reduceIte, if_true, if_false, eq_self, Nat.reduceAdd, Nat.reduceLT, Nat.reduceLeDiff, implies_true, reduceCtorEq, forall_const]; try rfl) (by simp [subS, subH, wfS, wfH, SV.ren, renL, SObj.ren, SV.wf, SObj.wf, wfL, sget_cons, hget_cons] <;> omega) hSw.d.wf hSw.d.le⟩
                · rintro ⟨⟨R9, H9, n9⟩, hS9⟩
                  simp only at hS9
                  have hr9 := hS9.r
                  have l9 := hS9.l
                  have hz9 := hS9.z
                  have hq9 := hS9.lt
                  have tk9 : R9.take 24 = R9 := List.take_of_length_le (by omega)
                  simp -implicitDefEqProofs only [lk_normal, hr9, hz9, l9, tk9, ZB, Int.reduceToNat, Nat.reduceLT, Nat.reduceLeDiff, Int.reduceLE, Int.reduceLT, Nat.reduceEqDiff, Nat.reduceSub, SB, SV.known, packR, ne_eq, reduceCtorEq, Nat.reduceEqDiff, ↓reduceIte, if_true, if_false, eq_self, Nat.reduceAdd, Nat.reduceMul, Nat.reduceSub, forall_const, oneCellS, litOne, flat1, Kd.isSca, flat, TYB]
                  exact ⟨hmn, fin R9 _ H9 n9 hS9.l hS9.i hS9.d (by omega) (by omega)⟩
              by_cases w1 : w = 1
              · have w1' : (w = 1) = True := eq_true w1
                simp -implicitDefEqProofs only [lk_normal, w0, w1', ZB, Int.reduceToNat, Nat.reduceLT, Nat.reduceLeDiff, Int.reduceLE, Int.reduceLT, Nat.reduceEqDiff, Nat.reduceSub, SB, SV.known, packR, ne_eq, reduceCtorEq, Nat.reduceEqDiff, ↓reduceIte, if_true, if_false, eq_self, Nat.reduceAdd, Nat.reduceMul, Nat.reduceSub, forall_const, oneCellS, litOne, flat1, Kd.isSca, flat, TYB]
                refine pick_use hS7.d hlt hm (by omega) fun x H8 g0 g1 hd8 hf8 => ?_
                have hS8 := hS7.draw hd8 hf8 (Nat.le_refl _)
                have hr8 := hS8.r
                have l8 := hS8.l
                have hz8 := hS8.z
                have hq8 := hS8.lt
                obtain ⟨X, rfl⟩ : ∃ X : Nat, x = X := ⟨x.toNat, by omega⟩
                have x6 : (X : Int) < 6 := by omega
                have x4 : X * 4 + 4 ≤ 24 := by omega
                let V : List Int := ((((List.replicate 4 (0 : Int)).set 0 0).set 1 1).set 2 0).set 3 0
                have e3 : (n = n + 3) = False := by simp
                have lV : V.length = 4 := rfl
                have eV : (((((List.replicate 4 (0 : Int)).set 0 0).set 1 1).set 2 0).set 3 0) = V := rfl
                have hRl : (R5.take (X * 4) ++ V ++ R5.drop (X * 4 + 4)).length = 24 := by
                  rw [List.length_append, List.length_append, List.length_take, List.length_drop, lV]; omega
                have hRi : ∀ y ∈ R5.take (X * 4) ++ V ++ R5.drop (X * 4 + 4), In64 y := fun y hy => by
                  rcases List.mem_append.1 hy with hy | hy
                  · rcases List.mem_append.1 hy with hy | hy
                    · exact hS8.i y (List.mem_of_mem_take hy)
                    · have hy' : y ∈ ([0, 1, 0, 0] : List Int) := hy
                      simp at hy'; unfold In64; omega
                  · exact hS8.i y (List.mem_of_mem_drop hy)
                have hS9 := hS8.set hlt hRl hRi
                have tk8 : (R5.take (X * 4) ++ V ++ R5.drop (X * 4 + 4)).take 24 = R5.take (X * 4) ++ V ++ R5.drop (X * 4 + 4) := List.take_of_length_le (by omega)
                simp -implicitDefEqProofs only [lk_normal, hr8, l8, hz8, x6, x4, g0, eV, lV, tk8, hRl, e3, ZB, Int.reduceToNat, Nat.reduceLT, Nat.reduceLeDiff, Int.reduceLE, Int.reduceLT, Nat.reduceEqDiff, Nat.reduceSub, SB, SV.known, packR, ne_eq, reduceCtorEq, Nat.reduceEqDiff, ↓reduceIte, if_true, if_false, eq_self, Nat.reduceAdd, Nat.reduceMul, Nat.reduceSub, forall_const, oneCellS, litOne, flat1, Kd.isSca, flat, TYB]
                exact ⟨by omega, hmn, fin _ _ _ nc hRl hRi hS9.d (by omega) (by omega)⟩
              by_cases w2 : w = 2
              · have w2' : (w = 2) = True := eq_true w2
                simp -implicitDefEqProofs only [lk_normal, hz7, w0, w1, w2', ZB, Int.reduceToNat, Nat.reduceLT, Nat.reduceLeDiff, Int.reduceLE, Int.reduceLT, Nat.reduceEqDiff, Nat.reduceSub, SB, SV.known, packR, ne_eq, reduceCtorEq, Nat.reduceEqDiff, ↓reduceIte, if_true, if_false, eq_self, Nat.reduceAdd, Nat.reduceMul, Nat.reduceSub, forall_const, oneCellS, litOne, flat1, Kd.isSca, flat, TYB]
                exact ⟨hmn, fin (List.replicate 24 0) _ H7 nc (by simp) (fun x hx => by rw [List.eq_of_mem_replicate hx]; simp [In64]) hS7.d (by omega) (by omega)⟩
              · simp -implicitDefEqProofs only [lk_normal, hr7, hz7, l7, tk7, w0, w1, w2, ZB, Int.reduceToNat, Nat.reduceLT, Nat.reduceLeDiff, Int.reduceLE, Int.reduceLT, Nat.reduceEqDiff, Nat.reduceSub, SB, SV.known, packR, ne_eq, reduceCtorEq, Nat.reduceEqDiff, ↓reduceIte, if_true, if_false, eq_self, Nat.reduceAdd, Nat.reduceMul, Nat.reduceSub, forall_const, oneCellS, litOne, flat1, Kd.isSca, flat, TYB]
                exact ⟨hmn, fin R5 _ H7 nc l7 hS7.i hS7.d (by omega) (by omega)⟩
def rack_F : List SV → Heap → Nat → Nat → K1 → Prop
  | [.ptr c 0], H, n, m, κ => ∃ kc a, CurH c kc a H ∧ m ≤ c ∧ m ≤ n ∧ a ≤ 990000 ∧ ∀ (R : List Int) H' n', R.length = 24 → (∀ x ∈ R, In64 x) → Drawn c kc a 1000 n H H' n' → κ (.arr R) H' n'
  | _, _, _, _, _ => False
theorem rack_T : ∀ args H n m κ, rack_F args H n m κ → GenOK Try.prog 100 args H n m κ := by
  intro args H n m κ h
  unfold rack_F at h
  split at h
  · rename_i c
    obtain ⟨kc, a, hC, hm, hmn, ha, h1⟩ := h
    exact gen_direct (X := ⟨Try.prog, tys, [], [(61, pick_F), (60, one_F), (62, among_F)], true, true, m, [61, 60, 62], [(21, .tree (.one 0 (.one 1 (.one 2 (.one 3 (.one 4 (.one 5 (.one 6 (.alt 7 (.alt 8 (.one 9 (.one 10 (.one 11 .done))) (.alt 9 (.one 8 (.one 10 (.one 11 .done))) .stop)) (.alt 8 (.alt 7 (.one 9 (.one 10 (.one 11 .done))) (.alt 9 (.alt 7 (.one 10 (.one 11 .done)) (.alt 10 (.one 7 (.one 11 .done)) .stop)) .stop)) (.alt 9 (.alt 7 (.one 8 (.one 10 (.one 11 .done))) (.alt 8 (.alt 7 (.one 10 (.one 11 .done)) (.alt 10 (.one 7 (.one 11 .done)) .stop)) .stop)) .stop))))))))))), (26, .tree (.one 0 (.one 2 (.one 4 (.one 7 (.alt 1 (.one 8 (.alt 3 (.one 5 (.one 6 (.one 9 (.one 10 .done)))) (.alt 5 (.one 3 (.one 6 (.one 9 (.one 10 .done)))) .stop))) (.alt 5 (.one 1 (.one 3 (.one 6 (.one 8 (.one 9 (.one 10 .done)))))) .stop)))))))]⟩) fnx_rack ⟨tys_ok, .nil, .cons pick_T (.cons one_T (.cons among_T .nil)), mixed⟩ rfl (Nat.le_of_ble_eq_true rfl) (fun hwH hwa => rack_vc c kc a m n H hC hm hmn ha hwH) fun hwH v H' n' hψ h3 h4 h5 => by
      obtain ⟨R, rfl, g1, g2, g3⟩ := hψ
      exact h1 R H' n' g1 g2 g3
  · exact h.elim
theorem rack_use {c kc a k n0 n m : Nat} {H0 H : Heap} {κ : K1} (h : Drawn c kc a k n0 H0 H n) (hc : c < n0 ∧ kc < n0 ∧ kc ≠ c) (hm : m ≤ c) (hmn : m ≤ n) (ha : a + k ≤ 990000)
    (hκ : ∀ (R : List Int) H' n', R.length = 24 → (∀ x ∈ R, In64 x) → Drawn c kc a (k + 1000) n0 H0 H' n' → n ≤ n' → Fr n0 n H H' → κ (.arr R) H' n') : rack_F [.ptr c 0] H n m κ := by
  obtain ⟨b', g1, g2, g3⟩ := h.cur
  exact ⟨kc, b', g3, hm, hmn, by omega, fun R H' n' h1 h2 hd => hκ R H' n' h1 h2 (h.trans hd g2 g1) hd.le (hd.own hc.1)⟩
/-- A pour of a rack, or any two places. -/
theorem fnx_pour : FnOK Try.prog 113 Try.f113 (Try.f113.body.getD .skip) [61, 60, 69] [] := ⟨Try.func113, rfl, by kernel_rfl, by kernel_rfl⟩
theorem dpour_vc (c kc a m n : Nat) (H : Heap) (R : List Int) (hR : R.length = 24) (hC : CurH c kc a H) (hm : m ≤ c) (hmn : m ≤ n) (ha : a ≤ 995000) (hwH : hwf n H) :
    codeVC (⟨Try.prog, tys, [(51, l2Rack_F)], [(61, pick_F), (60, one_F), (69, place_F), (123, l2Pours_F)], true, true, m, [61, 60, 69], []⟩ : Cx) n (Try.f113.body.getD .skip) (argS 0 [.ptr c 0, .arr R]) H n
      (retK tys Try.f113.results.toList fun v H' n' => ∃ x y : Int, v = .arr [x, y] ∧ In64 x ∧ In64 y ∧ Drawn c kc a 100 n H H' n') := by
  have hlt := hC.lt hwH
  have tkR : R.take 24 = R := List.take_of_length_le (by omega)
  simp -implicitDefEqProofs only [Try.f113, Option.getD_some, argS, l2Rack_F, hR, tkR, Nat.add_assoc, add_self, self_add, add_add, ZB, Int.reduceToNat, Nat.reduceLT, Nat.reduceLeDiff, Int.reduceLE, Int.reduceLT, Nat.reduceEqDiff, Nat.reduceSub, SB, SV.known, packR, ne_eq, reduceCtorEq, Nat.reduceEqDiff, ↓reduceIte, if_true, if_false, eq_self, Nat.reduceAdd, Nat.reduceMul, Nat.reduceSub, forall_const, oneCellS, litOne, flat1, Kd.isSca, flat, TYB]
  have d0 : Drawn c kc a 0 n H ((n + 1, .ints (List.replicate 2 0) 47) :: (n, .ints R 27) :: H) (n + 2) := ((Drawn.start hC hwH).pushI hlt).pushI hlt
  have hb0 : hget ((n + 1, .ints (List.replicate 2 0) 47) :: (n, .ints R 27) :: H) (n + 1) = some (.ints (List.replicate 2 0) 47) := by simp [hget_cons]
  have hr0 : hget ((n + 1, .ints (List.replicate 2 0) 47) :: (n, .ints R 27) :: H) n = some (.ints R 27) := by simp [hget_cons]
  cases hr : rackB R
  · simp -implicitDefEqProofs only [lk_normal, Nat.add_assoc, add_self, self_add, add_add, ZB, Int.reduceToNat, Nat.reduceLT, Nat.reduceLeDiff, Int.reduceLE, Int.reduceLT, Nat.reduceEqDiff, Nat.reduceSub, SB, SV.known, packR, ne_eq, reduceCtorEq, Nat.reduceEqDiff, ↓reduceIte, if_true, if_false, eq_self, Nat.reduceAdd, Nat.reduceMul, Nat.reduceSub, forall_const, oneCellS, litOne, flat1, Kd.isSca, flat, TYB]
    refine place_use d0 hlt hm (by omega) fun x H1 n1 hx hd1 hle1 hf1 => ?_
    have hb1 := hf1.use (by omega) (by omega) hb0
    simp -implicitDefEqProofs only [lk_normal, ZB, Int.reduceToNat, Nat.reduceLT, Nat.reduceLeDiff, Int.reduceLE, Int.reduceLT, Nat.reduceEqDiff, Nat.reduceSub, SB, SV.known, packR, ne_eq, reduceCtorEq, Nat.reduceEqDiff, ↓reduceIte, if_true, if_false, eq_self, Nat.reduceAdd, Nat.reduceMul, Nat.reduceSub, forall_const, oneCellS, litOne, flat1, Kd.isSca, flat, TYB]
    refine place_use hd1 hlt hm (by omega) fun y H2 n2 hy hd2 hle2 hf2 => ?_
    have hb2 := hf2.use (by omega) (by omega) hb1
    simp -implicitDefEqProofs only [hb2, ZB, Int.reduceToNat, Nat.reduceLT, Nat.reduceLeDiff, Int.reduceLE, Int.reduceLT, Nat.reduceEqDiff, Nat.reduceSub, SB, SV.known, packR, ne_eq, reduceCtorEq, Nat.reduceEqDiff, ↓reduceIte, if_true, if_false, eq_self, Nat.reduceAdd, Nat.reduceMul, Nat.reduceSub, forall_const, oneCellS, litOne, flat1, Kd.isSca, flat, TYB]
    exact ⟨by omega, x, y, ⟨rfl, rfl⟩, hx, hy, (hd2.more (by omega)).putI hlt (by omega) (by omega)⟩
  · simp -implicitDefEqProofs only [lk_normal, Nat.add_assoc, add_self, self_add, add_add, ZB, Int.reduceToNat, Nat.reduceLT, Nat.reduceLeDiff, Int.reduceLE, Int.reduceLT, Nat.reduceEqDiff, Nat.reduceSub, SB, SV.known, packR, ne_eq, reduceCtorEq, Nat.reduceEqDiff, ↓reduceIte, if_true, if_false, eq_self, Nat.reduceAdd, Nat.reduceMul, Nat.reduceSub, forall_const, oneCellS, litOne, flat1, Kd.isSca, flat, TYB]
    refine one_use d0 hlt hm (by omega) fun o H0 hd0 hf0 => ?_
    have hb := hf0.use (by omega) (by omega) hb0
    have hrb := hf0.use (by omega) (by omega) hr0
    cases o
    · obtain ⟨np, hnp, hnp36⟩ := PL_even R 36
      have ehp : (PL R 36).length / 2 = np := by omega
      have hbd := PL_bd R 36 (Nat.le_refl _)
      simp -implicitDefEqProofs only [lk_normal, l2Pours_F, freshK, Wrap.ap, hrb, hR, tkR, hr, ehp, ZB, Int.reduceToNat, Nat.reduceLT, Nat.reduceLeDiff, Int.reduceLE, Int.reduceLT, Nat.reduceEqDiff, Nat.reduceSub, SB, SV.known, packR, ne_eq, reduceCtorEq, Nat.reduceEqDiff, ↓reduceIte, if_true, if_false, eq_self, Nat.reduceAdd, Nat.reduceMul, Nat.reduceSub, forall_const, oneCellS, litOne, flat1, Kd.isSca, flat, TYB]
      intro cp jp hjp
      have hdp := hd0.pushI hlt (L := PL R 36 ++ jp) (e := 47)
      have hbp : hget ((n + 2, .ints (PL R 36 ++ jp) 47) :: H0) (n + 1) = some (.ints (List.replicate 2 0) 47) := by rw [hget_cons, if_neg (by omega)]; exact hb
      by_cases h0 : np = 0
      · have h0' : ¬ (0 : Int) < (np : Int) := by omega
        simp -implicitDefEqProofs only [lk_normal, h0', ZB, Int.reduceToNat, Nat.reduceLT, Nat.reduceLeDiff, Int.reduceLE, Int.reduceLT, Nat.reduceEqDiff, Nat.reduceSub, SB, SV.known, packR, ne_eq, reduceCtorEq, Nat.reduceEqDiff, ↓reduceIte, if_true, if_false, eq_self, Nat.reduceAdd, Nat.reduceMul, Nat.reduceSub, forall_const, oneCellS, litOne, flat1, Kd.isSca, flat, TYB]
        refine place_use hdp hlt hm (by omega) fun x H1 n1 hx hd1 hle1 hf1 => ?_
        have hb1 := hf1.use (by omega) (by omega) hbp
        simp -implicitDefEqProofs only [lk_normal, ZB, Int.reduceToNat, Nat.reduceLT, Nat.reduceLeDiff, Int.reduceLE, Int.reduceLT, Nat.reduceEqDiff, Nat.reduceSub, SB, SV.known, packR, ne_eq, reduceCtorEq, Nat.reduceEqDiff, ↓reduceIte, if_true, if_false, eq_self, Nat.reduceAdd, Nat.reduceMul, Nat.reduceSub, forall_const, oneCellS, litOne, flat1, Kd.isSca, flat, TYB]
        refine place_use hd1 hlt hm (by omega) fun y H2 n2 hy hd2 hle2 hf2 => ?_
        have hb2 := hf2.use (by omega) (by omega) hb1
        simp -implicitDefEqProofs only [hb2, ZB, Int.reduceToNat, Nat.reduceLT, Nat.reduceLeDiff, Int.reduceLE, Int.reduceLT, Nat.reduceEqDiff, Nat.reduceSub, SB, SV.known, packR, ne_eq, reduceCtorEq, Nat.reduceEqDiff, ↓reduceIte, if_true, if_false, eq_self, Nat.reduceAdd, Nat.reduceMul, Nat.reduceSub, forall_const, oneCellS, litOne, flat1, Kd.isSca, flat, TYB]
        exact ⟨by omega, x, y, ⟨rfl, rfl⟩, hx, hy, (hd2.more (by omega)).putI hlt (by omega) (by omega)⟩
      · have h0' : (0 : Int) < (np : Int) := by omega
        simp -implicitDefEqProofs only [lk_normal, h0', ZB, Int.reduceToNat, Nat.reduceLT, Nat.reduceLeDiff, Int.reduceLE, Int.reduceLT, Nat.reduceEqDiff, Nat.reduceSub, SB, SV.known, packR, ne_eq, reduceCtorEq, Nat.reduceEqDiff, ↓reduceIte, if_true, if_false, eq_self, Nat.reduceAdd, Nat.reduceMul, Nat.reduceSub, forall_const, oneCellS, litOne, flat1, Kd.isSca, flat, TYB]
        refine ⟨pick_use hdp hlt hm (by omega) fun q Hq q0 q1 hdq hfq => ?_, fun h => absurd trivial h⟩
        obtain ⟨Q, rfl⟩ : ∃ Q : Nat, q = Q := ⟨q.toNat, by omega⟩
        have qn : (Q : Int) < (np : Int) := by omega
        have hbq := hfq.use (by omega) (by omega) hbp
        have hlq := hfq.use (by omega) (by omega) (show hget _ (n + 2) = some (.ints (PL R 36 ++ jp) 47) by simp [hget_cons])
        have lQ : Q * 2 + 2 ≤ (PL R 36 ++ jp).length := by rw [List.length_append]; omega
        have e2 : ((PL R 36 ++ jp).drop (Q * 2)).take 2 = [(PL R 36).getD (Q * 2) 0, (PL R 36).getD (Q * 2 + 1) 0] := by
          rw [take2_drop _ _ lQ, getD_app _ _ _ (by omega), getD_app _ _ _ (by omega)]
        have b0 : In64 ((PL R 36).getD (Q * 2) 0) := by
          rw [List.getD_eq_getElem?_getD, List.getElem?_eq_getElem (by omega)]
          have := hbd _ (List.getElem_mem (l := PL R 36) (n := Q * 2) (by omega))
          unfold In64; simp only [Option.getD_some]; omega
        have b1 : In64 ((PL R 36).getD (Q * 2 + 1) 0) := by
          rw [List.getD_eq_getElem?_getD, List.getElem?_eq_getElem (by omega)]
          have := hbd _ (List.getElem_mem (l := PL R 36) (n := Q * 2 + 1) (by omega))
          unfold In64; simp only [Option.getD_some]; omega
        simp -implicitDefEqProofs only [lk_normal, hlq, hbq, qn, q0, lQ, e2, ZB, Int.reduceToNat, Nat.reduceLT, Nat.reduceLeDiff, Int.reduceLE, Int.reduceLT, Nat.reduceEqDiff, Nat.reduceSub, SB, SV.known, packR, ne_eq, reduceCtorEq, Nat.reduceEqDiff, ↓reduceIte, if_true, if_false, eq_self, Nat.reduceAdd, Nat.reduceMul, Nat.reduceSub, forall_const, oneCellS, litOne, flat1, Kd.isSca, flat, TYB]
        exact ⟨by omega, _, _, ⟨rfl, rfl⟩, b0, b1, (hdq.more (by omega)).putI hlt (by omega) (by omega)⟩
    · simp -implicitDefEqProofs only [lk_normal, ZB, Int.reduceToNat, Nat.reduceLT, Nat.reduceLeDiff, Int.reduceLE, Int.reduceLT, Nat.reduceEqDiff, Nat.reduceSub, SB, SV.known, packR, ne_eq, reduceCtorEq, Nat.reduceEqDiff, ↓reduceIte, if_true, if_false, eq_self, Nat.reduceAdd, Nat.reduceMul, Nat.reduceSub, forall_const, oneCellS, litOne, flat1, Kd.isSca, flat, TYB]
      refine place_use hd0 hlt hm (by omega) fun x H1 n1 hx hd1 hle1 hf1 => ?_
      have hb1 := hf1.use (by omega) (by omega) hb
      simp -implicitDefEqProofs only [lk_normal, ZB, Int.reduceToNat, Nat.reduceLT, Nat.reduceLeDiff, Int.reduceLE, Int.reduceLT, Nat.reduceEqDiff, Nat.reduceSub, SB, SV.known, packR, ne_eq, reduceCtorEq, Nat.reduceEqDiff, ↓reduceIte, if_true, if_false, eq_self, Nat.reduceAdd, Nat.reduceMul, Nat.reduceSub, forall_const, oneCellS, litOne, flat1, Kd.isSca, flat, TYB]
      refine place_use hd1 hlt hm (by omega) fun y H2 n2 hy hd2 hle2 hf2 => ?_
      have hb2 := hf2.use (by omega) (by omega) hb1
      simp -implicitDefEqProofs only [hb2, ZB, Int.reduceToNat, Nat.reduceLT, Nat.reduceLeDiff, Int.reduceLE, Int.reduceLT, Nat.reduceEqDiff, Nat.reduceSub, SB, SV.known, packR, ne_eq, reduceCtorEq, Nat.reduceEqDiff, ↓reduceIte, if_true, if_false, eq_self, Nat.reduceAdd, Nat.reduceMul, Nat.reduceSub, forall_const, oneCellS, litOne, flat1, Kd.isSca, flat, TYB]
      exact ⟨by omega, x, y, ⟨rfl, rfl⟩, hx, hy, (hd2.more (by omega)).putI hlt (by omega) (by omega)⟩
def dpour_F : List SV → Heap → Nat → Nat → K1 → Prop
  | [.ptr c 0, .arr R], H, n, m, κ => R.length = 24 ∧ ∃ kc a, CurH c kc a H ∧ m ≤ c ∧ m ≤ n ∧ a ≤ 995000 ∧ ∀ (x y : Int) H' n', In64 x → In64 y → Drawn c kc a 100 n H H' n' → κ (.arr [x, y]) H' n'
  | _, _, _, _, _ => False
theorem dpour_T : ∀ args H n m κ, dpour_F args H n m κ → GenOK Try.prog 113 args H n m κ := by
  intro args H n m κ h
  unfold dpour_F at h
  split at h
  · rename_i c R
    obtain ⟨hR, kc, a, hC, hm, hmn, ha, h1⟩ := h
    exact gen_direct (X := ⟨Try.prog, tys, [(51, l2Rack_F)], [(61, pick_F), (60, one_F), (69, place_F), (123, l2Pours_F)], true, true, m, [61, 60, 69], []⟩) fnx_pour ⟨tys_ok, .cons l2Rack_T .nil, .cons pick_T (.cons one_T (.cons place_T (.cons l2Pours_T .nil))), mixed⟩ rfl (Nat.le_of_ble_eq_true rfl) (fun hwH hwa => dpour_vc c kc a m n H R hR hC hm hmn ha hwH) fun hwH v H' n' hψ h3 h4 h5 => by
      obtain ⟨x, y, rfl, g1, g2, g3⟩ := hψ
      exact h1 x y H' n' g1 g2 g3
  · exact h.elim
theorem dpour_use {c kc a k n0 n m : Nat} {H0 H : Heap} {κ : K1} (h : Drawn c kc a k n0 H0 H n) (hc : c < n0 ∧ kc < n0 ∧ kc ≠ c) (hm : m ≤ c) (hmn : m ≤ n) (ha : a + k ≤ 995000) {R : List Int} (hR : R.length = 24)
    (hκ : ∀ (x y : Int) H' n', In64 x → In64 y → Drawn c kc a (k + 100) n0 H0 H' n' → n ≤ n' → Fr n0 n H H' → κ (.arr [x, y]) H' n') : dpour_F [.ptr c 0, .arr R] H n m κ := by
  obtain ⟨b', g1, g2, g3⟩ := h.cur
  exact ⟨hR, kc, b', g3, hm, hmn, by omega, fun x y H' n' h1 h2 hd => hκ x y H' n' h1 h2 (h.trans hd g2 g1) hd.le (hd.own hc.1)⟩
/-- The bytes that a law is given. -/
def BytA (v : SV) (H : Heap) : Prop := v = .nils ∨ ∃ (kc off len cap : Nat) (L : List Int), v = .slice kc off len cap ∧ hget H kc = some (.winU off L) ∧ L.length = len ∧ len ≤ 1000000000 ∧ ∀ x ∈ L, 0 ≤ x ∧ x ≤ 255
theorem BytA.put {v : SV} {H : Heap} {n k : Nat} (h : BytA v H) (hw : hwf n H) (hk : n ≤ k) (o : SObj) : BytA v ((k, o) :: H) := by
  rcases h with rfl | ⟨kc, off, len, cap, L, rfl, h, h2⟩
  · exact .inl rfl
  · have := (hw _ _ h).1
    exact .inr ⟨kc, off, len, cap, L, rfl, by rw [hget_cons, if_neg (by omega)]; exact h, h2⟩
theorem BytA.at {v : SV} {H : Heap} {n k : Nat} (h : BytA v H) (hw : hwf n H) (hk : k < n) (hx : ∃ o, hget H k = some o) : ∃ kc, kc < n ∧ BytV kc v H := by
  rcases h with rfl | ⟨kc, off, len, cap, L, rfl, h, h2⟩
  · exact ⟨k, hk, .inl ⟨rfl, hx⟩⟩
  · exact ⟨kc, (hw _ _ h).1, .inr ⟨off, len, cap, L, rfl, h, h2⟩⟩
/-- What a drawing function leaves: nothing that is not its own has changed. -/
structure Kpt (n : Nat) (H H' : Heap) (n' : Nat) : Prop where
  le : n ≤ n'
  wf : hwf n' H'
  fr : ∀ i o, i < n → hget H i = some o → hget H' i = some o
theorem Kpt.under {n n' k : Nat} {H H' : Heap} {o : SObj} (h : Kpt k ((n, o) :: H) H' n') (hn : n < k) : ∀ i o, i < n → hget H i = some o → hget H' i = some o := fun i o' hi ho => h.fr i o' (by omega) (by rw [hget_cons, if_neg (by omega)]; exact ho)
end Go.Proofs.Ytckcojgfgcjamaa
set_option maxRecDepth 100000
set_option linter.unusedSimpArgs false
set_option linter.unusedVariables false
namespace Go.Proofs.Ytckcojgfgcjamaa
open Go Go.RowKit
--@tbl small3 = (*spec.l1Cur).small3
end Go.Proofs.Ytckcojgfgcjamaa
set_option maxRecDepth 100000
set_option linter.unusedSimpArgs false
set_option linter.unusedVariables false
namespace Go.Proofs.Ytckcojgfgcjamaa
open Go Go.RowKit
/-- A rack of one's own, behind all draws. -/
structure SrS (n : Nat) (H : Heap) (b : Nat) (R : List Int) (H' : Heap) (n' : Nat) : Prop where
  lt : n < b ∧ b < n'
  wf : hwf n' H'
  r : hget H' b = some (.ints R 27)
  l : R.length = 24
  i : ∀ x ∈ R, In64 x
  z : hget H' n = some (.ints (List.replicate 24 0) 27)
  fr : ∀ i o, i < n → hget H i = some o → hget H' i = some o
theorem SrS.set {n b n' : Nat} {H H' : Heap} {R R' : List Int} (h : SrS n H b R H' n') (hl : R'.length = 24) (hi : ∀ x ∈ R', In64 x) : SrS n H b R' ((b, .ints R' 27) :: H') n' :=
  ⟨h.lt, hwf_cons h.wf h.lt.2 trivial, by simp [hget_cons], hl, hi, by rw [hget_cons, if_neg (Nat.ne_of_lt h.lt.1)]; exact h.z, fun i o hin ho => by
    rw [hget_cons, if_neg (by have := h.lt.1; omega)]
    exact h.fr i o hin ho⟩
end Go.Proofs.Ytckcojgfgcjamaa
set_option maxRecDepth 100000
set_option linter.unusedSimpArgs false
set_option linter.unusedVariables false
namespace Go.Proofs.Ytckcojgfgcjamaa
open Go Go.RowKit
/-- May so many layers be poured back? -/
def bk1 (R : List Int) (i j m : Int) : Bool := plF i && plF j && !decide (i = j) && decide (1 ≤ m ∧ m ≤ min (topF (tubeAt R j.toNat)).2 (4 - (layN (tubeAt R i.toNat) : Int)))
def bkR (R : List Int) (i j m : Int) : List Int := pmR R j.toNat i.toNat m.toNat
def bk2 (R : List Int) (i j m : Int) : Bool := bk1 R i j m && canF (bkR R i j m) i j
def bkB (R : List Int) (i j m : Int) : Bool := bk2 R i j m && decide (pourF (bkR R i j m) i.toNat j.toNat = R) && decide (pmN (bkR R i j m) i.toNat j.toNat = m)
def bkT (R : List Int) (i j m : Int) : List Int := if bkB R i j m = true then bkR R i j m else List.replicate 24 0
end Go.Proofs.Ytckcojgfgcjamaa
set_option maxRecDepth 100000
set_option linter.unusedSimpArgs false
set_option linter.unusedVariables false
namespace Go.Proofs.Ytckcojgfgcjamaa
open Go Go.RowKit
end Go.Proofs.Ytckcojgfgcjamaa
set_option maxRecDepth 100000
set_option linter.unusedSimpArgs false
set_option linter.unusedVariables false
namespace Go.Proofs.Ytckcojgfgcjamaa
open Go Go.RowKit
--@tbl eqSource = laws.eqSource
--@tbl eqS3 = laws.eqSourceS
/-! Marks. -/
--@tbl mark3 = laws.markSourceS
--@tbl held3 = laws.heldSourceS
end Go.Proofs.Ytckcojgfgcjamaa
set_option maxRecDepth 100000
set_option linter.unusedSimpArgs false
set_option linter.unusedVariables false
namespace Go.Proofs.Ytckcojgfgcjamaa
open Go Go.RowKit
--@tbl toIntA2 = laws.toIntA2
end Go.Proofs.Ytckcojgfgcjamaa
set_option maxRecDepth 100000
set_option linter.unusedSimpArgs false
set_option linter.unusedVariables false
namespace Go.Proofs.Ytckcojgfgcjamaa
open Go Go.RowKit
def goodF (R p : List Int) : Bool := decide (bndF (pourF R (p.getD 0 0).toNat (p.getD 1 0).toNat) < bndF R)
def gdL (R : List Int) : List Int := kept (fun p => goodF R p) (PL R 36) ((PL R 36).length / 2)
end Go.Proofs.Ytckcojgfgcjamaa
set_option maxRecDepth 100000
set_option linter.unusedSimpArgs false
set_option linter.unusedVariables false
namespace Go.Proofs.Ytckcojgfgcjamaa
open Go Go.RowKit
def stR (R : List Int) : List Int := if gdL R = [] then R else pourF R ((gdL R).getD 0 0).toNat ((gdL R).getD 1 0).toNat
def gpR (R : List Int) : Nat → List Int
  | 0 => R
  | n + 1 => stR (gpR R n)
def gpL (R : List Int) : Nat → List Int
  | 0 => []
  | n + 1 => gpL R n ++ (gdL (gpR R n)).take 2
attribute [local irreducible] gpR gpL gdL pourF bndF canF goodF
end Go.Proofs.Ytckcojgfgcjamaa
set_option maxRecDepth 100000
set_option linter.unusedSimpArgs false
set_option linter.unusedVariables false
namespace Go.Proofs.Ytckcojgfgcjamaa
open Go Go.RowKit
def cppB (R : List Int) (i j : Int) : Bool := plF i && plF j && canF R i j
attribute [local irreducible] pourF bndF canF goodF cppB
end Go.Proofs.Ytckcojgfgcjamaa
set_option maxRecDepth 100000
set_option linter.unusedSimpArgs false
set_option linter.unusedVariables false
namespace Go.Proofs.Ytckcojgfgcjamaa
open Go Go.RowKit
attribute [local irreducible] bkR bkB bk2 bkT --@tbl PourBacks = impl.PourBacks --@tbl sPourBacks = spec.PourBacks
end Go.Proofs.Ytckcojgfgcjamaa
set_option maxRecDepth 100000
set_option linter.unusedSimpArgs false
set_option linter.unusedVariables false
namespace Go.Proofs.Ytckcojgfgcjamaa
open Go Go.RowKit
--@tbl eqS1 = laws.eqIntS
/-! Marks. -/
--@tbl mark1 = laws.markIntS
--@tbl held1 = laws.heldIntS
end Go.Proofs.Ytckcojgfgcjamaa
set_option maxRecDepth 100000
set_option linter.unusedSimpArgs false
set_option linter.unusedVariables false
namespace Go.Proofs.Ytckcojgfgcjamaa
open Go Go.RowKit
theorem FreshP.sub {P : Program} {f : FuncId} {args : List SV} {H0 H : Heap} {L : List Int} {len es e : Nat} {nl : Bool} {wr : Wrap} (h : FreshP P f args H0 L len es e nl wr) (ρ : Nat → Nat) (hs : subHs ρ 0 H H0) (hi : injOn ρ (H0.map (·.1))) : FreshP P f (renL ρ args) H L len es e nl wr := by
  refine ⟨h.ent, h.ok, fun B w hH => ?_⟩
  have := h.call (fun k => B (ρ k)) w ⟨fun k o hl hk => ?_, fun k j o o' g1 g2 g3 g4 he => ?_⟩
  · rw [denL_ren]
    refine this.mono fun r w' ⟨h1, h2⟩ => ⟨h1, h2.imp (fun ⟨a, b, c⟩ => ⟨a, b, c.trans (congrArg Ending.returned (Wrap.den_eq h.ok rfl))⟩) id⟩
  · obtain ⟨e1, _, _⟩ := hs k o hl
    have := hH.at_ _ _ e1 (by rw [SObj.live_ren]; exact hk)
    rw [SObj.sat_ren] at this
    exact this
  · obtain ⟨e1, _, m1⟩ := hs k o g1
    obtain ⟨e2, _, m2⟩ := hs j o' g3
    exact hi k m1 j m2 (hH.inj _ _ _ _ e1 (by rw [SObj.live_ren]; exact g2) e2 (by rw [SObj.live_ren]; exact g4) he)
theorem FreshP.one {P : Program} {f : FuncId} {args : List SV} {H : Heap} {o : SObj} {b : Nat} {L : List Int} {len es e : Nat} {nl : Bool} {wr : Wrap} (h : FreshP P f args [(0, o)] L len es e nl wr) (hb : hget H b = some o) (ho : o.ren (fun _ => b) = o) : FreshP P f (renL (fun _ => b) args) H L len es e nl wr :=
  h.sub (fun _ => b) (fun j o' hj => by
    rw [hget_cons] at hj
    split at hj
    · cases hj; exact ⟨by rw [ho]; exact hb, fun _ => by omega, by simp [*]⟩
    · cases hj) (fun a ha c hc _ => by simp at ha hc; omega)
attribute [local irreducible] pourF bndF canF goodF cppB --@tbl BoundsAlong = impl.BoundsAlong --@tbl sBoundsAlong = spec.BoundsAlong
end Go.Proofs.Ytckcojgfgcjamaa
set_option maxRecDepth 100000
set_option linter.unusedSimpArgs false
set_option linter.unusedVariables false
namespace Go.Proofs.Ytckcojgfgcjamaa
open Go Go.RowKit
theorem BytA.oc {v : SV} {H : Heap} (h : BytA v H) : oneCellS v = true ∧ v.known = true := by
  rcases h with rfl | ⟨kc, off, len, cap, L, rfl, _⟩ <;> exact ⟨rfl, rfl⟩
theorem BytA.wfv {v : SV} {H : Heap} {n : Nat} (h : BytA v H) (hw : hwf n H) : v.wf n := by
  rcases h with rfl | ⟨kc, off, len, cap, L, rfl, h, _⟩
  · trivial
  · exact (hw _ _ h).1
/-- A cursor just made. -/
theorem cur_new {cv : SV} {H : Heap} {n k : Nat} (hB : BytA cv H) (hw : hwf n H) (hk : k < n) (hx : ∃ o, hget H k = some o) :
    ∃ kc, (n < n + 1 ∧ kc < n + 1 ∧ kc ≠ n) ∧ Drawn n kc 0 0 (n + 1) ((n, .cells [cv, .int 0, .lit (.int .u64 0)] 80) :: H) ((n, .cells [cv, .int 0, .lit (.int .u64 0)] 80) :: H) (n + 1) := by
  obtain ⟨kc, hkn, hBv⟩ := hB.at hw hk hx
  have hw1 : hwf (n + 1) ((n, .cells [cv, .int 0, .lit (.int .u64 0)] 80) :: H) := hwf_cons (hwf_mono (by omega) hw) (by omega) (by
    simp [SObj.wf, wfL, SV.wf]; exact SV.wf_mono (show n ≤ n + 1 by omega) cv (hB.wfv hw))
  refine ⟨kc, by omega, Drawn.start ⟨cv, 0, by simp [hget_cons], hBv.at (fun o ho => by rw [hget_cons, if_neg (show ¬ kc = n by omega)]; exact ho), by omega⟩ hw1⟩
theorem BytA.fr {cv : SV} {H H' : Heap} {n : Nat} (hB : BytA cv H) (hw : hwf n H) (h : ∀ i o, i < n → hget H i = some o → hget H' i = some o) : BytA cv H' := by
  rcases hB with rfl | ⟨kc, off, len, cap, L, rfl, h1, h2⟩
  · exact .inl rfl
  · exact .inr ⟨kc, off, len, cap, L, rfl, h _ _ (hw _ _ h1).1 h1, h2⟩
theorem Drawn.kpt {c kc a k n0 n n' : Nat} {H0 H H' : Heap} (h : Drawn c kc a k n0 H0 H n) (hK : Kpt n H H' n') (hc : c < n0 ∧ kc < n0 ∧ kc ≠ c) : Drawn c kc a k n0 H0 H' n' := by
  have := h.le
  obtain ⟨a', h1, h2, v, s, h3, h4, h5⟩ := h.cur
  exact ⟨Nat.le_trans h.le hK.le, hK.wf, ⟨a', h1, h2, v, s, hK.fr _ _ (by omega) h3, h4.at (fun o ho => hK.fr _ _ (by omega) ho), h5⟩, fun i o hi hic ho => hK.fr i o (by omega) (h.fr i o hi hic ho)⟩
--@tbl DrawIsRack = spec.DrawIsRack
/-! Paths. -/
/-- A path that is being drawn. -/
structure PtS (c kc a n : Nat) (H : Heap) (b len cap : Nat) (M Q : List Int) (k : Nat) (H' : Heap) (n' : Nat) : Prop where
  d : Drawn c kc a k n H H' n'
  lt : n < b ∧ b < n'
  o : hget H' b = some (.ints M 47)
  ml : M.length = cap * 2
  lc : len ≤ cap
  r : hget H' n = some (.ints Q 27)
  l : Q.length = 24
  v : rackB Q = true
structure PthR (H : Heap) (n : Nat) (p : Nat × Nat × Nat × List Int × Heap × Nat) : Prop where
  b : n + 2 ≤ p.1 ∧ p.1 < p.2.2.2.2.2
  o : hget p.2.2.2.2.1 p.1 = some (.ints p.2.2.2.1 47)
  l : p.2.1 * 2 ≤ p.2.2.2.1.length ∧ p.2.1 ≤ 61
  w : hwf p.2.2.2.2.2 p.2.2.2.2.1
  f : ∀ i o, i < n → hget H i = some o → hget p.2.2.2.2.1 i = some o
  z : hget p.2.2.2.2.1 n = some (.ints (List.replicate 24 0) 27)
--@tbl DrawIsGoodPath = spec.DrawIsGoodPath
end Go.Proofs.Ytckcojgfgcjamaa
set_option maxRecDepth 100000
set_option linter.unusedSimpArgs false
set_option linter.unusedVariables false
namespace Go.Proofs.Ytckcojgfgcjamaa
open Go Go.RowKit
--@tbl DrawFormOf = spec.DrawFormOf
end Go.Proofs.Ytckcojgfgcjamaa
set_option maxRecDepth 100000
set_option linter.unusedSimpArgs false
set_option linter.unusedVariables false
namespace Go.Proofs.Ytckcojgfgcjamaa
open Go Go.RowKit
/-! Lists of racks. -/
/-! Maps that know racks. -/
/-! What is new. -/
end Go.Proofs.Ytckcojgfgcjamaa
set_option maxRecDepth 100000
set_option linter.unusedSimpArgs false
set_option linter.unusedVariables false
namespace Go.Proofs.Ytckcojgfgcjamaa
open Go Go.RowKit
end Go.Proofs.Ytckcojgfgcjamaa
set_option maxRecDepth 100000
set_option linter.unusedSimpArgs false
set_option linter.unusedVariables false
namespace Go.Proofs.Ytckcojgfgcjamaa
open Go Go.RowKit

/-- Names of a call's blocks among the caller's. -/
def ext (ρ : Nat → Nat) (n0 n : Nat) : Nat → Nat := fun k => if k < n0 then ρ k else n + (k - n0)
end Go.Proofs.Ytckcojgfgcjamaa
set_option maxRecDepth 100000
set_option linter.unusedSimpArgs false
set_option linter.unusedVariables false
namespace Go.Proofs.Ytckcojgfgcjamaa
open Go Go.RowKit
/-! Racks behind a rack. -/
end Go.Proofs.Ytckcojgfgcjamaa
set_option maxRecDepth 100000
set_option linter.unusedSimpArgs false
set_option linter.unusedVariables false
namespace Go.Proofs.Ytckcojgfgcjamaa
open Go Go.RowKit
/-- Two racks that are being drawn: A at p, R at q; zeros at n0 - 3 and n0 - 2. -/
structure FtS (c kc n0 : Nat) (H0 : Heap) (z : Nat) (A R : List Int) (p q k : Nat) (H : Heap) (n : Nat) : Prop where
  d : Drawn c kc 0 k n0 H0 H n
  lt : n0 ≤ p ∧ p < n ∧ n0 ≤ q ∧ q < n ∧ p ≠ q
  a : hget H p = some (.ints A 27)
  r : hget H q = some (.ints R 27)
  l : R.length = 24
  i : ∀ z ∈ R, In64 z
theorem FtS.draw {c kc n0 z p q k n k2 n2 : Nat} {H0 H H2 : Heap} {A R : List Int} (h : FtS c kc n0 H0 z A R p q k H n) (hd : Drawn c kc 0 k2 n0 H0 H2 n2) (hf : Fr n0 n H H2) (hn : n ≤ n2) : FtS c kc n0 H0 z A R p q k2 H2 n2 :=
  ⟨hd, by have := h.lt; omega, hf.use h.lt.1 h.lt.2.1 h.a, hf.use h.lt.2.2.1 h.lt.2.2.2.1 h.r, h.l, h.i⟩
theorem FtS.push {c kc n0 z p q k n : Nat} {H0 H : Heap} {A R : List Int} (h : FtS c kc n0 H0 z A R p q k H n) (hlt : c < n0 ∧ kc < n0 ∧ kc ≠ c) {L : List Int} {e : Nat} : FtS c kc n0 H0 z A R p q k ((n, .ints L e) :: H) (n + 1) :=
  ⟨h.d.pushI hlt, by have := h.lt; omega, by rw [hget_cons, if_neg (by have := h.lt; omega)]; exact h.a, by rw [hget_cons, if_neg (by have := h.lt; omega)]; exact h.r, h.l, h.i⟩
theorem FtS.put {c kc n0 z p q k n b : Nat} {H0 H : Heap} {A R : List Int} (h : FtS c kc n0 H0 z A R p q k H n) (hlt : c < n0 ∧ kc < n0 ∧ kc ≠ c) (hb : n0 ≤ b ∧ b < n ∧ b ≠ p ∧ b ≠ q) {L : List Int} {e : Nat} : FtS c kc n0 H0 z A R p q k ((b, .ints L e) :: H) n :=
  ⟨h.d.putI hlt hb.1 hb.2.1, h.lt, by rw [hget_cons, if_neg (by omega)]; exact h.a, by rw [hget_cons, if_neg (by omega)]; exact h.r, h.l, h.i⟩
theorem FtS.set {c kc n0 z p q k n : Nat} {H0 H : Heap} {A R R' : List Int} (h : FtS c kc n0 H0 z A R p q k H n) (hlt : c < n0 ∧ kc < n0 ∧ kc ≠ c) (hl : R'.length = 24) (hi : ∀ z ∈ R', In64 z) : FtS c kc n0 H0 z A R' p q k ((q, .ints R' 27) :: H) n :=
  ⟨h.d.putI hlt h.lt.2.2.1 h.lt.2.2.2.1, h.lt, by rw [hget_cons, if_neg (by have := h.lt; omega)]; exact h.a, by simp [hget_cons], hl, hi⟩
theorem FtS.more {c kc n0 z p q k k' n : Nat} {H0 H : Heap} {A R : List Int} (h : FtS c kc n0 H0 z A R p q k H n) (hk : k ≤ k') : FtS c kc n0 H0 z A R p q k' H n := ⟨h.d.more hk, h.lt, h.a, h.r, h.l, h.i⟩
end Go.Proofs.Ytckcojgfgcjamaa
set_option maxRecDepth 100000
set_option linter.unusedSimpArgs false
set_option linter.unusedVariables false
namespace Go.Proofs.Ytckcojgfgcjamaa
open Go Go.RowKit
/-- A rack at p, while another one is drawn. -/
structure BtS (c kc n0 : Nat) (H0 : Heap) (A : List Int) (p k : Nat) (H : Heap) (n : Nat) : Prop where
  d : Drawn c kc 0 k n0 H0 H n
  lt : n0 ≤ p ∧ p < n
  a : hget H p = some (.ints A 27)
theorem BtS.draw {c kc n0 p k n k2 n2 : Nat} {H0 H H2 : Heap} {A : List Int} (h : BtS c kc n0 H0 A p k H n) (hd : Drawn c kc 0 k2 n0 H0 H2 n2) (hf : Fr n0 n H H2) (hn : n ≤ n2) : BtS c kc n0 H0 A p k2 H2 n2 :=
  ⟨hd, by have := h.lt; omega, hf.use h.lt.1 h.lt.2 h.a⟩
theorem BtS.push {c kc n0 p k n : Nat} {H0 H : Heap} {A : List Int} (h : BtS c kc n0 H0 A p k H n) (hlt : c < n0 ∧ kc < n0 ∧ kc ≠ c) {L : List Int} {e : Nat} : BtS c kc n0 H0 A p k ((n, .ints L e) :: H) (n + 1) :=
  ⟨h.d.pushI hlt, by have := h.lt; omega, by rw [hget_cons, if_neg (by have := h.lt; omega)]; exact h.a⟩
theorem BtS.put {c kc n0 p k n b : Nat} {H0 H : Heap} {A : List Int} (h : BtS c kc n0 H0 A p k H n) (hlt : c < n0 ∧ kc < n0 ∧ kc ≠ c) (hb : n0 ≤ b ∧ b < n ∧ b ≠ p) {L : List Int} {e : Nat} : BtS c kc n0 H0 A p k ((b, .ints L e) :: H) n :=
  ⟨h.d.putI hlt hb.1 hb.2.1, h.lt, by rw [hget_cons, if_neg (by omega)]; exact h.a⟩
--@tbl DrawBackTo = spec.DrawBackTo
end Go.Proofs.Ytckcojgfgcjamaa
