/- Texts of this claim, joined (Vw6, Vw8, Draw, DrawR, DrawT, DrawB, Back, Src, Sl3, Arg, Rule, RulC, Com, Good, GPath, Path, Backs, Sl1, Along, DrawP, DrawU, Cmp). -/
import Derived.Test.YtckcojgfgcjamaaQ1
import Derived.Test.YtckcojgfgcjamaaQ2
import Derived.Test.YtckcojgfgcjamaaQ3
import Derived.Test.YtckcojgfgcjamaaQ4
import Derived.Test.YtckcojgfgcjamaaQ5
import Derived.Test.YtckcojgfgcjamaaQ6
set_option maxRecDepth 100000
set_option linter.unusedSimpArgs false
set_option linter.unusedVariables false
namespace Go.Proofs.Ytckcojgfgcjamaa
open Go Go.RowKit
theorem l7Made_okI (V : List Int) (r : Int) (hv : isVF V = true) (hV : V.length = 18) (h64 : I64 V) (r0 : 0 ≤ r) (r1 : r < arrF (hidV V)) : PureH Try.prog 66 [.arr V, .int r] [] (.arr (madeF V r)) :=
  l7Made_ok V r (vG_of hV h64 hv) (isV_facts hV h64 hv).2.2.2.2.2.2.1 r0 r1
def l7Made_F : List SV → Heap → Option (Prop × SV)
  | [.arr V, .int r], _ => some (isVF V = true ∧ V.length = 18 ∧ I64 V ∧ 0 ≤ r ∧ r < arrF (hidV V), .arr (madeF V r))
  | _, _ => none
theorem l7Made_T : ∀ args H p v, l7Made_F args H = some (p, v) → p → PureH Try.prog 66 args H v := by
  intro args H p v h hp
  unfold l7Made_F at h
  split at h
  · cases h; exact (l7Made_okI _ _ hp.1 hp.2.1 hp.2.2.1 hp.2.2.2.1 hp.2.2.2.2).any _
  · cases h
--@tbl sCandidateAt = spec.CandidateAt
--@tbl sFirstCandidate = spec.FirstCandidate
theorem sCandidateAt_ok (V : List Int) (r : Int) (hV : V.length = 18) (h64 : I64 V) : PureH Try.prog 14 [.arr V, .int r] [] (.tup [.arr (caF V r), .bool (caB V r)]) := by
  have tkV : V.take 18 = V := List.take_of_length_le (by omega)
  have tkz : List.take 24 (List.replicate 24 (0 : Int)) = List.replicate 24 0 := List.take_of_length_le (by simp)
  unfold caF caB
  cases hv : isVF V
  · have ec : ccV V = 0 := by unfold ccV; rw [if_neg (by rw [hv]; decide)]
    refine pure_of_vc (X := ⟨Try.prog, tys, [(16, sCountCandidates_F), (65, l1In_F), (66, l7Made_F)], [], true, true, 0, [], []⟩) fn_14 ⟨tys_ok, (.cons sCountCandidates_T (.cons l1In_T (.cons l7Made_T .nil))), .nil, mixed⟩ (n0 := 0) (Nat.le_of_ble_eq_true rfl) (by simp [wfL, SV.wf]) (wfH_spec (by simp [wfH, SObj.wf, wfL, SV.wf])) (Nat.le_refl _) (fun _ => by simp [SV.wf, wfL]) ?_
    simp -implicitDefEqProofs only [Try.f14, Option.getD_some, argS, sCountCandidates_F, l1In_F, l7Made_F, hV, tkV, hv, h64, ec, tkz, ZB, Int.reduceToNat, Nat.reduceLT, Nat.reduceLeDiff, Int.reduceLE, Int.reduceLT, Nat.reduceEqDiff, Nat.reduceSub, SB, SV.known, packR, ne_eq, reduceCtorEq, Nat.reduceEqDiff, ↓reduceIte, if_true, if_false, eq_self, Nat.reduceAdd, Nat.reduceMul, Nat.reduceSub, forall_const, oneCellS, litOne, flat1, Kd.isSca, flat, TYB]
  obtain ⟨u1, u2, u3, z0, bC, lenH, h0, bH, hs, h18⟩ := isV_facts hV h64 hv
  have ec : ccV V = arrF (hidV V) := by unfold ccV; rw [if_pos hv]
  have ab := arrF_bd bH h18
  have i1 : In64 (arrF (hidV V) - 1) := by unfold In64; omega
  by_cases h1 : 0 ≤ r
  · by_cases h2 : r ≤ arrF (hidV V) - 1
    · have h3 : r < arrF (hidV V) := by omega
      have lM := made_len (vG_of hV h64 hv) h0 h1 h3
      have tkM := List.take_of_length_le (Nat.le_of_eq lM)
      refine pure_of_vc (X := ⟨Try.prog, tys, [(16, sCountCandidates_F), (65, l1In_F), (66, l7Made_F)], [], true, true, 0, [], []⟩) fn_14 ⟨tys_ok, (.cons sCountCandidates_T (.cons l1In_T (.cons l7Made_T .nil))), .nil, mixed⟩ (n0 := 0) (Nat.le_of_ble_eq_true rfl) (by simp [wfL, SV.wf]) (wfH_spec (by simp [wfH, SObj.wf, wfL, SV.wf])) (Nat.le_refl _) (fun _ => by simp [SV.wf, wfL]) ?_
      simp -implicitDefEqProofs only [Try.f14, Option.getD_some, argS, sCountCandidates_F, l1In_F, l7Made_F, hV, tkV, hv, h64, ec, i1, h1, h2, h3, lM, tkM, tkz, ZB, Int.reduceToNat, Nat.reduceLT, Nat.reduceLeDiff, Int.reduceLE, Int.reduceLT, Nat.reduceEqDiff, Nat.reduceSub, SB, SV.known, packR, ne_eq, reduceCtorEq, Nat.reduceEqDiff, ↓reduceIte, if_true, if_false, eq_self, Nat.reduceAdd, Nat.reduceMul, Nat.reduceSub, forall_const, oneCellS, litOne, flat1, Kd.isSca, flat, TYB]
    · refine pure_of_vc (X := ⟨Try.prog, tys, [(16, sCountCandidates_F), (65, l1In_F), (66, l7Made_F)], [], true, true, 0, [], []⟩) fn_14 ⟨tys_ok, (.cons sCountCandidates_T (.cons l1In_T (.cons l7Made_T .nil))), .nil, mixed⟩ (n0 := 0) (Nat.le_of_ble_eq_true rfl) (by simp [wfL, SV.wf]) (wfH_spec (by simp [wfH, SObj.wf, wfL, SV.wf])) (Nat.le_refl _) (fun _ => by simp [SV.wf, wfL]) ?_
      simp -implicitDefEqProofs only [Try.f14, Option.getD_some, argS, sCountCandidates_F, l1In_F, l7Made_F, hV, tkV, hv, h64, ec, i1, h1, h2, tkz, ZB, Int.reduceToNat, Nat.reduceLT, Nat.reduceLeDiff, Int.reduceLE, Int.reduceLT, Nat.reduceEqDiff, Nat.reduceSub, SB, SV.known, packR, ne_eq, reduceCtorEq, Nat.reduceEqDiff, ↓reduceIte, if_true, if_false, eq_self, Nat.reduceAdd, Nat.reduceMul, Nat.reduceSub, forall_const, oneCellS, litOne, flat1, Kd.isSca, flat, TYB]
  · have e : ∀ p : Prop, (0 ≤ r ∧ p) = False := fun p => eq_false (fun h => h1 h.1)
    refine pure_of_vc (X := ⟨Try.prog, tys, [(16, sCountCandidates_F), (65, l1In_F), (66, l7Made_F)], [], true, true, 0, [], []⟩) fn_14 ⟨tys_ok, (.cons sCountCandidates_T (.cons l1In_T (.cons l7Made_T .nil))), .nil, mixed⟩ (n0 := 0) (Nat.le_of_ble_eq_true rfl) (by simp [wfL, SV.wf]) (wfH_spec (by simp [wfH, SObj.wf, wfL, SV.wf])) (Nat.le_refl _) (fun _ => by simp [SV.wf, wfL]) ?_
    simp -implicitDefEqProofs only [Try.f14, Option.getD_some, argS, sCountCandidates_F, l1In_F, l7Made_F, hV, tkV, hv, h64, ec, i1, h1, e, tkz, ZB, Int.reduceToNat, Nat.reduceLT, Nat.reduceLeDiff, Int.reduceLE, Int.reduceLT, Nat.reduceEqDiff, Nat.reduceSub, SB, SV.known, packR, ne_eq, reduceCtorEq, Nat.reduceEqDiff, ↓reduceIte, if_true, if_false, eq_self, Nat.reduceAdd, Nat.reduceMul, Nat.reduceSub, forall_const, oneCellS, litOne, flat1, Kd.isSca, flat, TYB]
    exact ⟨fun h => h.1.elim, fun _ => trivial⟩
def sCandidateAt_F : List SV → Heap → Option (Prop × SV)
  | [.arr V, .int r], _ => some (V.length = 18 ∧ I64 V, .tup [.arr (caF V r), .bool (caB V r)])
  | _, _ => none
theorem sCandidateAt_T : ∀ args H p v, sCandidateAt_F args H = some (p, v) → p → PureH Try.prog 14 args H v := by
  intro args H p v h hp
  unfold sCandidateAt_F at h
  split at h
  · cases h; exact (sCandidateAt_ok _ _ hp.1 hp.2).any _
  · cases h
theorem sFirstCandidate_ok (V : List Int) (hV : V.length = 18) (h64 : I64 V) : PureH Try.prog 18 [.arr V] [] (.tup [.arr (caF V 0), .bool (caB V 0)]) := by
  have tkV : V.take 18 = V := List.take_of_length_le (by omega)
  have tkz : List.take 24 (List.replicate 24 (0 : Int)) = List.replicate 24 0 := List.take_of_length_le (by simp)
  have lC := caF_len (r := 0) hV h64
  unfold caF at lC ⊢
  rw [caB_zero hV h64] at lC ⊢
  cases hv : isVF V
  · refine pure_of_vc (X := ⟨Try.prog, tys, [(67, l7Good_F), (66, l7Made_F)], [], true, true, 0, [], []⟩) fn_18 ⟨tys_ok, (.cons l7Good_T (.cons l7Made_T .nil)), .nil, mixed⟩ (n0 := 0) (Nat.le_of_ble_eq_true rfl) (by simp [wfL, SV.wf]) (wfH_spec (by simp [wfH, SObj.wf, wfL, SV.wf])) (Nat.le_refl _) (fun _ => by simp [SV.wf, wfL]) ?_
    simp -implicitDefEqProofs only [Try.f18, Option.getD_some, argS, l7Good_F, l7Made_F, hV, tkV, hv, h64, tkz, ZB, Int.reduceToNat, Nat.reduceLT, Nat.reduceLeDiff, Int.reduceLE, Int.reduceLT, Nat.reduceEqDiff, Nat.reduceSub, SB, SV.known, packR, ne_eq, reduceCtorEq, Nat.reduceEqDiff, ↓reduceIte, if_true, if_false, eq_self, Nat.reduceAdd, Nat.reduceMul, Nat.reduceSub, forall_const, oneCellS, litOne, flat1, Kd.isSca, flat, TYB]
  obtain ⟨u1, u2, u3, z0, bC, lenH, h0, bH, hs, h18⟩ := isV_facts hV h64 hv
  have ab := arrF_bd bH h18
  have h3 : 0 < arrF (hidV V) := by omega
  have lM := made_len (vG_of hV h64 hv) h0 (Int.le_refl 0) h3
  have tkM := List.take_of_length_le (Nat.le_of_eq lM)
  refine pure_of_vc (X := ⟨Try.prog, tys, [(67, l7Good_F), (66, l7Made_F)], [], true, true, 0, [], []⟩) fn_18 ⟨tys_ok, (.cons l7Good_T (.cons l7Made_T .nil)), .nil, mixed⟩ (n0 := 0) (Nat.le_of_ble_eq_true rfl) (by simp [wfL, SV.wf]) (wfH_spec (by simp [wfH, SObj.wf, wfL, SV.wf])) (Nat.le_refl _) (fun _ => by simp [SV.wf, wfL]) ?_
  simp -implicitDefEqProofs only [Try.f18, Option.getD_some, argS, l7Good_F, l7Made_F, hV, tkV, hv, h64, h3, lM, tkM, ZB, Int.reduceToNat, Nat.reduceLT, Nat.reduceLeDiff, Int.reduceLE, Int.reduceLT, Nat.reduceEqDiff, Nat.reduceSub, SB, SV.known, packR, ne_eq, reduceCtorEq, Nat.reduceEqDiff, ↓reduceIte, if_true, if_false, eq_self, Nat.reduceAdd, Nat.reduceMul, Nat.reduceSub, forall_const, oneCellS, litOne, flat1, Kd.isSca, flat, TYB]
def sFirstCandidate_F : List SV → Heap → Option (Prop × SV)
  | [.arr V], _ => some (V.length = 18 ∧ I64 V, .tup [.arr (caF V 0), .bool (caB V 0)])
  | _, _ => none
theorem sFirstCandidate_T : ∀ args H p v, sFirstCandidate_F args H = some (p, v) → p → PureH Try.prog 18 args H v := by
  intro args H p v h hp
  unfold sFirstCandidate_F at h
  split at h
  · cases h; exact (sFirstCandidate_ok _ hp.1 hp.2).any _
  · cases h
/-! Hidden layers. -/
def hcN (V : List Int) : Int := if isVF V = true then al V else 0
def hcL (V : List Int) : List Int := if isVF V = true then hidV V else List.replicate 6 0
theorem hcL_len {V : List Int} (hV : V.length = 18) : (hcL V).length = 6 := by
  unfold hcL
  split
  · unfold hidV; rw [hidL_len, List.length_drop]; omega
  · simp
--@tbl CountHidden = impl.CountHidden
--@tbl sCountHidden = spec.CountHidden
theorem CountHidden_ok (V : List Int) (hV : V.length = 18) (h64 : I64 V) : PureH Try.prog 19 [.arr V] [] (.tup [.int (hcN V), .arr (hcL V), .bool (isVF V)]) := by
  have tkV : V.take 18 = V := List.take_of_length_le (by omega)
  have tkz : List.take 6 (List.replicate 6 (0 : Int)) = List.replicate 6 0 := List.take_of_length_le (by simp)
  unfold hcN hcL
  cases hv : isVF V
  · refine pure_of_vc (X := ⟨Try.prog, tys, [(27, IsView_F), (53, hidden_F), (68, sum_F)], [], true, true, 0, [], []⟩) fn_19 ⟨tys_ok, (.cons IsView_T (.cons hidden_T (.cons sum_T .nil))), .nil, mixed⟩ (n0 := 0) (Nat.le_of_ble_eq_true rfl) (by simp [wfL, SV.wf]) (wfH_spec (by simp [wfH, SObj.wf, wfL, SV.wf])) (Nat.le_refl _) (fun _ => by simp [SV.wf, wfL]) ?_
    simp -implicitDefEqProofs only [Try.f19, Option.getD_some, argS, IsView_F, hidden_F, sum_F, hV, tkV, hv, tkz, ZB, Int.reduceToNat, Nat.reduceLT, Nat.reduceLeDiff, Int.reduceLE, Int.reduceLT, Nat.reduceEqDiff, Nat.reduceSub, SB, SV.known, packR, ne_eq, reduceCtorEq, Nat.reduceEqDiff, ↓reduceIte, if_true, if_false, eq_self, Nat.reduceAdd, Nat.reduceMul, Nat.reduceSub, forall_const, oneCellS, litOne, flat1, Kd.isSca, flat, TYB]
  obtain ⟨u1, u2, u3, z0, bC, lenH, h0, bH, hs, h18⟩ := isV_facts hV h64 hv
  have eH : hidL (V.take 6) (V.drop 12) 6 = hidV V := rfl
  have tkH : (hidV V).take 6 = hidV V := List.take_of_length_le (by omega)
  have b2 : Bd (-1000000) 1000000 (hidV V) := fun x hx => by have := bH x hx; omega
  have ea : (hidV V).sum = al V := rfl
  refine pure_of_vc (X := ⟨Try.prog, tys, [(27, IsView_F), (53, hidden_F), (68, sum_F)], [], true, true, 0, [], []⟩) fn_19 ⟨tys_ok, (.cons IsView_T (.cons hidden_T (.cons sum_T .nil))), .nil, mixed⟩ (n0 := 0) (Nat.le_of_ble_eq_true rfl) (by simp [wfL, SV.wf]) (wfH_spec (by simp [wfH, SObj.wf, wfL, SV.wf])) (Nat.le_refl _) (fun _ => by simp [SV.wf, wfL]) ?_
  simp -implicitDefEqProofs only [Try.f19, Option.getD_some, argS, IsView_F, hidden_F, sum_F, hV, tkV, hv, u1, eH, lenH, tkH, b2, ea, ZB, Int.reduceToNat, Nat.reduceLT, Nat.reduceLeDiff, Int.reduceLE, Int.reduceLT, Nat.reduceEqDiff, Nat.reduceSub, SB, SV.known, packR, ne_eq, reduceCtorEq, Nat.reduceEqDiff, ↓reduceIte, if_true, if_false, eq_self, Nat.reduceAdd, Nat.reduceMul, Nat.reduceSub, forall_const, oneCellS, litOne, flat1, Kd.isSca, flat, TYB]
theorem sCountHidden_ok (V : List Int) (hV : V.length = 18) (h64 : I64 V) : PureH Try.prog 20 [.arr V] [] (.tup [.int (hcN V), .arr (hcL V), .bool (isVF V)]) := by
  have tkV : V.take 18 = V := List.take_of_length_le (by omega)
  have tkz : List.take 6 (List.replicate 6 (0 : Int)) = List.replicate 6 0 := List.take_of_length_le (by simp)
  unfold hcN hcL
  cases hv : isVF V
  · refine pure_of_vc (X := ⟨Try.prog, tys, [(67, l7Good_F), (56, l7Hidden_F)], [], true, true, 0, [], []⟩) fn_20 ⟨tys_ok, (.cons l7Good_T (.cons l7Hidden_T .nil)), .nil, mixed⟩ (n0 := 0) (Nat.le_of_ble_eq_true rfl) (by simp [wfL, SV.wf]) (wfH_spec (by simp [wfH, SObj.wf, wfL, SV.wf])) (Nat.le_refl _) (fun _ => by simp [SV.wf, wfL]) ?_
    simp -implicitDefEqProofs only [Try.f20, Option.getD_some, argS, l7Good_F, l7Hidden_F, hV, tkV, hv, h64, tkz, ZB, Int.reduceToNat, Nat.reduceLT, Nat.reduceLeDiff, Int.reduceLE, Int.reduceLT, Nat.reduceEqDiff, Nat.reduceSub, SB, SV.known, packR, ne_eq, reduceCtorEq, Nat.reduceEqDiff, ↓reduceIte, if_true, if_false, eq_self, Nat.reduceAdd, Nat.reduceMul, Nat.reduceSub, forall_const, oneCellS, litOne, flat1, Kd.isSca, flat, TYB]
  obtain ⟨u1, u2, u3, z0, bC, lenH, h0, bH, hs, h18⟩ := isV_facts hV h64 hv
  have eH : hidL (V.take 6) (V.drop 12) 6 = hidV V := rfl
  have eM : hmL (V.drop 6) 6 = al V := hs.symm
  have tkH : (hidV V).take 6 = hidV V := List.take_of_length_le (by omega)
  refine pure_of_vc (X := ⟨Try.prog, tys, [(67, l7Good_F), (56, l7Hidden_F)], [], true, true, 0, [], []⟩) fn_20 ⟨tys_ok, (.cons l7Good_T (.cons l7Hidden_T .nil)), .nil, mixed⟩ (n0 := 0) (Nat.le_of_ble_eq_true rfl) (by simp [wfL, SV.wf]) (wfH_spec (by simp [wfH, SObj.wf, wfL, SV.wf])) (Nat.le_refl _) (fun _ => by simp [SV.wf, wfL]) ?_
  simp -implicitDefEqProofs only [Try.f20, Option.getD_some, argS, l7Good_F, l7Hidden_F, hV, tkV, hv, h64, u1, u2, u3, eH, eM, lenH, tkH, ZB, Int.reduceToNat, Nat.reduceLT, Nat.reduceLeDiff, Int.reduceLE, Int.reduceLT, Nat.reduceEqDiff, Nat.reduceSub, SB, SV.known, packR, ne_eq, reduceCtorEq, Nat.reduceEqDiff, ↓reduceIte, if_true, if_false, eq_self, Nat.reduceAdd, Nat.reduceMul, Nat.reduceSub, forall_const, oneCellS, litOne, flat1, Kd.isSca, flat, TYB]
def CountHidden_F : List SV → Heap → Option (Prop × SV)
  | [.arr V], _ => some (V.length = 18 ∧ I64 V, .tup [.int (hcN V), .arr (hcL V), .bool (isVF V)])
  | _, _ => none
theorem CountHidden_T : ∀ args H p v, CountHidden_F args H = some (p, v) → p → PureH Try.prog 19 args H v := by
  intro args H p v h hp
  unfold CountHidden_F at h
  split at h
  · cases h; exact (CountHidden_ok _ hp.1 hp.2).any _
  · cases h
def sCountHidden_F : List SV → Heap → Option (Prop × SV)
  | [.arr V], _ => some (V.length = 18 ∧ I64 V, .tup [.int (hcN V), .arr (hcL V), .bool (isVF V)])
  | _, _ => none
theorem sCountHidden_T : ∀ args H p v, sCountHidden_F args H = some (p, v) → p → PureH Try.prog 20 args H v := by
  intro args H p v h hp
  unfold sCountHidden_F at h
  split at h
  · cases h; exact (sCountHidden_ok _ hp.1 hp.2).any _
  · cases h
--@tbl sIsView = spec.IsView
theorem sIsView_ok (V : List Int) (hV : V.length = 18) (h64 : I64 V) : PureH Try.prog 28 [.arr V] [] (.bool (isVF V)) := by
  have tkV : V.take 18 = V := List.take_of_length_le (by omega)
  refine pure_of_vc (X := ⟨Try.prog, tys, [(67, l7Good_F)], [], true, true, 0, [], []⟩) fn_28 ⟨tys_ok, (.cons l7Good_T .nil), .nil, mixed⟩ (n0 := 0) (Nat.le_of_ble_eq_true rfl) (by simp [wfL, SV.wf]) (wfH_spec (by simp [wfH, SObj.wf, wfL, SV.wf])) (Nat.le_refl _) (fun _ => by simp [SV.wf, wfL]) ?_
  simp -implicitDefEqProofs only [Try.f28, Option.getD_some, argS, l7Good_F, hV, tkV, h64, ZB, Int.reduceToNat, Nat.reduceLT, Nat.reduceLeDiff, Int.reduceLE, Int.reduceLT, Nat.reduceEqDiff, Nat.reduceSub, SB, SV.known, packR, ne_eq, reduceCtorEq, Nat.reduceEqDiff, ↓reduceIte, if_true, if_false, eq_self, Nat.reduceAdd, Nat.reduceMul, Nat.reduceSub, forall_const, oneCellS, litOne, flat1, Kd.isSca, flat, TYB]
def sIsView_F : List SV → Heap → Option (Prop × SV)
  | [.arr V], _ => some (V.length = 18 ∧ I64 V, .bool (isVF V))
  | _, _ => none
theorem sIsView_T : ∀ args H p v, sIsView_F args H = some (p, v) → p → PureH Try.prog 28 args H v := by
  intro args H p v h hp
  unfold sIsView_F at h
  split at h
  · cases h; exact (sIsView_ok _ hp.1 hp.2).any _
  · cases h
/-! Chances. -/
--@tbl isViewAt1 = impl.isViewAt
theorem isViewAt1_ok (V : List Int) (x : Int) (hV : V.length = 18) : PureH Try.prog 71 [.arr V, .slice 0 0 1 1] [(0, .ints [x] 3)] (.bool (isVF V && plF x)) := by
  have tkV : V.take 18 = V := List.take_of_length_le (by omega)
  cases hv : isVF V
  · refine pure_of_vc (X := ⟨Try.prog, tys, [(27, IsView_F), (78, areAll_place_F)], [], true, true, 1, [], []⟩) fn_71 ⟨tys_ok, (.cons IsView_T (.cons areAll_place_T .nil)), .nil, mixed⟩ (n0 := 1) (Nat.le_of_ble_eq_true rfl) (by simp [wfL, SV.wf]) (wfH_spec (by simp [wfH, SObj.wf, wfL, SV.wf])) (Nat.le_refl _) (fun _ => by simp [SV.wf, wfL]) ?_
    simp -implicitDefEqProofs only [Try.f71, Option.getD_some, argS, IsView_F, areAll_place_F, hV, tkV, hv, areAllI_F, areAll_place_F, ZB, Int.reduceToNat, Nat.reduceLT, Nat.reduceLeDiff, Int.reduceLE, Int.reduceLT, Nat.reduceEqDiff, Nat.reduceSub, SB, SV.known, packR, ne_eq, reduceCtorEq, Nat.reduceEqDiff, ↓reduceIte, if_true, if_false, eq_self, Nat.reduceAdd, Nat.reduceMul, Nat.reduceSub, forall_const, oneCellS, litOne, flat1, Kd.isSca, flat, TYB]
  · refine pure_of_vc (X := ⟨Try.prog, tys, [(27, IsView_F), (78, areAll_place_F)], [], true, true, 1, [], []⟩) fn_71 ⟨tys_ok, (.cons IsView_T (.cons areAll_place_T .nil)), .nil, mixed⟩ (n0 := 1) (Nat.le_of_ble_eq_true rfl) (by simp [wfL, SV.wf]) (wfH_spec (by simp [wfH, SObj.wf, wfL, SV.wf])) (Nat.le_refl _) (fun _ => by simp [SV.wf, wfL]) ?_
    simp -implicitDefEqProofs only [Try.f71, Option.getD_some, argS, IsView_F, areAll_place_F, hV, tkV, hv, areAllI_F, areAll_place_F, ZB, Int.reduceToNat, Nat.reduceLT, Nat.reduceLeDiff, Int.reduceLE, Int.reduceLT, Nat.reduceEqDiff, Nat.reduceSub, SB, SV.known, packR, ne_eq, reduceCtorEq, Nat.reduceEqDiff, ↓reduceIte, if_true, if_false, eq_self, Nat.reduceAdd, Nat.reduceMul, Nat.reduceSub, forall_const, oneCellS, litOne, flat1, Kd.isSca, flat, TYB]
def isViewAt1_F : List SV → Heap → Option (Prop × SV)
  | [.arr V, .slice b 0 1 1], H => match hget H b with
    | some (.ints L e) => some (V.length = 18 ∧ e = 3 ∧ L.length = 1, .bool (isVF V && plF (L.getD 0 0)))
    | _ => none
  | _, _ => none
theorem isViewAt1_T : ∀ args H p v, isViewAt1_F args H = some (p, v) → p → PureH Try.prog 71 args H v := by
  intro args H p v h hp
  unfold isViewAt1_F at h
  split at h
  · rename_i V b
    split at h
    · rename_i L e hb
      cases h
      obtain ⟨hV, rfl, hL⟩ := hp
      obtain ⟨x, rfl⟩ : ∃ x, L = [x] := by
        match L, hL with
        | [x], _ => exact ⟨x, rfl⟩
      have := (isViewAt1_ok V x hV).sub (H := H) (fun _ => b) (fun j o hj => by
        rw [hget_cons] at hj
        split at hj
        · cases hj; exact ⟨hb, fun _ => by omega, by simp [*]⟩
        · cases hj) (fun a ha c hc _ => by simp at ha hc; omega) (fun _ => trivial)
      simpa [renL, SV.ren] using this
    · cases h
  · cases h
def cbB (V : List Int) (x c : Int) : Bool := isVF V && plF x && coF c && !decide (V.getD (6 + x.toNat) 0 < 2)
def cbF (V : List Int) (x c : Int) : List Int := if cbB V x c = true then fracF ((hidV V).getD c.toNat 0) (al V) else [0, 0]
theorem cbF_len (V : List Int) (x c : Int) : (cbF V x c).length = 2 := by unfold cbF; split <;> rfl
/-- A tube with a hidden layer. -/
theorem al_pos {V : List Int} (g : vG V) {i : Nat} (hi : i < 6) (h : ¬ V.getD (6 + i) 0 < 2) : 1 ≤ al V ∧ al V ≤ 18 := by
  have sm := vsm_of g hi
  have := sm.m_
  have := sm.d
  have := sm.a
  omega
--@tbl ChanceBelow = impl.ChanceBelow
--@tbl sChanceBelow = spec.ChanceBelow
theorem ChanceBelow_ok (V : List Int) (x c : Int) (hV : V.length = 18) (h64 : I64 V) : PureH Try.prog 22 [.arr V, .int x, .int c] [] (.tup [.arr (cbF V x c), .bool (cbB V x c)]) := by
  have tkV : V.take 18 = V := List.take_of_length_le (by omega)
  have s1 : (List.replicate 1 (0 : Int)).set 0 x = [x] := rfl
  unfold cbF cbB
  cases hv : isVF V && plF x
  · rw [Bool.false_and, Bool.false_and]
    refine pure_of_vc (X := ⟨Try.prog, tys, [(71, isViewAt1_F)], [], true, true, 0, [], []⟩) fn_22 ⟨tys_ok, (.cons isViewAt1_T .nil), .nil, mixed⟩ (n0 := 0) (Nat.le_of_ble_eq_true rfl) (by simp [wfL, SV.wf]) (wfH_spec (by simp [wfH, SObj.wf, wfL, SV.wf])) (Nat.le_refl _) (fun _ => by simp [SV.wf, wfL]) ?_
    simp -implicitDefEqProofs only [Try.f22, Option.getD_some, argS, isViewAt1_F, rep2_take, s1, List.getD_cons_zero, hV, tkV, hv, ZB, Int.reduceToNat, Nat.reduceLT, Nat.reduceLeDiff, Int.reduceLE, Int.reduceLT, Nat.reduceEqDiff, Nat.reduceSub, SB, SV.known, packR, ne_eq, reduceCtorEq, Nat.reduceEqDiff, ↓reduceIte, if_true, if_false, eq_self, Nat.reduceAdd, Nat.reduceMul, Nat.reduceSub, forall_const, oneCellS, litOne, flat1, Kd.isSca, flat, TYB]
  have hvp := hv
  rw [Bool.and_eq_true] at hvp
  obtain ⟨hvf, hp⟩ := hvp
  have hx : 0 ≤ x ∧ x < 6 := by have := of_decide_eq_true hp; omega
  have g := vG_of hV h64 hvf
  have x6 : 6 + x.toNat < 18 := by omega
  by_cases h2 : V.getD (6 + x.toNat) 0 < 2
  · refine pure_of_vc (X := ⟨Try.prog, tys, [(71, isViewAt1_F), (72, isColor_F)], [], true, true, 0, [], []⟩) fn_22 ⟨tys_ok, (.cons isViewAt1_T (.cons isColor_T .nil)), .nil, mixed⟩ (n0 := 0) (Nat.le_of_ble_eq_true rfl) (by simp [wfL, SV.wf]) (wfH_spec (by simp [wfH, SObj.wf, wfL, SV.wf])) (Nat.le_refl _) (fun _ => by simp [SV.wf, wfL]) ?_
    simp -implicitDefEqProofs only [Try.f22, Option.getD_some, argS, isViewAt1_F, isColor_F, rep2_take, s1, List.getD_cons_zero, hV, tkV, hv, hvf, hp, hx, x6, h2, ZB, Int.reduceToNat, Nat.reduceLT, Nat.reduceLeDiff, Int.reduceLE, Int.reduceLT, Nat.reduceEqDiff, Nat.reduceSub, SB, SV.known, packR, ne_eq, reduceCtorEq, Nat.reduceEqDiff, ↓reduceIte, if_true, if_false, eq_self, Nat.reduceAdd, Nat.reduceMul, Nat.reduceSub, forall_const, oneCellS, litOne, flat1, Kd.isSca, flat, TYB]
  · cases hc : coF c
    · refine pure_of_vc (X := ⟨Try.prog, tys, [(71, isViewAt1_F), (72, isColor_F)], [], true, true, 0, [], []⟩) fn_22 ⟨tys_ok, (.cons isViewAt1_T (.cons isColor_T .nil)), .nil, mixed⟩ (n0 := 0) (Nat.le_of_ble_eq_true rfl) (by simp [wfL, SV.wf]) (wfH_spec (by simp [wfH, SObj.wf, wfL, SV.wf])) (Nat.le_refl _) (fun _ => by simp [SV.wf, wfL]) ?_
      simp -implicitDefEqProofs only [Try.f22, Option.getD_some, argS, isViewAt1_F, isColor_F, rep2_take, s1, List.getD_cons_zero, hV, tkV, hv, hvf, hp, hx, x6, h2, hc, ZB, Int.reduceToNat, Nat.reduceLT, Nat.reduceLeDiff, Int.reduceLE, Int.reduceLT, Nat.reduceEqDiff, Nat.reduceSub, SB, SV.known, packR, ne_eq, reduceCtorEq, Nat.reduceEqDiff, ↓reduceIte, if_true, if_false, eq_self, Nat.reduceAdd, Nat.reduceMul, Nat.reduceSub, forall_const, oneCellS, litOne, flat1, Kd.isSca, flat, TYB]
    · have hcc : 1 ≤ c ∧ c ≤ 5 := of_decide_eq_true hc
      have c6 : c < 6 := by omega
      have c0 : 0 ≤ c := by omega
      have cn : c.toNat < 6 := by omega
      have u1 := g.u1
      have lenH := g.lenH
      have eH : hidL (V.take 6) (V.drop 12) 6 = hidV V := rfl
      have tkH : (hidV V).take 6 = hidV V := List.take_of_length_le (by omega)
      have b2 : Bd (-1000000) 1000000 (hidV V) := fun x hx => by have := g.bH x hx; omega
      have ea : (hidV V).sum = al V := rfl
      have ap := al_pos g (i := x.toNat) (by omega) h2
      have hb := g.bH.getD (k := c.toNat) (by omega)
      have i1 : In64 ((hidV V).getD c.toNat 0) := by unfold In64; omega
      have i2 : In64 (al V) := by unfold In64; omega
      have i3 : 0 < al V := by omega
      have i4 := hb.1
      refine pure_of_vc (X := ⟨Try.prog, tys, [(71, isViewAt1_F), (72, isColor_F), (53, hidden_F), (68, sum_F), (73, fraction_F)], [], true, true, 0, [], []⟩) fn_22 ⟨tys_ok, (.cons isViewAt1_T (.cons isColor_T (.cons hidden_T (.cons sum_T (.cons fraction_T .nil))))), .nil, mixed⟩ (n0 := 0) (Nat.le_of_ble_eq_true rfl) (by simp [wfL, SV.wf]) (wfH_spec (by simp [wfH, SObj.wf, wfL, SV.wf])) (Nat.le_refl _) (fun _ => by simp [SV.wf, wfL]) ?_
      simp -implicitDefEqProofs only [Try.f22, Option.getD_some, argS, isViewAt1_F, isColor_F, hidden_F, sum_F, fraction_F, rep2_take, s1, List.getD_cons_zero, hV, tkV, hv, hvf, hp, hx, x6, h2, hc, u1, lenH, eH, tkH, b2, ea, c0, c6, cn, i1, i2, i3, i4, fracF_len, fracF_take, ZB, Int.reduceToNat, Nat.reduceLT, Nat.reduceLeDiff, Int.reduceLE, Int.reduceLT, Nat.reduceEqDiff, Nat.reduceSub, SB, SV.known, packR, ne_eq, reduceCtorEq, Nat.reduceEqDiff, ↓reduceIte, if_true, if_false, eq_self, Nat.reduceAdd, Nat.reduceMul, Nat.reduceSub, forall_const, oneCellS, litOne, flat1, Kd.isSca, flat, TYB]
theorem sChanceBelow_ok (V : List Int) (x c : Int) (hV : V.length = 18) (h64 : I64 V) : PureH Try.prog 23 [.arr V, .int x, .int c] [] (.tup [.arr (cbF V x c), .bool (cbB V x c)]) := by
  have tkV : V.take 18 = V := List.take_of_length_le (by omega)
  unfold cbF cbB
  cases hvf : isVF V
  · refine pure_of_vc (X := ⟨Try.prog, tys, [(67, l7Good_F), (74, l2Place_F)], [], true, true, 0, [], []⟩) fn_23 ⟨tys_ok, (.cons l7Good_T (.cons l2Place_T .nil)), .nil, mixed⟩ (n0 := 0) (Nat.le_of_ble_eq_true rfl) (by simp [wfL, SV.wf]) (wfH_spec (by simp [wfH, SObj.wf, wfL, SV.wf])) (Nat.le_refl _) (fun _ => by simp [SV.wf, wfL]) ?_
    simp -implicitDefEqProofs only [Try.f23, Option.getD_some, argS, l7Good_F, l2Place_F, rep2_take, hV, tkV, hvf, h64, ZB, Int.reduceToNat, Nat.reduceLT, Nat.reduceLeDiff, Int.reduceLE, Int.reduceLT, Nat.reduceEqDiff, Nat.reduceSub, SB, SV.known, packR, ne_eq, reduceCtorEq, Nat.reduceEqDiff, ↓reduceIte, if_true, if_false, eq_self, Nat.reduceAdd, Nat.reduceMul, Nat.reduceSub, forall_const, oneCellS, litOne, flat1, Kd.isSca, flat, TYB]
  cases hp : plF x
  · refine pure_of_vc (X := ⟨Try.prog, tys, [(67, l7Good_F), (74, l2Place_F)], [], true, true, 0, [], []⟩) fn_23 ⟨tys_ok, (.cons l7Good_T (.cons l2Place_T .nil)), .nil, mixed⟩ (n0 := 0) (Nat.le_of_ble_eq_true rfl) (by simp [wfL, SV.wf]) (wfH_spec (by simp [wfH, SObj.wf, wfL, SV.wf])) (Nat.le_refl _) (fun _ => by simp [SV.wf, wfL]) ?_
    simp -implicitDefEqProofs only [Try.f23, Option.getD_some, argS, l7Good_F, l2Place_F, rep2_take, hV, tkV, hvf, h64, hp, ZB, Int.reduceToNat, Nat.reduceLT, Nat.reduceLeDiff, Int.reduceLE, Int.reduceLT, Nat.reduceEqDiff, Nat.reduceSub, SB, SV.known, packR, ne_eq, reduceCtorEq, Nat.reduceEqDiff, ↓reduceIte, if_true, if_false, eq_self, Nat.reduceAdd, Nat.reduceMul, Nat.reduceSub, forall_const, oneCellS, litOne, flat1, Kd.isSca, flat, TYB]
  have hx : 0 ≤ x ∧ x < 6 := by have := of_decide_eq_true hp; omega
  have g := vG_of hV h64 hvf
  have x6 : 6 + x.toNat < 18 := by omega
  have ec : coF c = decide (1 ≤ c ∧ c ≤ 5) := rfl
  cases hc : coF c
  · rw [ec] at hc
    refine pure_of_vc (X := ⟨Try.prog, tys, [(67, l7Good_F), (74, l2Place_F), (65, l1In_F)], [], true, true, 0, [], []⟩) fn_23 ⟨tys_ok, (.cons l7Good_T (.cons l2Place_T (.cons l1In_T .nil))), .nil, mixed⟩ (n0 := 0) (Nat.le_of_ble_eq_true rfl) (by simp [wfL, SV.wf]) (wfH_spec (by simp [wfH, SObj.wf, wfL, SV.wf])) (Nat.le_refl _) (fun _ => by simp [SV.wf, wfL]) ?_
    simp -implicitDefEqProofs only [Try.f23, Option.getD_some, argS, l7Good_F, l2Place_F, l1In_F, rep2_take, hV, tkV, hvf, h64, hp, hx, x6, hc, ZB, Int.reduceToNat, Nat.reduceLT, Nat.reduceLeDiff, Int.reduceLE, Int.reduceLT, Nat.reduceEqDiff, Nat.reduceSub, SB, SV.known, packR, ne_eq, reduceCtorEq, Nat.reduceEqDiff, ↓reduceIte, if_true, if_false, eq_self, Nat.reduceAdd, Nat.reduceMul, Nat.reduceSub, forall_const, oneCellS, litOne, flat1, Kd.isSca, flat, TYB]
  · have hcc : 1 ≤ c ∧ c ≤ 5 := of_decide_eq_true hc
    rw [ec] at hc
    have c6 : c < 6 := by omega
    have c0 : 0 ≤ c := by omega
    have cn : c.toNat < 6 := by omega
    have u1 := g.u1
    have u2 := g.u2
    have u3 := g.u3
    have lenH := g.lenH
    have eH : hidL (V.take 6) (V.drop 12) 6 = hidV V := rfl
    have eM : hmL (V.drop 6) 6 = al V := g.hs.symm
    have tkH : (hidV V).take 6 = hidV V := List.take_of_length_le (by omega)
    by_cases h2 : V.getD (6 + x.toNat) 0 < 2
    · refine pure_of_vc (X := ⟨Try.prog, tys, [(67, l7Good_F), (74, l2Place_F), (65, l1In_F)], [], true, true, 0, [], []⟩) fn_23 ⟨tys_ok, (.cons l7Good_T (.cons l2Place_T (.cons l1In_T .nil))), .nil, mixed⟩ (n0 := 0) (Nat.le_of_ble_eq_true rfl) (by simp [wfL, SV.wf]) (wfH_spec (by simp [wfH, SObj.wf, wfL, SV.wf])) (Nat.le_refl _) (fun _ => by simp [SV.wf, wfL]) ?_
      simp -implicitDefEqProofs only [Try.f23, Option.getD_some, argS, l7Good_F, l2Place_F, l1In_F, rep2_take, hV, tkV, hvf, h64, hp, hx, x6, hc, hcc, h2, ZB, Int.reduceToNat, Nat.reduceLT, Nat.reduceLeDiff, Int.reduceLE, Int.reduceLT, Nat.reduceEqDiff, Nat.reduceSub, SB, SV.known, packR, ne_eq, reduceCtorEq, Nat.reduceEqDiff, ↓reduceIte, if_true, if_false, eq_self, Nat.reduceAdd, Nat.reduceMul, Nat.reduceSub, forall_const, oneCellS, litOne, flat1, Kd.isSca, flat, TYB]
    · have ap := al_pos g (i := x.toNat) (by omega) h2
      have hb := g.bH.getD (k := c.toNat) (by omega)
      have i1 : In64 ((hidV V).getD c.toNat 0) := by unfold In64; omega
      have i2 : In64 (al V) := by unfold In64; omega
      have i3 : 0 < al V := by omega
      have i4 := hb.1
      refine pure_of_vc (X := ⟨Try.prog, tys, [(67, l7Good_F), (74, l2Place_F), (65, l1In_F), (56, l7Hidden_F), (75, l7Cut_F)], [], true, true, 0, [], []⟩) fn_23 ⟨tys_ok, (.cons l7Good_T (.cons l2Place_T (.cons l1In_T (.cons l7Hidden_T (.cons l7Cut_T .nil))))), .nil, mixed⟩ (n0 := 0) (Nat.le_of_ble_eq_true rfl) (by simp [wfL, SV.wf]) (wfH_spec (by simp [wfH, SObj.wf, wfL, SV.wf])) (Nat.le_refl _) (fun _ => by simp [SV.wf, wfL]) ?_
      simp -implicitDefEqProofs only [Try.f23, Option.getD_some, argS, l7Good_F, l2Place_F, l1In_F, l7Hidden_F, l7Cut_F, rep2_take, hV, tkV, hvf, h64, hp, hx, x6, hc, hcc, h2, u1, u2, u3, lenH, eH, eM, tkH, c0, c6, cn, i1, i2, i3, i4, fracF_len, fracF_take, ZB, Int.reduceToNat, Nat.reduceLT, Nat.reduceLeDiff, Int.reduceLE, Int.reduceLT, Nat.reduceEqDiff, Nat.reduceSub, SB, SV.known, packR, ne_eq, reduceCtorEq, Nat.reduceEqDiff, ↓reduceIte, if_true, if_false, eq_self, Nat.reduceAdd, Nat.reduceMul, Nat.reduceSub, forall_const, oneCellS, litOne, flat1, Kd.isSca, flat, TYB]
def ChanceBelow_F : List SV → Heap → Option (Prop × SV)
  | [.arr V, .int x, .int c], _ => some (V.length = 18 ∧ I64 V, .tup [.arr (cbF V x c), .bool (cbB V x c)])
  | _, _ => none
theorem ChanceBelow_T : ∀ args H p v, ChanceBelow_F args H = some (p, v) → p → PureH Try.prog 22 args H v := by
  intro args H p v h hp
  unfold ChanceBelow_F at h
  split at h
  · cases h; exact (ChanceBelow_ok _ _ _ hp.1 hp.2).any _
  · cases h
def sChanceBelow_F : List SV → Heap → Option (Prop × SV)
  | [.arr V, .int x, .int c], _ => some (V.length = 18 ∧ I64 V, .tup [.arr (cbF V x c), .bool (cbB V x c)])
  | _, _ => none
theorem sChanceBelow_T : ∀ args H p v, sChanceBelow_F args H = some (p, v) → p → PureH Try.prog 23 args H v := by
  intro args H p v h hp
  unfold sChanceBelow_F at h
  split at h
  · cases h; exact (sChanceBelow_ok _ _ _ hp.1 hp.2).any _
  · cases h
def ctB (V : List Int) (x r : Int) : Bool := isVF V && plF x && !decide (V.getD (6 + x.toNat) 0 = 0) && decide (1 ≤ r ∧ r ≤ 4)
def ctF (V : List Int) (x r : Int) : List Int := if ctB V x r = true then fracF (tv V x.toNat r.toNat) (chP (al V) 0 (mm V x.toNat - 1)) else [0, 0]
theorem ctF_len (V : List Int) (x r : Int) : (ctF V x r).length = 2 := by unfold ctF; split <;> rfl
theorem ct_x {V : List Int} (g : vG V) {i : Nat} (hi : i < 6) (h : ¬ V.getD (6 + i) 0 = 0) : ctX (al V) (sa V i) (mm V i) ∧ 1 ≤ mm V i ∧ mm V i ≤ 4 := by
  have sm := vsm_of g hi
  have u2 := g.u2 i hi
  have m1 : 1 ≤ mm V i := by unfold mm; omega
  exact ⟨ctX_of sm.a sm.b m1 sm.c sm.d, m1, sm.c⟩
--@tbl ChanceTop = impl.ChanceTop
--@tbl sChanceTop = spec.ChanceTop
theorem ChanceTop_ok (V : List Int) (x r : Int) (hV : V.length = 18) (h64 : I64 V) : PureH Try.prog 25 [.arr V, .int x, .int r] [] (.tup [.arr (ctF V x r), .bool (ctB V x r)]) := by
  have tkV : V.take 18 = V := List.take_of_length_le (by omega)
  have s1 : (List.replicate 1 (0 : Int)).set 0 x = [x] := rfl
  unfold ctF ctB
  cases hv : isVF V && plF x
  · rw [Bool.false_and, Bool.false_and]
    refine pure_of_vc (X := ⟨Try.prog, tys, [(71, isViewAt1_F)], [], true, true, 0, [], []⟩) fn_25 ⟨tys_ok, (.cons isViewAt1_T .nil), .nil, mixed⟩ (n0 := 0) (Nat.le_of_ble_eq_true rfl) (by simp [wfL, SV.wf]) (wfH_spec (by simp [wfH, SObj.wf, wfL, SV.wf])) (Nat.le_refl _) (fun _ => by simp [SV.wf, wfL]) ?_
    simp -implicitDefEqProofs only [Try.f25, Option.getD_some, argS, isViewAt1_F, rep2_take, s1, List.getD_cons_zero, hV, tkV, hv, ZB, Int.reduceToNat, Nat.reduceLT, Nat.reduceLeDiff, Int.reduceLE, Int.reduceLT, Nat.reduceEqDiff, Nat.reduceSub, SB, SV.known, packR, ne_eq, reduceCtorEq, Nat.reduceEqDiff, ↓reduceIte, if_true, if_false, eq_self, Nat.reduceAdd, Nat.reduceMul, Nat.reduceSub, forall_const, oneCellS, litOne, flat1, Kd.isSca, flat, TYB]
  have hvp := hv
  rw [Bool.and_eq_true] at hvp
  obtain ⟨hvf, hp⟩ := hvp
  have hx : 0 ≤ x ∧ x < 6 := by have := of_decide_eq_true hp; omega
  have g := vG_of hV h64 hvf
  have x6 : 6 + x.toNat < 18 := by omega
  by_cases h2 : V.getD (6 + x.toNat) 0 = 0
  · refine pure_of_vc (X := ⟨Try.prog, tys, [(71, isViewAt1_F), (63, within_F)], [], true, true, 0, [], []⟩) fn_25 ⟨tys_ok, (.cons isViewAt1_T (.cons within_T .nil)), .nil, mixed⟩ (n0 := 0) (Nat.le_of_ble_eq_true rfl) (by simp [wfL, SV.wf]) (wfH_spec (by simp [wfH, SObj.wf, wfL, SV.wf])) (Nat.le_refl _) (fun _ => by simp [SV.wf, wfL]) ?_
    simp -implicitDefEqProofs only [Try.f25, Option.getD_some, argS, isViewAt1_F, within_F, rep2_take, s1, List.getD_cons_zero, hV, tkV, hv, hvf, hp, hx, x6, h2, ZB, Int.reduceToNat, Nat.reduceLT, Nat.reduceLeDiff, Int.reduceLE, Int.reduceLT, Nat.reduceEqDiff, Nat.reduceSub, SB, SV.known, packR, ne_eq, reduceCtorEq, Nat.reduceEqDiff, ↓reduceIte, if_true, if_false, eq_self, Nat.reduceAdd, Nat.reduceMul, Nat.reduceSub, forall_const, oneCellS, litOne, flat1, Kd.isSca, flat, TYB]
  · cases hc : decide (1 ≤ r ∧ r ≤ 4)
    · refine pure_of_vc (X := ⟨Try.prog, tys, [(71, isViewAt1_F), (63, within_F)], [], true, true, 0, [], []⟩) fn_25 ⟨tys_ok, (.cons isViewAt1_T (.cons within_T .nil)), .nil, mixed⟩ (n0 := 0) (Nat.le_of_ble_eq_true rfl) (by simp [wfL, SV.wf]) (wfH_spec (by simp [wfH, SObj.wf, wfL, SV.wf])) (Nat.le_refl _) (fun _ => by simp [SV.wf, wfL]) ?_
      simp -implicitDefEqProofs only [Try.f25, Option.getD_some, argS, isViewAt1_F, within_F, rep2_take, s1, List.getD_cons_zero, hV, tkV, hv, hvf, hp, hx, x6, h2, hc, ZB, Int.reduceToNat, Nat.reduceLT, Nat.reduceLeDiff, Int.reduceLE, Int.reduceLT, Nat.reduceEqDiff, Nat.reduceSub, SB, SV.known, packR, ne_eq, reduceCtorEq, Nat.reduceEqDiff, ↓reduceIte, if_true, if_false, eq_self, Nat.reduceAdd, Nat.reduceMul, Nat.reduceSub, forall_const, oneCellS, litOne, flat1, Kd.isSca, flat, TYB]
    · have hr : 1 ≤ r ∧ r ≤ 4 := of_decide_eq_true hc
      obtain ⟨X, m1, m4⟩ := ct_x g (i := x.toNat) (by omega) h2
      have Xt := X.t r.toNat (by omega) (by omega)
      have r5 : r < 5 := by omega
      have r0 : 0 ≤ r := by omega
      have lL := toL_len (al V) (sa V x.toNat) (mm V x.toNat) (mm V x.toNat)
      have tk5 := List.take_of_length_le (Nat.le_of_eq lL)
      have rn : r.toNat < 5 := by omega
      have ge := tv_get (V := V) (i := x.toNat) rn
      have et : tv V x.toNat r.toNat = toVal (al V) (sa V x.toNat) (mm V x.toNat) r.toNat := rfl
      have i1 : In64 (tv V x.toNat r.toNat) := by rw [et]; unfold In64; omega
      have i2 : In64 (chP (al V) 0 (mm V x.toNat - 1)) := by have := X.p; unfold In64; omega
      have i3 := X.p.1
      have i4 : 0 ≤ tv V x.toNat r.toNat := by rw [et]; exact Xt.1
      refine pure_of_vc (X := ⟨Try.prog, tys, [(71, isViewAt1_F), (63, within_F), (76, tops_F), (73, fraction_F)], [], true, true, 0, [], []⟩) fn_25 ⟨tys_ok, (.cons isViewAt1_T (.cons within_T (.cons tops_T (.cons fraction_T .nil)))), .nil, mixed⟩ (n0 := 0) (Nat.le_of_ble_eq_true rfl) (by simp [wfL, SV.wf]) (wfH_spec (by simp [wfH, SObj.wf, wfL, SV.wf])) (Nat.le_refl _) (fun _ => by simp [SV.wf, wfL]) ?_
      simp -implicitDefEqProofs only [Try.f25, Option.getD_some, argS, isViewAt1_F, within_F, tops_F, fraction_F, rep2_take, s1, List.getD_cons_zero, hV, tkV, hv, hvf, hp, hx, x6, h2, hc, hr, g, lL, tk5, ge, r0, r5, rn, i1, i2, i3, i4, fracF_len, fracF_take, ZB, Int.reduceToNat, Nat.reduceLT, Nat.reduceLeDiff, Int.reduceLE, Int.reduceLT, Nat.reduceEqDiff, Nat.reduceSub, SB, SV.known, packR, ne_eq, reduceCtorEq, Nat.reduceEqDiff, ↓reduceIte, if_true, if_false, eq_self, Nat.reduceAdd, Nat.reduceMul, Nat.reduceSub, forall_const, oneCellS, litOne, flat1, Kd.isSca, flat, TYB]
theorem sChanceTop_ok (V : List Int) (x r : Int) (hV : V.length = 18) (h64 : I64 V) : PureH Try.prog 26 [.arr V, .int x, .int r] [] (.tup [.arr (ctF V x r), .bool (ctB V x r)]) := by
  have tkV : V.take 18 = V := List.take_of_length_le (by omega)
  unfold ctF ctB
  cases hvf : isVF V
  · refine pure_of_vc (X := ⟨Try.prog, tys, [(67, l7Good_F), (74, l2Place_F)], [], true, true, 0, [], []⟩) fn_26 ⟨tys_ok, (.cons l7Good_T (.cons l2Place_T .nil)), .nil, mixed⟩ (n0 := 0) (Nat.le_of_ble_eq_true rfl) (by simp [wfL, SV.wf]) (wfH_spec (by simp [wfH, SObj.wf, wfL, SV.wf])) (Nat.le_refl _) (fun _ => by simp [SV.wf, wfL]) ?_
    simp -implicitDefEqProofs only [Try.f26, Option.getD_some, argS, l7Good_F, l2Place_F, rep2_take, hV, tkV, hvf, h64, ZB, Int.reduceToNat, Nat.reduceLT, Nat.reduceLeDiff, Int.reduceLE, Int.reduceLT, Nat.reduceEqDiff, Nat.reduceSub, SB, SV.known, packR, ne_eq, reduceCtorEq, Nat.reduceEqDiff, ↓reduceIte, if_true, if_false, eq_self, Nat.reduceAdd, Nat.reduceMul, Nat.reduceSub, forall_const, oneCellS, litOne, flat1, Kd.isSca, flat, TYB]
  cases hp : plF x
  · refine pure_of_vc (X := ⟨Try.prog, tys, [(67, l7Good_F), (74, l2Place_F)], [], true, true, 0, [], []⟩) fn_26 ⟨tys_ok, (.cons l7Good_T (.cons l2Place_T .nil)), .nil, mixed⟩ (n0 := 0) (Nat.le_of_ble_eq_true rfl) (by simp [wfL, SV.wf]) (wfH_spec (by simp [wfH, SObj.wf, wfL, SV.wf])) (Nat.le_refl _) (fun _ => by simp [SV.wf, wfL]) ?_
    simp -implicitDefEqProofs only [Try.f26, Option.getD_some, argS, l7Good_F, l2Place_F, rep2_take, hV, tkV, hvf, h64, hp, ZB, Int.reduceToNat, Nat.reduceLT, Nat.reduceLeDiff, Int.reduceLE, Int.reduceLT, Nat.reduceEqDiff, Nat.reduceSub, SB, SV.known, packR, ne_eq, reduceCtorEq, Nat.reduceEqDiff, ↓reduceIte, if_true, if_false, eq_self, Nat.reduceAdd, Nat.reduceMul, Nat.reduceSub, forall_const, oneCellS, litOne, flat1, Kd.isSca, flat, TYB]
  have hx : 0 ≤ x ∧ x < 6 := by have := of_decide_eq_true hp; omega
  have g := vG_of hV h64 hvf
  have x6 : 6 + x.toNat < 18 := by omega
  by_cases h2 : V.getD (6 + x.toNat) 0 = 0
  · refine pure_of_vc (X := ⟨Try.prog, tys, [(67, l7Good_F), (74, l2Place_F), (65, l1In_F)], [], true, true, 0, [], []⟩) fn_26 ⟨tys_ok, (.cons l7Good_T (.cons l2Place_T (.cons l1In_T .nil))), .nil, mixed⟩ (n0 := 0) (Nat.le_of_ble_eq_true rfl) (by simp [wfL, SV.wf]) (wfH_spec (by simp [wfH, SObj.wf, wfL, SV.wf])) (Nat.le_refl _) (fun _ => by simp [SV.wf, wfL]) ?_
    simp -implicitDefEqProofs only [Try.f26, Option.getD_some, argS, l7Good_F, l2Place_F, l1In_F, rep2_take, hV, tkV, hvf, h64, hp, hx, x6, h2, ZB, Int.reduceToNat, Nat.reduceLT, Nat.reduceLeDiff, Int.reduceLE, Int.reduceLT, Nat.reduceEqDiff, Nat.reduceSub, SB, SV.known, packR, ne_eq, reduceCtorEq, Nat.reduceEqDiff, ↓reduceIte, if_true, if_false, eq_self, Nat.reduceAdd, Nat.reduceMul, Nat.reduceSub, forall_const, oneCellS, litOne, flat1, Kd.isSca, flat, TYB]
  · cases hc : decide (1 ≤ r ∧ r ≤ 4)
    · refine pure_of_vc (X := ⟨Try.prog, tys, [(67, l7Good_F), (74, l2Place_F), (65, l1In_F)], [], true, true, 0, [], []⟩) fn_26 ⟨tys_ok, (.cons l7Good_T (.cons l2Place_T (.cons l1In_T .nil))), .nil, mixed⟩ (n0 := 0) (Nat.le_of_ble_eq_true rfl) (by simp [wfL, SV.wf]) (wfH_spec (by simp [wfH, SObj.wf, wfL, SV.wf])) (Nat.le_refl _) (fun _ => by simp [SV.wf, wfL]) ?_
      simp -implicitDefEqProofs only [Try.f26, Option.getD_some, argS, l7Good_F, l2Place_F, l1In_F, rep2_take, hV, tkV, hvf, h64, hp, hx, x6, h2, hc, ZB, Int.reduceToNat, Nat.reduceLT, Nat.reduceLeDiff, Int.reduceLE, Int.reduceLT, Nat.reduceEqDiff, Nat.reduceSub, SB, SV.known, packR, ne_eq, reduceCtorEq, Nat.reduceEqDiff, ↓reduceIte, if_true, if_false, eq_self, Nat.reduceAdd, Nat.reduceMul, Nat.reduceSub, forall_const, oneCellS, litOne, flat1, Kd.isSca, flat, TYB]
    · have hr : 1 ≤ r ∧ r ≤ 4 := of_decide_eq_true hc
      obtain ⟨X, m1, m4⟩ := ct_x g (i := x.toNat) (by omega) h2
      have Xe := X.e r.toNat (by omega) (by omega)
      have et : tv V x.toNat r.toNat = toVal (al V) (sa V x.toNat) (mm V x.toNat) r.toNat := rfl
      rw [et, ← Xe]
      have lF := ltF_len (al V) (sa V x.toNat) (mm V x.toNat) r.toNat
      have tkF := List.take_of_length_le (Nat.le_of_eq lF)
      refine pure_of_vc (X := ⟨Try.prog, tys, [(67, l7Good_F), (74, l2Place_F), (65, l1In_F), (77, l7Top_F)], [], true, true, 0, [], []⟩) fn_26 ⟨tys_ok, (.cons l7Good_T (.cons l2Place_T (.cons l1In_T (.cons l7Top_T .nil)))), .nil, mixed⟩ (n0 := 0) (Nat.le_of_ble_eq_true rfl) (by simp [wfL, SV.wf]) (wfH_spec (by simp [wfH, SObj.wf, wfL, SV.wf])) (Nat.le_refl _) (fun _ => by simp [SV.wf, wfL]) ?_
      simp -implicitDefEqProofs only [Try.f26, Option.getD_some, argS, l7Good_F, l2Place_F, l1In_F, l7Top_F, rep2_take, hV, tkV, hvf, h64, hp, hx, x6, h2, hc, hr, g, lF, tkF, ZB, Int.reduceToNat, Nat.reduceLT, Nat.reduceLeDiff, Int.reduceLE, Int.reduceLT, Nat.reduceEqDiff, Nat.reduceSub, SB, SV.known, packR, ne_eq, reduceCtorEq, Nat.reduceEqDiff, ↓reduceIte, if_true, if_false, eq_self, Nat.reduceAdd, Nat.reduceMul, Nat.reduceSub, forall_const, oneCellS, litOne, flat1, Kd.isSca, flat, TYB]
def ChanceTop_F : List SV → Heap → Option (Prop × SV)
  | [.arr V, .int x, .int r], _ => some (V.length = 18 ∧ I64 V, .tup [.arr (ctF V x r), .bool (ctB V x r)])
  | _, _ => none
theorem ChanceTop_T : ∀ args H p v, ChanceTop_F args H = some (p, v) → p → PureH Try.prog 25 args H v := by
  intro args H p v h hp
  unfold ChanceTop_F at h
  split at h
  · cases h; exact (ChanceTop_ok _ _ _ hp.1 hp.2).any _
  · cases h
def sChanceTop_F : List SV → Heap → Option (Prop × SV)
  | [.arr V, .int x, .int r], _ => some (V.length = 18 ∧ I64 V, .tup [.arr (ctF V x r), .bool (ctB V x r)])
  | _, _ => none
theorem sChanceTop_T : ∀ args H p v, sChanceTop_F args H = some (p, v) → p → PureH Try.prog 26 args H v := by
  intro args H p v h hp
  unfold sChanceTop_F at h
  split at h
  · cases h; exact (sChanceTop_ok _ _ _ hp.1 hp.2).any _
  · cases h
end Go.Proofs.Ytckcojgfgcjamaa
set_option maxRecDepth 100000
set_option linter.unusedSimpArgs false
set_option linter.unusedVariables false
namespace Go.Proofs.Ytckcojgfgcjamaa
open Go Go.RowKit
theorem plus_red {a0 a1 b0 b1 u w d : Int} (ha : 0 ≤ a0) (hb : 0 ≤ b0) (hu : 0 < u) (hw : 0 < w) (hd : 0 < d) (h1 : a1 = u * d) (h2 : b1 = w * d) : fracF (a0 * w + b0 * u) (u * b1) = fracF (a0 * b1 + b0 * a1) (a1 * b1) := by
  have p1 : 0 < a1 := by rw [h1]; exact Int.mul_pos hu hd
  have p2 : 0 < b1 := by rw [h2]; exact Int.mul_pos hw hd
  have m1 := Int.mul_nonneg ha (Int.le_of_lt hw)
  have m2 := Int.mul_nonneg hb (Int.le_of_lt hu)
  have m3 := Int.mul_nonneg ha (Int.le_of_lt p2)
  have m4 := Int.mul_nonneg hb (Int.le_of_lt p1)
  refine fracF_same (by omega) (Int.mul_pos hu p2) (by omega) (Int.mul_pos p1 p2) ?_
  have e : a0 * b1 + b0 * a1 = (a0 * w + b0 * u) * d := by rw [h1, h2, Int.add_mul, Int.mul_assoc, Int.mul_assoc]
  rw [e, h1]
  generalize a0 * w + b0 * u = t
  rw [Int.mul_assoc t d, Int.mul_comm u d, Int.mul_assoc d u]
--@tbl vPlus = laws.vPlus
theorem vPlus_ok (A B : List Int) (hA : smallF A) (hB : smallF B) : PureH Try.prog 29 [.arr A, .arr B] [] (.arr (plusF A B)) := by
  obtain ⟨lA, x1, x2, x3, x4⟩ := hA
  obtain ⟨lB, y1, y2, y3, y4⟩ := hB
  unfold plusF
  generalize hA0 : A.getD 0 0 = a0 at *
  generalize hA1 : A.getD 1 0 = a1 at *
  generalize hB0 : B.getD 0 0 = b0 at *
  generalize hB1 : B.getD 1 0 = b1 at *
  refine pure_of_vc (X := ⟨Try.prog, tys, [], [], true, true, 0, [], []⟩) fn_29 ⟨tys_ok, .nil, .nil, mixed⟩ (n0 := 0) (Nat.le_of_ble_eq_true rfl) (by simp [wfL, SV.wf]) (wfH_spec (by simp [wfH, SObj.wf, wfL, SV.wf])) (Nat.le_refl _) (fun _ => by simp [SV.wf, wfL]) ?_
  simp -implicitDefEqProofs only [Try.f29, Option.getD_some, argS, lA, lB, hA0, hA1, hB0, hB1, ZB, Int.reduceToNat, Nat.reduceLT, Nat.reduceLeDiff, Int.reduceLE, Int.reduceLT, Nat.reduceEqDiff, Nat.reduceSub, SB, SV.known, packR, ne_eq, reduceCtorEq, Nat.reduceEqDiff, ↓reduceIte, if_true, if_false, eq_self, Nat.reduceAdd, Nat.reduceMul, Nat.reduceSub, forall_const, oneCellS, litOne, flat1, Kd.isSca, flat, TYB]
  have hg : 0 < Nat.gcd a1.toNat b1.toNat := gcd_posI y3
  obtain ⟨u, hu⟩ : ∃ u, a1.tdiv ((Nat.gcd a1.toNat b1.toNat : Nat) : Int) = u := ⟨_, rfl⟩
  obtain ⟨w, hw⟩ : ∃ w, b1.tdiv ((Nat.gcd a1.toNat b1.toNat : Nat) : Int) = w := ⟨_, rfl⟩
  have ed1 : a1 = u * ((Nat.gcd a1.toNat b1.toNat : Nat) : Int) := by
    rw [← hu]
    refine (Int.tdiv_mul_cancel ?_).symm
    have := Int.ofNat_dvd.2 (Nat.gcd_dvd_left a1.toNat b1.toNat)
    rwa [Int.toNat_of_nonneg (by omega)] at this
  have ed2 : b1 = w * ((Nat.gcd a1.toNat b1.toNat : Nat) : Int) := by
    rw [← hw]
    refine (Int.tdiv_mul_cancel ?_).symm
    have := Int.ofNat_dvd.2 (Nat.gcd_dvd_right a1.toNat b1.toNat)
    rwa [Int.toNat_of_nonneg (by omega)] at this
  have u0 : 0 ≤ u := by rw [← hu]; exact Int.tdiv_nonneg (by omega) (by omega)
  have w0 : 0 ≤ w := by rw [← hw]; exact Int.tdiv_nonneg (by omega) (by omega)
  have ul : u ≤ a1 := by rw [← hu]; exact Int.tdiv_le_self _ (by omega)
  have wl : w ≤ b1 := by rw [← hw]; exact Int.tdiv_le_self _ (by omega)
  have up : 0 < u := by
    rcases Int.lt_or_eq_of_le u0 with h | h
    · exact h
    · rw [← h, Int.zero_mul] at ed1; omega
  have wp : 0 < w := by
    rcases Int.lt_or_eq_of_le w0 with h | h
    · exact h
    · rw [← h, Int.zero_mul] at ed2; omega
  have red := plus_red x1 y1 up wp (show 0 < ((Nat.gcd a1.toNat b1.toNat : Nat) : Int) by omega) ed1 ed2
  rw [← red]
  have m1 := mul_bd x1 x2 w0 (show w ≤ 1000000000 by omega)
  have m2 := mul_bd y1 y2 u0 (show u ≤ 1000000000 by omega)
  have m3 := mul_bd u0 (show u ≤ 1000000000 by omega) (Int.le_of_lt y3) y4
  have m4 := Int.mul_pos up y3
  refine loop_intro (fun s : Int × Int => [(6, .int s.2), (5, .int s.1), (4, .ptr 2 0), (3, .ptr 1 0), (2, .ptr 0 0)]) (fun _ => [(2, .ints (List.replicate 2 0) 47), (1, .ints B 47), (0, .ints A 47)]) 3 (fun s => 0 ≤ s.1 ∧ 0 ≤ s.2 ∧ Nat.gcd s.1.toNat s.2.toNat = Nat.gcd a1.toNat b1.toNat) (fun s => s.2.toNat) ?_ ?_
  · refine ⟨(a1, b1), ⟨by simp; omega, by simp; omega, rfl⟩, Sub.mk_id ?_ ?_ ?_ ?_ ?_⟩
    all_goals simp only [LB, subS, subH, wfS, wfH, SV.ren, renL, SObj.ren, SV.wf, SObj.wf, wfL, SV.known, Nat.reduceEqDiff, ↓reduceIte, if_true, if_false, eq_self, Nat.reduceAdd, Nat.reduceLT, Nat.reduceLeDiff, implies_true, reduceCtorEq, forall_const]
  · rintro ⟨x, y⟩ ⟨h1, h2, h3⟩
    simp only at h1 h2 h3
    by_cases h : 0 < y
    · have hy : y ≠ 0 := by omega
      simp -implicitDefEqProofs only [lk_normal, h, hy, ZB, Int.reduceToNat, Nat.reduceLT, Nat.reduceLeDiff, Int.reduceLE, Int.reduceLT, Nat.reduceEqDiff, Nat.reduceSub, SB, SV.known, packR, ne_eq, reduceCtorEq, Nat.reduceEqDiff, ↓reduceIte, if_true, if_false, eq_self, Nat.reduceAdd, Nat.reduceMul, Nat.reduceSub, forall_const, oneCellS, litOne, flat1, Kd.isSca, flat, TYB]
      refine ⟨(y, x.tmod y), ⟨h2, Int.tmod_nonneg _ h1, ?_⟩, tmod_lt' h1 (by omega), Sub.mk_id ?_ ?_ ?_ ?_ ?_⟩
      · exact (gcd_step h1 h2).trans h3
      all_goals simp only [LB, subS, subH, wfS, wfH, SV.ren, renL, SObj.ren, SV.wf, SObj.wf, wfL, SV.known, Nat.reduceEqDiff, ↓reduceIte, if_true, if_false, eq_self, Nat.reduceAdd, Nat.reduceLT, Nat.reduceLeDiff, implies_true, reduceCtorEq, forall_const]
    · obtain rfl : y = 0 := by omega
      have e1 : x = Nat.gcd a1.toNat b1.toNat := by rw [← h3]; simp; omega
      rw [← e1] at hu hw
      have x0 : x ≠ 0 := by omega
      have i1 : In64 u := by unfold In64; omega
      have i2 : In64 w := by unfold In64; omega
      have i3 : In64 (a0 * w) := by unfold In64; omega
      have i4 : In64 (b0 * u) := by unfold In64; omega
      have i5 : In64 (a0 * w + b0 * u) := by unfold In64; omega
      have i6 : In64 (u * b1) := by unfold In64; omega
      simp -implicitDefEqProofs only [lk_normal, Int.lt_irrefl, lA, lB, hA0, hA1, hB0, hB1, hu, hw, x0, i1, i2, i3, i4, i5, i6, ZB, Int.reduceToNat, Nat.reduceLT, Nat.reduceLeDiff, Int.reduceLE, Int.reduceLT, Nat.reduceEqDiff, Nat.reduceSub, SB, SV.known, packR, ne_eq, reduceCtorEq, Nat.reduceEqDiff, ↓reduceIte, if_true, if_false, eq_self, Nat.reduceAdd, Nat.reduceMul, Nat.reduceSub, forall_const, oneCellS, litOne, flat1, Kd.isSca, flat, TYB]
      (try (and_intros <;> try (first | omega | (unfold In64; omega) | trivial | assumption)))
      obtain ⟨tp, htp⟩ : ∃ tp, a0 * w + b0 * u = tp := ⟨_, rfl⟩
      obtain ⟨bt, hbt⟩ : ∃ bt, u * b1 = bt := ⟨_, rfl⟩
      simp only [htp, hbt] at i5 i6 m3 m4 ⊢
      have t0 : 0 ≤ tp := by omega
      have hg2 : 0 < Nat.gcd tp.toNat bt.toNat := gcd_posI m4
      refine loop_intro (fun s : Int × Int => [(6, .int s.2), (5, .int s.1), (8, .int bt), (7, .int tp), (4, .ptr 2 0)]) (fun _ => [(2, .ints (List.replicate 2 0) 47)]) 3 (fun s => 0 ≤ s.1 ∧ 0 ≤ s.2 ∧ Nat.gcd s.1.toNat s.2.toNat = Nat.gcd tp.toNat bt.toNat) (fun s => s.2.toNat) ?_ ?_
      · refine ⟨(tp, bt), ⟨t0, by simp; omega, rfl⟩, Sub.mk_id ?_ ?_ ?_ ?_ ?_⟩
        all_goals simp only [LB, subS, subH, wfS, wfH, SV.ren, renL, SObj.ren, SV.wf, SObj.wf, wfL, SV.known, Nat.reduceEqDiff, ↓reduceIte, if_true, if_false, eq_self, Nat.reduceAdd, Nat.reduceLT, Nat.reduceLeDiff, implies_true, reduceCtorEq, forall_const]
      · rintro ⟨x, y⟩ ⟨k1, k2, k3⟩
        simp only at k1 k2 k3
        by_cases h : 0 < y
        · have hy : y ≠ 0 := by omega
          simp -implicitDefEqProofs only [lk_normal, h, hy, ZB, Int.reduceToNat, Nat.reduceLT, Nat.reduceLeDiff, Int.reduceLE, Int.reduceLT, Nat.reduceEqDiff, Nat.reduceSub, SB, SV.known, packR, ne_eq, reduceCtorEq, Nat.reduceEqDiff, ↓reduceIte, if_true, if_false, eq_self, Nat.reduceAdd, Nat.reduceMul, Nat.reduceSub, forall_const, oneCellS, litOne, flat1, Kd.isSca, flat, TYB]
          refine ⟨(y, x.tmod y), ⟨k2, Int.tmod_nonneg _ k1, ?_⟩, tmod_lt' k1 (by omega), Sub.mk_id ?_ ?_ ?_ ?_ ?_⟩
          · exact (gcd_step k1 k2).trans k3
          all_goals simp only [LB, subS, subH, wfS, wfH, SV.ren, renL, SObj.ren, SV.wf, SObj.wf, wfL, SV.known, Nat.reduceEqDiff, ↓reduceIte, if_true, if_false, eq_self, Nat.reduceAdd, Nat.reduceLT, Nat.reduceLeDiff, implies_true, reduceCtorEq, forall_const]
        · obtain rfl : y = 0 := by omega
          have f1 : x = Nat.gcd tp.toNat bt.toNat := by rw [← k3]; simp; omega
          have fx0 : x ≠ 0 := by omega
          have j1 := tdiv_in64 t0 (show 0 < x by omega) i5
          have j2 := tdiv_in64 (Int.le_of_lt m4) (show 0 < x by omega) i6
          have ef : fracF tp bt = [tp.tdiv x, bt.tdiv x] := by unfold fracF; rw [← f1]
          simp -implicitDefEqProofs only [lk_normal, Int.lt_irrefl, fx0, j1, j2, ef, ZB, Int.reduceToNat, Nat.reduceLT, Nat.reduceLeDiff, Int.reduceLE, Int.reduceLT, Nat.reduceEqDiff, Nat.reduceSub, SB, SV.known, packR, ne_eq, reduceCtorEq, Nat.reduceEqDiff, ↓reduceIte, if_true, if_false, eq_self, Nat.reduceAdd, Nat.reduceMul, Nat.reduceSub, forall_const, oneCellS, litOne, flat1, Kd.isSca, flat, TYB]
def vPlus_F : List SV → Heap → Option (Prop × SV)
  | [.arr A, .arr B], _ => some (smallF A ∧ smallF B, .arr (plusF A B))
  | _, _ => none
theorem vPlus_T : ∀ args H p v, vPlus_F args H = some (p, v) → p → PureH Try.prog 29 args H v := by
  intro args H p v h hp
  unfold vPlus_F at h
  split at h
  · cases h; exact (vPlus_ok _ _ hp.1 hp.2).any _
  · cases h
end Go.Proofs.Ytckcojgfgcjamaa
set_option maxRecDepth 100000
set_option linter.unusedSimpArgs false
set_option linter.unusedVariables false
namespace Go.Proofs.Ytckcojgfgcjamaa
open Go Go.RowKit
/-- A code of bytes: nil, or a window of a block. -/
def BytV (kc : Nat) (v : SV) (H : Heap) : Prop := (v = .nils ∧ ∃ o, hget H kc = some o) ∨ ∃ (off len cap : Nat) (L : List Int), v = .slice kc off len cap ∧ hget H kc = some (.winU off L) ∧ L.length = len ∧ len ≤ 1000000000 ∧ ∀ x ∈ L, 0 ≤ x ∧ x ≤ 255
theorem BytV.wf {kc n : Nat} {v : SV} {H : Heap} (h : BytV kc v H) (hw : hwf n H) : v.wf n ∧ kc < n := by
  rcases h with ⟨rfl, o, h⟩ | ⟨off, len, cap, L, rfl, h, _⟩
  · exact ⟨trivial, (hw _ _ h).1⟩
  · exact ⟨(hw _ _ h).1, (hw _ _ h).1⟩
theorem BytV.one {kc : Nat} {v : SV} {H : Heap} (h : BytV kc v H) : oneCellS v = true := by
  rcases h with ⟨rfl, o, h⟩ | ⟨off, len, cap, L, rfl, h, _⟩ <;> rfl
theorem BytV.at {kc : Nat} {v : SV} {H H' : Heap} (h : BytV kc v H) (hf : ∀ o, hget H kc = some o → hget H' kc = some o) : BytV kc v H' := by
  rcases h with ⟨rfl, o, h⟩ | ⟨off, len, cap, L, rfl, h, h2⟩
  · exact .inl ⟨rfl, o, hf _ h⟩
  · exact .inr ⟨off, len, cap, L, rfl, hf _ h, h2⟩
/-- A cursor, its bytes, and the number of draws. -/
def CurH (c kc a : Nat) (H : Heap) : Prop := ∃ (v : SV) (s : Int), hget H c = some (.cells [v, .int a, .lit (.int .u64 s)] 80) ∧ BytV kc v H ∧ kc ≠ c
/-- What draws leave. -/
structure Drawn (c kc a k n : Nat) (H H' : Heap) (n' : Nat) : Prop where
  le : n ≤ n'
  wf : hwf n' H'
  cur : ∃ a', a ≤ a' ∧ a' ≤ a + k ∧ CurH c kc a' H'
  fr : ∀ i o, i < n → i ≠ c → hget H i = some o → hget H' i = some o
theorem u8_in {x : Int} (h : 0 ≤ x ∧ x ≤ 255) : In64 x := by unfold In64; omega
theorem and_255 (x : Int) : 0 ≤ IntKind.u64.wrap ((BitVec.ofInt IntKind.u64.bits x &&& BitVec.ofInt IntKind.u64.bits 255).toNat : Int) ∧ IntKind.u64.wrap ((BitVec.ofInt IntKind.u64.bits x &&& BitVec.ofInt IntKind.u64.bits 255).toNat : Int) ≤ 255 := by
  have h : (BitVec.ofInt IntKind.u64.bits x &&& BitVec.ofInt IntKind.u64.bits 255).toNat ≤ 255 := by
    rw [BitVec.toNat_and]
    exact Nat.le_trans Nat.and_le_right (by decide)
  generalize (BitVec.ofInt IntKind.u64.bits x &&& BitVec.ofInt IntKind.u64.bits 255).toNat = y at h ⊢
  have e : IntKind.u64.wrap (y : Int) = y := by
    unfold IntKind.wrap
    have h2 : ((y : Int) % (2 ^ IntKind.u64.bits : Int)) = y := Int.emod_eq_of_lt (by omega) (by show (y : Int) < 18446744073709551616; omega)
    simp only [h2]
    rfl
  rw [e]; omega
def next_F : List SV → Heap → Nat → Nat → K1 → Prop
  | [.ptr c 0], H, n, m, κ => ∃ kc a, CurH c kc a H ∧ m ≤ c ∧ a ≤ 1000000 ∧ ∀ x H', 0 ≤ x → x ≤ 255 → Drawn c kc a 1 n H H' n → κ (.int x) H' n
  | _, _, _, _, _ => False
theorem next_vc (c kc a m n : Nat) (H : Heap) (hC : CurH c kc a H) (hm : m ≤ c) (ha : a ≤ 1000000) (hwH : hwf n H) :
    codeVC (⟨Try.prog, tys, [], [], true, true, m, [], []⟩ : Cx) n (Try.f107.body.getD .skip) (argS 0 [.ptr c 0]) H n
      (retK tys Try.f107.results.toList fun v H' n' => ∃ x : Int, v = .int x ∧ 0 ≤ x ∧ x ≤ 255 ∧ Drawn c kc a 1 n H H' n ∧ n' = n) := by
  obtain ⟨v, s, h1, h2, h6⟩ := hC
  have hc := (hwH _ _ h1).1
  obtain ⟨hvw, hk⟩ := h2.wf hwH
  have fin : ∀ s', Drawn c kc a 1 n H ((c, .cells [v, .int ((a : Int) + 1), .lit (.int .u64 s')] 80) :: (c, .cells [v, .int ((a : Int) + 1), .lit (.int .u64 s)] 80) :: H) n := fun s' =>
    ⟨Nat.le_refl _, hwf_cons (hwf_cons hwH hc (by simp [SObj.wf, wfL, SV.wf]; exact hvw)) hc (by simp [SObj.wf, wfL, SV.wf]; exact hvw),
      ⟨a + 1, by omega, by omega, v, s', by simp [hget_cons], h2.at (fun o ho => by rw [hget_cons, if_neg h6, hget_cons, if_neg h6]; exact ho), h6⟩,
      fun i o _ hi ho => by rw [hget_cons, if_neg hi, hget_cons, if_neg hi]; exact ho⟩
  rcases h2 with ⟨rfl, o, h2⟩ | ⟨off, len, cap, L, rfl, h2, h3, h4, h5⟩
  · have hil : ¬ (a : Int) < 0 := by omega
    have hil2 : ¬ (a : Int) + 1 ≤ 0 := by omega
    simp -implicitDefEqProofs only [Try.f107, Option.getD_some, argS, h1, hil, hil2, ZB, Int.reduceToNat, Nat.reduceLT, Nat.reduceLeDiff, Int.reduceLE, Int.reduceLT, Nat.reduceEqDiff, Nat.reduceSub, SB, SV.known, packR, ne_eq, reduceCtorEq, Nat.reduceEqDiff, ↓reduceIte, if_true, if_false, eq_self, Nat.reduceAdd, Nat.reduceMul, Nat.reduceSub, forall_const, oneCellS, litOne, flat1, Kd.isSca, flat, TYB]
    exact ⟨by unfold In64; omega, hm, hm, u8_in (and_255 _), _, rfl, (and_255 _).1, (and_255 _).2, fin _⟩
  by_cases hal : a < len
  · have hil : (a : Int) < len := by omega
    have hil2 : (a : Int) + 1 ≤ len := by omega
    have gL : off ≤ off + a ∧ off + a < off + L.length := by omega
    have ga : off + a - off = a := by omega
    have bL : 0 ≤ L.getD a 0 ∧ L.getD a 0 ≤ 255 := by
      rw [List.getD_eq_getElem?_getD, List.getElem?_eq_getElem (by omega)]
      exact h5 _ (List.getElem_mem _)
    have iL := u8_in bL
    simp -implicitDefEqProofs only [Try.f107, Option.getD_some, argS, h1, h2, hil, hil2, gL, ga, iL, ZB, Int.reduceToNat, Nat.reduceLT, Nat.reduceLeDiff, Int.reduceLE, Int.reduceLT, Nat.reduceEqDiff, Nat.reduceSub, SB, SV.known, packR, ne_eq, reduceCtorEq, Nat.reduceEqDiff, ↓reduceIte, if_true, if_false, eq_self, Nat.reduceAdd, Nat.reduceMul, Nat.reduceSub, forall_const, oneCellS, litOne, flat1, Kd.isSca, flat, TYB]
    exact ⟨by omega, by unfold In64; omega, hm, hm, _, rfl, bL.1, bL.2, fin _⟩
  · have hil : ¬ (a : Int) < len := by omega
    have hil2 : ¬ (a : Int) + 1 ≤ len := by omega
    simp -implicitDefEqProofs only [Try.f107, Option.getD_some, argS, h1, h2, hil, hil2, ZB, Int.reduceToNat, Nat.reduceLT, Nat.reduceLeDiff, Int.reduceLE, Int.reduceLT, Nat.reduceEqDiff, Nat.reduceSub, SB, SV.known, packR, ne_eq, reduceCtorEq, Nat.reduceEqDiff, ↓reduceIte, if_true, if_false, eq_self, Nat.reduceAdd, Nat.reduceMul, Nat.reduceSub, forall_const, oneCellS, litOne, flat1, Kd.isSca, flat, TYB]
    exact ⟨by unfold In64; omega, hm, hm, u8_in (and_255 _), _, rfl, (and_255 _).1, (and_255 _).2, fin _⟩
theorem fnx_next : FnOK Try.prog 107 Try.f107 (Try.f107.body.getD .skip) [] [] := ⟨Try.func107, rfl, by kernel_rfl, by kernel_rfl⟩
theorem next_T : ∀ args H n m κ, next_F args H n m κ → GenOK Try.prog 107 args H n m κ := by
  intro args H n m κ h
  unfold next_F at h
  split at h
  · rename_i c
    obtain ⟨kc, a, hC, hm, ha, h1⟩ := h
    exact gen_direct (X := ⟨Try.prog, tys, [], [], true, true, m, [], []⟩) fnx_next ⟨tys_ok, .nil, .nil, mixed⟩ rfl (Nat.le_of_ble_eq_true rfl) (fun hwH hwa => next_vc c kc a m n H hC hm ha hwH) fun hwH v H' n' hψ h3 h4 h5 => by
      obtain ⟨x, rfl, g1, g2, g3, rfl⟩ := hψ
      exact h1 x H' g1 g2 g3
  · exact h.elim
theorem Drawn.trans {c kc a k a' k' n n1 n2 : Nat} {H H1 H2 : Heap} (h1 : Drawn c kc a k n H H1 n1) (h2 : Drawn c kc a' k' n1 H1 H2 n2) (h : a' ≤ a + k) (h' : a ≤ a') : Drawn c kc a (k + k') n H H2 n2 :=
  ⟨Nat.le_trans h1.le h2.le, h2.wf, by
    obtain ⟨b, g1, g2, g3⟩ := h2.cur
    exact ⟨b, by omega, by omega, g3⟩, fun i o hi hc ho => h2.fr i o (Nat.lt_of_lt_of_le hi h1.le) hc (h1.fr i o hi hc ho)⟩
theorem Drawn.more {c kc a k k' n n1 : Nat} {H H1 : Heap} (h1 : Drawn c kc a k n H H1 n1) (h : k ≤ k') : Drawn c kc a k' n H H1 n1 :=
  ⟨h1.le, h1.wf, by
    obtain ⟨b, g1, g2, g3⟩ := h1.cur
    exact ⟨b, g1, by omega, g3⟩, h1.fr⟩
/-- A number below another one. -/
def pick_F : List SV → Heap → Nat → Nat → K1 → Prop
  | [.ptr c 0, .int k], H, n, m, κ => ∃ kc a, CurH c kc a H ∧ m ≤ c ∧ a ≤ 999990 ∧ ∀ (x : Int) H', 0 ≤ x → (x < k ∨ x = 0) → Drawn c kc a 2 n H H' n → κ (.int x) H' n
  | _, _, _, _, _ => False
theorem pick_vc (c kc a m n : Nat) (k : Int) (H : Heap) (hC : CurH c kc a H) (hm : m ≤ c) (ha : a ≤ 999990) (hwH : hwf n H) :
    codeVC (⟨Try.prog, tys, [], [(107, next_F)], true, true, m, [107], []⟩ : Cx) n (Try.f61.body.getD .skip) (argS 0 [.ptr c 0, .int k]) H n
      (retK tys Try.f61.results.toList fun v H' n' => ∃ x : Int, v = .int x ∧ 0 ≤ x ∧ (x < k ∨ x = 0) ∧ Drawn c kc a 2 n H H' n ∧ n' = n) := by
  have d0 : Drawn c kc a 2 n H H n := ⟨Nat.le_refl _, hwH, ⟨a, Nat.le_refl _, by omega, hC⟩, fun i o _ _ h => h⟩
  by_cases hk : k ≤ 1
  · simp -implicitDefEqProofs only [Try.f61, Option.getD_some, argS, hk, ZB, Int.reduceToNat, Nat.reduceLT, Nat.reduceLeDiff, Int.reduceLE, Int.reduceLT, Nat.reduceEqDiff, Nat.reduceSub, SB, SV.known, packR, ne_eq, reduceCtorEq, Nat.reduceEqDiff, ↓reduceIte, if_true, if_false, eq_self, Nat.reduceAdd, Nat.reduceMul, Nat.reduceSub, forall_const, oneCellS, litOne, flat1, Kd.isSca, flat, TYB]
    exact ⟨0, rfl, Int.le_refl _, .inr rfl, d0⟩
  · simp -implicitDefEqProofs only [Try.f61, Option.getD_some, argS, next_F, hk, ZB, Int.reduceToNat, Nat.reduceLT, Nat.reduceLeDiff, Int.reduceLE, Int.reduceLT, Nat.reduceEqDiff, Nat.reduceSub, SB, SV.known, packR, ne_eq, reduceCtorEq, Nat.reduceEqDiff, ↓reduceIte, if_true, if_false, eq_self, Nat.reduceAdd, Nat.reduceMul, Nat.reduceSub, forall_const, oneCellS, litOne, flat1, Kd.isSca, flat, TYB]
    refine ⟨kc, a, hC, hm, by omega, fun x H1 hx0 hx1 hd1 => ?_⟩
    obtain ⟨a1, ha1, ha1', hC1⟩ := hd1.cur
    by_cases hk2 : 200 < k
    · simp -implicitDefEqProofs only [next_F, hk2, ZB, Int.reduceToNat, Nat.reduceLT, Nat.reduceLeDiff, Int.reduceLE, Int.reduceLT, Nat.reduceEqDiff, Nat.reduceSub, SB, SV.known, packR, ne_eq, reduceCtorEq, Nat.reduceEqDiff, ↓reduceIte, if_true, if_false, eq_self, Nat.reduceAdd, Nat.reduceMul, Nat.reduceSub, forall_const, oneCellS, litOne, flat1, Kd.isSca, flat, TYB]
      refine ⟨⟨by unfold In64; omega, kc, a1, hC1, hm, by omega, fun y H2 hy0 hy1 hd2 => ?_⟩, fun h => absurd trivial h⟩
      have hr := Int.tmod_lt_of_pos (x * 256 + y) (show 0 < k by omega)
      have hr0 := Int.tmod_nonneg k (show 0 ≤ x * 256 + y by omega)
      exact ⟨by unfold In64; omega, by omega, _, rfl, hr0, .inl hr, hd1.trans hd2 ha1' ha1⟩
    · simp -implicitDefEqProofs only [next_F, hk2, ZB, Int.reduceToNat, Nat.reduceLT, Nat.reduceLeDiff, Int.reduceLE, Int.reduceLT, Nat.reduceEqDiff, Nat.reduceSub, SB, SV.known, packR, ne_eq, reduceCtorEq, Nat.reduceEqDiff, ↓reduceIte, if_true, if_false, eq_self, Nat.reduceAdd, Nat.reduceMul, Nat.reduceSub, forall_const, oneCellS, litOne, flat1, Kd.isSca, flat, TYB]
      exact ⟨by omega, _, rfl, Int.tmod_nonneg k hx0, .inl (Int.tmod_lt_of_pos x (show 0 < k by omega)), hd1.more (by omega)⟩
theorem fnx_pick : FnOK Try.prog 61 Try.f61 (Try.f61.body.getD .skip) [107] [] := ⟨Try.func61, rfl, by kernel_rfl, by kernel_rfl⟩
theorem pick_T : ∀ args H n m κ, pick_F args H n m κ → GenOK Try.prog 61 args H n m κ := by
  intro args H n m κ h
  unfold pick_F at h
  split at h
  · rename_i c k
    obtain ⟨kc, a, hC, hm, ha, h1⟩ := h
    exact gen_direct (X := ⟨Try.prog, tys, [], [(107, next_F)], true, true, m, [107], []⟩) fnx_pick ⟨tys_ok, .nil, .cons next_T .nil, mixed⟩ rfl (Nat.le_of_ble_eq_true rfl) (fun hwH hwa => pick_vc c kc a m n k H hC hm ha hwH) fun hwH v H' n' hψ h3 h4 h5 => by
      obtain ⟨x, rfl, g1, g2, g3, rfl⟩ := hψ
      exact h1 x H' g1 g2 g3
  · exact h.elim
def one_F : List SV → Heap → Nat → Nat → K1 → Prop
  | [.ptr c 0, .int _], H, n, m, κ => ∃ kc a, CurH c kc a H ∧ m ≤ c ∧ a ≤ 999990 ∧ ∀ (b : Bool) H', Drawn c kc a 2 n H H' n → κ (.bool b) H' n
  | _, _, _, _, _ => False
theorem one_vc (c kc a m n : Nat) (k : Int) (H : Heap) (hC : CurH c kc a H) (hm : m ≤ c) (ha : a ≤ 999990) (hwH : hwf n H) :
    codeVC (⟨Try.prog, tys, [], [(61, pick_F)], true, true, m, [61], []⟩ : Cx) n (Try.f60.body.getD .skip) (argS 0 [.ptr c 0, .int k]) H n
      (retK tys Try.f60.results.toList fun v H' n' => ∃ b : Bool, v = .bool b ∧ Drawn c kc a 2 n H H' n ∧ n' = n) := by
  simp -implicitDefEqProofs only [Try.f60, Option.getD_some, argS, pick_F, ZB, Int.reduceToNat, Nat.reduceLT, Nat.reduceLeDiff, Int.reduceLE, Int.reduceLT, Nat.reduceEqDiff, Nat.reduceSub, SB, SV.known, packR, ne_eq, reduceCtorEq, Nat.reduceEqDiff, ↓reduceIte, if_true, if_false, eq_self, Nat.reduceAdd, Nat.reduceMul, Nat.reduceSub, forall_const, oneCellS, litOne, flat1, Kd.isSca, flat, TYB]
  exact ⟨kc, a, hC, hm, ha, fun x H1 _ _ hd1 => ⟨_, rfl, hd1⟩⟩
theorem fnx_one : FnOK Try.prog 60 Try.f60 (Try.f60.body.getD .skip) [61] [] := ⟨Try.func60, rfl, by kernel_rfl, by kernel_rfl⟩
theorem one_T : ∀ args H n m κ, one_F args H n m κ → GenOK Try.prog 60 args H n m κ := by
  intro args H n m κ h
  unfold one_F at h
  split at h
  · rename_i c k
    obtain ⟨kc, a, hC, hm, ha, h1⟩ := h
    exact gen_direct (X := ⟨Try.prog, tys, [], [(61, pick_F)], true, true, m, [61], []⟩) fnx_one ⟨tys_ok, .nil, .cons pick_T .nil, mixed⟩ rfl (Nat.le_of_ble_eq_true rfl) (fun hwH hwa => one_vc c kc a m n k H hC hm ha hwH) fun hwH v H' n' hψ h3 h4 h5 => by
      obtain ⟨b, rfl, g3, rfl⟩ := hψ
      exact h1 b H' g3
  · exact h.elim
/-- One of some numbers. -/
def among_F : List SV → Heap → Nat → Nat → K1 → Prop
  | [.ptr c 0, .slice b 0 len _], H, n, m, κ => match hget H b with
    | some (.ints L _) => 0 < len ∧ len ≤ L.length ∧ len ≤ 1000 ∧ b < n ∧ b ≠ c ∧ ∃ kc a, CurH c kc a H ∧ m ≤ c ∧ a ≤ 999990 ∧ ∀ (i : Nat) H', i < len → Drawn c kc a 2 n H H' n → κ (.int (L.getD i 0)) H' n
    | _ => False
  | _, _, _, _, _ => False
theorem among_vc (c kc a m n b len cap e : Nat) (L : List Int) (H : Heap) (hb : hget H b = some (.ints L e)) (hl : 0 < len ∧ len ≤ L.length) (hl2 : len ≤ 1000) (hbn : b < n) (hbc : b ≠ c) (hC : CurH c kc a H) (hm : m ≤ c) (ha : a ≤ 999990) (hwH : hwf n H) :
    codeVC (⟨Try.prog, tys, [], [(61, pick_F)], true, true, m, [61], []⟩ : Cx) n (Try.f62.body.getD .skip) (argS 0 [.ptr c 0, .slice b 0 len cap]) H n
      (retK tys Try.f62.results.toList fun v H' n' => ∃ i : Nat, v = .int (L.getD i 0) ∧ i < len ∧ Drawn c kc a 2 n H H' n ∧ n' = n) := by
  simp -implicitDefEqProofs only [Try.f62, Option.getD_some, argS, pick_F, hb, ZB, Int.reduceToNat, Nat.reduceLT, Nat.reduceLeDiff, Int.reduceLE, Int.reduceLT, Nat.reduceEqDiff, Nat.reduceSub, SB, SV.known, packR, ne_eq, reduceCtorEq, Nat.reduceEqDiff, ↓reduceIte, if_true, if_false, eq_self, Nat.reduceAdd, Nat.reduceMul, Nat.reduceSub, forall_const, oneCellS, litOne, flat1, Kd.isSca, flat, TYB]
  refine ⟨kc, a, hC, hm, ha, fun x H1 hx0 hx1 hd1 => ?_⟩
  obtain ⟨i, rfl⟩ : ∃ i : Nat, x = i := ⟨x.toNat, by omega⟩
  have hi : i < len := by omega
  have hil : (i : Int) < len := by omega
  have hb1 := hd1.fr b _ hbn hbc hb
  simp -implicitDefEqProofs only [hb1, hil, ZB, Int.reduceToNat, Nat.reduceLT, Nat.reduceLeDiff, Int.reduceLE, Int.reduceLT, Nat.reduceEqDiff, Nat.reduceSub, SB, SV.known, packR, ne_eq, reduceCtorEq, Nat.reduceEqDiff, ↓reduceIte, if_true, if_false, eq_self, Nat.reduceAdd, Nat.reduceMul, Nat.reduceSub, forall_const, oneCellS, litOne, flat1, Kd.isSca, flat, TYB]
  exact ⟨by omega, by omega, i, rfl, hi, hd1⟩
theorem fnx_among : FnOK Try.prog 62 Try.f62 (Try.f62.body.getD .skip) [61] [] := ⟨Try.func62, rfl, by kernel_rfl, by kernel_rfl⟩
theorem among_T : ∀ args H n m κ, among_F args H n m κ → GenOK Try.prog 62 args H n m κ := by
  intro args H n m κ h
  unfold among_F at h
  split at h
  · rename_i c b len cap
    split at h
    · rename_i L e hb
      obtain ⟨g1, g2, g3, g4, g5, kc, a, hC, hm, ha, h1⟩ := h
      exact gen_direct (X := ⟨Try.prog, tys, [], [(61, pick_F)], true, true, m, [61], []⟩) fnx_among ⟨tys_ok, .nil, .cons pick_T .nil, mixed⟩ rfl (Nat.le_of_ble_eq_true rfl) (fun hwH hwa => among_vc c kc a m n b len cap e L H hb ⟨g1, g2⟩ g3 g4 g5 hC hm ha hwH) fun hwH v H' n' hψ h3 h4 h5 => by
        obtain ⟨i, rfl, hi, g6, rfl⟩ := hψ
        exact h1 i H' hi g6
    · exact h.elim
  · exact h.elim
theorem CurH.lt {c kc a n : Nat} {H : Heap} (h : CurH c kc a H) (hw : hwf n H) : c < n ∧ kc < n ∧ kc ≠ c := by
  obtain ⟨v, s, h1, h2, h6⟩ := h
  exact ⟨(hw _ _ h1).1, (h2.wf hw).2, h6⟩
theorem CurH.cons {c kc a k : Nat} {H : Heap} (h : CurH c kc a H) (o : SObj) (h1 : k ≠ c) (h2 : k ≠ kc) : CurH c kc a ((k, o) :: H) := by
  obtain ⟨v, s, g1, g2, g6⟩ := h
  exact ⟨v, s, by rw [hget_cons, if_neg (fun e => h1 e.symm)]; exact g1, g2.at (fun o ho => by rw [hget_cons, if_neg (fun e => h2 e.symm)]; exact ho), g6⟩
/-- A block put beside. -/
theorem Drawn.put {c kc a k n0 n n' k0 : Nat} {H0 H : Heap} (h : Drawn c kc a k n0 H0 H n) (hc : c < n0 ∧ kc < n0 ∧ kc ≠ c) (o : SObj) (h0 : n0 ≤ k0) (hk : k0 < n') (hn : n ≤ n') (ho : o.wf n') : Drawn c kc a k n0 H0 ((k0, o) :: H) n' := by
  obtain ⟨b, g1, g2, g3⟩ := h.cur
  exact ⟨Nat.le_trans h.le hn, hwf_cons (hwf_mono hn h.wf) hk ho, ⟨b, g1, g2, g3.cons o (by omega) (by omega)⟩, fun i o' hi hic ho' => by
    rw [hget_cons, if_neg (by omega)]
    exact h.fr i o' hi hic ho'⟩
theorem Drawn.start {c kc a n : Nat} {H : Heap} (h : CurH c kc a H) (hw : hwf n H) : Drawn c kc a 0 n H H n := ⟨Nat.le_refl _, hw, ⟨a, Nat.le_refl _, Nat.le_refl _, h⟩, fun _ _ _ _ h => h⟩
/-- One of a few numbers, drawn from a list just made. -/
theorem among_new {c kc a k n0 n m : Nat} {H0 H : Heap} {κ : K1} (h : Drawn c kc a k n0 H0 H n) (hC : CurH c kc a H0) (hw0 : hwf n0 H0) (hm : m ≤ c) (ha : a + k ≤ 999980) (L : List Int) (e len cap : Nat) (hl : 0 < len ∧ len ≤ L.length) (hl2 : len ≤ 1000)
    (hκ : ∀ (i : Nat) H', i < len → Drawn c kc a (k + 2) n0 H0 H' (n + 1) → κ (.int (L.getD i 0)) H' (n + 1)) : among_F [.ptr c 0, .slice n 0 len cap] ((n, .ints L e) :: H) (n + 1) m κ := by
  obtain ⟨q1, q2, q3⟩ := hC.lt hw0
  have h2 := h.put (hC.lt hw0) (k0 := n) (n' := n + 1) (.ints L e) h.le (by omega) (by omega) trivial
  obtain ⟨b, g1, g2, g3⟩ := h2.cur
  have hle := h.le
  simp only [among_F, hget_cons, if_true]
  exact ⟨hl.1, hl.2, hl2, by omega, by omega, kc, b, g3, hm, by omega, fun i H' hi hd => hκ i H' hi (h2.trans hd g2 g1)⟩
def place_F : List SV → Heap → Nat → Nat → K1 → Prop
  | [.ptr c 0], H, n, m, κ => ∃ kc a, CurH c kc a H ∧ m ≤ c ∧ a ≤ 999900 ∧ ∀ (x : Int) H' n', In64 x → Drawn c kc a 4 n H H' n' → κ (.int x) H' n'
  | _, _, _, _, _ => False
theorem place_vc (c kc a m n : Nat) (H : Heap) (hC : CurH c kc a H) (hm : m ≤ c) (ha : a ≤ 999900) (hwH : hwf n H) :
    codeVC (⟨Try.prog, tys, [], [(61, pick_F), (60, one_F), (62, among_F)], true, true, m, [61, 60, 62], []⟩ : Cx) n (Try.f69.body.getD .skip) (argS 0 [.ptr c 0]) H n
      (retK tys Try.f69.results.toList fun v H' n' => ∃ x : Int, v = .int x ∧ In64 x ∧ Drawn c kc a 4 n H H' n') := by
  simp -implicitDefEqProofs only [Try.f69, Option.getD_some, argS, one_F, ZB, Int.reduceToNat, Nat.reduceLT, Nat.reduceLeDiff, Int.reduceLE, Int.reduceLT, Nat.reduceEqDiff, Nat.reduceSub, SB, SV.known, packR, ne_eq, reduceCtorEq, Nat.reduceEqDiff, ↓reduceIte, if_true, if_false, eq_self, Nat.reduceAdd, Nat.reduceMul, Nat.reduceSub, forall_const, oneCellS, litOne, flat1, Kd.isSca, flat, TYB]
  refine ⟨kc, a, hC, hm, by omega, fun b H1 hd1 => ?_⟩
  obtain ⟨a1, ha1, ha1', hC1⟩ := hd1.cur
  cases b
  · simp -implicitDefEqProofs only [pick_F, ZB, Int.reduceToNat, Nat.reduceLT, Nat.reduceLeDiff, Int.reduceLE, Int.reduceLT, Nat.reduceEqDiff, Nat.reduceSub, SB, SV.known, packR, ne_eq, reduceCtorEq, Nat.reduceEqDiff, ↓reduceIte, if_true, if_false, eq_self, Nat.reduceAdd, Nat.reduceMul, Nat.reduceSub, forall_const, oneCellS, litOne, flat1, Kd.isSca, flat, TYB]
    exact ⟨kc, a1, hC1, hm, by omega, fun x H2 hx0 hx1 hd2 => ⟨x, rfl, by unfold In64; omega, hd1.trans hd2 ha1' ha1⟩⟩
  · simp -implicitDefEqProofs only [ZB, Int.reduceToNat, Nat.reduceLT, Nat.reduceLeDiff, Int.reduceLE, Int.reduceLT, Nat.reduceEqDiff, Nat.reduceSub, SB, SV.known, packR, ne_eq, reduceCtorEq, Nat.reduceEqDiff, ↓reduceIte, if_true, if_false, eq_self, Nat.reduceAdd, Nat.reduceMul, Nat.reduceSub, forall_const, oneCellS, litOne, flat1, Kd.isSca, flat, TYB]
    refine among_new hd1 hC hwH hm (by omega) _ _ _ _ (by simp) (by omega) fun i H' hi hd => ?_
    have hI : In64 (([-1, 6, 4611686018427387904] : List Int).getD i 0) := by
      match i, hi with
      | 0, _ => simp [In64]
      | 1, _ => simp [In64]
      | 2, _ => simp [In64]
    simp -implicitDefEqProofs only [ZB, Int.reduceToNat, Nat.reduceLT, Nat.reduceLeDiff, Int.reduceLE, Int.reduceLT, Nat.reduceEqDiff, Nat.reduceSub, SB, SV.known, packR, ne_eq, reduceCtorEq, Nat.reduceEqDiff, ↓reduceIte, if_true, if_false, eq_self, Nat.reduceAdd, Nat.reduceMul, Nat.reduceSub, forall_const, oneCellS, litOne, flat1, Kd.isSca, flat, TYB]
    exact ⟨_, rfl, hI, hd⟩
theorem fnx_place : FnOK Try.prog 69 Try.f69 (Try.f69.body.getD .skip) [61, 60, 62] [] := ⟨Try.func69, rfl, by kernel_rfl, by kernel_rfl⟩
theorem place_T : ∀ args H n m κ, place_F args H n m κ → GenOK Try.prog 69 args H n m κ := by
  intro args H n m κ h
  unfold place_F at h
  split at h
  · rename_i c
    obtain ⟨kc, a, hC, hm, ha, h1⟩ := h
    exact gen_direct (X := ⟨Try.prog, tys, [], [(61, pick_F), (60, one_F), (62, among_F)], true, true, m, [61, 60, 62], []⟩) fnx_place ⟨tys_ok, .nil, .cons pick_T (.cons one_T (.cons among_T .nil)), mixed⟩ rfl (Nat.le_of_ble_eq_true rfl) (fun hwH hwa => place_vc c kc a m n H hC hm ha hwH) fun hwH v H' n' hψ h3 h4 h5 => by
      obtain ⟨x, rfl, hI, g3⟩ := hψ
      exact h1 x H' n' hI g3
  · exact h.elim
theorem Drawn.push {c kc a k n0 n : Nat} {H0 H : Heap} (h : Drawn c kc a k n0 H0 H n) (hc : c < n0 ∧ kc < n0 ∧ kc ≠ c) (o : SObj) (ho : o.wf (n + 1)) : Drawn c kc a k n0 H0 ((n, o) :: H) (n + 1) := h.put hc o h.le (by omega) (by omega) ho
theorem Drawn.pushI {c kc a k n0 n : Nat} {H0 H : Heap} (h : Drawn c kc a k n0 H0 H n) (hc : c < n0 ∧ kc < n0 ∧ kc ≠ c) {L : List Int} {e : Nat} : Drawn c kc a k n0 H0 ((n, .ints L e) :: H) (n + 1) := h.push hc _ trivial
theorem Drawn.putI {c kc a k n0 n k0 : Nat} {H0 H : Heap} (h : Drawn c kc a k n0 H0 H n) (hc : c < n0 ∧ kc < n0 ∧ kc ≠ c) {L : List Int} {e : Nat} (h0 : n0 ≤ k0) (hk : k0 < n) : Drawn c kc a k n0 H0 ((k0, .ints L e) :: H) n := h.put hc _ h0 hk (Nat.le_refl _) trivial
/-- What is kept of one's own blocks. -/
def Fr (n0 n : Nat) (H H' : Heap) : Prop := ∀ j o, n0 ≤ j → j < n → hget H j = some o → hget H' j = some o
theorem Fr.use {n0 n j : Nat} {H H' : Heap} {o : SObj} (h : Fr n0 n H H') (h1 : n0 ≤ j) (h2 : j < n) (h3 : hget H j = some o) : hget H' j = some o := h j o h1 h2 h3
theorem Drawn.own {c kc a k n0 n n' : Nat} {H H' : Heap} (h : Drawn c kc a k n H H' n') (hc : c < n0) : Fr n0 n H H' := fun j o h1 h2 h3 => h.fr j o h2 (by omega) h3
theorem among_use {c kc a k n0 n m b len cap e : Nat} {H0 H : Heap} {κ : K1} {L : List Int} (h : Drawn c kc a k n0 H0 H n) (hc : c < n0 ∧ kc < n0 ∧ kc ≠ c) (hm : m ≤ c) (ha : a + k ≤ 999980) (hb : hget H b = some (.ints L e)) (h0 : n0 ≤ b) (hl : 0 < len ∧ len ≤ L.length ∧ len ≤ 1000)
    (hκ : ∀ (x : Int) H', x ∈ L → Drawn c kc a (k + 2) n0 H0 H' n → Fr n0 n H H' → κ (.int x) H' n) : among_F [.ptr c 0, .slice b 0 len cap] H n m κ := by
  obtain ⟨b', g1, g2, g3⟩ := h.cur
  have hbn := (h.wf _ _ hb).1
  simp only [among_F, hb]
  refine ⟨hl.1, hl.2.1, hl.2.2, hbn, by omega, kc, b', g3, hm, by omega, fun i H' hi hd => hκ _ H' ?_ (h.trans hd g2 g1) (hd.own hc.1)⟩
  rw [List.getD_eq_getElem?_getD, List.getElem?_eq_getElem (by omega)]
  exact List.getElem_mem _
theorem pick_use {c kc a k n0 n m : Nat} {H0 H : Heap} {κ : K1} (h : Drawn c kc a k n0 H0 H n) (hc : c < n0 ∧ kc < n0 ∧ kc ≠ c) (hm : m ≤ c) (ha : a + k ≤ 999980) {z : Int}
    (hκ : ∀ (x : Int) H', 0 ≤ x → (x < z ∨ x = 0) → Drawn c kc a (k + 2) n0 H0 H' n → Fr n0 n H H' → κ (.int x) H' n) : pick_F [.ptr c 0, .int z] H n m κ := by
  obtain ⟨b', g1, g2, g3⟩ := h.cur
  exact ⟨kc, b', g3, hm, by omega, fun x H' h1 h2 hd => hκ x H' h1 h2 (h.trans hd g2 g1) (hd.own hc.1)⟩
theorem one_use {c kc a k n0 n m : Nat} {H0 H : Heap} {κ : K1} (h : Drawn c kc a k n0 H0 H n) (hc : c < n0 ∧ kc < n0 ∧ kc ≠ c) (hm : m ≤ c) (ha : a + k ≤ 999980) {z : Int}
    (hκ : ∀ (x : Bool) H', Drawn c kc a (k + 2) n0 H0 H' n → Fr n0 n H H' → κ (.bool x) H' n) : one_F [.ptr c 0, .int z] H n m κ := by
  obtain ⟨b', g1, g2, g3⟩ := h.cur
  exact ⟨kc, b', g3, hm, by omega, fun x H' hd => hκ x H' (h.trans hd g2 g1) (hd.own hc.1)⟩
theorem place_use {c kc a k n0 n m : Nat} {H0 H : Heap} {κ : K1} (h : Drawn c kc a k n0 H0 H n) (hc : c < n0 ∧ kc < n0 ∧ kc ≠ c) (hm : m ≤ c) (ha : a + k ≤ 999900)
    (hκ : ∀ (x : Int) H' n', In64 x → Drawn c kc a (k + 4) n0 H0 H' n' → n ≤ n' → Fr n0 n H H' → κ (.int x) H' n') : place_F [.ptr c 0] H n m κ := by
  obtain ⟨b', g1, g2, g3⟩ := h.cur
  exact ⟨kc, b', g3, hm, by omega, fun x H' n' hI hd => hκ x H' n' hI (h.trans hd g2 g1) hd.le (hd.own hc.1)⟩
end Go.Proofs.Ytckcojgfgcjamaa
set_option maxRecDepth 100000
set_option linter.unusedSimpArgs false
set_option linter.unusedVariables false
namespace Go.Proofs.Ytckcojgfgcjamaa
open Go Go.RowKit
theorem fnx_rack : FnOK Try.prog 100 Try.f100 (Try.f100.body.getD .skip) [61, 60, 62] [(21, .tree (.one 0 (.one 1 (.one 2 (.one 3 (.one 4 (.one 5 (.one 6 (.alt 7 (.alt 8 (.one 9 (.one 10 (.one 11 .done))) (.alt 9 (.one 8 (.one 10 (.one 11 .done))) .stop)) (.alt 8 (.alt 7 (.one 9 (.one 10 (.one 11 .done))) (.alt 9 (.alt 7 (.one 10 (.one 11 .done)) (.alt 10 (.one 7 (.one 11 .done)) .stop)) .stop)) (.alt 9 (.alt 7 (.one 8 (.one 10 (.one 11 .done))) (.alt 8 (.alt 7 (.one 10 (.one 11 .done)) (.alt 10 (.one 7 (.one 11 .done)) .stop)) .stop)) .stop))))))))))), (26, .tree (.one 0 (.one 2 (.one 4 (.one 7 (.alt 1 (.one 8 (.alt 3 (.one 5 (.one 6 (.one 9 (.one 10 .done)))) (.alt 5 (.one 3 (.one 6 (.one 9 (.one 10 .done)))) .stop))) (.alt 5 (.one 1 (.one 3 (.one 6 (.one 8 (.one 9 (.one 10 .done)))))) .stop)))))))] := ⟨Try.func100, rfl, by kernel_rfl, by kernel_rfl⟩
/-- A rack that is being drawn. -/
structure RkS (c kc a n : Nat) (H : Heap) (b : Nat) (R : List Int) (k : Nat) (H' : Heap) (n' : Nat) : Prop where
  d : Drawn c kc a k n H H' n'
  lt : n < b ∧ b < n'
  r : hget H' b = some (.ints R 27)
  l : R.length = 24
  i : ∀ x ∈ R, In64 x
  z : hget H' n = some (.ints (List.replicate 24 0) 27)
theorem RkS.set {c kc a n b k n' : Nat} {H H' : Heap} {R : List Int} (h : RkS c kc a n H b R k H' n') (hlt : c < n ∧ kc < n ∧ kc ≠ c) {R' : List Int} (hl : R'.length = 24) (hi : ∀ x ∈ R', In64 x) : RkS c kc a n H b R' k ((b, .ints R' 27) :: H') n' :=
  ⟨h.d.put hlt _ (Nat.le_of_lt h.lt.1) h.lt.2 (Nat.le_refl _) trivial, h.lt, by simp [hget_cons], hl, hi, by rw [hget_cons, if_neg (Nat.ne_of_lt h.lt.1)]; exact h.z⟩
theorem RkS.push {c kc a n b k n' : Nat} {H H' : Heap} {R : List Int} (h : RkS c kc a n H b R k H' n') (hlt : c < n ∧ kc < n ∧ kc ≠ c) (o : SObj) (ho : o.wf (n' + 1)) : RkS c kc a n H b R k ((n', o) :: H') (n' + 1) :=
  ⟨h.d.push hlt o ho, ⟨h.lt.1, Nat.lt_succ_of_lt h.lt.2⟩, by rw [hget_cons, if_neg (Nat.ne_of_lt h.lt.2)]; exact h.r, h.l, h.i, by rw [hget_cons, if_neg (Nat.ne_of_lt (Nat.lt_trans h.lt.1 h.lt.2))]; exact h.z⟩
theorem RkS.pushI {c kc a n b k n' : Nat} {H H' : Heap} {R : List Int} (h : RkS c kc a n H b R k H' n') (hlt : c < n ∧ kc < n ∧ kc ≠ c) {L : List Int} {e : Nat} : RkS c kc a n H b R k ((n', .ints L e) :: H') (n' + 1) := h.push hlt _ trivial
theorem RkS.draw {c kc a n b k n' k2 n2 : Nat} {H H' H2 : Heap} {R : List Int} (h : RkS c kc a n H b R k H' n') (hd : Drawn c kc a k2 n H H2 n2) (hf : Fr n n' H' H2) (hn : n' ≤ n2) : RkS c kc a n H b R k2 H2 n2 :=
  ⟨hd, ⟨h.lt.1, Nat.lt_of_lt_of_le h.lt.2 hn⟩, hf.use (Nat.le_of_lt h.lt.1) h.lt.2 h.r, h.l, h.i, hf.use (Nat.le_refl _) (Nat.lt_trans h.lt.1 h.lt.2) h.z⟩
theorem RkS.more {c kc a n b k k' n' : Nat} {H H' : Heap} {R : List Int} (h : RkS c kc a n H b R k H' n') (hk : k ≤ k') : RkS c kc a n H b R k' H' n' := ⟨h.d.more hk, h.lt, h.r, h.l, h.i, h.z⟩
theorem CurH.frame {c kc a n : Nat} {H H' : Heap} (h : CurH c kc a H) (hw : hwf n H) (hf : ∀ j o, j < n → hget H j = some o → hget H' j = some o) : CurH c kc a H' := by
  obtain ⟨q1, q2, _⟩ := h.lt hw
  obtain ⟨v, s, h1, h2, h6⟩ := h
  exact ⟨v, s, hf _ _ q1 h1, h2.at (fun o ho => hf _ _ q2 ho), h6⟩
theorem RkS.ext {c kc a n b k n' n2 : Nat} {H H' Hc : Heap} {R : List Int} (h : RkS c kc a n H b R k H' n') (hw : hwf n2 Hc) (hn : n' ≤ n2) (hf : ∀ j o, j < n' → hget H' j = some o → hget Hc j = some o) : RkS c kc a n H b R k Hc n2 :=
  ⟨⟨Nat.le_trans h.d.le hn, hw, by
    obtain ⟨b', g1, g2, g3⟩ := h.d.cur
    exact ⟨b', g1, g2, g3.frame h.d.wf hf⟩, fun i o hi hc ho => hf i o (Nat.lt_of_lt_of_le hi h.d.le) (h.d.fr i o hi hc ho)⟩,
   ⟨h.lt.1, Nat.lt_of_lt_of_le h.lt.2 hn⟩, hf _ _ h.lt.2 h.r, h.l, h.i, hf _ _ (Nat.lt_trans h.lt.1 h.lt.2) h.z⟩
theorem in64_set {R : List Int} (h : ∀ x ∈ R, In64 x) {i : Nat} {v : Int} (hv : In64 v) : ∀ x ∈ R.set i v, In64 x := fun x hx => by
  rcases List.mem_or_eq_of_mem_set hx with hx | hx
  · exact h x hx
  · exact hx ▸ hv
theorem in64_getD {R : List Int} (h : ∀ x ∈ R, In64 x) {i : Nat} (hi : i < R.length) : In64 (R.getD i 0) := by
  rw [List.getD_eq_getElem?_getD, List.getElem?_eq_getElem hi]
  exact h _ (List.getElem_mem _)
theorem rack_vc (c kc a m n : Nat) (H : Heap) (hC : CurH c kc a H) (hm : m ≤ c) (hmn : m ≤ n) (ha : a ≤ 990000) (hwH : hwf n H) :
    codeVC (⟨Try.prog, tys, [], [(61, pick_F), (60, one_F), (62, among_F)], true, true, m, [61, 60, 62], [(21, .tree (.one 0 (.one 1 (.one 2 (.one 3 (.one 4 (.one 5 (.one 6 (.alt 7 (.alt 8 (.one 9 (.one 10 (.one 11 .done))) (.alt 9 (.one 8 (.one 10 (.one 11 .done))) .stop)) (.alt 8 (.alt 7 (.one 9 (.one 10 (.one 11 .done))) (.alt 9 (.alt 7 (.one 10 (.one 11 .done)) (.alt 10 (.one 7 (.one 11 .done)) .stop)) .stop)) (.alt 9 (.alt 7 (.one 8 (.one 10 (.one 11 .done))) (.alt 8 (.alt 7 (.one 10 (.one 11 .done)) (.alt 10 (.one 7 (.one 11 .done)) .stop)) .stop)) .stop))))))))))), (26, .tree (.one 0 (.one 2 (.one 4 (.one 7 (.alt 1 (.one 8 (.alt 3 (.one 5 (.one 6 (.one 9 (.one 10 .done)))) (.alt 5 (.one 3 (.one 6 (.one 9 (.one 10 .done)))) .stop))) (.alt 5 (.one 1 (.one 3 (.one 6 (.one 8 (.one 9 (.one 10 .done)))))) .stop)))))))]⟩ : Cx) n (Try.f100.body.getD .skip) (argS 0 [.ptr c 0]) H n
      (retK tys Try.f100.results.toList fun v H' n' => ∃ R : List Int, v = .arr R ∧ R.length = 24 ∧ (∀ x ∈ R, In64 x) ∧ Drawn c kc a 1000 n H H' n') := by
  have hlt := hC.lt hwH
  have xne : ∀ i, (n + (i + 1) = n) = False := fun i => by simp
  simp -implicitDefEqProofs only [Try.f100, Option.getD_some, argS, Nat.add_assoc, add_self, self_add, add_add, ZB, Int.reduceToNat, Nat.reduceLT, Nat.reduceLeDiff, Int.reduceLE, Int.reduceLT, Nat.reduceEqDiff, Nat.reduceSub, SB, SV.known, packR, ne_eq, reduceCtorEq, Nat.reduceEqDiff, ↓reduceIte, if_true, if_false, eq_self, Nat.reduceAdd, Nat.reduceMul, Nat.reduceSub, forall_const, oneCellS, litOne, flat1, Kd.isSca, flat, TYB]
  have d0 : Drawn c kc a 0 n H ((n, .ints (List.replicate 24 0) 27) :: H) (n + 1) := (Drawn.start hC hwH).push hlt _ trivial
  refine among_use (d0.pushI hlt) hlt hm (by omega) (L := [2, 3, 2, 4, 5, 1]) (by simp [hget_cons]; rfl) (by omega) (by simp) fun col H1 hx1 hd1 hf1 => ?_
  have hc1 : 1 ≤ col ∧ col ≤ 5 := by simp at hx1; omega
  have hz1 := hf1.use (Nat.le_refl _) (by omega) (show hget _ n = some (.ints (List.replicate 24 0) 27) by simp [hget_cons])
  simp -implicitDefEqProofs only [Nat.add_assoc, add_self, self_add, add_add, ZB, Int.reduceToNat, Nat.reduceLT, Nat.reduceLeDiff, Int.reduceLE, Int.reduceLT, Nat.reduceEqDiff, Nat.reduceSub, SB, SV.known, packR, ne_eq, reduceCtorEq, Nat.reduceEqDiff, ↓reduceIte, if_true, if_false, eq_self, Nat.reduceAdd, Nat.reduceMul, Nat.reduceSub, forall_const, oneCellS, litOne, flat1, Kd.isSca, flat, TYB]
  refine among_use (hd1.pushI hlt) hlt hm (by omega) (L := [3, 4, 2, 5, 6]) (by simp [hget_cons]; rfl) (by omega) (by simp) fun tub H2 hx2 hd2 hf2 => ?_
  have ht1 : 2 ≤ tub ∧ tub ≤ 6 := by simp at hx2; omega
  have hz2 := hf2.use (Nat.le_refl _) (by omega) (show hget _ n = some (.ints (List.replicate 24 0) 27) by simp [hget_cons, hz1])
  have hS0 : RkS c kc a n H (n + 3) (List.replicate 24 0) 4 ((n + 3, .ints (List.replicate 24 0) 27) :: (n + 3, .ints (List.replicate 24 0) 27) :: H2) (n + 4) :=
    ⟨(hd2.pushI hlt).putI hlt (by omega) (by omega), by omega, by simp [hget_cons], by simp, fun x hx => by rw [List.eq_of_mem_replicate hx]; simp [In64], by simp [hget_cons]; exact hz2⟩
  clear hf1 hf2 hd1 hd2 hz1 hz2
  simp -implicitDefEqProofs only [Nat.add_assoc, add_self, self_add, add_add, ZB, Int.reduceToNat, Nat.reduceLT, Nat.reduceLeDiff, Int.reduceLE, Int.reduceLT, Nat.reduceEqDiff, Nat.reduceSub, SB, SV.known, packR, ne_eq, reduceCtorEq, Nat.reduceEqDiff, ↓reduceIte, if_true, if_false, eq_self, Nat.reduceAdd, Nat.reduceMul, Nat.reduceSub, forall_const, oneCellS, litOne, flat1, Kd.isSca, flat, TYB]
  refine ⟨by omega, ?_⟩
  refine loop_introN (fun s : (Nat × List Int) × Heap × Nat => [(6, .int s.1.1), (5, .int tub), (4, .int col), (3, .ptr (n + 3) 0), (2, .ptr n 0), (0, .ptr c 0)]) (fun s => s.2.1) (fun s => s.2.2)
    (fun s => s.1.1 ≤ 6 ∧ RkS c kc a n H (n + 3) s.1.2 (4 + 26 * s.1.1) s.2.1 s.2.2) (fun s => 6 - s.1.1) ?_ ?_
  · exact ⟨((0, List.replicate 24 0), _, n + 4), ⟨Nat.zero_le _, hS0⟩, Sub.same (by simp only [LB, subS, subH, wfS, wfH, SV.ren, renL, SObj.ren, SV.wf, SObj.wf, wfL, SV.known, Nat.reduceEqDiff, ↓reduceIte, if_true, if_false, eq_self, Nat.reduceAdd, Nat.reduceLT, Nat.reduceLeDiff, implies_true, reduceCtorEq, forall_const]; try rfl) (by simp [subS, subH, wfS, wfH, SV.ren, renL, SObj.ren, SV.wf, SObj.wf, wfL, sget_cons, hget_cons] <;> omega) hS0.d.wf hS0.d.le⟩
  · rintro ⟨⟨i, R⟩, H3, n3⟩ ⟨hi, hS⟩
    simp only at hi hS
    by_cases hit : (i : Int) < tub
    · simp -implicitDefEqProofs only [lk_normal, hit, ZB, Int.reduceToNat, Nat.reduceLT, Nat.reduceLeDiff, Int.reduceLE, Int.reduceLT, Nat.reduceEqDiff, Nat.reduceSub, SB, SV.known, packR, ne_eq, reduceCtorEq, Nat.reduceEqDiff, ↓reduceIte, if_true, if_false, eq_self, Nat.reduceAdd, Nat.reduceMul, Nat.reduceSub, forall_const, oneCellS, litOne, flat1, Kd.isSca, flat, TYB]
      refine loop_introN (fun s : (Nat × List Int) × Heap × Nat => [(7, .int s.1.1), (6, .int i), (5, .int tub), (4, .int col), (3, .ptr (n + 3) 0), (2, .ptr n 0), (0, .ptr c 0)]) (fun s => s.2.1) (fun s => s.2.2)
        (fun s => s.1.1 ≤ 4 ∧ RkS c kc a n H (n + 3) s.1.2 (4 + 26 * i + 6 * s.1.1) s.2.1 s.2.2) (fun s => 4 - s.1.1) ?_ ?_
      · have hq := hS.lt
        exact ⟨((0, R), H3, n3), ⟨Nat.zero_le _, hS⟩, Sub.same (by simp only [LB, subS, subH, wfS, wfH, SV.ren, renL, SObj.ren, SV.wf, SObj.wf, wfL, SV.known, Nat.reduceEqDiff, ↓reduceIte, if_true, if_false, eq_self, Nat.reduceAdd, Nat.reduceLT, Nat.reduceLeDiff, implies_true, reduceCtorEq, forall_const]; try rfl) (by simp [subS, subH, wfS, wfH, SV.ren, renL, SObj.ren, SV.wf, SObj.wf, wfL, sget_cons, hget_cons] <;> omega) hS.d.wf hS.d.le⟩
      · rintro ⟨⟨j, R1⟩, H4, n4⟩ ⟨hj, hS1⟩
        simp only at hj hS1
        have hn4 := hS1.lt
        have e4 := ne_add' hn4.2
        simp -implicitDefEqProofs only [lk_normal, ZB, Int.reduceToNat, Nat.reduceLT, Nat.reduceLeDiff, Int.reduceLE, Int.reduceLT, Nat.reduceEqDiff, Nat.reduceSub, SB, SV.known, packR, ne_eq, reduceCtorEq, Nat.reduceEqDiff, ↓reduceIte, if_true, if_false, eq_self, Nat.reduceAdd, Nat.reduceMul, Nat.reduceSub, forall_const, oneCellS, litOne, flat1, Kd.isSca, flat, TYB]
        refine among_use (hS1.d.pushI hlt) hlt hm (by omega) (L := [4, 3, 4, 2, 1, 0]) (by simp [hget_cons]; rfl) (by omega) (by simp) fun x H5 hx hd5 hf5 => ?_
        have hx1 : 0 ≤ x ∧ x ≤ 4 := by simp at hx; omega
        have hS5 := (hS1.pushI hlt).draw hd5 hf5 (Nat.le_refl _)
        by_cases hjx : (j : Int) < x
        · have hr5 := hS5.r
          have l5 := hS5.l
          simp -implicitDefEqProofs only [lk_normal, hjx, ZB, Int.reduceToNat, Nat.reduceLT, Nat.reduceLeDiff, Int.reduceLE, Int.reduceLT, Nat.reduceEqDiff, Nat.reduceSub, SB, SV.known, packR, ne_eq, reduceCtorEq, Nat.reduceEqDiff, ↓reduceIte, if_true, if_false, eq_self, Nat.reduceAdd, Nat.reduceMul, Nat.reduceSub, forall_const, oneCellS, litOne, flat1, Kd.isSca, flat, TYB]
          refine pick_use hS5.d hlt hm (by omega) fun y H6 hy0 hy1 hd6 hf6 => ?_
          have hS6 := hS5.draw hd6 hf6 (Nat.le_refl _)
          have hr6 := hS6.r
          have hy : In64 (1 + y) := by unfold In64; omega
          have i0 : 0 ≤ (i : Int) := by omega
          have j0 : 0 ≤ (j : Int) := by omega
          have j4 : (j : Int) < 4 := by omega
          have i6 : (i : Int) < 6 := by omega
          have ij : i * 4 + j < 24 := by omega
          simp -implicitDefEqProofs only [hr6, hy, i0, j0, j4, i6, hS6.l, ij, ZB, Int.reduceToNat, Nat.reduceLT, Nat.reduceLeDiff, Int.reduceLE, Int.reduceLT, Nat.reduceEqDiff, Nat.reduceSub, SB, SV.known, packR, ne_eq, reduceCtorEq, Nat.reduceEqDiff, ↓reduceIte, if_true, if_false, eq_self, Nat.reduceAdd, Nat.reduceMul, Nat.reduceSub, forall_const, oneCellS, litOne, flat1, Kd.isSca, flat, TYB]
          have hS7 := hS6.set hlt (R' := R1.set (i * 4 + j) (1 + y)) (by rw [List.length_set]; exact hS6.l) (in64_set hS6.i hy)
          have hnext : ∀ (R' : List Int) (H8 : Heap), RkS c kc a n H (n + 3) R' (4 + 26 * i + 6 * (j + 1)) H8 (n4 + 1) → j + 1 ≤ 4 ∧ RkS c kc a n H (n + 3) R' (4 + 26 * i + 6 * (j + 1)) H8 (n4 + 1) := fun R' H8 h => ⟨by omega, h⟩
          refine ⟨by omega, fun hj0 => one_use hS7.d hlt hm (by omega) fun o H8 hd8 hf8 => ?_, fun hj0 => ?_⟩
          · have hS8 := hS7.draw hd8 hf8 (Nat.le_refl _)
            cases o
            · simp -implicitDefEqProofs only [lk_normal, ZB, Int.reduceToNat, Nat.reduceLT, Nat.reduceLeDiff, Int.reduceLE, Int.reduceLT, Nat.reduceEqDiff, Nat.reduceSub, SB, SV.known, packR, ne_eq, reduceCtorEq, Nat.reduceEqDiff, ↓reduceIte, if_true, if_false, eq_self, Nat.reduceAdd, Nat.reduceMul, Nat.reduceSub, forall_const, oneCellS, litOne, flat1, Kd.isSca, flat, TYB]
              have hq := hS8.lt
              exact ⟨by unfold In64; omega, ((j + 1, R1.set (i * 4 + j) (1 + y)), H8, n4 + 1), ⟨by show j + 1 ≤ 4; omega, RkS.more hS8 (by show _ ≤ 4 + 26 * i + 6 * (j + 1); omega)⟩, by show 4 - (j + 1) < 4 - j; omega, Sub.same (by simp only [LB, subS, subH, wfS, wfH, SV.ren, renL, SObj.ren, SV.wf, SObj.wf, wfL, SV.known, Nat.reduceEqDiff, ↓reduceIte, if_true, if_false, eq_self, Nat.reduceAdd, Nat.reduceLT, Nat.reduceLeDiff, implies_true, reduceCtorEq, forall_const]; try rfl) (by simp [subS, subH, wfS, wfH, SV.ren, renL, SObj.ren, SV.wf, SObj.wf, wfL, sget_cons, hget_cons] <;> omega) (RkS.d hS8).wf (RkS.d hS8).le⟩
            · have hr8 := hS8.r
              have l8 := hS8.l
              have j1 : 0 ≤ (j : Int) - 1 := by omega
              have j5 : (j : Int) - 1 < 4 := by omega
              have j6 : ((j : Int) - 1).toNat = j - 1 := by omega
              have j7 : In64 ((j : Int) - 1) := by unfold In64; omega
              have ij1 : i * 4 + (j - 1) < 24 := by omega
              simp -implicitDefEqProofs only [lk_normal, hr8, l8, j1, j5, j6, j7, i0, j0, j4, i6, ij, ij1, ZB, Int.reduceToNat, Nat.reduceLT, Nat.reduceLeDiff, Int.reduceLE, Int.reduceLT, Nat.reduceEqDiff, Nat.reduceSub, SB, SV.known, packR, ne_eq, reduceCtorEq, Nat.reduceEqDiff, ↓reduceIte, if_true, if_false, eq_self, Nat.reduceAdd, Nat.reduceMul, Nat.reduceSub, forall_const, oneCellS, litOne, flat1, Kd.isSca, flat, TYB]
              have hq := hS8.lt
              have hS9 := hS8.set hlt (R' := (R1.set (i * 4 + j) (1 + y)).set (i * 4 + j) ((R1.set (i * 4 + j) (1 + y)).getD (i * 4 + (j - 1)) 0)) (by rw [List.length_set]; exact hS8.l) (in64_set hS8.i (in64_getD hS8.i (by rw [l8]; exact ij1)))
              refine ⟨by omega, ?_⟩
              exact ⟨by unfold In64; omega, ((j + 1, _), _, n4 + 1), ⟨by show j + 1 ≤ 4; omega, RkS.more hS9 (by show _ ≤ 4 + 26 * i + 6 * (j + 1); omega)⟩, by show 4 - (j + 1) < 4 - j; omega, Sub.same (by simp only [LB, subS, subH, wfS, wfH, SV.ren, renL, SObj.ren, SV.wf, SObj.wf, wfL, SV.known, Nat.reduceEqDiff, ↓reduceIte, if_true, if_false, eq_self, Nat.reduceAdd, Nat.reduceLT, Nat.reduceLeDiff, implies_true, reduceCtorEq, forall_const]; try rfl) (by simp [subS, subH, wfS, wfH, SV.ren, renL, SObj.ren, SV.wf, SObj.wf, wfL, sget_cons, hget_cons] <;> omega) (RkS.d hS9).wf (RkS.d hS9).le⟩
          · simp -implicitDefEqProofs only [lk_normal, ZB, Int.reduceToNat, Nat.reduceLT, Nat.reduceLeDiff, Int.reduceLE, Int.reduceLT, Nat.reduceEqDiff, Nat.reduceSub, SB, SV.known, packR, ne_eq, reduceCtorEq, Nat.reduceEqDiff, ↓reduceIte, if_true, if_false, eq_self, Nat.reduceAdd, Nat.reduceMul, Nat.reduceSub, forall_const, oneCellS, litOne, flat1, Kd.isSca, flat, TYB]
            have hq := hS7.lt
            exact ⟨by unfold In64; omega, ((j + 1, _), _, n4 + 1), ⟨by show j + 1 ≤ 4; omega, RkS.more hS7 (by show _ ≤ 4 + 26 * i + 6 * (j + 1); omega)⟩, by show 4 - (j + 1) < 4 - j; omega, Sub.same (by simp only [LB, subS, subH, wfS, wfH, SV.ren, renL, SObj.ren, SV.wf, SObj.wf, wfL, SV.known, Nat.reduceEqDiff, ↓reduceIte, if_true, if_false, eq_self, Nat.reduceAdd, Nat.reduceLT, Nat.reduceLeDiff, implies_true, reduceCtorEq, forall_const]; try rfl) (by simp [subS, subH, wfS, wfH, SV.ren, renL, SObj.ren, SV.wf, SObj.wf, wfL, sget_cons, hget_cons] <;> omega) (RkS.d hS7).wf (RkS.d hS7).le⟩
        · simp -implicitDefEqProofs only [lk_normal, hjx, ZB, Int.reduceToNat, Nat.reduceLT, Nat.reduceLeDiff, Int.reduceLE, Int.reduceLT, Nat.reduceEqDiff, Nat.reduceSub, SB, SV.known, packR, ne_eq, reduceCtorEq, Nat.reduceEqDiff, ↓reduceIte, if_true, if_false, eq_self, Nat.reduceAdd, Nat.reduceMul, Nat.reduceSub, forall_const, oneCellS, litOne, flat1, Kd.isSca, flat, TYB]
          have hq := hS5.lt
          exact ⟨by unfold In64; omega, ((i + 1, R1), H5, n4 + 1), ⟨by show i + 1 ≤ 6; omega, hS5.more (by show _ ≤ 4 + 26 * (i + 1); omega)⟩, by show 6 - (i + 1) < 6 - i; omega, Sub.same (by simp only [LB, subS, subH, wfS, wfH, SV.ren, renL, SObj.ren, SV.wf, SObj.wf, wfL, SV.known, Nat.reduceEqDiff, ↓reduceIte, if_true, if_false, eq_self, Nat.reduceAdd, Nat.reduceLT, Nat.reduceLeDiff, implies_true, reduceCtorEq, forall_const]; try rfl) (by simp [subS, subH, wfS, wfH, SV.ren, renL, SObj.ren, SV.wf, SObj.wf, wfL, sget_cons, hget_cons] <;> omega) hS5.d.wf hS5.d.le⟩
    · simp -implicitDefEqProofs only [lk_normal, hit, ZB, Int.reduceToNat, Nat.reduceLT, Nat.reduceLeDiff, Int.reduceLE, Int.reduceLT, Nat.reduceEqDiff, Nat.reduceSub, SB, SV.known, packR, ne_eq, reduceCtorEq, Nat.reduceEqDiff, ↓reduceIte, if_true, if_false, eq_self, Nat.reduceAdd, Nat.reduceMul, Nat.reduceSub, forall_const, oneCellS, litOne, flat1, Kd.isSca, flat, TYB]
      have hS1 := hS.more (k' := 160) (by omega)
      clear hS hit
      refine loop_introN (fun s : (Nat × List Int) × Heap × Nat => [(8, .int s.1.1), (5, .int tub), (4, .int col), (3, .ptr (n + 3) 0), (2, .ptr n 0), (0, .ptr c 0)]) (fun s => s.2.1) (fun s => s.2.2)
        (fun s => s.1.1 ≤ 6 ∧ RkS c kc a n H (n + 3) s.1.2 160 s.2.1 s.2.2) (fun s => 6 - s.1.1) ?_ ?_
      · have hq := hS1.lt
        exact ⟨((0, R), H3, n3), ⟨Nat.zero_le _, hS1⟩, Sub.same (by simp only [LB, subS, subH, wfS, wfH, SV.ren, renL, SObj.ren, SV.wf, SObj.wf, wfL, SV.known, Nat.reduceEqDiff, ↓reduceIte, if_true, if_false, eq_self, Nat.reduceAdd, Nat.reduceLT, Nat.reduceLeDiff, implies_true, reduceCtorEq, forall_const]; try rfl) (by simp [subS, subH, wfS, wfH, SV.ren, renL, SObj.ren, SV.wf, SObj.wf, wfL, sget_cons, hget_cons] <;> omega) hS1.d.wf hS1.d.le⟩
      · rintro ⟨⟨k, R2⟩, H4, n4⟩ ⟨hk, hS2⟩
        simp only at hk hS2
        have hq := hS2.lt
        by_cases hk6 : (k : Int) < 6
        · simp -implicitDefEqProofs only [lk_normal, hk6, ZB, Int.reduceToNat, Nat.reduceLT, Nat.reduceLeDiff, Int.reduceLE, Int.reduceLT, Nat.reduceEqDiff, Nat.reduceSub, SB, SV.known, packR, ne_eq, reduceCtorEq, Nat.reduceEqDiff, ↓reduceIte, if_true, if_false, eq_self, Nat.reduceAdd, Nat.reduceMul, Nat.reduceSub, forall_const, oneCellS, litOne, flat1, Kd.isSca, flat, TYB]
          refine loop_introN (fun s : (Nat × List Int) × Heap × Nat => [(9, .int (s.1.1 : Nat)), (8, .int k), (5, .int tub), (4, .int col), (3, .ptr (n + 3) 0), (2, .ptr n 0), (0, .ptr c 0)]) (fun s => s.2.1) (fun s => s.2.2)
            (fun s => (1 ≤ s.1.1 ∧ s.1.1 ≤ 4) ∧ RkS c kc a n H (n + 3) s.1.2 160 s.2.1 s.2.2) (fun s => 4 - s.1.1) ?_ ?_
          · exact ⟨((1, R2), H4, n4), ⟨⟨Nat.le_refl _, by show 1 ≤ 4; omega⟩, hS2⟩, Sub.same (by simp only [LB, subS, subH, wfS, wfH, SV.ren, renL, SObj.ren, SV.wf, SObj.wf, wfL, SV.known, Nat.reduceEqDiff, ↓reduceIte, if_true, if_false, eq_self, Nat.reduceAdd, Nat.reduceLT, Nat.reduceLeDiff, implies_true, reduceCtorEq, forall_const]; try rfl) (by simp [subS, subH, wfS, wfH, SV.ren, renL, SObj.ren, SV.wf, SObj.wf, wfL, sget_cons, hget_cons] <;> omega) hS2.d.wf hS2.d.le⟩
          · rintro ⟨⟨j, R3⟩, H5, n5⟩ ⟨hj, hS3⟩
            simp only at hj hS3
            have hq3 := hS3.lt
            by_cases hj4 : (j : Int) < 4
            · have hr3 := hS3.r
              have l3 := hS3.l
              have k0 : 0 ≤ (k : Int) := by omega
              have j0 : 0 ≤ (j : Int) := by omega
              have j1 : 0 ≤ (j : Int) - 1 := by omega
              have j5 : (j : Int) - 1 < 4 := by omega
              have j6 : ((j : Int) - 1).toNat = j - 1 := by omega
              have j7 : In64 ((j : Int) - 1) := by unfold In64; omega
              have kj : k * 4 + j < 24 := by omega
              have kj1 : k * 4 + (j - 1) < 24 := by omega
              simp -implicitDefEqProofs only [lk_normal, hr3, l3, hk6, hj4, k0, j0, j1, j5, j6, j7, kj, kj1, ZB, Int.reduceToNat, Nat.reduceLT, Nat.reduceLeDiff, Int.reduceLE, Int.reduceLT, Nat.reduceEqDiff, Nat.reduceSub, SB, SV.known, packR, ne_eq, reduceCtorEq, Nat.reduceEqDiff, ↓reduceIte, if_true, if_false, eq_self, Nat.reduceAdd, Nat.reduceMul, Nat.reduceSub, forall_const, oneCellS, litOne, flat1, Kd.isSca, flat, TYB]
              refine ⟨fun _ => ⟨by omega, ?_⟩, fun _ => ?_⟩
              · have hS4 := hS3.set hlt (R' := R3.set (k * 4 + j) 0) (by rw [List.length_set]; exact l3) (in64_set hS3.i (by simp [In64]))
                exact ⟨by unfold In64; omega, ((j + 1, R3.set (k * 4 + j) 0), _, n5), ⟨⟨by show 1 ≤ j + 1; omega, by show j + 1 ≤ 4; omega⟩, hS4⟩, by show 4 - (j + 1) < 4 - j; omega, Sub.same (by simp only [LB, subS, subH, wfS, wfH, SV.ren, renL, SObj.ren, SV.wf, SObj.wf, wfL, SV.known, Nat.reduceEqDiff, ↓reduceIte, if_true, if_false, eq_self, Nat.reduceAdd, Nat.reduceLT, Nat.reduceLeDiff, implies_true, reduceCtorEq, forall_const]; try rfl) (by simp [subS, subH, wfS, wfH, SV.ren, renL, SObj.ren, SV.wf, SObj.wf, wfL, sget_cons, hget_cons] <;> omega) hS4.d.wf hS4.d.le⟩
              · exact ⟨by unfold In64; omega, ((j + 1, R3), _, n5), ⟨⟨by show 1 ≤ j + 1; omega, by show j + 1 ≤ 4; omega⟩, hS3⟩, by show 4 - (j + 1) < 4 - j; omega, Sub.same (by simp only [LB, subS, subH, wfS, wfH, SV.ren, renL, SObj.ren, SV.wf, SObj.wf, wfL, SV.known, Nat.reduceEqDiff, ↓reduceIte, if_true, if_false, eq_self, Nat.reduceAdd, Nat.reduceLT, Nat.reduceLeDiff, implies_true, reduceCtorEq, forall_const]; try rfl) (by simp [subS, subH, wfS, wfH, SV.ren, renL, SObj.ren, SV.wf, SObj.wf, wfL, sget_cons, hget_cons] <;> omega) hS3.d.wf hS3.d.le⟩
            · simp -implicitDefEqProofs only [lk_normal, hj4, ZB, Int.reduceToNat, Nat.reduceLT, Nat.reduceLeDiff, Int.reduceLE, Int.reduceLT, Nat.reduceEqDiff, Nat.reduceSub, SB, SV.known, packR, ne_eq, reduceCtorEq, Nat.reduceEqDiff, ↓reduceIte, if_true, if_false, eq_self, Nat.reduceAdd, Nat.reduceMul, Nat.reduceSub, forall_const, oneCellS, litOne, flat1, Kd.isSca, flat, TYB]
              exact ⟨by unfold In64; omega, ((k + 1, R3), H5, n5), ⟨by show k + 1 ≤ 6; omega, hS3⟩, by show 6 - (k + 1) < 6 - k; omega, Sub.same (by simp only [LB, subS, subH, wfS, wfH, SV.ren, renL, SObj.ren, SV.wf, SObj.wf, wfL, SV.known, Nat.reduceEqDiff, ↓reduceIte, if_true, if_false, eq_self, Nat.reduceAdd, Nat.reduceLT, Nat.reduceLeDiff, implies_true, reduceCtorEq, forall_const]; try rfl) (by simp [subS, subH, wfS, wfH, SV.ren, renL, SObj.ren, SV.wf, SObj.wf, wfL, sget_cons, hget_cons] <;> omega) hS3.d.wf hS3.d.le⟩
        · clear hS1
          simp -implicitDefEqProofs only [lk_normal, hk6, ZB, Int.reduceToNat, Nat.reduceLT, Nat.reduceLeDiff, Int.reduceLE, Int.reduceLT, Nat.reduceEqDiff, Nat.reduceSub, SB, SV.known, packR, ne_eq, reduceCtorEq, Nat.reduceEqDiff, ↓reduceIte, if_true, if_false, eq_self, Nat.reduceAdd, Nat.reduceMul, Nat.reduceSub, forall_const, oneCellS, litOne, flat1, Kd.isSca, flat, TYB]
          refine one_use hS2.d hlt hm (by omega) fun o H6 hd6 hf6 => ?_
          have hS6 := hS2.draw hd6 hf6 (Nat.le_refl _)
          cases o
          · simp -implicitDefEqProofs only [lk_normal, ZB, Int.reduceToNat, Nat.reduceLT, Nat.reduceLeDiff, Int.reduceLE, Int.reduceLT, Nat.reduceEqDiff, Nat.reduceSub, SB, SV.known, packR, ne_eq, reduceCtorEq, Nat.reduceEqDiff, ↓reduceIte, if_true, if_false, eq_self, Nat.reduceAdd, Nat.reduceMul, Nat.reduceSub, forall_const, oneCellS, litOne, flat1, Kd.isSca, flat, TYB]
            refine pick_use hS6.d hlt hm (by omega) fun w H7 hw0 hw1 hd7 hf7 => ?_
            have hS7 := hS6.draw hd7 hf7 (Nat.le_refl _)
            have hr7 := hS7.r
            have hz7 := hS7.z
            have l7 := hS7.l
            have tk7 : R2.take 24 = R2 := List.take_of_length_le (by omega)
            have fin : ∀ (R' : List Int) (k' : Nat) (H' : Heap) (n' : Nat), R'.length = 24 → (∀ x ∈ R', In64 x) → Drawn c kc a k' n H H' n' → n < n' → k' ≤ 1000 → ∃ R : List Int, R' = R ∧ R.length = 24 ∧ (∀ x ∈ R, In64 x) ∧ Drawn c kc a 1000 n H ((n, .ints R' 27) :: H') n' := fun R' k' H' n' h1 h2 h3 h4 h5 => ⟨R', rfl, h1, h2, (h3.more h5).putI hlt (Nat.le_refl _) h4⟩
            have hq7 := hS7.lt
            by_cases w0 : w = 0
            · have w0' : (w = 0) = True := eq_true w0
              simp -implicitDefEqProofs only [lk_normal, w0', ZB, Int.reduceToNat, Nat.reduceLT, Nat.reduceLeDiff, Int.reduceLE, Int.reduceLT, Nat.reduceEqDiff, Nat.reduceSub, SB, SV.known, packR, ne_eq, reduceCtorEq, Nat.reduceEqDiff, ↓reduceIte, if_true, if_false, eq_self, Nat.reduceAdd, Nat.reduceMul, Nat.reduceSub, forall_const, oneCellS, litOne, flat1, Kd.isSca, flat, TYB]
              refine ⟨{q : List Int × Heap × Nat // RkS c kc a n H (n + 3) q.1 300 q.2.1 q.2.2}, fun q => [(3, .ptr (n + 3) 0), (2, .ptr n 0)], fun q => q.1.2.1, fun q => q.1.2.2, ?_, ?_⟩
              · simp -implicitDefEqProofs only [ZB, Int.reduceToNat, Nat.reduceLT, Nat.reduceLeDiff, Int.reduceLE, Int.reduceLT, Nat.reduceEqDiff, Nat.reduceSub, SB, SV.known, packR, ne_eq, reduceCtorEq, Nat.reduceEqDiff, ↓reduceIte, if_true, if_false, eq_self, Nat.reduceAdd, Nat.reduceMul, Nat.reduceSub, forall_const, oneCellS, litOne, flat1, Kd.isSca, flat, TYB]
                refine ⟨?_, ?_⟩
                · refine pick_use hS7.d hlt hm (by omega) fun x H8 g0 g1 hd8 hf8 => ?_
                  have hS8 := hS7.draw hd8 hf8 (Nat.le_refl _)
                  obtain ⟨X, rfl⟩ : ∃ X : Nat, x = X := ⟨x.toNat, by omega⟩
                  have x6 : (X : Int) < 6 := by omega
                  simp -implicitDefEqProofs only [x6, g0, ZB, Int.reduceToNat, Nat.reduceLT, Nat.reduceLeDiff, Int.reduceLE, Int.reduceLT, Nat.reduceEqDiff, Nat.reduceSub, SB, SV.known, packR, ne_eq, reduceCtorEq, Nat.reduceEqDiff, ↓reduceIte, if_true, if_false, eq_self, Nat.reduceAdd, Nat.reduceMul, Nat.reduceSub, forall_const, oneCellS, litOne, flat1, Kd.isSca, flat, TYB]
                  refine ⟨?_, ?_⟩
                  · refine pick_use hS8.d hlt hm (by omega) fun y H9 k0 k1 hd9 hf9 => ?_
                    have hS9 := hS8.draw hd9 hf9 (Nat.le_refl _)
                    simp -implicitDefEqProofs only [ZB, Int.reduceToNat, Nat.reduceLT, Nat.reduceLeDiff, Int.reduceLE, Int.reduceLT, Nat.reduceEqDiff, Nat.reduceSub, SB, SV.known, packR, ne_eq, reduceCtorEq, Nat.reduceEqDiff, ↓reduceIte, if_true, if_false, eq_self, Nat.reduceAdd, Nat.reduceMul, Nat.reduceSub, forall_const, oneCellS, litOne, flat1, Kd.isSca, flat, TYB]
                    refine among_use (hS9.d.pushI hlt) hlt hm (by omega) (L := [-1, 6, 4611686018427387904]) (by simp [hget_cons]; rfl) (by omega) (by simp) fun z Hz hzl hdz hfz => ?_
                    have hSz := (hS9.pushI hlt).draw hdz hfz (Nat.le_refl _)
                    obtain ⟨Y, rfl⟩ : ∃ Y : Nat, y = Y := ⟨y.toNat, by omega⟩
                    have y4 : (Y : Int) < 4 := by omega
                    have xy : X * 4 + Y < 24 := by omega
                    have hz : In64 z := by simp at hzl; unfold In64; omega
                    have hrz := hSz.r
                    have lz := hSz.l
                    have hqz := hSz.lt
                    have hSw := (hSz.set hlt (R' := R2.set (X * 4 + Y) z) (by rw [List.length_set]; exact lz) (in64_set hSz.i hz)).more (k' := 300) (by omega)
                    simp -implicitDefEqProofs only [lk_normal, hrz, lz, x6, y4, xy, g0, k0, ZB, Int.reduceToNat, Nat.reduceLT, Nat.reduceLeDiff, Int.reduceLE, Int.reduceLT, Nat.reduceEqDiff, Nat.reduceSub, SB, SV.known, packR, ne_eq, reduceCtorEq, Nat.reduceEqDiff, ↓reduceIte, if_true, if_false, eq_self, Nat.reduceAdd, Nat.reduceMul, Nat.reduceSub, forall_const, oneCellS, litOne, flat1, Kd.isSca, flat, TYB]
                    exact ⟨by omega, ⟨(R2.set (X * 4 + Y) z, _, _), hSw⟩, Sub.same (by simp only [LB, subS, subH, wfS, wfH, SV.ren, renL, SObj.ren, SV.wf, SObj.wf, wfL, SV.known, Nat.reduceEqDiff, ↓reduceIte, if_true, if_false, eq_self, Nat.reduceAdd, Nat.reduceLT, Nat.reduceLeDiff, implies_true, reduceCtorEq, forall_const]; try rfl) (by simp [subS, subH, wfS, wfH, SV.ren, renL, SObj.ren, SV.wf, SObj.wf, wfL, sget_cons, hget_cons] <;> omega) hSw.d.wf hSw.d.le⟩
                  · refine pick_use (hS8.pushI hlt).d hlt hm (by omega) fun y H9 k0 k1 hd9 hf9 => ?_
                    have hS9 := (hS8.pushI hlt).draw hd9 hf9 (Nat.le_refl _)
                    simp -implicitDefEqProofs only [ZB, Int.reduceToNat, Nat.reduceLT, Nat.reduceLeDiff, Int.reduceLE, Int.reduceLT, Nat.reduceEqDiff, Nat.reduceSub, SB, SV.known, packR, ne_eq, reduceCtorEq, Nat.reduceEqDiff, ↓reduceIte, if_true, if_false, eq_self, Nat.reduceAdd, Nat.reduceMul, Nat.reduceSub, forall_const, oneCellS, litOne, flat1, Kd.isSca, flat, TYB]
                    refine among_use hS9.d hlt hm (by omega) (L := [-1, 6, 4611686018427387904]) (hf9.use (by omega) (by omega) (by simp [hget_cons]; rfl)) (by omega) (by simp) fun z Hz hzl hdz hfz => ?_
                    have hSz := hS9.draw hdz hfz (Nat.le_refl _)
                    obtain ⟨Y, rfl⟩ : ∃ Y : Nat, y = Y := ⟨y.toNat, by omega⟩
                    have y4 : (Y : Int) < 4 := by omega
                    have xy : X * 4 + Y < 24 := by omega
                    have hz : In64 z := by simp at hzl; unfold In64; omega
                    have hrz := hSz.r
                    have lz := hSz.l
                    have hqz := hSz.lt
                    have hSw := (hSz.set hlt (R' := R2.set (X * 4 + Y) z) (by rw [List.length_set]; exact lz) (in64_set hSz.i hz)).more (k' := 300) (by omega)
                    simp -implicitDefEqProofs only [lk_normal, hrz, lz, x6, y4, xy, g0, k0, ZB, Int.reduceToNat, Nat.reduceLT, Nat.reduceLeDiff, Int.reduceLE, Int.reduceLT, Nat.reduceEqDiff, Nat.reduceSub, SB, SV.known, packR, ne_eq, reduceCtorEq, Nat.reduceEqDiff, ↓reduceIte, if_true, if_false, eq_self, Nat.reduceAdd, Nat.reduceMul, Nat.reduceSub, forall_const, oneCellS, litOne, flat1, Kd.isSca, flat, TYB]
                    exact ⟨by omega, ⟨(R2.set (X * 4 + Y) z, _, _), hSw⟩, Sub.same (by simp only [LB, subS, subH, wfS, wfH, SV.ren, renL, SObj.ren, SV.wf, SObj.wf, wfL, SV.known, Nat.reduceEqDiff, ↓reduceIte, if_true, if_false, eq_self, Nat.reduceAdd, Nat.reduceLT, Nat.reduceLeDiff, implies_true, reduceCtorEq, forall_const]; try rfl) (by simp [subS, subH, wfS, wfH, SV.ren, renL, SObj.ren, SV.wf, SObj.wf, wfL, sget_cons, hget_cons] <;> omega) hSw.d.wf hSw.d.le⟩
                · refine pick_use (hS7.pushI hlt).d hlt hm (by omega) fun x H8 g0 g1 hd8 hf8 => ?_
                  have hS8 := (hS7.pushI hlt).draw hd8 hf8 (Nat.le_refl _)
                  have hb8 := hf8.use (by omega) (by omega) (show hget _ n4 = some (.ints [-1, 6, 4611686018427387904] 3) by simp [hget_cons])
                  obtain ⟨X, rfl⟩ : ∃ X : Nat, x = X := ⟨x.toNat, by omega⟩
                  have x6 : (X : Int) < 6 := by omega
                  simp -implicitDefEqProofs only [x6, g0, ZB, Int.reduceToNat, Nat.reduceLT, Nat.reduceLeDiff, Int.reduceLE, Int.reduceLT, Nat.reduceEqDiff, Nat.reduceSub, SB, SV.known, packR, ne_eq, reduceCtorEq, Nat.reduceEqDiff, ↓reduceIte, if_true, if_false, eq_self, Nat.reduceAdd, Nat.reduceMul, Nat.reduceSub, forall_const, oneCellS, litOne, flat1, Kd.isSca, flat, TYB]
                  refine pick_use hS8.d hlt hm (by omega) fun y H9 k0 k1 hd9 hf9 => ?_
                  have hS9 := hS8.draw hd9 hf9 (Nat.le_refl _)
                  simp -implicitDefEqProofs only [ZB, Int.reduceToNat, Nat.reduceLT, Nat.reduceLeDiff, Int.reduceLE, Int.reduceLT, Nat.reduceEqDiff, Nat.reduceSub, SB, SV.known, packR, ne_eq, reduceCtorEq, Nat.reduceEqDiff, ↓reduceIte, if_true, if_false, eq_self, Nat.reduceAdd, Nat.reduceMul, Nat.reduceSub, forall_const, oneCellS, litOne, flat1, Kd.isSca, flat, TYB]
                  refine among_use hS9.d hlt hm (by omega) (L := [-1, 6, 4611686018427387904]) (hf9.use (by omega) (by omega) hb8) (by omega) (by simp) fun z Hz hzl hdz hfz => ?_
                  have hSz := hS9.draw hdz hfz (Nat.le_refl _)
                  obtain ⟨Y, rfl⟩ : ∃ Y : Nat, y = Y := ⟨y.toNat, by omega⟩
                  have y4 : (Y : Int) < 4 := by omega
                  have xy : X * 4 + Y < 24 := by omega
                  have hz : In64 z := by simp at hzl; unfold In64; omega
                  have hrz := hSz.r
                  have lz := hSz.l
                  have hqz := hSz.lt
                  have hSw := (hSz.set hlt (R' := R2.set (X * 4 + Y) z) (by rw [List.length_set]; exact lz) (in64_set hSz.i hz)).more (k' := 300) (by omega)
                  simp -implicitDefEqProofs only [lk_normal, hrz, lz, x6, y4, xy, g0, k0, ZB, Int.reduceToNat, Nat.reduceLT, Nat.reduceLeDiff, Int.reduceLE, Int.reduceLT, Nat.reduceEqDiff, Nat.reduceSub, SB, SV.known, packR, ne_eq, reduceCtorEq, Nat.reduceEqDiff, ↓reduceIte, if_true, if_false, eq_self, Nat.reduceAdd, Nat.reduceMul, Nat.reduceSub, forall_const, oneCellS, litOne, flat1, Kd.isSca, flat, TYB]
                  exact ⟨by omega, ⟨(R2.set (X * 4 + Y) z, _, _), hSw⟩, Sub.same (by simp only [LB, subS, subH, wfS, wfH, SV.ren, renL, SObj.ren, SV.wf, SObj.wf, wfL, SV.known, Nat.reduceEqDiff, ↓reduceIte, if_true, if_false, eq_self, Nat.reduceAdd, Nat.reduceLT, Nat.reduceLeDiff, implies_true, reduceCtorEq, forall_const]; try rfl) (by simp [subS, subH, wfS, wfH, SV.ren, renL, SObj.ren, SV.wf, SObj.wf, wfL, sget_cons, hget_cons] <;> omega) hSw.d.wf hSw.d.le⟩
              · rintro ⟨⟨R9, H9, n9⟩, hS9⟩
                simp only at hS9
                have hr9 := hS9.r
                have l9 := hS9.l
                have hz9 := hS9.z
                have hq9 := hS9.lt
                have tk9 : R9.take 24 = R9 := List.take_of_length_le (by omega)
                simp -implicitDefEqProofs only [lk_normal, hr9, hz9, l9, tk9, ZB, Int.reduceToNat, Nat.reduceLT, Nat.reduceLeDiff, Int.reduceLE, Int.reduceLT, Nat.reduceEqDiff, Nat.reduceSub, SB, SV.known, packR, ne_eq, reduceCtorEq, Nat.reduceEqDiff, ↓reduceIte, if_true, if_false, eq_self, Nat.reduceAdd, Nat.reduceMul, Nat.reduceSub, forall_const, oneCellS, litOne, flat1, Kd.isSca, flat, TYB]
                exact ⟨hmn, fin R9 _ H9 n9 hS9.l hS9.i hS9.d (by omega) (by omega)⟩
            by_cases w1 : w = 1
            · have w1' : (w = 1) = True := eq_true w1
              simp -implicitDefEqProofs only [lk_normal, w0, w1', ZB, Int.reduceToNat, Nat.reduceLT, Nat.reduceLeDiff, Int.reduceLE, Int.reduceLT, Nat.reduceEqDiff, Nat.reduceSub, SB, SV.known, packR, ne_eq, reduceCtorEq, Nat.reduceEqDiff, ↓reduceIte, if_true, if_false, eq_self, Nat.reduceAdd, Nat.reduceMul, Nat.reduceSub, forall_const, oneCellS, litOne, flat1, Kd.isSca, flat, TYB]
              refine pick_use hS7.d hlt hm (by omega) fun x H8 g0 g1 hd8 hf8 => ?_
              have hS8 := hS7.draw hd8 hf8 (Nat.le_refl _)
              have hr8 := hS8.r
              have l8 := hS8.l
              have hz8 := hS8.z
              have hq8 := hS8.lt
              obtain ⟨X, rfl⟩ : ∃ X : Nat, x = X := ⟨x.toNat, by omega⟩
              have x6 : (X : Int) < 6 := by omega
              have x4 : X * 4 + 4 ≤ 24 := by omega
              let V : List Int := ((((List.replicate 4 (0 : Int)).set 0 0).set 1 1).set 2 0).set 3 0
              have e3 : (n = n + 3) = False := by simp
              have lV : V.length = 4 := rfl
              have eV : (((((List.replicate 4 (0 : Int)).set 0 0).set 1 1).set 2 0).set 3 0) = V := rfl
              have hRl : (R2.take (X * 4) ++ V ++ R2.drop (X * 4 + 4)).length = 24 := by
                rw [List.length_append, List.length_append, List.length_take, List.length_drop, lV]; omega
              have hRi : ∀ y ∈ R2.take (X * 4) ++ V ++ R2.drop (X * 4 + 4), In64 y := fun y hy => by
                rcases List.mem_append.1 hy with hy | hy
                · rcases List.mem_append.1 hy with hy | hy
                  · exact hS8.i y (List.mem_of_mem_take hy)
                  · have hy' : y ∈ ([0, 1, 0, 0] : List Int) := hy
                    simp at hy'; unfold In64; omega
                · exact hS8.i y (List.mem_of_mem_drop hy)
              have hS9 := hS8.set hlt hRl hRi
              have tk8 : (R2.take (X * 4) ++ V ++ R2.drop (X * 4 + 4)).take 24 = R2.take (X * 4) ++ V ++ R2.drop (X * 4 + 4) := List.take_of_length_le (by omega)
              simp -implicitDefEqProofs only [lk_normal, hr8, l8, hz8, x6, x4, g0, eV, lV, tk8, hRl, e3, ZB, Int.reduceToNat, Nat.reduceLT, Nat.reduceLeDiff, Int.reduceLE, Int.reduceLT, Nat.reduceEqDiff, Nat.reduceSub, SB, SV.known, packR, ne_eq, reduceCtorEq, Nat.reduceEqDiff, ↓reduceIte, if_true, if_false, eq_self, Nat.reduceAdd, Nat.reduceMul, Nat.reduceSub, forall_const, oneCellS, litOne, flat1, Kd.isSca, flat, TYB]
              exact ⟨by omega, hmn, fin _ _ _ n4 hRl hRi hS9.d (by omega) (by omega)⟩
            by_cases w2 : w = 2
            · have w2' : (w = 2) = True := eq_true w2
              simp -implicitDefEqProofs only [lk_normal, hz7, w0, w1, w2', ZB, Int.reduceToNat, Nat.reduceLT, Nat.reduceLeDiff, Int.reduceLE, Int.reduceLT, Nat.reduceEqDiff, Nat.reduceSub, SB, SV.known, packR, ne_eq, reduceCtorEq, Nat.reduceEqDiff, ↓reduceIte, if_true, if_false, eq_self, Nat.reduceAdd, Nat.reduceMul, Nat.reduceSub, forall_const, oneCellS, litOne, flat1, Kd.isSca, flat, TYB]
              exact ⟨hmn, fin (List.replicate 24 0) _ H7 n4 (by simp) (fun x hx => by rw [List.eq_of_mem_replicate hx]; simp [In64]) hS7.d (by omega) (by omega)⟩
            · simp -implicitDefEqProofs only [lk_normal, hr7, hz7, l7, tk7, w0, w1, w2, ZB, Int.reduceToNat, Nat.reduceLT, Nat.reduceLeDiff, Int.reduceLE, Int.reduceLT, Nat.reduceEqDiff, Nat.reduceSub, SB, SV.known, packR, ne_eq, reduceCtorEq, Nat.reduceEqDiff, ↓reduceIte, if_true, if_false, eq_self, Nat.reduceAdd, Nat.reduceMul, Nat.reduceSub, forall_const, oneCellS, litOne, flat1, Kd.isSca, flat, TYB]
              exact ⟨hmn, fin R2 _ H7 n4 l7 hS7.i hS7.d (by omega) (by omega)⟩
          · simp -implicitDefEqProofs only [lk_normal, ZB, Int.reduceToNat, Nat.reduceLT, Nat.reduceLeDiff, Int.reduceLE, Int.reduceLT, Nat.reduceEqDiff, Nat.reduceSub, SB, SV.known, packR, ne_eq, reduceCtorEq, Nat.reduceEqDiff, ↓reduceIte, if_true, if_false, eq_self, Nat.reduceAdd, Nat.reduceMul, Nat.reduceSub, forall_const, oneCellS, litOne, flat1, Kd.isSca, flat, TYB]
            refine pick_use hS6.d hlt hm (by omega) fun x Ha x0 x1 hda hfa => ?_
            have hSa := hS6.draw hda hfa (Nat.le_refl _)
            simp -implicitDefEqProofs only [ZB, Int.reduceToNat, Nat.reduceLT, Nat.reduceLeDiff, Int.reduceLE, Int.reduceLT, Nat.reduceEqDiff, Nat.reduceSub, SB, SV.known, packR, ne_eq, reduceCtorEq, Nat.reduceEqDiff, ↓reduceIte, if_true, if_false, eq_self, Nat.reduceAdd, Nat.reduceMul, Nat.reduceSub, forall_const, oneCellS, litOne, flat1, Kd.isSca, flat, TYB]
            refine pick_use hSa.d hlt hm (by omega) fun y Hb y0 y1 hdb hfb => ?_
            have hSb := hSa.draw hdb hfb (Nat.le_refl _)
            obtain ⟨X, rfl⟩ : ∃ X : Nat, x = X := ⟨x.toNat, by omega⟩
            obtain ⟨Y, rfl⟩ : ∃ Y : Nat, y = Y := ⟨y.toNat, by omega⟩
            have x6 : (X : Int) < 6 := by omega
            have y6 : (Y : Int) < 6 := by omega
            have x4 : X * 4 + 4 ≤ 24 := by omega
            have y4 : Y * 4 + 4 ≤ 24 := by omega
            have hrb := hSb.r
            have lb := hSb.l
            have hqb := hSb.lt
            simp -implicitDefEqProofs only [ZB, Int.reduceToNat, Nat.reduceLT, Nat.reduceLeDiff, Int.reduceLE, Int.reduceLT, Nat.reduceEqDiff, Nat.reduceSub, SB, SV.known, packR, ne_eq, reduceCtorEq, Nat.reduceEqDiff, ↓reduceIte, if_true, if_false, eq_self, Nat.reduceAdd, Nat.reduceMul, Nat.reduceSub, forall_const, oneCellS, litOne, flat1, Kd.isSca, flat, TYB]
            refine ⟨{q : (Nat × Nat) × Heap × Nat // RkS c kc a n H (n + 3) R2 170 q.2.1 q.2.2 ∧ hget q.2.1 q.1.1 = some (.ints ((R2.drop (X * 4)).take 4) 24) ∧ hget q.2.1 q.1.2 = some (.ints ((R2.drop (Y * 4)).take 4) 24) ∧ n + 3 < q.1.1 ∧ n + 3 < q.1.2 ∧ q.1.1 < q.2.2 ∧ q.1.2 < q.2.2},
              fun q => [(13, .ptr q.1.1.2 0), (12, .ptr q.1.1.1 0), (11, .int Y), (10, .int X), (3, .ptr (n + 3) 0), (2, .ptr n 0), (0, .ptr c 0)], fun q => q.1.2.1, fun q => q.1.2.2, ?_, ?_⟩
            · have lA : ((R2.drop (X * 4)).take 4).length = 4 := by rw [List.length_take, List.length_drop]; omega
              have lB : ((R2.drop (Y * 4)).take 4).length = 4 := by rw [List.length_take, List.length_drop]; omega
              have tA : ((R2.drop (X * 4)).take 4).take 4 = (R2.drop (X * 4)).take 4 := List.take_of_length_le (by omega)
              have tB : ((R2.drop (Y * 4)).take 4).take 4 = (R2.drop (Y * 4)).take 4 := List.take_of_length_le (by omega)
              have e3 : ∀ i, (n4 + i = n + 3) = False := fun i => by simp; omega
              have e4 : ∀ i, (n + 3 = n4 + i) = False := fun i => by simp; omega
              have e5 : (n4 = n + 3) = False := by simp; omega
              have e6 : (n + 3 = n4) = False := by simp; omega
              simp -implicitDefEqProofs only [hrb, lb, x0, x6, x4, y0, y6, y4, Nat.add_assoc, add_self, self_add, add_add, e3, e4, e5, e6, lA, lB, tA, tB, ZB, Int.reduceToNat, Nat.reduceLT, Nat.reduceLeDiff, Int.reduceLE, Int.reduceLT, Nat.reduceEqDiff, Nat.reduceSub, SB, SV.known, packR, ne_eq, reduceCtorEq, Nat.reduceEqDiff, ↓reduceIte, if_true, if_false, eq_self, Nat.reduceAdd, Nat.reduceMul, Nat.reduceSub, forall_const, oneCellS, litOne, flat1, Kd.isSca, flat, TYB]
              have hwk : ∀ (L1 L2 L3 L4 : List Int) (e1 e2 e3 e4 k1 k2 k3 k4 : Nat), n4 ≤ k1 → n4 ≤ k2 → n4 ≤ k3 → n4 ≤ k4 → k1 < n4 + 2 → k2 < n4 + 2 → k3 < n4 + 2 → k4 < n4 + 2 →
                  RkS c kc a n H (n + 3) R2 170 ((k1, .ints L1 e1) :: (k2, .ints L2 e2) :: (k3, .ints L3 e3) :: (k4, .ints L4 e4) :: Hb) (n4 + 2) := fun L1 L2 L3 L4 e1 e2 e3 e4 k1 k2 k3 k4 h1 h2 h3 h4 g1 g2 g3 g4 =>
                (hSb.more (by omega)).ext (hwf_cons (hwf_cons (hwf_cons (hwf_cons (hwf_mono (by omega) hSb.d.wf) g4 trivial) g3 trivial) g2 trivial) g1 trivial) (by omega) fun j o hj ho => by
                  rw [hget_cons, if_neg (by omega), hget_cons, if_neg (by omega), hget_cons, if_neg (by omega), hget_cons, if_neg (by omega)]
                  exact ho
              have hwj := fun (L1 L2 L3 L4 : List Int) (e1 e2 e3 e4 k1 k2 k3 k4 : Nat) h1 h2 h3 h4 g1 g2 g3 g4 => (hwk L1 L2 L3 L4 e1 e2 e3 e4 k1 k2 k3 k4 h1 h2 h3 h4 g1 g2 g3 g4).d.wf
              repeat' first
                | apply And.intro
                | omega
                | refine ⟨⟨((n4, n4 + 1), _, n4 + 2), hwk _ _ _ _ _ _ _ _ _ _ _ _ (by omega) (by omega) (by omega) (by omega) (by omega) (by omega) (by omega) (by omega), ?_, ?_, by show n + 3 < n4; omega, by show n + 3 < n4 + 1; omega, by show n4 < n4 + 2; omega, by show n4 + 1 < n4 + 2; omega⟩, Sub.same ?_ ?_ (hwj _ _ _ _ _ _ _ _ _ _ _ _ (by omega) (by omega) (by omega) (by omega) (by omega) (by omega) (by omega) (by omega)) (by show n ≤ n4 + 2; omega)⟩ <;> first | (simp [hget_cons]; done) | (simp only [LB, subS, subH, wfS, wfH, SV.ren, renL, SObj.ren, SV.wf, SObj.wf, wfL, SV.known, Nat.reduceEqDiff, ↓reduceIte, if_true, if_false, eq_self, Nat.reduceAdd, Nat.reduceLT, Nat.reduceLeDiff, implies_true, reduceCtorEq, forall_const]; done) | (simp [subS, subH, wfS, wfH, SV.ren, renL, SObj.ren, SV.wf, SObj.wf, wfL, sget_cons, hget_cons] <;> omega)
                | refine ⟨⟨((n4 + 1, n4), _, n4 + 2), hwk _ _ _ _ _ _ _ _ _ _ _ _ (by omega) (by omega) (by omega) (by omega) (by omega) (by omega) (by omega) (by omega), ?_, ?_, by show n + 3 < n4 + 1; omega, by show n + 3 < n4; omega, by show n4 + 1 < n4 + 2; omega, by show n4 < n4 + 2; omega⟩, Sub.same ?_ ?_ (hwj _ _ _ _ _ _ _ _ _ _ _ _ (by omega) (by omega) (by omega) (by omega) (by omega) (by omega) (by omega) (by omega)) (by show n ≤ n4 + 2; omega)⟩ <;> first | (simp [hget_cons]; done) | (simp only [LB, subS, subH, wfS, wfH, SV.ren, renL, SObj.ren, SV.wf, SObj.wf, wfL, SV.known, Nat.reduceEqDiff, ↓reduceIte, if_true, if_false, eq_self, Nat.reduceAdd, Nat.reduceLT, Nat.reduceLeDiff, implies_true, reduceCtorEq, forall_const]; done) | (simp [subS, subH, wfS, wfH, SV.ren, renL, SObj.ren, SV.wf, SObj.wf, wfL, sget_cons, hget_cons] <;> omega)
            · rintro ⟨⟨⟨b1, b2⟩, Hc, nc⟩, hSc, g1, g2, g3, g4, g5, g6⟩
              simp only at hSc g1 g2 g3 g4 g5 g6
              have lA : ((R2.drop (X * 4)).take 4).length = 4 := by rw [List.length_take, List.length_drop]; omega
              have lB : ((R2.drop (Y * 4)).take 4).length = 4 := by rw [List.length_take, List.length_drop]; omega
              have tA : ((R2.drop (X * 4)).take 4).take 4 = (R2.drop (X * 4)).take 4 := List.take_of_length_le (by omega)
              have tB : ((R2.drop (Y * 4)).take 4).take 4 = (R2.drop (Y * 4)).take 4 := List.take_of_length_le (by omega)
              have hrc := hSc.r
              have e1 : (b1 = n + 3) = False := by simp; omega
              simp -implicitDefEqProofs only [lk_normal, g1, g2, hrc, lb, lA, lB, tA, tB, x0, x6, x4, y0, y6, y4, e1, ZB, Int.reduceToNat, Nat.reduceLT, Nat.reduceLeDiff, Int.reduceLE, Int.reduceLT, Nat.reduceEqDiff, Nat.reduceSub, SB, SV.known, packR, ne_eq, reduceCtorEq, Nat.reduceEqDiff, ↓reduceIte, if_true, if_false, eq_self, Nat.reduceAdd, Nat.reduceMul, Nat.reduceSub, forall_const, oneCellS, litOne, flat1, Kd.isSca, flat, TYB]
              have hl4 : (R2.take (X * 4) ++ (R2.drop (Y * 4)).take 4 ++ R2.drop (X * 4 + 4)).length = 24 := by
                rw [List.length_append, List.length_append, List.length_take, List.length_drop, lB]; omega
              have hi4 : ∀ z ∈ R2.take (X * 4) ++ (R2.drop (Y * 4)).take 4 ++ R2.drop (X * 4 + 4), In64 z := fun z hz => by
                rcases List.mem_append.1 hz with hz | hz
                · rcases List.mem_append.1 hz with hz | hz
                  · exact hSb.i z (List.mem_of_mem_take hz)
                  · exact hSb.i z (List.mem_of_mem_drop (List.mem_of_mem_take hz))
                · exact hSb.i z (List.mem_of_mem_drop hz)
              have hSc1 := hSc.set hlt hl4 hi4
              generalize R2.take (X * 4) ++ (R2.drop (Y * 4)).take 4 ++ R2.drop (X * 4 + 4) = R4 at *
              have hl5 : (R4.take (Y * 4) ++ (R2.drop (X * 4)).take 4 ++ R4.drop (Y * 4 + 4)).length = 24 := by
                rw [List.length_append, List.length_append, List.length_take, List.length_drop, lA]; omega
              have hi5 : ∀ z ∈ R4.take (Y * 4) ++ (R2.drop (X * 4)).take 4 ++ R4.drop (Y * 4 + 4), In64 z := fun z hz => by
                rcases List.mem_append.1 hz with hz | hz
                · rcases List.mem_append.1 hz with hz | hz
                  · exact hi4 z (List.mem_of_mem_take hz)
                  · exact hSb.i z (List.mem_of_mem_drop (List.mem_of_mem_take hz))
                · exact hi4 z (List.mem_of_mem_drop hz)
              have hSd := hSc1.set hlt hl5 hi5
              generalize R4.take (Y * 4) ++ (R2.drop (X * 4)).take 4 ++ R4.drop (Y * 4 + 4) = R5 at *
              refine ⟨by omega, by omega, by omega, ?_⟩
              refine pick_use hSd.d hlt hm (by omega) fun w H7 hw0 hw1 hd7 hf7 => ?_
              have hS7 := hSd.draw hd7 hf7 (Nat.le_refl _)
              have hr7 := hS7.r
              have hz7 := hS7.z
              have l7 := hS7.l
              have tk7 : R5.take 24 = R5 := List.take_of_length_le (by omega)
              have fin : ∀ (R' : List Int) (k' : Nat) (H' : Heap) (n' : Nat), R'.length = 24 → (∀ x ∈ R', In64 x) → Drawn c kc a k' n H H' n' → n < n' → k' ≤ 1000 → ∃ R : List Int, R' = R ∧ R.length = 24 ∧ (∀ x ∈ R, In64 x) ∧ Drawn c kc a 1000 n H ((n, .ints R' 27) :: H') n' := fun R' k' H' n' h1 h2 h3 h4 h5 => ⟨R', rfl, h1, h2, (h3.more h5).putI hlt (Nat.le_refl _) h4⟩
              have hq7 := hS7.lt
              by_cases w0 : w = 0
              · have w0' : (w = 0) = True := eq_true w0
                simp -implicitDefEqProofs only [lk_normal, w0', ZB, Int.reduceToNat, Nat.reduceLT, Nat.reduceLeDiff, Int.reduceLE, Int.reduceLT, Nat.reduceEqDiff, Nat.reduceSub, SB, SV.known, packR, ne_eq, reduceCtorEq, Nat.reduceEqDiff, ↓reduceIte, if_true, if_false, eq_self, Nat.reduceAdd, Nat.reduceMul, Nat.reduceSub, forall_const, oneCellS, litOne, flat1, Kd.isSca, flat, TYB]
                refine ⟨{q : List Int × Heap × Nat // RkS c kc a n H (n + 3) q.1 300 q.2.1 q.2.2}, fun q => [(3, .ptr (n + 3) 0), (2, .ptr n 0)], fun q => q.1.2.1, fun q => q.1.2.2, ?_, ?_⟩
                · simp -implicitDefEqProofs only [ZB, Int.reduceToNat, Nat.reduceLT, Nat.reduceLeDiff, Int.reduceLE, Int.reduceLT, Nat.reduceEqDiff, Nat.reduceSub, SB, SV.known, packR, ne_eq, reduceCtorEq, Nat.reduceEqDiff, ↓reduceIte, if_true, if_false, eq_self, Nat.reduceAdd, Nat.reduceMul, Nat.reduceSub, forall_const, oneCellS, litOne, flat1, Kd.isSca, flat, TYB]
                  refine ⟨?_, ?_⟩
                  · refine pick_use hS7.d hlt hm (by omega) fun x H8 g0 g1 hd8 hf8 => ?_
                    have hS8 := hS7.draw hd8 hf8 (Nat.le_refl _)
                    obtain ⟨X, rfl⟩ : ∃ X : Nat, x = X := ⟨x.toNat, by omega⟩
                    have x6 : (X : Int) < 6 := by omega
                    simp -implicitDefEqProofs only [x6, g0, ZB, Int.reduceToNat, Nat.reduceLT, Nat.reduceLeDiff, Int.reduceLE, Int.reduceLT, Nat.reduceEqDiff, Nat.reduceSub, SB, SV.known, packR, ne_eq, reduceCtorEq, Nat.reduceEqDiff, ↓reduceIte, if_true, if_false, eq_self, Nat.reduceAdd, Nat.reduceMul, Nat.reduceSub, forall_const, oneCellS, litOne, flat1, Kd.isSca, flat, TYB]
                    refine ⟨?_, ?_⟩
                    · refine pick_use hS8.d hlt hm (by omega) fun y H9 k0 k1 hd9 hf9 => ?_
                      have hS9 := hS8.draw hd9 hf9 (Nat.le_refl _)
                      simp -implicitDefEqProofs only [ZB, Int.reduceToNat, Nat.reduceLT, Nat.reduceLeDiff, Int.reduceLE, Int.reduceLT, Nat.reduceEqDiff, Nat.reduceSub, SB, SV.known, packR, ne_eq, reduceCtorEq, Nat.reduceEqDiff, ↓reduceIte, if_true, if_false, eq_self, Nat.reduceAdd, Nat.reduceMul, Nat.reduceSub, forall_const, oneCellS, litOne, flat1, Kd.isSca, flat, TYB]
                      refine among_use (hS9.d.pushI hlt) hlt hm (by omega) (L := [-1, 6, 4611686018427387904]) (by simp [hget_cons]; rfl) (by omega) (by simp) fun z Hz hzl hdz hfz => ?_
                      have hSz := (hS9.pushI hlt).draw hdz hfz (Nat.le_refl _)
                      obtain ⟨Y, rfl⟩ : ∃ Y : Nat, y = Y := ⟨y.toNat, by omega⟩
                      have y4 : (Y : Int) < 4 := by omega
                      have xy : X * 4 + Y < 24 := by omega
                      have hz : In64 z := by simp at hzl; unfold In64; omega
                      have hrz := hSz.r
                      have lz := hSz.l
                      have hqz := hSz.lt
                      have hSw := (hSz.set hlt (R' := R5.set (X * 4 + Y) z) (by rw [List.length_set]; exact lz) (in64_set hSz.i hz)).more (k' := 300) (by omega)
                      simp -implicitDefEqProofs only [lk_normal, hrz, lz, x6, y4, xy, g0, k0, ZB, Int.reduceToNat, Nat.reduceLT, Nat.reduceLeDiff, Int.reduceLE, Int.reduceLT, Nat.reduceEqDiff, Nat.reduceSub, SB, SV.known, packR, ne_eq, reduceCtorEq, Nat.reduceEqDiff, ↓reduceIte, if_true, if_false, eq_self, Nat.reduceAdd, Nat.reduceMul, Nat.reduceSub, forall_const, oneCellS, litOne, flat1, Kd.isSca, flat, TYB]
                      exact ⟨by omega, ⟨(R5.set (X * 4 + Y) z, _, _), hSw⟩, Sub.same (by simp only [LB, subS, subH, wfS, wfH, SV.ren, renL, SObj.ren, SV.wf, SObj.wf, wfL, SV.known, Nat.reduceEqDiff, ↓reduceIte, if_true, if_false, eq_self, Nat.reduceAdd, Nat.reduceLT, Nat.reduceLeDiff, implies_true, reduceCtorEq, forall_const]; try rfl) (by simp [subS, subH, wfS, wfH, SV.ren, renL, SObj.ren, SV.wf, SObj.wf, wfL, sget_cons, hget_cons] <;> omega) hSw.d.wf hSw.d.le⟩
                    · refine pick_use (hS8.pushI hlt).d hlt hm (by omega) fun y H9 k0 k1 hd9 hf9 => ?_
                      have hS9 := (hS8.pushI hlt).draw hd9 hf9 (Nat.le_refl _)
                      simp -implicitDefEqProofs only [ZB, Int.reduceToNat, Nat.reduceLT, Nat.reduceLeDiff, Int.reduceLE, Int.reduceLT, Nat.reduceEqDiff, Nat.reduceSub, SB, SV.known, packR, ne_eq, reduceCtorEq, Nat.reduceEqDiff, ↓reduceIte, if_true, if_false, eq_self, Nat.reduceAdd, Nat.reduceMul, Nat.reduceSub, forall_const, oneCellS, litOne, flat1, Kd.isSca, flat, TYB]
                      refine among_use hS9.d hlt hm (by omega) (L := [-1, 6, 4611686018427387904]) (hf9.use (by omega) (by omega) (by simp [hget_cons]; rfl)) (by omega) (by simp) fun z Hz hzl hdz hfz => ?_
                      have hSz := hS9.draw hdz hfz (Nat.le_refl _)
                      obtain ⟨Y, rfl⟩ : ∃ Y : Nat, y = Y := ⟨y.toNat, by omega⟩
                      have y4 : (Y : Int) < 4 := by omega
                      have xy : X * 4 + Y < 24 := by omega
                      have hz : In64 z := by simp at hzl; unfold In64; omega
                      have hrz := hSz.r
                      have lz := hSz.l
                      have hqz := hSz.lt
                      have hSw := (hSz.set hlt (R' := R5.set (X * 4 + Y) z) (by rw [List.length_set]; exact lz) (in64_set hSz.i hz)).more (k' := 300) (by omega)
                      simp -implicitDefEqProofs only [lk_normal, hrz, lz, x6, y4, xy, g0, k0, ZB, Int.reduceToNat, Nat.reduceLT, Nat.reduceLeDiff, Int.reduceLE, Int.reduceLT, Nat.reduceEqDiff, Nat.reduceSub, SB, SV.known, packR, ne_eq, reduceCtorEq, Nat.reduceEqDiff, ↓reduceIte, if_true, if_false, eq_self, Nat.reduceAdd, Nat.reduceMul, Nat.reduceSub, forall_const, oneCellS, litOne, flat1, Kd.isSca, flat, TYB]
                      exact ⟨by omega, ⟨(R5.set (X * 4 + Y) z, _, _), hSw⟩, Sub.same (by simp only [LB, subS, subH, wfS, wfH, SV.ren, renL, SObj.ren, SV.wf, SObj.wf, wfL, SV.known, Nat.reduceEqDiff, ↓reduceIte, if_true, if_false, eq_self, Nat.reduceAdd, Nat.reduceLT, Nat.reduceLeDiff, implies_true, reduceCtorEq, forall_const]; try rfl) (by simp [subS, subH, wfS, wfH, SV.ren, renL, SObj.ren, SV.wf, SObj.wf, wfL, sget_cons, hget_cons] <;> omega) hSw.d.wf hSw.d.le⟩
                  · refine pick_use (hS7.pushI hlt).d hlt hm (by omega) fun x H8 g0 g1 hd8 hf8 => ?_
                    have hS8 := (hS7.pushI hlt).draw hd8 hf8 (Nat.le_refl _)
                    have hb8 := hf8.use (by omega) (by omega) (show hget _ nc = some (.ints [-1, 6, 4611686018427387904] 3) by simp [hget_cons])
                    obtain ⟨X, rfl⟩ : ∃ X : Nat, x = X := ⟨x.toNat, by omega⟩
                    have x6 : (X : Int) < 6 := by omega
                    simp -implicitDefEqProofs only [x6, g0, ZB, Int.reduceToNat, Nat.reduceLT, Nat.reduceLeDiff, Int.reduceLE, Int.reduceLT, Nat.reduceEqDiff, Nat.reduceSub, SB, SV.known, packR, ne_eq, reduceCtorEq, Nat.reduceEqDiff, ↓reduceIte, if_true, if_false, eq_self, Nat.reduceAdd, Nat.reduceMul, Nat.reduceSub, forall_const, oneCellS, litOne, flat1, Kd.isSca, flat, TYB]
                    refine pick_use hS8.d hlt hm (by omega) fun y H9 k0 k1 hd9 hf9 => ?_
                    have hS9 := hS8.draw hd9 hf9 (Nat.le_refl _)
                    simp -implicitDefEqProofs only [ZB, Int.reduceToNat, Nat.reduceLT, Nat.reduceLeDiff, Int.reduceLE, Int.reduceLT, Nat.reduceEqDiff, Nat.reduceSub, SB, SV.known, packR, ne_eq, reduceCtorEq, Nat.reduceEqDiff, ↓reduceIte, if_true, if_false, eq_self, Nat.reduceAdd, Nat.reduceMul, Nat.reduceSub, forall_const, oneCellS, litOne, flat1, Kd.isSca, flat, TYB]
                    refine among_use hS9.d hlt hm (by omega) (L := [-1, 6, 4611686018427387904]) (hf9.use (by omega) (by omega) hb8) (by omega) (by simp) fun z Hz hzl hdz hfz => ?_
                    have hSz := hS9.draw hdz hfz (Nat.le_refl _)
                    obtain ⟨Y, rfl⟩ : ∃ Y : Nat, y = Y := ⟨y.toNat, by omega⟩
                    have y4 : (Y : Int) < 4 := by omega
                    have xy : X * 4 + Y < 24 := by omega
                    have hz : In64 z := by simp at hzl; unfold In64; omega
                    have hrz := hSz.r
                    have lz := hSz.l
                    have hqz := hSz.lt
                    have hSw := (hSz.set hlt (R' := R5.set (X * 4 + Y) z) (by rw [List.length_set]; exact lz) (in64_set hSz.i hz)).more (k' := 300) (by omega)
                    simp -implicitDefEqProofs only [lk_normal, hrz, lz, x6, y4, xy, g0, k0, ZB, Int.reduceToNat, Nat.reduceLT, Nat.reduceLeDiff, Int.reduceLE, Int.reduceLT, Nat.reduceEqDiff, Nat.reduceSub, SB, SV.known, packR, ne_eq, reduceCtorEq, Nat.reduceEqDiff, ↓reduceIte, if_true, if_false, eq_self, Nat.reduceAdd, Nat.reduceMul, Nat.reduceSub, forall_const, oneCellS, litOne, flat1, Kd.isSca, flat, TYB]
                    exact ⟨by omega, ⟨(R5.set (X * 4 + Y) z, _, _), hSw⟩, Sub.same (by simp only [LB, subS, subH, wfS, wfH, SV.ren, renL, SObj.ren, SV.wf, SObj.wf, wfL, SV.known, Nat.reduceEqDiff, ↓reduceIte, if_true, if_false, eq_self, Nat.reduceAdd, Nat.reduceLT, Nat.reduceLeDiff, implies_true, reduceCtorEq, forall_const]; try rfl) (by simp [subS, subH, wfS, wfH, SV.ren, renL, SObj.ren, SV.wf, SObj.wf, wfL, sget_cons, hget_cons] <;> omega) hSw.d.wf hSw.d.le⟩
                · rintro ⟨⟨R9, H9, n9⟩, hS9⟩
                  simp only at hS9
                  have hr9 := hS9.r
                  have l9 := hS9.l
                  have hz9 := hS9.z
                  have hq9 := hS9.lt
                  have tk9 : R9.take 24 = R9 := List.take_of_length_le (by omega)
                  simp -implicitDefEqProofs only [lk_normal, hr9, hz9, l9, tk9, ZB, Int.reduceToNat, Nat.reduceLT, Nat.reduceLeDiff, Int.reduceLE, Int.reduceLT, Nat.reduceEqDiff, Nat.reduceSub, SB, SV.known, packR, ne_eq, reduceCtorEq, Nat.reduceEqDiff, ↓reduceIte, if_true, if_false, eq_self, Nat.reduceAdd, Nat.reduceMul, Nat.reduceSub, forall_const, oneCellS, litOne, flat1, Kd.isSca, flat, TYB]
                  exact ⟨hmn, fin R9 _ H9 n9 hS9.l hS9.i hS9.d (by omega) (by omega)⟩
              by_cases w1 : w = 1
              · have w1' : (w = 1) = True := eq_true w1
                simp -implicitDefEqProofs only [lk_normal, w0, w1', ZB, Int.reduceToNat, Nat.reduceLT, Nat.reduceLeDiff, Int.reduceLE, Int.reduceLT, Nat.reduceEqDiff, Nat.reduceSub, SB, SV.known, packR, ne_eq, reduceCtorEq, Nat.reduceEqDiff, ↓reduceIte, if_true, if_false, eq_self, Nat.reduceAdd, Nat.reduceMul, Nat.reduceSub, forall_const, oneCellS, litOne, flat1, Kd.isSca, flat, TYB]
                refine pick_use hS7.d hlt hm (by omega) fun x H8 g0 g1 hd8 hf8 => ?_
                have hS8 := hS7.draw hd8 hf8 (Nat.le_refl _)
                have hr8 := hS8.r
                have l8 := hS8.l
                have hz8 := hS8.z
                have hq8 := hS8.lt
                obtain ⟨X, rfl⟩ : ∃ X : Nat, x = X := ⟨x.toNat, by omega⟩
                have x6 : (X : Int) < 6 := by omega
                have x4 : X * 4 + 4 ≤ 24 := by omega
                let V : List Int := ((((List.replicate 4 (0 : Int)).set 0 0).set 1 1).set 2 0).set 3 0
                have e3 : (n = n + 3) = False := by simp
                have lV : V.length = 4 := rfl
                have eV : (((((List.replicate 4 (0 : Int)).set 0 0).set 1 1).set 2 0).set 3 0) = V := rfl
                have hRl : (R5.take (X * 4) ++ V ++ R5.drop (X * 4 + 4)).length = 24 := by
                  rw [List.length_append, List.length_append, List.length_take, List.length_drop, lV]; omega
                have hRi : ∀ y ∈ R5.take (X * 4) ++ V ++ R5.drop (X * 4 + 4), In64 y := fun y hy => by
                  rcases List.mem_append.1 hy with hy | hy
                  · rcases List.mem_append.1 hy with hy | hy
                    · exact hS8.i y (List.mem_of_mem_take hy)
                    · have hy' : y ∈ ([0, 1, 0, 0] : List Int) := hy
                      simp at hy'; unfold In64; omega
                  · exact hS8.i y (List.mem_of_mem_drop hy)
                have hS9 := hS8.set hlt hRl hRi
                have tk8 : (R5.take (X * 4) ++ V ++ R5.drop (X * 4 + 4)).take 24 = R5.take (X * 4) ++ V ++ R5.drop (X * 4 + 4) := List.take_of_length_le (by omega)
                simp -implicitDefEqProofs only [lk_normal, hr8, l8, hz8, x6, x4, g0, eV, lV, tk8, hRl, e3, ZB, Int.reduceToNat, Nat.reduceLT, Nat.reduceLeDiff, Int.reduceLE, Int.reduceLT, Nat.reduceEqDiff, Nat.reduceSub, SB, SV.known, packR, ne_eq, reduceCtorEq, Nat.reduceEqDiff, ↓reduceIte, if_true, if_false, eq_self, Nat.reduceAdd, Nat.reduceMul, Nat.reduceSub, forall_const, oneCellS, litOne, flat1, Kd.isSca, flat, TYB]
                exact ⟨by omega, hmn, fin _ _ _ nc hRl hRi hS9.d (by omega) (by omega)⟩
              by_cases w2 : w = 2
              · have w2' : (w = 2) = True := eq_true w2
                simp -implicitDefEqProofs only [lk_normal, hz7, w0, w1, w2', ZB, Int.reduceToNat, Nat.reduceLT, Nat.reduceLeDiff, Int.reduceLE, Int.reduceLT, Nat.reduceEqDiff, Nat.reduceSub, SB, SV.known, packR, ne_eq, reduceCtorEq, Nat.reduceEqDiff, ↓reduceIte, if_true, if_false, eq_self, Nat.reduceAdd, Nat.reduceMul, Nat.reduceSub, forall_const, oneCellS, litOne, flat1, Kd.isSca, flat, TYB]
                exact ⟨hmn, fin (List.replicate 24 0) _ H7 nc (by simp) (fun x hx => by rw [List.eq_of_mem_replicate hx]; simp [In64]) hS7.d (by omega) (by omega)⟩
              · simp -implicitDefEqProofs only [lk_normal, hr7, hz7, l7, tk7, w0, w1, w2, ZB, Int.reduceToNat, Nat.reduceLT, Nat.reduceLeDiff, Int.reduceLE, Int.reduceLT, Nat.reduceEqDiff, Nat.reduceSub, SB, SV.known, packR, ne_eq, reduceCtorEq, Nat.reduceEqDiff, ↓reduceIte, if_true, if_false, eq_self, Nat.reduceAdd, Nat.reduceMul, Nat.reduceSub, forall_const, oneCellS, litOne, flat1, Kd.isSca, flat, TYB]
                exact ⟨hmn, fin R5 _ H7 nc l7 hS7.i hS7.d (by omega) (by omega)⟩
def rack_F : List SV → Heap → Nat → Nat → K1 → Prop
  | [.ptr c 0], H, n, m, κ => ∃ kc a, CurH c kc a H ∧ m ≤ c ∧ m ≤ n ∧ a ≤ 990000 ∧ ∀ (R : List Int) H' n', R.length = 24 → (∀ x ∈ R, In64 x) → Drawn c kc a 1000 n H H' n' → κ (.arr R) H' n'
  | _, _, _, _, _ => False
theorem rack_T : ∀ args H n m κ, rack_F args H n m κ → GenOK Try.prog 100 args H n m κ := by
  intro args H n m κ h
  unfold rack_F at h
  split at h
  · rename_i c
    obtain ⟨kc, a, hC, hm, hmn, ha, h1⟩ := h
    exact gen_direct (X := ⟨Try.prog, tys, [], [(61, pick_F), (60, one_F), (62, among_F)], true, true, m, [61, 60, 62], [(21, .tree (.one 0 (.one 1 (.one 2 (.one 3 (.one 4 (.one 5 (.one 6 (.alt 7 (.alt 8 (.one 9 (.one 10 (.one 11 .done))) (.alt 9 (.one 8 (.one 10 (.one 11 .done))) .stop)) (.alt 8 (.alt 7 (.one 9 (.one 10 (.one 11 .done))) (.alt 9 (.alt 7 (.one 10 (.one 11 .done)) (.alt 10 (.one 7 (.one 11 .done)) .stop)) .stop)) (.alt 9 (.alt 7 (.one 8 (.one 10 (.one 11 .done))) (.alt 8 (.alt 7 (.one 10 (.one 11 .done)) (.alt 10 (.one 7 (.one 11 .done)) .stop)) .stop)) .stop))))))))))), (26, .tree (.one 0 (.one 2 (.one 4 (.one 7 (.alt 1 (.one 8 (.alt 3 (.one 5 (.one 6 (.one 9 (.one 10 .done)))) (.alt 5 (.one 3 (.one 6 (.one 9 (.one 10 .done)))) .stop))) (.alt 5 (.one 1 (.one 3 (.one 6 (.one 8 (.one 9 (.one 10 .done)))))) .stop)))))))]⟩) fnx_rack ⟨tys_ok, .nil, .cons pick_T (.cons one_T (.cons among_T .nil)), mixed⟩ rfl (Nat.le_of_ble_eq_true rfl) (fun hwH hwa => rack_vc c kc a m n H hC hm hmn ha hwH) fun hwH v H' n' hψ h3 h4 h5 => by
      obtain ⟨R, rfl, g1, g2, g3⟩ := hψ
      exact h1 R H' n' g1 g2 g3
  · exact h.elim
theorem rack_use {c kc a k n0 n m : Nat} {H0 H : Heap} {κ : K1} (h : Drawn c kc a k n0 H0 H n) (hc : c < n0 ∧ kc < n0 ∧ kc ≠ c) (hm : m ≤ c) (hmn : m ≤ n) (ha : a + k ≤ 990000)
    (hκ : ∀ (R : List Int) H' n', R.length = 24 → (∀ x ∈ R, In64 x) → Drawn c kc a (k + 1000) n0 H0 H' n' → n ≤ n' → Fr n0 n H H' → κ (.arr R) H' n') : rack_F [.ptr c 0] H n m κ := by
  obtain ⟨b', g1, g2, g3⟩ := h.cur
  exact ⟨kc, b', g3, hm, hmn, by omega, fun R H' n' h1 h2 hd => hκ R H' n' h1 h2 (h.trans hd g2 g1) hd.le (hd.own hc.1)⟩
/-- The bytes that a law is given. -/
def BytA (v : SV) (H : Heap) : Prop := v = .nils ∨ ∃ (kc off len cap : Nat) (L : List Int), v = .slice kc off len cap ∧ hget H kc = some (.winU off L) ∧ L.length = len ∧ len ≤ 1000000000 ∧ ∀ x ∈ L, 0 ≤ x ∧ x ≤ 255
theorem BytA.put {v : SV} {H : Heap} {n k : Nat} (h : BytA v H) (hw : hwf n H) (hk : n ≤ k) (o : SObj) : BytA v ((k, o) :: H) := by
  rcases h with rfl | ⟨kc, off, len, cap, L, rfl, h, h2⟩
  · exact .inl rfl
  · have := (hw _ _ h).1
    exact .inr ⟨kc, off, len, cap, L, rfl, by rw [hget_cons, if_neg (by omega)]; exact h, h2⟩
theorem BytA.at {v : SV} {H : Heap} {n k : Nat} (h : BytA v H) (hw : hwf n H) (hk : k < n) (hx : ∃ o, hget H k = some o) : ∃ kc, kc < n ∧ BytV kc v H := by
  rcases h with rfl | ⟨kc, off, len, cap, L, rfl, h, h2⟩
  · exact ⟨k, hk, .inl ⟨rfl, hx⟩⟩
  · exact ⟨kc, (hw _ _ h).1, .inr ⟨off, len, cap, L, rfl, h, h2⟩⟩
/-- What a drawing function leaves: nothing that is not its own has changed. -/
structure Kpt (n : Nat) (H H' : Heap) (n' : Nat) : Prop where
  le : n ≤ n'
  wf : hwf n' H'
  fr : ∀ i o, i < n → hget H i = some o → hget H' i = some o
theorem Kpt.under {n n' k : Nat} {H H' : Heap} {o : SObj} (h : Kpt k ((n, o) :: H) H' n') (hn : n < k) : ∀ i o, i < n → hget H i = some o → hget H' i = some o := fun i o' hi ho => h.fr i o' (by omega) (by rw [hget_cons, if_neg (by omega)]; exact ho)
end Go.Proofs.Ytckcojgfgcjamaa
set_option maxRecDepth 100000
set_option linter.unusedSimpArgs false
set_option linter.unusedVariables false
namespace Go.Proofs.Ytckcojgfgcjamaa
open Go Go.RowKit
--@tbl small3 = (*spec.l1Cur).small3
end Go.Proofs.Ytckcojgfgcjamaa
set_option maxRecDepth 100000
set_option linter.unusedSimpArgs false
set_option linter.unusedVariables false
namespace Go.Proofs.Ytckcojgfgcjamaa
open Go Go.RowKit
/-- A rack of one's own, behind all draws. -/
structure SrS (n : Nat) (H : Heap) (b : Nat) (R : List Int) (H' : Heap) (n' : Nat) : Prop where
  lt : n < b ∧ b < n'
  wf : hwf n' H'
  r : hget H' b = some (.ints R 27)
  l : R.length = 24
  i : ∀ x ∈ R, In64 x
  z : hget H' n = some (.ints (List.replicate 24 0) 27)
  fr : ∀ i o, i < n → hget H i = some o → hget H' i = some o
theorem SrS.set {n b n' : Nat} {H H' : Heap} {R R' : List Int} (h : SrS n H b R H' n') (hl : R'.length = 24) (hi : ∀ x ∈ R', In64 x) : SrS n H b R' ((b, .ints R' 27) :: H') n' :=
  ⟨h.lt, hwf_cons h.wf h.lt.2 trivial, by simp [hget_cons], hl, hi, by rw [hget_cons, if_neg (Nat.ne_of_lt h.lt.1)]; exact h.z, fun i o hin ho => by
    rw [hget_cons, if_neg (by have := h.lt.1; omega)]
    exact h.fr i o hin ho⟩
end Go.Proofs.Ytckcojgfgcjamaa
set_option maxRecDepth 100000
set_option linter.unusedSimpArgs false
set_option linter.unusedVariables false
namespace Go.Proofs.Ytckcojgfgcjamaa
open Go Go.RowKit
/-- May so many layers be poured back? -/
def bk1 (R : List Int) (i j m : Int) : Bool := plF i && plF j && !decide (i = j) && decide (1 ≤ m ∧ m ≤ min (topF (tubeAt R j.toNat)).2 (4 - (layN (tubeAt R i.toNat) : Int)))
def bkR (R : List Int) (i j m : Int) : List Int := pmR R j.toNat i.toNat m.toNat
def bk2 (R : List Int) (i j m : Int) : Bool := bk1 R i j m && canF (bkR R i j m) i j
def bkB (R : List Int) (i j m : Int) : Bool := bk2 R i j m && decide (pourF (bkR R i j m) i.toNat j.toNat = R) && decide (pmN (bkR R i j m) i.toNat j.toNat = m)
def bkT (R : List Int) (i j m : Int) : List Int := if bkB R i j m = true then bkR R i j m else List.replicate 24 0
end Go.Proofs.Ytckcojgfgcjamaa
set_option maxRecDepth 100000
set_option linter.unusedSimpArgs false
set_option linter.unusedVariables false
namespace Go.Proofs.Ytckcojgfgcjamaa
open Go Go.RowKit
end Go.Proofs.Ytckcojgfgcjamaa
set_option maxRecDepth 100000
set_option linter.unusedSimpArgs false
set_option linter.unusedVariables false
namespace Go.Proofs.Ytckcojgfgcjamaa
open Go Go.RowKit
--@tbl eqSource = laws.eqSource
--@tbl eqS3 = laws.eqSourceS
/-! Marks. -/
--@tbl mark3 = laws.markSourceS
--@tbl held3 = laws.heldSourceS
end Go.Proofs.Ytckcojgfgcjamaa
set_option maxRecDepth 100000
set_option linter.unusedSimpArgs false
set_option linter.unusedVariables false
namespace Go.Proofs.Ytckcojgfgcjamaa
open Go Go.RowKit
--@tbl toIntA2 = laws.toIntA2
end Go.Proofs.Ytckcojgfgcjamaa
set_option maxRecDepth 100000
set_option linter.unusedSimpArgs false
set_option linter.unusedVariables false
namespace Go.Proofs.Ytckcojgfgcjamaa
open Go Go.RowKit
/-! Moved layers. -/
end Go.Proofs.Ytckcojgfgcjamaa
set_option maxRecDepth 100000
set_option linter.unusedSimpArgs false
set_option linter.unusedVariables false
namespace Go.Proofs.Ytckcojgfgcjamaa
open Go Go.RowKit
/-! CountRules. -/
end Go.Proofs.Ytckcojgfgcjamaa
set_option maxRecDepth 100000
set_option linter.unusedSimpArgs false
set_option linter.unusedVariables false
namespace Go.Proofs.Ytckcojgfgcjamaa
open Go Go.RowKit
/-! DeleteFunc with a closure over a rack and depths. -/
/-! The lists. -/
end Go.Proofs.Ytckcojgfgcjamaa
set_option maxRecDepth 100000
set_option linter.unusedSimpArgs false
set_option linter.unusedVariables false
namespace Go.Proofs.Ytckcojgfgcjamaa
open Go Go.RowKit
def goodF (R p : List Int) : Bool := decide (bndF (pourF R (p.getD 0 0).toNat (p.getD 1 0).toNat) < bndF R)
def gdL (R : List Int) : List Int := kept (fun p => goodF R p) (PL R 36) ((PL R 36).length / 2)
end Go.Proofs.Ytckcojgfgcjamaa
set_option maxRecDepth 100000
set_option linter.unusedSimpArgs false
set_option linter.unusedVariables false
namespace Go.Proofs.Ytckcojgfgcjamaa
open Go Go.RowKit
def stR (R : List Int) : List Int := if gdL R = [] then R else pourF R ((gdL R).getD 0 0).toNat ((gdL R).getD 1 0).toNat
def gpR (R : List Int) : Nat → List Int
  | 0 => R
  | n + 1 => stR (gpR R n)
def gpL (R : List Int) : Nat → List Int
  | 0 => []
  | n + 1 => gpL R n ++ (gdL (gpR R n)).take 2
attribute [local irreducible] gpR gpL gdL pourF bndF canF goodF
end Go.Proofs.Ytckcojgfgcjamaa
set_option maxRecDepth 100000
set_option linter.unusedSimpArgs false
set_option linter.unusedVariables false
namespace Go.Proofs.Ytckcojgfgcjamaa
open Go Go.RowKit
def cppB (R : List Int) (i j : Int) : Bool := plF i && plF j && canF R i j
attribute [local irreducible] pourF bndF canF goodF cppB
end Go.Proofs.Ytckcojgfgcjamaa
set_option maxRecDepth 100000
set_option linter.unusedSimpArgs false
set_option linter.unusedVariables false
namespace Go.Proofs.Ytckcojgfgcjamaa
open Go Go.RowKit
attribute [local irreducible] bkR bkB bk2 bkT --@tbl PourBacks = impl.PourBacks --@tbl sPourBacks = spec.PourBacks
end Go.Proofs.Ytckcojgfgcjamaa
set_option maxRecDepth 100000
set_option linter.unusedSimpArgs false
set_option linter.unusedVariables false
namespace Go.Proofs.Ytckcojgfgcjamaa
open Go Go.RowKit
--@tbl eqS1 = laws.eqIntS
/-! Marks. -/
--@tbl mark1 = laws.markIntS
--@tbl held1 = laws.heldIntS
end Go.Proofs.Ytckcojgfgcjamaa
set_option maxRecDepth 100000
set_option linter.unusedSimpArgs false
set_option linter.unusedVariables false
namespace Go.Proofs.Ytckcojgfgcjamaa
open Go Go.RowKit
theorem FreshP.sub {P : Program} {f : FuncId} {args : List SV} {H0 H : Heap} {L : List Int} {len es e : Nat} {nl : Bool} {wr : Wrap} (h : FreshP P f args H0 L len es e nl wr) (ρ : Nat → Nat) (hs : subHs ρ 0 H H0) (hi : injOn ρ (H0.map (·.1))) : FreshP P f (renL ρ args) H L len es e nl wr := by
  refine ⟨h.ent, h.ok, fun B w hH => ?_⟩
  have := h.call (fun k => B (ρ k)) w ⟨fun k o hl hk => ?_, fun k j o o' g1 g2 g3 g4 he => ?_⟩
  · rw [denL_ren]
    refine this.mono fun r w' ⟨h1, h2⟩ => ⟨h1, h2.imp (fun ⟨a, b, c⟩ => ⟨a, b, c.trans (congrArg Ending.returned (Wrap.den_eq h.ok rfl))⟩) id⟩
  · obtain ⟨e1, _, _⟩ := hs k o hl
    have := hH.at_ _ _ e1 (by rw [SObj.live_ren]; exact hk)
    rw [SObj.sat_ren] at this
    exact this
  · obtain ⟨e1, _, m1⟩ := hs k o g1
    obtain ⟨e2, _, m2⟩ := hs j o' g3
    exact hi k m1 j m2 (hH.inj _ _ _ _ e1 (by rw [SObj.live_ren]; exact g2) e2 (by rw [SObj.live_ren]; exact g4) he)
theorem FreshP.one {P : Program} {f : FuncId} {args : List SV} {H : Heap} {o : SObj} {b : Nat} {L : List Int} {len es e : Nat} {nl : Bool} {wr : Wrap} (h : FreshP P f args [(0, o)] L len es e nl wr) (hb : hget H b = some o) (ho : o.ren (fun _ => b) = o) : FreshP P f (renL (fun _ => b) args) H L len es e nl wr :=
  h.sub (fun _ => b) (fun j o' hj => by
    rw [hget_cons] at hj
    split at hj
    · cases hj; exact ⟨by rw [ho]; exact hb, fun _ => by omega, by simp [*]⟩
    · cases hj) (fun a ha c hc _ => by simp at ha hc; omega)
attribute [local irreducible] pourF bndF canF goodF cppB --@tbl BoundsAlong = impl.BoundsAlong --@tbl sBoundsAlong = spec.BoundsAlong
end Go.Proofs.Ytckcojgfgcjamaa
set_option maxRecDepth 100000
set_option linter.unusedSimpArgs false
set_option linter.unusedVariables false
namespace Go.Proofs.Ytckcojgfgcjamaa
open Go Go.RowKit
theorem BytA.oc {v : SV} {H : Heap} (h : BytA v H) : oneCellS v = true ∧ v.known = true := by
  rcases h with rfl | ⟨kc, off, len, cap, L, rfl, _⟩ <;> exact ⟨rfl, rfl⟩
theorem BytA.wfv {v : SV} {H : Heap} {n : Nat} (h : BytA v H) (hw : hwf n H) : v.wf n := by
  rcases h with rfl | ⟨kc, off, len, cap, L, rfl, h, _⟩
  · trivial
  · exact (hw _ _ h).1
/-- A cursor just made. -/
theorem cur_new {cv : SV} {H : Heap} {n k : Nat} (hB : BytA cv H) (hw : hwf n H) (hk : k < n) (hx : ∃ o, hget H k = some o) :
    ∃ kc, (n < n + 1 ∧ kc < n + 1 ∧ kc ≠ n) ∧ Drawn n kc 0 0 (n + 1) ((n, .cells [cv, .int 0, .lit (.int .u64 0)] 80) :: H) ((n, .cells [cv, .int 0, .lit (.int .u64 0)] 80) :: H) (n + 1) := by
  obtain ⟨kc, hkn, hBv⟩ := hB.at hw hk hx
  have hw1 : hwf (n + 1) ((n, .cells [cv, .int 0, .lit (.int .u64 0)] 80) :: H) := hwf_cons (hwf_mono (by omega) hw) (by omega) (by
    simp [SObj.wf, wfL, SV.wf]; exact SV.wf_mono (show n ≤ n + 1 by omega) cv (hB.wfv hw))
  refine ⟨kc, by omega, Drawn.start ⟨cv, 0, by simp [hget_cons], hBv.at (fun o ho => by rw [hget_cons, if_neg (show ¬ kc = n by omega)]; exact ho), by omega⟩ hw1⟩
theorem BytA.fr {cv : SV} {H H' : Heap} {n : Nat} (hB : BytA cv H) (hw : hwf n H) (h : ∀ i o, i < n → hget H i = some o → hget H' i = some o) : BytA cv H' := by
  rcases hB with rfl | ⟨kc, off, len, cap, L, rfl, h1, h2⟩
  · exact .inl rfl
  · exact .inr ⟨kc, off, len, cap, L, rfl, h _ _ (hw _ _ h1).1 h1, h2⟩
/-! Paths. -/
/-- A path that is being drawn. -/
structure PtS (c kc a n : Nat) (H : Heap) (b len cap : Nat) (M Q : List Int) (k : Nat) (H' : Heap) (n' : Nat) : Prop where
  d : Drawn c kc a k n H H' n'
  lt : n < b ∧ b < n'
  o : hget H' b = some (.ints M 47)
  ml : M.length = cap * 2
  lc : len ≤ cap
  r : hget H' n = some (.ints Q 27)
  l : Q.length = 24
  v : rackB Q = true
structure PthR (H : Heap) (n : Nat) (p : Nat × Nat × Nat × List Int × Heap × Nat) : Prop where
  b : n + 2 ≤ p.1 ∧ p.1 < p.2.2.2.2.2
  o : hget p.2.2.2.2.1 p.1 = some (.ints p.2.2.2.1 47)
  l : p.2.1 * 2 ≤ p.2.2.2.1.length ∧ p.2.1 ≤ 61
  w : hwf p.2.2.2.2.2 p.2.2.2.2.1
  f : ∀ i o, i < n → hget H i = some o → hget p.2.2.2.2.1 i = some o
  z : hget p.2.2.2.2.1 n = some (.ints (List.replicate 24 0) 27)
--@tbl DrawIsGoodPath = spec.DrawIsGoodPath
end Go.Proofs.Ytckcojgfgcjamaa
set_option maxRecDepth 100000
set_option linter.unusedSimpArgs false
set_option linter.unusedVariables false
namespace Go.Proofs.Ytckcojgfgcjamaa
open Go Go.RowKit
--@tbl DrawFormOf = spec.DrawFormOf
end Go.Proofs.Ytckcojgfgcjamaa
set_option maxRecDepth 100000
set_option linter.unusedSimpArgs false
set_option linter.unusedVariables false
namespace Go.Proofs.Ytckcojgfgcjamaa
open Go Go.RowKit
def lexC : List Int → List Int → Int
  | a :: A, b :: B => if a < b then -1 else if b < a then 1 else lexC A B
  | _, _ => 0
/-! The order. -/
theorem lexC_refl : ∀ x : List Int, lexC x x = 0
  | [] => rfl
  | a :: A => by
    show (if a < a then -1 else if a < a then 1 else lexC A A) = 0
    rw [if_neg (by omega), if_neg (by omega), lexC_refl A]
theorem lexC_lt {a b : Int} {A B : List Int} : lexC (a :: A) (b :: B) < 0 ↔ a < b ∨ (a = b ∧ lexC A B < 0) := by
  show (if a < b then -1 else if b < a then 1 else lexC A B) < 0 ↔ _
  split
  · rename_i h; simp [h]
  · split
    · rename_i h1 h2; constructor
      · intro h; omega
      · rintro (h | ⟨h, _⟩) <;> omega
    · rename_i h1 h2
      have : a = b := by omega
      simp [this]
theorem lexC_trans : ∀ {x y z : List Int}, x.length = y.length → y.length = z.length → lexC x y < 0 → lexC y z < 0 → lexC x z < 0
  | [], _, _, _, _, h, _ => by simp [lexC] at h
  | _ :: _, [], _, h, _, _, _ => by simp at h
  | _ :: _, _ :: _, [], _, h, _, _ => by simp at h
  | a :: A, b :: B, c :: C, h1, h2, h3, h4 => by
    rw [lexC_lt] at h3 h4 ⊢
    have := lexC_trans (x := A) (y := B) (z := C) (by simpa using h1) (by simpa using h2)
    rcases h3 with h3 | ⟨h3, h5⟩ <;> rcases h4 with h4 | ⟨h4, h6⟩
    · left; omega
    · left; omega
    · left; omega
    · right; exact ⟨by omega, this h5 h6⟩
theorem lexC_total : ∀ {x y : List Int}, x.length = y.length → ¬ lexC x y < 0 → ¬ lexC y x < 0 → x = y
  | [], [], _, _, _ => rfl
  | [], _ :: _, h, _, _ => by simp at h
  | _ :: _, [], h, _, _ => by simp at h
  | a :: A, b :: B, h1, h2, h3 => by
    rw [lexC_lt] at h2 h3
    have hab : a = b := by omega
    subst hab
    have := lexC_total (x := A) (y := B) (by simpa using h1) (fun h => h2 (.inr ⟨rfl, h⟩)) (fun h => h3 (.inr ⟨rfl, h⟩))
    rw [this]
/-- At most. -/
def lexL (x y : List Int) : Bool := !decide (lexC y x < 0)
theorem lexL_trans {x y z : List Int} (h1 : x.length = y.length) (h2 : y.length = z.length) (h3 : lexL x y = true) (h4 : lexL y z = true) : lexL x z = true := by
  simp only [lexL, Bool.not_eq_true', decide_eq_false_iff_not] at *
  intro h
  by_cases hxy : lexC x y < 0
  · exact h4 (lexC_trans (by omega) (by omega) h hxy)
  · rw [lexC_total h1 hxy h3] at h; exact h4 h
theorem lexL_anti {x y : List Int} (h : x.length = y.length) (h1 : lexL x y = true) (h2 : lexL y x = true) : x = y := by
  simp only [lexL, Bool.not_eq_true', decide_eq_false_iff_not] at *
  exact lexC_total h h2 h1
theorem lexL_total (x y : List Int) (h : x.length = y.length) : lexL x y = true ∨ lexL y x = true := by
  simp only [lexL, Bool.not_eq_true', decide_eq_false_iff_not]
  by_cases h1 : lexC y x < 0
  · right
    intro h2
    have := lexC_trans (by omega) (by omega) h1 h2
    rw [lexC_refl] at this; omega
  · exact .inl h1
/-- There is one sorted list of given lists. -/
theorem lexL_one {w : Nat} {l1 l2 : List (List Int)} (h1 : ∀ x ∈ l1, x.length = w) (hp : l1.Perm l2) (s1 : l1.Pairwise (fun x y => lexL x y = true)) (s2 : l2.Pairwise (fun x y => lexL x y = true)) : l1 = l2 :=
  List.Perm.eq_of_pairwise (le := fun x y => lexL x y = true) (fun a b ha hb ab ba => lexL_anti (by rw [h1 a ha, h1 b (hp.mem_iff.2 hb)]) ab ba) s1 s2 hp
end Go.Proofs.Ytckcojgfgcjamaa
