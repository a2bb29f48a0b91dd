/- Walks: small functions. -/
import Derived.Test.YtnlbljikbonioaaA
set_option maxRecDepth 100000
set_option linter.unusedSimpArgs false
set_option linter.unusedVariables false
namespace Go.Proofs.Ytnlbljikbonioaa
open Go Go.RowKit
--@tbl toIntA6 = laws.toIntA6
/-! IsDepths. -/
def isDep (n : Int) : Bool := decide (1 ≤ n ∧ n ≤ 4)
--@tbl areAll_dep = impl.areAll[int]
theorem isDepths1_ok (n : Int) : PureH Try.prog 151 [.int n] [] (.bool (isDep n)) := by
  refine pure_of_vc (X := ⟨Try.prog, tys, [(100, within_F)], [], true, true, 0, [], []⟩) fn_151 ⟨tys_ok, (.cons within_T .nil), .nil, mixed⟩ (n0 := 0) (Nat.le_of_ble_eq_true rfl) (by simp [wfL, SV.wf]) (wfH_spec (by simp [wfH, SObj.wf])) (Nat.le_refl _) (fun _ => by simp [SV.wf, wfL]) ?_
  simp -implicitDefEqProofs only [Try.f151, Option.getD_some, argS, within_F, SB, SV.known, packR, ne_eq, reduceCtorEq, Nat.reduceEqDiff, ↓reduceIte, if_true, if_false, eq_self, Nat.reduceAdd, Nat.reduceMul, Nat.reduceSub, forall_const, oneCellS, litOne, flat1, Kd.isSca, flat, TYB]
  trivial
def areAll_dep_F := areAllI_F [(151, isDep)]
theorem areAll_dep_T : ∀ args H p v, areAll_dep_F args H = some (p, v) → p → PureH Try.prog 110 args H v :=
  areAllI_T (by intro q hq; simp at hq; subst hq; exact isDepths1_ok)
--@tbl isDepths = impl.IsDepths
theorem isDepths_ok (L : List Int) (hL : L.length = 6) : PureH Try.prog 132 [.arr L] [] (.bool (L.all isDep)) := by
  refine pure_of_vc (X := ⟨Try.prog, tys, [(110, areAll_dep_F)], [], true, true, 0, [], []⟩) fn_132 ⟨tys_ok, (.cons areAll_dep_T .nil), .nil, mixed⟩ (n0 := 0) (Nat.le_of_ble_eq_true rfl) (by simp [wfL, SV.wf]) (wfH_spec (by simp [wfH, SObj.wf])) (Nat.le_refl _) (fun _ => by simp [SV.wf, wfL]) ?_
  simp -implicitDefEqProofs only [Try.f132, Option.getD_some, argS, areAll_dep_F, areAllI_F, SB, SV.known, packR, ne_eq, reduceCtorEq, Nat.reduceEqDiff, ↓reduceIte, if_true, if_false, eq_self, Nat.reduceAdd, Nat.reduceMul, Nat.reduceSub, forall_const, oneCellS, litOne, flat1, Kd.isSca, flat, TYB]
  refine ⟨by omega, ?_⟩
  rw [List.take_of_length_le (by omega)]
def isDepths_F : List SV → Heap → Option (Prop × SV)
  | [.arr L], _ => some (L.length = 6, .bool (L.all isDep))
  | _, _ => none
theorem isDepths_T : ∀ args H p v, isDepths_F args H = some (p, v) → p → PureH Try.prog 132 args H v := by
  intro args H p v h hp
  unfold isDepths_F at h
  split at h
  · cases h; exact (isDepths_ok _ hp).any _
  · cases h

--@tbl l8Depths = spec.l8Depths
theorem all_hit {pr : Int → Bool} {L : List Int} {i : Nat} (hi : i < L.length) (h : pr (L.getD i 0) = false) : L.all pr = false := by
  rw [List.all_eq_false]
  refine ⟨L[i], List.getElem_mem _, ?_⟩
  simpa [List.getD, List.getElem?_eq_getElem hi] using h
theorem all_none {pr : Int → Bool} {L : List Int} (h : ∀ k, k < L.length → pr (L.getD k 0) = true) : L.all pr = true := by
  rw [List.all_eq_true]
  intro x hx
  obtain ⟨k, hk, rfl⟩ := List.getElem_of_mem hx
  have := h k hk
  simpa [List.getD, List.getElem?_eq_getElem hk] using this
theorem l8Depths_ok (L : List Int) (hL : L.length = 6) : PureH Try.prog 130 [.arr L] [] (.bool (L.all isDep)) := by
  refine pure_of_vc (X := ⟨Try.prog, tys, [(101, l1In_F)], [], true, true, 0, [], []⟩) fn_130 ⟨tys_ok, (.cons l1In_T .nil), .nil, mixed⟩ (n0 := 0) (Nat.le_of_ble_eq_true rfl) (by simp [wfL, SV.wf]) (wfH_spec (by simp [wfH, SObj.wf])) (Nat.le_refl _) (fun _ => by simp [SV.wf, wfL]) ?_
  simp -implicitDefEqProofs only [Try.f130, Option.getD_some, argS, l1In_F, SB, SV.known, packR, ne_eq, reduceCtorEq, Nat.reduceEqDiff, ↓reduceIte, if_true, if_false, eq_self, Nat.reduceAdd, Nat.reduceMul, Nat.reduceSub, forall_const, oneCellS, litOne, flat1, Kd.isSca, flat, TYB]
  refine loop_intro (fun i : Nat => [(1, .ptr 0 0), (3, .int i)]) (fun i => [(0, .ints L 40)]) 1 (fun i => i ≤ 6 ∧ ∀ k, k < i → isDep (L.getD k 0) = true) (fun i => 6 - i) ?_ ?_
  · refine ⟨0, ⟨by omega, by simp⟩, Sub.mk_id ?_ ?_ ?_ ?_ ?_⟩
    all_goals simp only [LB, subS, subH, wfS, wfH, SV.ren, renL, SObj.ren, SV.wf, SObj.wf, wfL, SV.known, Nat.reduceEqDiff, ↓reduceIte, if_true, if_false, eq_self, Nat.reduceAdd, Nat.reduceLT, Nat.reduceLeDiff, implies_true, reduceCtorEq, forall_const]
    all_goals simp
  · intro i hi
    obtain ⟨hi1, hi2⟩ := hi
    simp -implicitDefEqProofs only [lk_normal, l1In_F, SB, SV.known, packR, ne_eq, reduceCtorEq, Nat.reduceEqDiff, ↓reduceIte, if_true, if_false, eq_self, Nat.reduceAdd, Nat.reduceMul, Nat.reduceSub, forall_const, oneCellS, litOne, flat1, Kd.isSca, flat, TYB]
    simp only [Int.toNat_natCast, Nat.mul_one]
    refine ⟨fun h => ⟨by omega, by omega, by omega, fun hp => ⟨by unfold In64; omega, i + 1, ⟨by omega, fun k hk => ?_⟩, by omega, Sub.mk_id ?_ ?_ ?_ ?_ ?_⟩, fun hp => ?_⟩, fun h => ?_⟩
    · by_cases hki : k = i
      · subst hki; simp only [isDep, decide_eq_true_eq]; exact hp
      · exact hi2 k (by omega)
    any_goals (simp only [LB, subS, subH, wfS, wfH, SV.ren, renL, SObj.ren, SV.wf, SObj.wf, wfL, SV.known, Nat.reduceEqDiff, ↓reduceIte, if_true, if_false, eq_self, Nat.reduceAdd, Nat.reduceLT, Nat.reduceLeDiff, implies_true, reduceCtorEq, forall_const]; done)
    · rw [all_hit (i := i) (by omega)]
      simp only [isDep, decide_eq_false_iff_not]; exact hp
    · rw [all_none]; intro k hk; exact hi2 k (by omega)
def l8Depths_F : List SV → Heap → Option (Prop × SV)
  | [.arr L], _ => some (L.length = 6, .bool (L.all isDep))
  | _, _ => none
theorem l8Depths_T : ∀ args H p v, l8Depths_F args H = some (p, v) → p → PureH Try.prog 130 args H v := by
  intro args H p v h hp
  unfold l8Depths_F at h
  split at h
  · cases h; exact (l8Depths_ok _ hp).any _
  · cases h
--@tbl sIsDepths = spec.IsDepths
end Go.Proofs.Ytnlbljikbonioaa
