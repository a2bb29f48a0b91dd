/- Walks: places of racks, pours as the outside sees them. -/
import Derived.Test.YtnlbljikbonioaaN
import Derived.Test.YtnlbljikbonioaaE
set_option maxRecDepth 100000
set_option linter.unusedSimpArgs false
set_option linter.unusedVariables false
namespace Go.Proofs.Ytnlbljikbonioaa
open Go Go.RowKit
--@tbl isAt = impl.isAt
--@tbl areAll_place = impl.areAll[int]
def areAll_place_F := areAllI_F [(105, plF)]
theorem areAll_place_T : ∀ args H p v, areAll_place_F args H = some (p, v) → p → PureH Try.prog 110 args H v :=
  areAllI_T (by intro q hq; simp at hq; rcases hq with rfl; exact isPlace_ok)
/-- isAt looks at the places behind a slice. -/
theorem isAt_ok (R L : List Int) (e off len cap : Nat) (hR : R.length = 24) (hl : off + len ≤ L.length) (hm : len ≤ 9223372036854775806) : PureH Try.prog 56 [.arr R, .slice 0 off len cap] [(0, .ints L e)] (.bool (rackB R && ((L.drop off).take len).all plF)) := by
  have tkR : R.take 24 = R := List.take_of_length_le (by omega)
  cases hr : rackB R
  · refine pure_of_vc (X := ⟨Try.prog, tys, [(14, IsRack_F), (110, areAll_place_F)], [], true, true, 1, [], []⟩) fn_56 ⟨tys_ok, (.cons IsRack_T (.cons areAll_place_T .nil)), .nil, mixed⟩ (n0 := 1) (Nat.le_of_ble_eq_true rfl) (by simp [wfL, SV.wf]) (wfH_spec (by simp [wfH, SObj.wf])) (Nat.le_refl _) (fun _ => by simp [SV.wf, wfL]) ?_
    simp -implicitDefEqProofs only [Try.f56, Option.getD_some, argS, IsRack_F, areAll_place_F, hR, tkR, hr, areAllI_F, ZB, Int.reduceToNat, Nat.reduceLT, Nat.reduceLeDiff, Int.reduceLE, Int.reduceLT, Nat.reduceEqDiff, Nat.reduceSub, SB, SV.known, packR, ne_eq, reduceCtorEq, Nat.reduceEqDiff, ↓reduceIte, if_true, if_false, eq_self, Nat.reduceAdd, Nat.reduceMul, Nat.reduceSub, forall_const, oneCellS, litOne, flat1, Kd.isSca, flat, TYB]
  · refine pure_of_vc (X := ⟨Try.prog, tys, [(14, IsRack_F), (110, areAll_place_F)], [], true, true, 1, [], []⟩) fn_56 ⟨tys_ok, (.cons IsRack_T (.cons areAll_place_T .nil)), .nil, mixed⟩ (n0 := 1) (Nat.le_of_ble_eq_true rfl) (by simp [wfL, SV.wf]) (wfH_spec (by simp [wfH, SObj.wf])) (Nat.le_refl _) (fun _ => by simp [SV.wf, wfL]) ?_
    simp -implicitDefEqProofs only [Try.f56, Option.getD_some, argS, IsRack_F, areAll_place_F, hR, tkR, hr, areAllI_F, ZB, Int.reduceToNat, Nat.reduceLT, Nat.reduceLeDiff, Int.reduceLE, Int.reduceLT, Nat.reduceEqDiff, Nat.reduceSub, SB, SV.known, packR, ne_eq, reduceCtorEq, Nat.reduceEqDiff, ↓reduceIte, if_true, if_false, eq_self, Nat.reduceAdd, Nat.reduceMul, Nat.reduceSub, forall_const, oneCellS, litOne, flat1, Kd.isSca, flat, TYB]
    exact ⟨hl, hm⟩
def isAt_F : List SV → Heap → Option (Prop × SV)
  | [.arr R, .slice b off len _], H => match hget H b with
    | some (.ints L _) => some (R.length = 24 ∧ off + len ≤ L.length ∧ len ≤ 9223372036854775806, .bool (rackB R && ((L.drop off).take len).all plF))
    | _ => none
  | _, _ => none
theorem isAt_T : ∀ args H p v, isAt_F args H = some (p, v) → p → PureH Try.prog 56 args H v := by
  intro args H p v h hp
  unfold isAt_F at h
  split at h
  · rename_i R b off len cap
    split at h
    · rename_i L e hb
      cases h
      exact one_block (isAt_ok R L e off len cap hp.1 hp.2.1 hp.2.2) hb rfl (fun _ => trivial)
    · cases h
  · cases h
end Go.Proofs.Ytnlbljikbonioaa
