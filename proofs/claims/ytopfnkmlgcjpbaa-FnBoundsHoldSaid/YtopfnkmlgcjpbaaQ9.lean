/- Texts of this claim, joined (BH5, Fin, FinS, FinB). -/
import Derived.Test.YtopfnkmlgcjpbaaQ1
import Derived.Test.YtopfnkmlgcjpbaaQ2
import Derived.Test.YtopfnkmlgcjpbaaQ3
import Derived.Test.YtopfnkmlgcjpbaaQ4
import Derived.Test.YtopfnkmlgcjpbaaQ5
import Derived.Test.YtopfnkmlgcjpbaaQ6
import Derived.Test.YtopfnkmlgcjpbaaQ7
import Derived.Test.YtopfnkmlgcjpbaaQ8
import Derived.Test.YtopfnkmlgcjpbaaRows
import Derived.ProofKit
import Derived.OpenShut
/- The law of bounds, walked. -/
set_option maxRecDepth 100000
set_option linter.unusedSimpArgs false
set_option linter.unusedVariables false
namespace Go.Proofs.Ytopfnkmlgcjpbaa
open Go Go.RowKit
theorem eqI_a3 : EqI Try.prog 73 3 := eqI_of (D := 2) (by omega) (eqA_ints (i := (Try.prog.info? 3).getD default) Try.underlying73 (by kernel_rfl) (by kernel_rfl) rfl Try.underlying3) (by kernel_rfl)
--@tbl DrawPourChange = spec.DrawPourChange
def DrawPourChange_F := DrawCanPour_F
--@tbl DrawBoundOf = spec.DrawBoundOf
def DrawBoundOf_F := DrawIsSorted_F
theorem Kpt.get {n n' k : Nat} {H H' : Heap} {o : SObj} (h : Kpt n H H' n') (hk : k < n) (ho : hget H k = some o) : hget H' k = some o := h.fr k o hk ho
theorem drawS_use {cv : SV} {H : Heap} {n m : Nat} {κ : K1} (h1 : BytA cv H) (h2 : m ≤ n) (h3 : ∀ (R : List Int) H' n', R.length = 24 → (∀ z ∈ R, In64 z) → Kpt n H H' n' → κ (.arr R) H' n') : DrawIsSorted_F [cv] H n m κ := ⟨h1, h2, h3⟩
theorem pour_can {R : List Int} {x y : Int} (h : pourB R x y = true) : cpO R x y = true ∧ canF R x y = true := by
  unfold pourB at h
  simp only [Bool.and_eq_true] at h
  refine ⟨?_, h.2⟩
  have h2 := h.2
  unfold canF at h2
  simp only [Bool.and_eq_true] at h2
  unfold cpO
  rw [h.1.1.1, h.1.1.2, h.1.2, h2.1.1.1]; rfl
theorem bndF_in {R : List Int} (hR : R.length = 24) : In64 (bndF R) := by
  have h := bnd_bd R hR
  unfold In64
  omega
def ps (L : List Int) : Nat → Int
  | 0 => 0
  | k + 1 => ps L k + L.getD k 0
theorem ps_six (L : List Int) : ps L 6 = sum6 L := by simp [ps, sum6]
theorem ps_bd {L : List Int} {b : Int} (h : ∀ k, 0 ≤ L.getD k 0 ∧ L.getD k 0 ≤ b) : ∀ k : Nat, 0 ≤ ps L k ∧ ps L k ≤ k * b
  | 0 => by simp [ps]
  | k + 1 => by
    have := ps_bd h k
    have h1 := h k
    have : ((k + 1 : Nat) : Int) * b = k * b + b := by rw [Int.natCast_add, Int.add_mul, Int.natCast_one, Int.one_mul]
    simp only [ps]
    omega
set_option maxHeartbeats 4000000 in
theorem lawFnBoundsHold (L : List Int) (off len cap : Nat) (_ : len ≤ cap) (_ : cap ≤ maxLen) (hLl : L.length = len) (hLb : ∀ x ∈ L, 0 ≤ x ∧ x ≤ 255) :
    PureH Try.prog 6 [.slice 0 off len cap] [(0, .winU off L)] (.bool true) := by
  by_cases hbig : (65536 : Int) < (len : Int)
  · refine pure_of_vc (X := ⟨Try.prog, tys, [(7, rBig_F)], [], true, true, 1, [], []⟩) fn_6 ⟨tys_ok, (.cons rBig_T .nil), .nil, mixed⟩ (n0 := 1) (Nat.le_of_ble_eq_true rfl) (by simp [wfL, SV.wf]) (wfH_spec (by simp [wfH, SObj.wf])) (Nat.le_refl _) (fun _ => by simp [SV.wf, wfL]) ?_
    simp -implicitDefEqProofs only [Try.f6, Option.getD_some, argS, rBig_F, hbig, ZB, Int.reduceToNat, Nat.reduceLT, Nat.reduceLeDiff, Int.reduceLE, Int.reduceLT, Nat.reduceEqDiff, Nat.reduceSub, SB, SV.known, packR, ne_eq, reduceCtorEq, Nat.reduceEqDiff, ↓reduceIte, if_true, if_false, eq_self, Nat.reduceAdd, Nat.reduceMul, Nat.reduceSub, forall_const, oneCellS, litOne, flat1, Kd.isSca, flat, TYB]
  · refine pure_of_vc (X := ⟨Try.prog, tys, [(7, rBig_F), (53, PourChange_F), (54, sPourChange_F), (24, BoundOf_F), (55, sBoundOf_F), (11, IsRack_F), (56, CountRuns_F), (57, sCountRuns_F), (58, CountBoundaries_F), (59, sCountBoundaries_F), (60, SpareRuns_F), (61, sSpareRuns_F), (62, BottomCounts_F), (63, sBottomCounts_F), (64, DoesFit_F), (65, sDoesFit_F), (20, rInts_F), (51, IsSorted_F), (23, Pour_F)], [(52, DrawPourChange_F), (66, RoomLeft_F), (67, sRoomLeft_F), (68, DrawBoundOf_F)], true, true, 1, [], []⟩) fn_6 ⟨tys_ok, (.cons rBig_T (.cons PourChange_T (.cons sPourChange_T (.cons BoundOf_T (.cons sBoundOf_T (.cons IsRack_T (.cons CountRuns_T (.cons sCountRuns_T (.cons CountBoundaries_T (.cons sCountBoundaries_T (.cons SpareRuns_T (.cons sSpareRuns_T (.cons BottomCounts_T (.cons sBottomCounts_T (.cons DoesFit_T (.cons sDoesFit_T (.cons rInts_T (.cons IsSorted_T (.cons Pour_T .nil))))))))))))))))))), (.cons DrawPourChange_T (.cons RoomLeft_T (.cons sRoomLeft_T (.cons DrawBoundOf_T .nil)))), mixed⟩ (n0 := 1) (Nat.le_of_ble_eq_true rfl) (by simp [wfL, SV.wf]) (wfH_spec (by simp [wfH, SObj.wf])) (Nat.le_refl _) (fun _ => by simp [SV.wf, wfL]) ?_
    simp -implicitDefEqProofs only [Try.f6, Option.getD_some, argS, rBig_F, PourChange_F, sPourChange_F, BoundOf_F, sBoundOf_F, IsRack_F, CountRuns_F, sCountRuns_F, CountBoundaries_F, sCountBoundaries_F, SpareRuns_F, sSpareRuns_F, BottomCounts_F, sBottomCounts_F, DoesFit_F, sDoesFit_F, rInts_F, IsSorted_F, Pour_F, DrawPourChange_F, RoomLeft_F, sRoomLeft_F, DrawBoundOf_F, hbig, ZB, Int.reduceToNat, Nat.reduceLT, Nat.reduceLeDiff, Int.reduceLE, Int.reduceLT, Nat.reduceEqDiff, Nat.reduceSub, SB, SV.known, packR, ne_eq, reduceCtorEq, Nat.reduceEqDiff, ↓reduceIte, if_true, if_false, eq_self, Nat.reduceAdd, Nat.reduceMul, Nat.reduceSub, forall_const, oneCellS, litOne, flat1, Kd.isSca, flat, TYB]
    refine ⟨(.inr ⟨0, off, len, cap, L, rfl, by simp [hget_cons], hLl, by omega, hLb⟩), Nat.le_refl _, fun R x y H' n' hR hRi hx hy hK => ?_⟩
    have tkR : R.take 24 = R := List.take_of_length_le (by omega)
    have r24 : List.take 24 (List.replicate 24 (0 : Int)) = List.replicate 24 0 := rfl
    have r6 : List.take 6 (List.replicate 6 (0 : Int)) = List.replicate 6 0 := rfl
    have h0' : hget H' 0 = some (.winU off L) := hK.get (by omega) (by simp [hget_cons])
    have hle := hK.le
    have hn0 : ¬ 0 = n' := by omega
    have lch := pchF_len R x y
    have tkch : (pchF R x y).take 3 = pchF R x y := List.take_of_length_le (by omega)
    have lbt : (btT R).length = 6 := by unfold btT; split; exact cntL_len _; rfl
    have tkbt : (btT R).take 6 = btT R := List.take_of_length_le (by omega)
    cases hr : rackB R
    · have hp : pourB R x y = false := by unfold pourB; rw [hr]; rfl
      have erm : rmF R = [] := by unfold rmF; rw [hr]; rfl
      simp -implicitDefEqProofs only [rBig_F, PourChange_F, sPourChange_F, BoundOf_F, sBoundOf_F, IsRack_F, CountRuns_F, sCountRuns_F, CountBoundaries_F, sCountBoundaries_F, SpareRuns_F, sSpareRuns_F, BottomCounts_F, sBottomCounts_F, DoesFit_F, sDoesFit_F, rInts_F, IsSorted_F, Pour_F, RoomLeft_F, sRoomLeft_F, freshK, Wrap.ap, hR, tkR, lch, tkch, lbt, tkbt, r24, r6, eqI_rack, eqI_a6, eqI_a3, Nat.add_assoc, add_self, self_add, add_add, hr, hp, erm, ZB, Int.reduceToNat, Nat.reduceLT, Nat.reduceLeDiff, Int.reduceLE, Int.reduceLT, Nat.reduceEqDiff, Nat.reduceSub, SB, SV.known, packR, ne_eq, reduceCtorEq, Nat.reduceEqDiff, ↓reduceIte, if_true, if_false, eq_self, Nat.reduceAdd, Nat.reduceMul, Nat.reduceSub, forall_const, oneCellS, litOne, flat1, Kd.isSca, flat, TYB]
      refine ⟨by omega, fun c1 j1 r1 => ?_, fun h => absurd trivial h⟩
      refine drawS_use (.inr ⟨0, off, len, cap, L, rfl, by simp [hget_cons, h0', hn0], hLl, by omega, hLb⟩) (by omega) fun S H2 n2 hS hSi hK2 => ?_
      have hle2 := hK2.le
      have hle3 : 1 ≤ n2 := by omega
      have tkS : S.take 24 = S := List.take_of_length_le (by omega)
      cases hrS : rackB S
      · simp -implicitDefEqProofs only [rBig_F, PourChange_F, sPourChange_F, BoundOf_F, sBoundOf_F, IsRack_F, CountRuns_F, sCountRuns_F, CountBoundaries_F, sCountBoundaries_F, SpareRuns_F, sSpareRuns_F, BottomCounts_F, sBottomCounts_F, DoesFit_F, sDoesFit_F, rInts_F, IsSorted_F, Pour_F, RoomLeft_F, sRoomLeft_F, freshK, Wrap.ap, hR, tkR, lch, tkch, lbt, tkbt, r24, r6, eqI_rack, eqI_a6, eqI_a3, Nat.add_assoc, add_self, self_add, add_add, hr, hp, erm, hS, tkS, hrS, hle3, ZB, Int.reduceToNat, Nat.reduceLT, Nat.reduceLeDiff, Int.reduceLE, Int.reduceLT, Nat.reduceEqDiff, Nat.reduceSub, SB, SV.known, packR, ne_eq, reduceCtorEq, Nat.reduceEqDiff, ↓reduceIte, if_true, if_false, eq_self, Nat.reduceAdd, Nat.reduceMul, Nat.reduceSub, forall_const, oneCellS, litOne, flat1, Kd.isSca, flat, TYB]
      · have sb := sorted_bound hS hrS
        have eb : boF S = bndF S := by unfold boF; rw [if_pos hrS]
        by_cases hb0 : bndF S = 0
        all_goals
          simp -implicitDefEqProofs only [eb, hb0, hle3, rBig_F, PourChange_F, sPourChange_F, BoundOf_F, sBoundOf_F, IsRack_F, CountRuns_F, sCountRuns_F, CountBoundaries_F, sCountBoundaries_F, SpareRuns_F, sSpareRuns_F, BottomCounts_F, sBottomCounts_F, DoesFit_F, sDoesFit_F, rInts_F, IsSorted_F, Pour_F, RoomLeft_F, sRoomLeft_F, freshK, Wrap.ap, hR, tkR, lch, tkch, lbt, tkbt, r24, r6, eqI_rack, eqI_a6, eqI_a3, Nat.add_assoc, add_self, self_add, add_add, hr, hp, erm, hS, tkS, hrS, sb, ZB, Int.reduceToNat, Nat.reduceLT, Nat.reduceLeDiff, Int.reduceLE, Int.reduceLT, Nat.reduceEqDiff, Nat.reduceSub, SB, SV.known, packR, ne_eq, reduceCtorEq, Nat.reduceEqDiff, ↓reduceIte, if_true, if_false, eq_self, Nat.reduceAdd, Nat.reduceMul, Nat.reduceSub, forall_const, oneCellS, litOne, flat1, Kd.isSca, flat, TYB]
    · have erm := rmF_len R hr
      have nrm : (rmF R = []) = False := eq_false fun h => by rw [h] at erm; simp at erm
      simp -implicitDefEqProofs only [rBig_F, PourChange_F, sPourChange_F, BoundOf_F, sBoundOf_F, IsRack_F, CountRuns_F, sCountRuns_F, CountBoundaries_F, sCountBoundaries_F, SpareRuns_F, sSpareRuns_F, BottomCounts_F, sBottomCounts_F, DoesFit_F, sDoesFit_F, rInts_F, IsSorted_F, Pour_F, RoomLeft_F, sRoomLeft_F, freshK, Wrap.ap, hR, tkR, lch, tkch, lbt, tkbt, r24, r6, eqI_rack, eqI_a6, eqI_a3, Nat.add_assoc, add_self, self_add, add_add, hr, erm, nrm, ZB, Int.reduceToNat, Nat.reduceLT, Nat.reduceLeDiff, Int.reduceLE, Int.reduceLT, Nat.reduceEqDiff, Nat.reduceSub, SB, SV.known, packR, ne_eq, reduceCtorEq, Nat.reduceEqDiff, ↓reduceIte, if_true, if_false, eq_self, Nat.reduceAdd, Nat.reduceMul, Nat.reduceSub, forall_const, oneCellS, litOne, flat1, Kd.isSca, flat, TYB]
      refine ⟨hle, fun c1 j1 r1 c2 j2 r2 => ⟨⟨by rw [List.length_append]; omega, by rw [List.length_append]; omega, by rw [List.take_left' erm, List.take_left' erm]⟩, ?_⟩⟩
      refine drawS_use (.inr ⟨0, off, len, cap, L, rfl, by simp [hget_cons, h0', hn0], hLl, by omega, hLb⟩) (by omega) fun S H2 n2 hS hSi hK2 => ?_
      have hle2 := hK2.le
      have hle3 : 1 ≤ n2 := by omega
      have tkS : S.take 24 = S := List.take_of_length_le (by omega)
      have q0 : ¬ n' = n2 := by omega
      have q1 : ¬ n' + 1 = n2 := by omega
      have q3 : ¬ n' + 3 = n2 := by omega
      have gR : hget H2 n' = some (.ints R 27) := hK2.get (by omega) (by simp [hget_cons])
      have gC : hget H2 (n' + 1) = some (.ints (pchF R x y) 73) := hK2.get (by omega) (by simp [hget_cons])
      have gB : hget H2 (n' + 3) = some (.ints (btT R) 51) := hK2.get (by omega) (by simp [hget_cons])
      have hwS : ∀ S : List Int, hwf (n2 + 1) ((n2, .ints S 27) :: (n2, .ints (List.replicate 24 0) 27) :: H2) := fun S => hwf_cons (hwf_cons (hwf_mono (by omega) hK2.wf) (by omega) trivial) (by omega) trivial
      have hps : ps (btT R) 6 = 6 := by
        rw [ps_six]
        unfold btT; rw [if_pos hr]
        have := bots_sum hR hr 6 (Nat.le_refl _)
        rwa [List.take_of_length_le (by rw [botL_len]; omega)] at this
      have hbt : ∀ k, 0 ≤ (btT R).getD k 0 ∧ (btT R).getD k 0 ≤ 6 := fun k => by
        unfold btT; rw [if_pos hr]
        have := cntL_bd (botL R) k
        rw [botL_len] at this; exact this
      have hbd := ps_bd hbt
      have e1 : cbT R = crT R - 6 + (btT R).getD 0 0 := by
        unfold cbT crT btT; rw [if_pos hr, if_pos hr, if_pos hr]
        have := edges_eq hR hr 6 (Nat.le_refl _)
        rwa [List.take_of_length_le (by rw [botL_len]; omega)] at this
      have e2 : ¬ boF R < cbT R := by
        unfold boF cbT; rw [if_pos hr, if_pos hr]
        have := bnd_edges hR; omega
      have e3 : ¬ spT R < 0 := by
        unfold spT; rw [if_pos hr]
        have := spare_nn hR hr; omega
      have bc := sumT_bd hR crN_bd 6 (by omega)
      have ecr : crT R = sumT crN R 6 := by unfold crT; rw [if_pos hr]
      have c1' : In64 (crT R - 6) := by unfold In64; omega
      have c2' : In64 (cbT R) := by have := hbt 0; unfold In64; omega
      have sb : rackB S = true → sortB S = decide (bndF S = 0) := sorted_bound hS
      have eb : rackB S = true → boF S = bndF S := fun h => by unfold boF; rw [if_pos h]
      cases hrS : rackB S
      case' true => rw [hrS] at sb eb
      case' true => have sb := sb rfl
      case' true => have eb := eb rfl
      case' true => by_cases hb0 : bndF S = 0
      all_goals
        first
        | simp -implicitDefEqProofs only [eb, hb0, hle3, rBig_F, PourChange_F, sPourChange_F, BoundOf_F, sBoundOf_F, IsRack_F, CountRuns_F, sCountRuns_F, CountBoundaries_F, sCountBoundaries_F, SpareRuns_F, sSpareRuns_F, BottomCounts_F, sBottomCounts_F, DoesFit_F, sDoesFit_F, rInts_F, IsSorted_F, Pour_F, RoomLeft_F, sRoomLeft_F, freshK, Wrap.ap, hR, tkR, lch, tkch, lbt, tkbt, r24, r6, eqI_rack, eqI_a6, eqI_a3, Nat.add_assoc, add_self, self_add, add_add, hr, erm, nrm, hS, tkS, hrS, sb, ZB, Int.reduceToNat, Nat.reduceLT, Nat.reduceLeDiff, Int.reduceLE, Int.reduceLT, Nat.reduceEqDiff, Nat.reduceSub, SB, SV.known, packR, ne_eq, reduceCtorEq, Nat.reduceEqDiff, ↓reduceIte, if_true, if_false, eq_self, Nat.reduceAdd, Nat.reduceMul, Nat.reduceSub, forall_const, oneCellS, litOne, flat1, Kd.isSca, flat, TYB]
        | simp -implicitDefEqProofs only [hle3, rBig_F, PourChange_F, sPourChange_F, BoundOf_F, sBoundOf_F, IsRack_F, CountRuns_F, sCountRuns_F, CountBoundaries_F, sCountBoundaries_F, SpareRuns_F, sSpareRuns_F, BottomCounts_F, sBottomCounts_F, DoesFit_F, sDoesFit_F, rInts_F, IsSorted_F, Pour_F, RoomLeft_F, sRoomLeft_F, freshK, Wrap.ap, hR, tkR, lch, tkch, lbt, tkbt, r24, r6, eqI_rack, eqI_a6, eqI_a3, Nat.add_assoc, add_self, self_add, add_add, hr, erm, nrm, hS, tkS, hrS, ZB, Int.reduceToNat, Nat.reduceLT, Nat.reduceLeDiff, Int.reduceLE, Int.reduceLT, Nat.reduceEqDiff, Nat.reduceSub, SB, SV.known, packR, ne_eq, reduceCtorEq, Nat.reduceEqDiff, ↓reduceIte, if_true, if_false, eq_self, Nat.reduceAdd, Nat.reduceMul, Nat.reduceSub, forall_const, oneCellS, litOne, flat1, Kd.isSca, flat, TYB]
        refine loop_intro (fun k : Nat => [(43, .int (ps (btT R) k)), (44, .int k), (26, .ptr (n' + 3) 0), (18, .int (cbT R)), (14, .int (crT R)), (10, .int (boF R)), (22, .int (spT R)), (34, .slice (n' + 5) 0 6 c1), (3, .ptr n' 0), (4, .int x), (5, .int y), (6, .ptr (n' + 1) 0), (7, .bool (pourB R x y))]) (fun _ => (n2, .ints S 27) :: (n2, .ints (List.replicate 24 0) 27) :: H2) (n2 + 1) (fun k => k ≤ 6) (fun k => 6 - k) ?_ ?_
        · exact ⟨0, Nat.zero_le _, Sub.same (by simp only [LB, subS, subH, wfS, wfH, SV.ren, renL, SObj.ren, SV.wf, SObj.wf, wfL, SV.known, Nat.reduceEqDiff, ↓reduceIte, if_true, if_false, eq_self, Nat.reduceAdd, Nat.reduceLT, Nat.reduceLeDiff, implies_true, reduceCtorEq, forall_const]; try rfl) (by simp [subS, subH, wfS, wfH, SV.ren, renL, SObj.ren, SV.wf, SObj.wf, wfL, sget_cons, hget_cons] <;> omega) (hwS S) (by omega)⟩
        · intro k hk
          have hb1 := hbd k
          have hb2 := hbt k
          by_cases hk6 : k < 6
          · have hkl : (k : Int) < 6 := by omega
            simp -implicitDefEqProofs only [lk_normal, gB, q3, lbt, hkl, ZB, Int.reduceToNat, Nat.reduceLT, Nat.reduceLeDiff, Int.reduceLE, Int.reduceLT, Nat.reduceEqDiff, Nat.reduceSub, SB, SV.known, packR, ne_eq, reduceCtorEq, Nat.reduceEqDiff, ↓reduceIte, if_true, if_false, eq_self, Nat.reduceAdd, Nat.reduceMul, Nat.reduceSub, forall_const, oneCellS, litOne, flat1, Kd.isSca, flat, TYB]
            exact ⟨by omega, hk6, by unfold In64; omega, by unfold In64; omega, k + 1, by omega, by omega, Sub.same (by simp only [ps, LB, subS, subH, wfS, wfH, SV.ren, renL, SObj.ren, SV.wf, SObj.wf, wfL, SV.known, Nat.reduceEqDiff, ↓reduceIte, if_true, if_false, eq_self, Nat.reduceAdd, Nat.reduceLT, Nat.reduceLeDiff, implies_true, reduceCtorEq, forall_const]; try rfl) (by simp [subS, subH, wfS, wfH, SV.ren, renL, SObj.ren, SV.wf, SObj.wf, wfL, sget_cons, hget_cons] <;> omega) (hwS S) (by omega)⟩
          · obtain rfl : k = 6 := by omega
            cases hp : pourB R x y
            · simp -implicitDefEqProofs only [lk_normal, gB, q3, lbt, hps, ← e1, e2, e3, c1', c2', ZB, Int.reduceToNat, Nat.reduceLT, Nat.reduceLeDiff, Int.reduceLE, Int.reduceLT, Nat.reduceEqDiff, Nat.reduceSub, SB, SV.known, packR, ne_eq, reduceCtorEq, Nat.reduceEqDiff, ↓reduceIte, if_true, if_false, eq_self, Nat.reduceAdd, Nat.reduceMul, Nat.reduceSub, forall_const, oneCellS, litOne, flat1, Kd.isSca, flat, TYB]
            · obtain ⟨ho, hc⟩ := pour_can hp
              obtain ⟨hrN, hcN, _, _, _⟩ := pour_facts hR hr ho hc
              have eT : pourT R x y = pourF R x.toNat y.toNat := by unfold pourT; rw [if_pos hp]
              have hN : (pourT R x y).length = 24 := pourT_len hR x y
              have tkN : (pourT R x y).take 24 = pourT R x y := List.take_of_length_le (by omega)
              have eC : pchF R x y = [sumT crN (pourT R x y) 6 - sumT crN R 6, sumT cbN (pourT R x y) 6 - sumT cbN R 6, bndF (pourT R x y) - bndF R] := by unfold pchF; rw [if_pos hp, eT]
              have hb := pour_bnd hR hr ho hc
              rw [← eT] at hb
              have bo1 : boF R = bndF R := by unfold boF; rw [if_pos hr]
              have bo2 : boF (pourT R x y) = bndF (pourT R x y) := by unfold boF; rw [if_pos hrN]
              have sp1 : spT (pourT R x y) - spT R = sumT crN (pourT R x y) 6 - sumT crN R 6 := by unfold spT; rw [if_pos hr, if_pos hrN, hcN]; omega
              have d0 : (pchF R x y).getD 0 0 = sumT crN (pourT R x y) 6 - sumT crN R 6 := by rw [eC]; rfl
              have d1 : (pchF R x y).getD 1 0 = sumT cbN (pourT R x y) 6 - sumT cbN R 6 := by rw [eC]; rfl
              have d2 : (pchF R x y).getD 2 0 = bndF (pourT R x y) - bndF R := by rw [eC]; rfl
              have bN := bndF_in hN
              have bcN := sumT_bd hN crN_bd 6 (by omega)
              simp -implicitDefEqProofs only [hN, tkN, hrN, lk_normal, gB, gR, gC, q0, q1, q3, rBig_F, PourChange_F, sPourChange_F, BoundOf_F, sBoundOf_F, IsRack_F, CountRuns_F, sCountRuns_F, CountBoundaries_F, sCountBoundaries_F, SpareRuns_F, sSpareRuns_F, BottomCounts_F, sBottomCounts_F, DoesFit_F, sDoesFit_F, rInts_F, IsSorted_F, Pour_F, RoomLeft_F, sRoomLeft_F, freshK, Wrap.ap, hR, tkR, lch, tkch, lbt, tkbt, r24, r6, eqI_rack, eqI_a6, eqI_a3, Nat.add_assoc, add_self, self_add, add_add, hps, ← e1, e2, e3, c1', c2', hp, ZB, Int.reduceToNat, Nat.reduceLT, Nat.reduceLeDiff, Int.reduceLE, Int.reduceLT, Nat.reduceEqDiff, Nat.reduceSub, SB, SV.known, packR, ne_eq, reduceCtorEq, Nat.reduceEqDiff, ↓reduceIte, if_true, if_false, eq_self, Nat.reduceAdd, Nat.reduceMul, Nat.reduceSub, forall_const, oneCellS, litOne, flat1, Kd.isSca, flat, TYB]
              rw [d0, d1, d2, bo1, bo2, sp1]
              refine ⟨fun _ => ⟨fun _ => ⟨fun _ => ⟨?_, fun _ => ⟨?_, fun _ => ?_, fun h => ?_⟩, fun h => ?_⟩, fun h => ?_⟩, fun h => ?_⟩, fun h => ?_⟩
              · rw [show bndF R + (bndF (pourT R x y) - bndF R) = bndF (pourT R x y) by omega]; exact bN
              · unfold In64; omega
              all_goals omega

set_option maxHeartbeats 4000000 in
theorem lawFnBoundsHoldN : PureH Try.prog 6 [.nils] [] (.bool true) := by
  · refine pure_of_vc (X := ⟨Try.prog, tys, [(7, rBig_F), (53, PourChange_F), (54, sPourChange_F), (24, BoundOf_F), (55, sBoundOf_F), (11, IsRack_F), (56, CountRuns_F), (57, sCountRuns_F), (58, CountBoundaries_F), (59, sCountBoundaries_F), (60, SpareRuns_F), (61, sSpareRuns_F), (62, BottomCounts_F), (63, sBottomCounts_F), (64, DoesFit_F), (65, sDoesFit_F), (20, rInts_F), (51, IsSorted_F), (23, Pour_F)], [(52, DrawPourChange_F), (66, RoomLeft_F), (67, sRoomLeft_F), (68, DrawBoundOf_F)], true, true, 1, [], []⟩) fn_6 ⟨tys_ok, (.cons rBig_T (.cons PourChange_T (.cons sPourChange_T (.cons BoundOf_T (.cons sBoundOf_T (.cons IsRack_T (.cons CountRuns_T (.cons sCountRuns_T (.cons CountBoundaries_T (.cons sCountBoundaries_T (.cons SpareRuns_T (.cons sSpareRuns_T (.cons BottomCounts_T (.cons sBottomCounts_T (.cons DoesFit_T (.cons sDoesFit_T (.cons rInts_T (.cons IsSorted_T (.cons Pour_T .nil))))))))))))))))))), (.cons DrawPourChange_T (.cons RoomLeft_T (.cons sRoomLeft_T (.cons DrawBoundOf_T .nil)))), mixed⟩ (n0 := 1) (Nat.le_of_ble_eq_true rfl) (by simp [wfL, SV.wf]) (wfH_spec (by simp [wfH, SObj.wf])) (Nat.le_refl _) (fun _ => by simp [SV.wf, wfL]) ?_
    simp -implicitDefEqProofs only [Try.f6, Option.getD_some, argS, rBig_F, PourChange_F, sPourChange_F, BoundOf_F, sBoundOf_F, IsRack_F, CountRuns_F, sCountRuns_F, CountBoundaries_F, sCountBoundaries_F, SpareRuns_F, sSpareRuns_F, BottomCounts_F, sBottomCounts_F, DoesFit_F, sDoesFit_F, rInts_F, IsSorted_F, Pour_F, DrawPourChange_F, RoomLeft_F, sRoomLeft_F, DrawBoundOf_F, ZB, Int.reduceToNat, Nat.reduceLT, Nat.reduceLeDiff, Int.reduceLE, Int.reduceLT, Nat.reduceEqDiff, Nat.reduceSub, SB, SV.known, packR, ne_eq, reduceCtorEq, Nat.reduceEqDiff, ↓reduceIte, if_true, if_false, eq_self, Nat.reduceAdd, Nat.reduceMul, Nat.reduceSub, forall_const, oneCellS, litOne, flat1, Kd.isSca, flat, TYB]
    refine ⟨(.inl rfl), Nat.le_refl _, fun R x y H' n' hR hRi hx hy hK => ?_⟩
    have tkR : R.take 24 = R := List.take_of_length_le (by omega)
    have r24 : List.take 24 (List.replicate 24 (0 : Int)) = List.replicate 24 0 := rfl
    have r6 : List.take 6 (List.replicate 6 (0 : Int)) = List.replicate 6 0 := rfl
    skip
    have hle := hK.le
    have hn0 : ¬ 0 = n' := by omega
    have lch := pchF_len R x y
    have tkch : (pchF R x y).take 3 = pchF R x y := List.take_of_length_le (by omega)
    have lbt : (btT R).length = 6 := by unfold btT; split; exact cntL_len _; rfl
    have tkbt : (btT R).take 6 = btT R := List.take_of_length_le (by omega)
    cases hr : rackB R
    · have hp : pourB R x y = false := by unfold pourB; rw [hr]; rfl
      have erm : rmF R = [] := by unfold rmF; rw [hr]; rfl
      simp -implicitDefEqProofs only [rBig_F, PourChange_F, sPourChange_F, BoundOf_F, sBoundOf_F, IsRack_F, CountRuns_F, sCountRuns_F, CountBoundaries_F, sCountBoundaries_F, SpareRuns_F, sSpareRuns_F, BottomCounts_F, sBottomCounts_F, DoesFit_F, sDoesFit_F, rInts_F, IsSorted_F, Pour_F, RoomLeft_F, sRoomLeft_F, freshK, Wrap.ap, hR, tkR, lch, tkch, lbt, tkbt, r24, r6, eqI_rack, eqI_a6, eqI_a3, Nat.add_assoc, add_self, self_add, add_add, hr, hp, erm, ZB, Int.reduceToNat, Nat.reduceLT, Nat.reduceLeDiff, Int.reduceLE, Int.reduceLT, Nat.reduceEqDiff, Nat.reduceSub, SB, SV.known, packR, ne_eq, reduceCtorEq, Nat.reduceEqDiff, ↓reduceIte, if_true, if_false, eq_self, Nat.reduceAdd, Nat.reduceMul, Nat.reduceSub, forall_const, oneCellS, litOne, flat1, Kd.isSca, flat, TYB]
      refine ⟨by omega, fun c1 j1 r1 => ?_, fun h => absurd trivial h⟩
      refine drawS_use (.inl rfl) (by omega) fun S H2 n2 hS hSi hK2 => ?_
      have hle2 := hK2.le
      have hle3 : 1 ≤ n2 := by omega
      have tkS : S.take 24 = S := List.take_of_length_le (by omega)
      cases hrS : rackB S
      · simp -implicitDefEqProofs only [rBig_F, PourChange_F, sPourChange_F, BoundOf_F, sBoundOf_F, IsRack_F, CountRuns_F, sCountRuns_F, CountBoundaries_F, sCountBoundaries_F, SpareRuns_F, sSpareRuns_F, BottomCounts_F, sBottomCounts_F, DoesFit_F, sDoesFit_F, rInts_F, IsSorted_F, Pour_F, RoomLeft_F, sRoomLeft_F, freshK, Wrap.ap, hR, tkR, lch, tkch, lbt, tkbt, r24, r6, eqI_rack, eqI_a6, eqI_a3, Nat.add_assoc, add_self, self_add, add_add, hr, hp, erm, hS, tkS, hrS, hle3, ZB, Int.reduceToNat, Nat.reduceLT, Nat.reduceLeDiff, Int.reduceLE, Int.reduceLT, Nat.reduceEqDiff, Nat.reduceSub, SB, SV.known, packR, ne_eq, reduceCtorEq, Nat.reduceEqDiff, ↓reduceIte, if_true, if_false, eq_self, Nat.reduceAdd, Nat.reduceMul, Nat.reduceSub, forall_const, oneCellS, litOne, flat1, Kd.isSca, flat, TYB]
      · have sb := sorted_bound hS hrS
        have eb : boF S = bndF S := by unfold boF; rw [if_pos hrS]
        by_cases hb0 : bndF S = 0
        all_goals
          simp -implicitDefEqProofs only [eb, hb0, hle3, rBig_F, PourChange_F, sPourChange_F, BoundOf_F, sBoundOf_F, IsRack_F, CountRuns_F, sCountRuns_F, CountBoundaries_F, sCountBoundaries_F, SpareRuns_F, sSpareRuns_F, BottomCounts_F, sBottomCounts_F, DoesFit_F, sDoesFit_F, rInts_F, IsSorted_F, Pour_F, RoomLeft_F, sRoomLeft_F, freshK, Wrap.ap, hR, tkR, lch, tkch, lbt, tkbt, r24, r6, eqI_rack, eqI_a6, eqI_a3, Nat.add_assoc, add_self, self_add, add_add, hr, hp, erm, hS, tkS, hrS, sb, ZB, Int.reduceToNat, Nat.reduceLT, Nat.reduceLeDiff, Int.reduceLE, Int.reduceLT, Nat.reduceEqDiff, Nat.reduceSub, SB, SV.known, packR, ne_eq, reduceCtorEq, Nat.reduceEqDiff, ↓reduceIte, if_true, if_false, eq_self, Nat.reduceAdd, Nat.reduceMul, Nat.reduceSub, forall_const, oneCellS, litOne, flat1, Kd.isSca, flat, TYB]
    · have erm := rmF_len R hr
      have nrm : (rmF R = []) = False := eq_false fun h => by rw [h] at erm; simp at erm
      simp -implicitDefEqProofs only [rBig_F, PourChange_F, sPourChange_F, BoundOf_F, sBoundOf_F, IsRack_F, CountRuns_F, sCountRuns_F, CountBoundaries_F, sCountBoundaries_F, SpareRuns_F, sSpareRuns_F, BottomCounts_F, sBottomCounts_F, DoesFit_F, sDoesFit_F, rInts_F, IsSorted_F, Pour_F, RoomLeft_F, sRoomLeft_F, freshK, Wrap.ap, hR, tkR, lch, tkch, lbt, tkbt, r24, r6, eqI_rack, eqI_a6, eqI_a3, Nat.add_assoc, add_self, self_add, add_add, hr, erm, nrm, ZB, Int.reduceToNat, Nat.reduceLT, Nat.reduceLeDiff, Int.reduceLE, Int.reduceLT, Nat.reduceEqDiff, Nat.reduceSub, SB, SV.known, packR, ne_eq, reduceCtorEq, Nat.reduceEqDiff, ↓reduceIte, if_true, if_false, eq_self, Nat.reduceAdd, Nat.reduceMul, Nat.reduceSub, forall_const, oneCellS, litOne, flat1, Kd.isSca, flat, TYB]
      refine ⟨hle, fun c1 j1 r1 c2 j2 r2 => ⟨⟨by rw [List.length_append]; omega, by rw [List.length_append]; omega, by rw [List.take_left' erm, List.take_left' erm]⟩, ?_⟩⟩
      refine drawS_use (.inl rfl) (by omega) fun S H2 n2 hS hSi hK2 => ?_
      have hle2 := hK2.le
      have hle3 : 1 ≤ n2 := by omega
      have tkS : S.take 24 = S := List.take_of_length_le (by omega)
      have q0 : ¬ n' = n2 := by omega
      have q1 : ¬ n' + 1 = n2 := by omega
      have q3 : ¬ n' + 3 = n2 := by omega
      have gR : hget H2 n' = some (.ints R 27) := hK2.get (by omega) (by simp [hget_cons])
      have gC : hget H2 (n' + 1) = some (.ints (pchF R x y) 73) := hK2.get (by omega) (by simp [hget_cons])
      have gB : hget H2 (n' + 3) = some (.ints (btT R) 51) := hK2.get (by omega) (by simp [hget_cons])
      have hwS : ∀ S : List Int, hwf (n2 + 1) ((n2, .ints S 27) :: (n2, .ints (List.replicate 24 0) 27) :: H2) := fun S => hwf_cons (hwf_cons (hwf_mono (by omega) hK2.wf) (by omega) trivial) (by omega) trivial
      have hps : ps (btT R) 6 = 6 := by
        rw [ps_six]
        unfold btT; rw [if_pos hr]
        have := bots_sum hR hr 6 (Nat.le_refl _)
        rwa [List.take_of_length_le (by rw [botL_len]; omega)] at this
      have hbt : ∀ k, 0 ≤ (btT R).getD k 0 ∧ (btT R).getD k 0 ≤ 6 := fun k => by
        unfold btT; rw [if_pos hr]
        have := cntL_bd (botL R) k
        rw [botL_len] at this; exact this
      have hbd := ps_bd hbt
      have e1 : cbT R = crT R - 6 + (btT R).getD 0 0 := by
        unfold cbT crT btT; rw [if_pos hr, if_pos hr, if_pos hr]
        have := edges_eq hR hr 6 (Nat.le_refl _)
        rwa [List.take_of_length_le (by rw [botL_len]; omega)] at this
      have e2 : ¬ boF R < cbT R := by
        unfold boF cbT; rw [if_pos hr, if_pos hr]
        have := bnd_edges hR; omega
      have e3 : ¬ spT R < 0 := by
        unfold spT; rw [if_pos hr]
        have := spare_nn hR hr; omega
      have bc := sumT_bd hR crN_bd 6 (by omega)
      have ecr : crT R = sumT crN R 6 := by unfold crT; rw [if_pos hr]
      have c1' : In64 (crT R - 6) := by unfold In64; omega
      have c2' : In64 (cbT R) := by have := hbt 0; unfold In64; omega
      have sb : rackB S = true → sortB S = decide (bndF S = 0) := sorted_bound hS
      have eb : rackB S = true → boF S = bndF S := fun h => by unfold boF; rw [if_pos h]
      cases hrS : rackB S
      case' true => rw [hrS] at sb eb
      case' true => have sb := sb rfl
      case' true => have eb := eb rfl
      case' true => by_cases hb0 : bndF S = 0
      all_goals
        first
        | simp -implicitDefEqProofs only [eb, hb0, hle3, rBig_F, PourChange_F, sPourChange_F, BoundOf_F, sBoundOf_F, IsRack_F, CountRuns_F, sCountRuns_F, CountBoundaries_F, sCountBoundaries_F, SpareRuns_F, sSpareRuns_F, BottomCounts_F, sBottomCounts_F, DoesFit_F, sDoesFit_F, rInts_F, IsSorted_F, Pour_F, RoomLeft_F, sRoomLeft_F, freshK, Wrap.ap, hR, tkR, lch, tkch, lbt, tkbt, r24, r6, eqI_rack, eqI_a6, eqI_a3, Nat.add_assoc, add_self, self_add, add_add, hr, erm, nrm, hS, tkS, hrS, sb, ZB, Int.reduceToNat, Nat.reduceLT, Nat.reduceLeDiff, Int.reduceLE, Int.reduceLT, Nat.reduceEqDiff, Nat.reduceSub, SB, SV.known, packR, ne_eq, reduceCtorEq, Nat.reduceEqDiff, ↓reduceIte, if_true, if_false, eq_self, Nat.reduceAdd, Nat.reduceMul, Nat.reduceSub, forall_const, oneCellS, litOne, flat1, Kd.isSca, flat, TYB]
        | simp -implicitDefEqProofs only [hle3, rBig_F, PourChange_F, sPourChange_F, BoundOf_F, sBoundOf_F, IsRack_F, CountRuns_F, sCountRuns_F, CountBoundaries_F, sCountBoundaries_F, SpareRuns_F, sSpareRuns_F, BottomCounts_F, sBottomCounts_F, DoesFit_F, sDoesFit_F, rInts_F, IsSorted_F, Pour_F, RoomLeft_F, sRoomLeft_F, freshK, Wrap.ap, hR, tkR, lch, tkch, lbt, tkbt, r24, r6, eqI_rack, eqI_a6, eqI_a3, Nat.add_assoc, add_self, self_add, add_add, hr, erm, nrm, hS, tkS, hrS, ZB, Int.reduceToNat, Nat.reduceLT, Nat.reduceLeDiff, Int.reduceLE, Int.reduceLT, Nat.reduceEqDiff, Nat.reduceSub, SB, SV.known, packR, ne_eq, reduceCtorEq, Nat.reduceEqDiff, ↓reduceIte, if_true, if_false, eq_self, Nat.reduceAdd, Nat.reduceMul, Nat.reduceSub, forall_const, oneCellS, litOne, flat1, Kd.isSca, flat, TYB]
        refine loop_intro (fun k : Nat => [(43, .int (ps (btT R) k)), (44, .int k), (26, .ptr (n' + 3) 0), (18, .int (cbT R)), (14, .int (crT R)), (10, .int (boF R)), (22, .int (spT R)), (34, .slice (n' + 5) 0 6 c1), (3, .ptr n' 0), (4, .int x), (5, .int y), (6, .ptr (n' + 1) 0), (7, .bool (pourB R x y))]) (fun _ => (n2, .ints S 27) :: (n2, .ints (List.replicate 24 0) 27) :: H2) (n2 + 1) (fun k => k ≤ 6) (fun k => 6 - k) ?_ ?_
        · exact ⟨0, Nat.zero_le _, Sub.same (by simp only [LB, subS, subH, wfS, wfH, SV.ren, renL, SObj.ren, SV.wf, SObj.wf, wfL, SV.known, Nat.reduceEqDiff, ↓reduceIte, if_true, if_false, eq_self, Nat.reduceAdd, Nat.reduceLT, Nat.reduceLeDiff, implies_true, reduceCtorEq, forall_const]; try rfl) (by simp [subS, subH, wfS, wfH, SV.ren, renL, SObj.ren, SV.wf, SObj.wf, wfL, sget_cons, hget_cons] <;> omega) (hwS S) (by omega)⟩
        · intro k hk
          have hb1 := hbd k
          have hb2 := hbt k
          by_cases hk6 : k < 6
          · have hkl : (k : Int) < 6 := by omega
            simp -implicitDefEqProofs only [lk_normal, gB, q3, lbt, hkl, ZB, Int.reduceToNat, Nat.reduceLT, Nat.reduceLeDiff, Int.reduceLE, Int.reduceLT, Nat.reduceEqDiff, Nat.reduceSub, SB, SV.known, packR, ne_eq, reduceCtorEq, Nat.reduceEqDiff, ↓reduceIte, if_true, if_false, eq_self, Nat.reduceAdd, Nat.reduceMul, Nat.reduceSub, forall_const, oneCellS, litOne, flat1, Kd.isSca, flat, TYB]
            exact ⟨by omega, hk6, by unfold In64; omega, by unfold In64; omega, k + 1, by omega, by omega, Sub.same (by simp only [ps, LB, subS, subH, wfS, wfH, SV.ren, renL, SObj.ren, SV.wf, SObj.wf, wfL, SV.known, Nat.reduceEqDiff, ↓reduceIte, if_true, if_false, eq_self, Nat.reduceAdd, Nat.reduceLT, Nat.reduceLeDiff, implies_true, reduceCtorEq, forall_const]; try rfl) (by simp [subS, subH, wfS, wfH, SV.ren, renL, SObj.ren, SV.wf, SObj.wf, wfL, sget_cons, hget_cons] <;> omega) (hwS S) (by omega)⟩
          · obtain rfl : k = 6 := by omega
            cases hp : pourB R x y
            · simp -implicitDefEqProofs only [lk_normal, gB, q3, lbt, hps, ← e1, e2, e3, c1', c2', ZB, Int.reduceToNat, Nat.reduceLT, Nat.reduceLeDiff, Int.reduceLE, Int.reduceLT, Nat.reduceEqDiff, Nat.reduceSub, SB, SV.known, packR, ne_eq, reduceCtorEq, Nat.reduceEqDiff, ↓reduceIte, if_true, if_false, eq_self, Nat.reduceAdd, Nat.reduceMul, Nat.reduceSub, forall_const, oneCellS, litOne, flat1, Kd.isSca, flat, TYB]
            · obtain ⟨ho, hc⟩ := pour_can hp
              obtain ⟨hrN, hcN, _, _, _⟩ := pour_facts hR hr ho hc
              have eT : pourT R x y = pourF R x.toNat y.toNat := by unfold pourT; rw [if_pos hp]
              have hN : (pourT R x y).length = 24 := pourT_len hR x y
              have tkN : (pourT R x y).take 24 = pourT R x y := List.take_of_length_le (by omega)
              have eC : pchF R x y = [sumT crN (pourT R x y) 6 - sumT crN R 6, sumT cbN (pourT R x y) 6 - sumT cbN R 6, bndF (pourT R x y) - bndF R] := by unfold pchF; rw [if_pos hp, eT]
              have hb := pour_bnd hR hr ho hc
              rw [← eT] at hb
              have bo1 : boF R = bndF R := by unfold boF; rw [if_pos hr]
              have bo2 : boF (pourT R x y) = bndF (pourT R x y) := by unfold boF; rw [if_pos hrN]
              have sp1 : spT (pourT R x y) - spT R = sumT crN (pourT R x y) 6 - sumT crN R 6 := by unfold spT; rw [if_pos hr, if_pos hrN, hcN]; omega
              have d0 : (pchF R x y).getD 0 0 = sumT crN (pourT R x y) 6 - sumT crN R 6 := by rw [eC]; rfl
              have d1 : (pchF R x y).getD 1 0 = sumT cbN (pourT R x y) 6 - sumT cbN R 6 := by rw [eC]; rfl
              have d2 : (pchF R x y).getD 2 0 = bndF (pourT R x y) - bndF R := by rw [eC]; rfl
              have bN := bndF_in hN
              have bcN := sumT_bd hN crN_bd 6 (by omega)
              simp -implicitDefEqProofs only [hN, tkN, hrN, lk_normal, gB, gR, gC, q0, q1, q3, rBig_F, PourChange_F, sPourChange_F, BoundOf_F, sBoundOf_F, IsRack_F, CountRuns_F, sCountRuns_F, CountBoundaries_F, sCountBoundaries_F, SpareRuns_F, sSpareRuns_F, BottomCounts_F, sBottomCounts_F, DoesFit_F, sDoesFit_F, rInts_F, IsSorted_F, Pour_F, RoomLeft_F, sRoomLeft_F, freshK, Wrap.ap, hR, tkR, lch, tkch, lbt, tkbt, r24, r6, eqI_rack, eqI_a6, eqI_a3, Nat.add_assoc, add_self, self_add, add_add, hps, ← e1, e2, e3, c1', c2', hp, ZB, Int.reduceToNat, Nat.reduceLT, Nat.reduceLeDiff, Int.reduceLE, Int.reduceLT, Nat.reduceEqDiff, Nat.reduceSub, SB, SV.known, packR, ne_eq, reduceCtorEq, Nat.reduceEqDiff, ↓reduceIte, if_true, if_false, eq_self, Nat.reduceAdd, Nat.reduceMul, Nat.reduceSub, forall_const, oneCellS, litOne, flat1, Kd.isSca, flat, TYB]
              rw [d0, d1, d2, bo1, bo2, sp1]
              refine ⟨fun _ => ⟨fun _ => ⟨fun _ => ⟨?_, fun _ => ⟨?_, fun _ => ?_, fun h => ?_⟩, fun h => ?_⟩, fun h => ?_⟩, fun h => ?_⟩, fun h => ?_⟩
              · rw [show bndF R + (bndF (pourT R x y) - bndF R) = bndF (pourT R x y) by omega]; exact bN
              · unfold In64; omega
              all_goals omega

end Go.Proofs.Ytopfnkmlgcjpbaa
/- From a walk to the statement: arguments opened, the row's post. -/
set_option maxRecDepth 100000
set_option linter.unusedSimpArgs false
set_option linter.unusedVariables false
namespace Go.Proofs.Ytopfnkmlgcjpbaa
open Go Go.RowKit Go.ChangeShapes Go.WideShapes Go.ChangeAt

theorem own_knob : ownKnob Try.prog.godebug = none := by kernel_rfl
theorem laid_out : laidOutB Try.prog = true := by kernel_rfl

theorem cell_int {w : World} {base : Nat} {u : TypeId} {v : Value} (hu : Try.prog.underlying u = some (.int .i64)) (h : Cell.okWide Try.prog w .any base u v) : ∃ x, v = .int .i64 x ∧ In64 x := by
  unfold Cell.okWide at h
  rw [hu] at h
  cases v <;> simp only [Cell.ok, hu] at h <;> (try exact h.elim)
  rename_i k x
  obtain ⟨rfl, hx⟩ := h
  exact ⟨x, rfl, hx⟩

/-- An argument of all int64 cells. -/
theorem open_arr {w : World} {base t u size : Nat} {v : Value} {d : TypeDesc} (ht : Try.prog.underlying t = some d) (hd : tdAgg d = true) (hts : Try.prog.cellTypes Try.prog.depth t = some (List.replicate size u)) (hc : Try.prog.cellsOf t = size)
    (hu : Try.prog.underlying u = some (.int .i64)) (h : Value.okWide Try.prog w .any base t v) : ∃ L, v = .agg (ints L) ∧ L.length = size ∧ ∀ x ∈ L, In64 x := by
  unfold Value.okWide at h
  rw [ht] at h
  have h' : ∃ cs, v = .agg cs ∧ cs.size = Try.prog.cellsOf t ∧ Row.okWide Try.prog w .any base t cs := by
    cases d <;> simp [tdAgg] at hd <;> exact h
  obtain ⟨cs, rfl, hsz, ts, hts', _, hr⟩ := h'
  rw [hts] at hts'
  cases hts'
  have key : ∀ (l : List Value) (k : Nat), (∀ (i : Nat) (v : Value), l[i]? = some v → ∃ x, v = Value.int .i64 x ∧ In64 x) → ∃ L : List Int, l = L.map (Value.int .i64) ∧ ∀ x ∈ L, In64 x := by
    intro l
    induction l with
    | nil => intro _ _; exact ⟨[], rfl, by simp⟩
    | cons a l ih =>
      intro k hl
      obtain ⟨x, rfl, hx⟩ := hl 0 a rfl
      obtain ⟨L, rfl, hL⟩ := ih k fun i v hv => hl (i + 1) v hv
      exact ⟨x :: L, rfl, by simpa using ⟨hx, hL⟩⟩
  obtain ⟨L, hL, hb⟩ := key cs.toList 0 fun i v hv => by
    obtain ⟨u', hu', hc'⟩ := hr i v (by simpa using hv)
    have : u' = u := by
      rw [List.getElem?_replicate] at hu'
      split at hu'
      · cases hu'; rfl
      · cases hu'
    subst this
    exact cell_int hu hc'
  refine ⟨L, ?_, ?_, hb⟩
  · simp only [ints]; rw [← hL]
  · have := congrArg List.length hL
    simp at this
    omega

theorem trodAll_below {H : Type} {enc : TypeId × Value → H} {W W' : World} (hb : Below W.heap.size W W') : ∀ {ts : List TypeId} {vs : List Value} {ds : List (DataW H)} {ps : List MemPlace}, DataW.TrodAll enc Try.prog W 0 (fun _ => true) true ts vs ds ps →
    (∀ t ∈ ts, Try.prog.readableRec t = true ∧ t < Try.prog.types.size) → (∀ x ∈ ps, x.block < W.heap.size) → DataW.TrodAll enc Try.prog W' 0 (fun b => decide (b < W.heap.size)) true ts vs ds ps
  | [], vs, ds, ps, h, _, _ => by
    obtain ⟨rfl, rfl, rfl⟩ := trodAll_nil h
    exact trodAll_mk0
  | t :: ts, vs, ds, ps, h, hr, hp => by
    obtain ⟨v0, vs0, d0, ds0, p0, q0, rfl, rfl, rfl, h0, r0⟩ := trodAll_cons h
    exact trodAll_cons_mk (Below.trod laid_out (hr t (by simp)).1 (hr t (by simp)).2 h0 hb fun x hx => hp x (by simp [hx])) (trodAll_below hb r0 (fun t' ht' => hr t' (by simp [ht'])) fun x hx => hp x (by simp [hx]))

theorem law_post {H : Type} {enc : TypeId × Value → H} {f : Func} {s : ChangeSpec} {W W' : World} {args : Array Value} {ds gs : List (DataW H)} {before : List MemPlace} (hb : Below W.heap.size W W') (hW : DataW.Whole enc Try.prog f.params.toList s.vars false W args.toList ds gs before)
    (hv : s.vars = []) (hrt : f.resultTypes = #[4]) (hs1 : (s.fn H (ds ++ gs)).results = [.lit (.bool true)]) (hs2 : (s.fn H (ds ++ gs)).args = ds) (hs3 : (s.fn H (ds ++ gs)).vars = []) (hr : ∀ t ∈ f.params.toList, Try.prog.readableRec t = true ∧ t < Try.prog.types.size) :
    s.post enc Try.prog f false true false false W args (.bool true) W' := by
  have hW' := hW
  obtain ⟨p, q, hA, hV, rfl, hfz, hnd⟩ := hW
  rw [hv] at hV
  obtain ⟨rfl, rfl⟩ := trodVars_none hV
  refine ⟨ds, _, _, [], p, [], hW', ?_, ?_, ?_, hb.frame _, fun h => by cases h⟩
  · rw [hs1, hrt]
    exact trodAll_cons_mk (shut_bool Try.underlying4 true) trodAll_mk0
  · rw [hs2]
    exact trodAll_below hb hA hr fun x hx => by simpa using hW'.lt x (by simpa using hx)
  · rw [hv, hs3]
    rfl
end Go.Proofs.Ytopfnkmlgcjpbaa
/- From a walk to the statement: arguments that are slices. -/
set_option maxRecDepth 100000
set_option linter.unusedSimpArgs false
set_option linter.unusedVariables false
namespace Go.Proofs.Ytopfnkmlgcjpbaa
open Go Go.RowKit Go.ChangeShapes Go.WideShapes Go.ChangeAt

/-- Each value of this type is so many int64 cells. -/
def IntEl (t w : Nat) : Prop := ∀ {H : Type} {enc : TypeId × Value → H} {W : World} {base : Nat} {sp : Nat → Bool} {held : Bool} {fuel : Nat} {cs : List Value} {x : DataW H × List MemPlace},
  DataW.trod enc Try.prog W base sp held fuel t cs = some x → cs.length = w ∧ ∀ j, j < w → ∃ n, cs[j]? = some (.int .i64 n) ∧ In64 n
theorem intEl_int {t : Nat} (ht : Try.prog.underlying t = some (.int .i64)) : IntEl t 1 := by
  intro H enc W base sp held fuel cs x h
  obtain ⟨n, rfl, _, hw⟩ := DataW.trod_int ht h
  refine ⟨rfl, fun j hj => ⟨n, ?_, by simpa [Lit.wf, IntKind.min, IntKind.max, IntKind.signed, IntKind.bits, In64] using hw⟩⟩
  obtain rfl : j = 0 := by omega
  rfl
theorem intEl_arr {t e w : Nat} (ht : Try.prog.underlying t = some (.array w e)) (hc : Try.prog.cellsOf t = w) (he : Try.prog.underlying e = some (.int .i64)) (hce : Try.prog.cellsOf e = 1) : IntEl t w := by
  intro H enc W base sp held fuel cs x h
  obtain ⟨xs, n, _, _, hl, hxl, hx⟩ := DataW.trod_array ht h
  refine ⟨by omega, fun j hj => ?_⟩
  have h1 := hx j hj
  rw [hce, Nat.mul_one] at h1
  obtain ⟨y, hy⟩ : ∃ y, xs[j]? = some y := ⟨xs[j]'(by omega), List.getElem?_eq_getElem (by omega)⟩
  rw [hy] at h1
  obtain ⟨m, hm, _, hw⟩ := DataW.trod_int he h1
  refine ⟨m, ?_, by simpa [Lit.wf, IntKind.min, IntKind.max, IntKind.signed, IntKind.bits, In64] using hw⟩
  have := congrArg (fun l => l[0]?) hm
  simpa [List.getElem?_take, List.getElem?_drop] using this
theorem intEl_str {t w : Nat} {fs : Array Field} (ht : Try.prog.underlying t = some (.struct fs)) (hc : Try.prog.cellsOf t = w) (hn : fs.size = w) (hf : ∀ j, j < w → ∃ f, fs[j]? = some f ∧ f.offset = j ∧ Try.prog.underlying f.type = some (.int .i64) ∧ Try.prog.cellsOf f.type = 1) : IntEl t w := by
  intro H enc W base sp held fuel cs x h
  obtain ⟨xs, n, _, _, hl, hxl, hx⟩ := DataW.trod_struct ht h
  refine ⟨by omega, fun j hj => ?_⟩
  obtain ⟨f, hf1, hf2, hf3, hf4⟩ := hf j hj
  have h1 := hx j f hf1
  rw [hf4, hf2] at h1
  obtain ⟨y, hy⟩ : ∃ y, xs[j]? = some y := ⟨xs[j]'(by omega), List.getElem?_eq_getElem (by omega)⟩
  rw [hy] at h1
  obtain ⟨m, hm, _, hw⟩ := DataW.trod_int hf3 h1
  refine ⟨m, ?_, by simpa [Lit.wf, IntKind.min, IntKind.max, IntKind.signed, IntKind.bits, In64] using hw⟩
  have := congrArg (fun l => l[0]?) hm
  simpa [List.getElem?_take, List.getElem?_drop] using this

theorem add_off (b o n : Nat) : (Addr.mk b o none).add n = ⟨b, o + n, none⟩ := by
  unfold Addr.add
  split
  · rename_i h; rw [h]; rfl
  · rfl
def intOf (v : Option Value) : Int := match v with
  | some (.int _ n) => n
  | _ => 0
/-- An argument that is a slice of such values. -/
theorem open_sl {H : Type} {enc : TypeId × Value → H} {W : World} {b0 : Nat} {sp : Nat → Bool} {held : Bool} {t e w : Nat} {v : Value} {d : DataW H} {ps : List MemPlace} (ht : Try.prog.underlying t = some (.slice e)) (hc : Try.prog.cellsOf e = w) (hw : 0 < w) (hE : IntEl e w)
    (hval : Value.okWide Try.prog W .any b0 t v) (hd : DataW.Trod enc Try.prog W 0 sp held t v d ps) :
    v = .slice none 0 0 ∨ ∃ (b off len cap : Nat) (L : List Int), v = .slice (some ⟨b, off, none⟩) len cap ∧ len ≤ cap ∧ cap ≤ maxLen ∧ L.length = len * w ∧ (∀ x ∈ L, In64 x) ∧ SObj.sat (fun _ => b) W b (.win off L) := by
  unfold Value.okWide at hval
  rw [ht] at hval
  simp only [Cell.okWide] at hval
  rw [ht] at hval
  obtain ⟨fuel, hd⟩ := hd
  rcases DataW.trod_slice ht hd with ⟨h0, _⟩ | ⟨a, len, cap, elems, rest, n, _, hcs, _, _, hl, hm, hlen, hel, _⟩
  · left
    cases v <;> simp_all [Value.cells, Cell.ok]
  · right
    have hv : v = .slice (some a) len cap := by
      cases v <;> simp_all [Value.cells, Cell.ok]
    subst hv
    simp only [Cell.ok, ht] at hval
    obtain ⟨_, _, _, hsp, row, cells, hshape, _⟩ := hval
    obtain ⟨b, off, spot⟩ := a
    simp only at hsp hshape
    subst hsp
    unfold World.shape? at hshape
    split at hshape
    · rename_i c el fz hb
      have each : ∀ k, k < len * w → ∃ n, c[off + k]? = some (.int .i64 n) ∧ In64 n := by
        intro k hk
        have hi : k / w < len := (Nat.div_lt_iff_lt_mul hw).2 hk
        have hj : k % w < w := Nat.mod_lt _ hw
        have h1 := hel (k / w) hi
        obtain ⟨y, hy⟩ : ∃ y, elems[k / w]? = some y := ⟨elems[k / w]'(by omega), List.getElem?_eq_getElem (by omega)⟩
        rw [hy, hc, Option.bind_eq_some_iff] at h1
        obtain ⟨cs, hcs, h1⟩ := h1
        obtain ⟨hcl, hce⟩ := hE h1
        obtain ⟨m, hm, hin⟩ := hce (k % w) hj
        have h2 := (World.cells?_some hcs).2.2 (k % w) hj
        rw [hm, add_off, add_off] at h2
        unfold World.cell? at h2
        simp only [hb] at h2
        refine ⟨m, ?_, hin⟩
        have e1 : off + k / w * w + k % w = off + k := by
          have := Nat.div_add_mod k w
          rw [Nat.mul_comm] at this
          omega
        rw [e1] at h2
        simpa using h2
      refine ⟨b, off, len, cap, (List.range (len * w)).map fun k => intOf c[off + k]?, rfl, hl, hm, by simp, fun x hx => ?_, c, el, fz, hb, fun i hi => ?_⟩
      · obtain ⟨k, hk, rfl⟩ := List.mem_map.1 hx
        obtain ⟨m, h1, h2⟩ := each k (List.mem_range.1 hk)
        rw [h1]; exact h2
      · simp at hi
        obtain ⟨m, h1, h2⟩ := each i hi
        rw [h1]
        simp [List.getD, hi, h1, intOf]
    · cases hshape
theorem HR.win_one {b off : Nat} {L : List Int} {W : World} (h : SObj.sat (fun _ => b) W b (.win off L)) : HR (fun _ => b) [(0, .win off L)] W where
  at_ := fun k o hk _ => by
    rw [hget_cons] at hk
    split at hk
    · cases hk; exact h
    · cases hk
  inj := fun k j o o' h1 _ h2 _ _ => by
    rw [hget_cons] at h1 h2
    split at h1
    · split at h2
      · omega
      · cases h2
    · cases h1
end Go.Proofs.Ytopfnkmlgcjpbaa
/- From a walk to the statement: an argument of bytes. -/
set_option maxRecDepth 100000
set_option linter.unusedSimpArgs false
set_option linter.unusedVariables false
namespace Go.Proofs.Ytopfnkmlgcjpbaa
open Go Go.RowKit Go.ChangeShapes Go.WideShapes Go.ChangeAt
/-- An argument that is a slice of bytes. -/
theorem open_by {H : Type} {enc : TypeId × Value → H} {W : World} {b0 : Nat} {sp : Nat → Bool} {held : Bool} {t e : Nat} {v : Value} {d : DataW H} {ps : List MemPlace} (ht : Try.prog.underlying t = some (.slice e)) (hc : Try.prog.cellsOf e = 1) (he : Try.prog.underlying e = some (.int .u8))
    (hval : Value.okWide Try.prog W .any b0 t v) (hd : DataW.Trod enc Try.prog W 0 sp held t v d ps) :
    v = .slice none 0 0 ∨ ∃ (b off len cap : Nat) (L : List Int), v = .slice (some ⟨b, off, none⟩) len cap ∧ len ≤ cap ∧ cap ≤ maxLen ∧ L.length = len ∧ (∀ x ∈ L, 0 ≤ x ∧ x ≤ 255) ∧ SObj.sat (fun _ => b) W b (.winU off L) := by
  unfold Value.okWide at hval
  rw [ht] at hval
  simp only [Cell.okWide] at hval
  rw [ht] at hval
  obtain ⟨fuel, hd⟩ := hd
  rcases DataW.trod_slice ht hd with ⟨h0, _⟩ | ⟨a, len, cap, elems, rest, n, _, hcs, _, _, hl, hm, hlen, hel, _⟩
  · left
    cases v <;> simp_all [Value.cells, Cell.ok]
  · right
    have hv : v = .slice (some a) len cap := by
      cases v <;> simp_all [Value.cells, Cell.ok]
    subst hv
    simp only [Cell.ok, ht] at hval
    obtain ⟨_, _, _, hsp, row, cells, hshape, _⟩ := hval
    obtain ⟨b, off, spot⟩ := a
    simp only at hsp hshape
    subst hsp
    unfold World.shape? at hshape
    split at hshape
    · rename_i c el fz hb
      have each : ∀ k, k < len → ∃ n, c[off + k]? = some (.int .u8 n) ∧ (0 ≤ n ∧ n ≤ 255) := by
        intro k hk
        have h1 := hel k hk
        obtain ⟨y, hy⟩ : ∃ y, elems[k]? = some y := ⟨elems[k]'(by omega), List.getElem?_eq_getElem (by omega)⟩
        rw [hy, hc, Option.bind_eq_some_iff] at h1
        obtain ⟨cs, hcs, h1⟩ := h1
        obtain ⟨m, rfl, _, hw⟩ := DataW.trod_int he h1
        have h2 := (World.cells?_some hcs).2.2 0 (by omega)
        rw [add_off, add_off] at h2
        unfold World.cell? at h2
        simp only [hb] at h2
        refine ⟨m, by simpa using h2, by simpa [Lit.wf, IntKind.min, IntKind.max, IntKind.signed, IntKind.bits] using hw⟩
      refine ⟨b, off, len, cap, (List.range len).map fun k => intOf c[off + k]?, rfl, hl, hm, by simp, fun x hx => ?_, c, el, fz, hb, fun i hi => ?_⟩
      · obtain ⟨k, hk, rfl⟩ := List.mem_map.1 hx
        obtain ⟨m, h1, h2⟩ := each k (List.mem_range.1 hk)
        rw [h1]; exact h2
      · simp at hi
        obtain ⟨m, h1, h2⟩ := each i hi
        rw [h1]
        simp [List.getD, hi, h1, intOf]
    · cases hshape
theorem HR.winU_one {b off : Nat} {L : List Int} {W : World} (h : SObj.sat (fun _ => b) W b (.winU off L)) : HR (fun _ => b) [(0, .winU off L)] W where
  at_ := fun k o hk _ => by
    rw [hget_cons] at hk
    split at hk
    · cases hk; exact h
    · cases hk
  inj := fun k j o o' h1 _ h2 _ _ => by
    rw [hget_cons] at h1 h2
    split at h1
    · split at h2
      · omega
      · cases h2
    · cases h1
end Go.Proofs.Ytopfnkmlgcjpbaa
