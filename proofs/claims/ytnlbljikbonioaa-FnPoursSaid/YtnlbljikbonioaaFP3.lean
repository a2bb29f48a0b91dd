/- The law of pours, walked. -/
import Derived.Test.YtnlbljikbonioaaFP2
import Derived.Test.YtnlbljikbonioaaFP0
import Derived.Test.YtnlbljikbonioaaDrawR
set_option maxRecDepth 100000
set_option linter.unusedSimpArgs false
set_option linter.unusedVariables false
namespace Go.Proofs.Ytnlbljikbonioaa
open Go Go.RowKit
theorem eqI_a6 : EqI Try.prog 40 6 := eqI_of (D := 2) (by omega) (eqA_ints (i := (Try.prog.info? 3).getD default) Try.underlying40 (by kernel_rfl) (by kernel_rfl) rfl Try.underlying3) (by kernel_rfl)
--@tbl rBig = laws.rBig
theorem rBig_ok (L : List Int) (off len cap : Nat) : PureH Try.prog 6 [.slice 0 off len cap] [(0, .winU off L)] (.bool (decide (65536 < (len : Int)))) := by
  refine pure_of_vc (X := ⟨Try.prog, tys, [], [], true, true, 1, [], []⟩) fn_6 ⟨tys_ok, .nil, .nil, mixed⟩ (n0 := 1) (Nat.le_of_ble_eq_true rfl) (by simp [wfL, SV.wf]) (wfH_spec (by simp [wfH, SObj.wf])) (Nat.le_refl _) (fun _ => by simp [SV.wf, wfL]) ?_
  simp -implicitDefEqProofs only [Try.f6, Option.getD_some, argS, ZB, Int.reduceToNat, Nat.reduceLT, Nat.reduceLeDiff, Int.reduceLE, Int.reduceLT, Nat.reduceEqDiff, Nat.reduceSub, SB, SV.known, packR, ne_eq, reduceCtorEq, Nat.reduceEqDiff, ↓reduceIte, if_true, if_false, eq_self, Nat.reduceAdd, Nat.reduceMul, Nat.reduceSub, forall_const, oneCellS, litOne, flat1, Kd.isSca, flat, TYB]
theorem rBig_nil (H : Heap) : PureH Try.prog 6 [.nils] H (.bool false) := by
  refine PureH.any ?_ H
  refine pure_of_vc (X := ⟨Try.prog, tys, [], [], true, true, 0, [], []⟩) fn_6 ⟨tys_ok, .nil, .nil, mixed⟩ (n0 := 0) (Nat.le_of_ble_eq_true rfl) (by simp [wfL, SV.wf]) (wfH_spec (by simp [wfH, SObj.wf])) (Nat.le_refl _) (fun _ => by simp [SV.wf, wfL]) ?_
  simp -implicitDefEqProofs only [Try.f6, Option.getD_some, argS, ZB, Int.reduceToNat, Nat.reduceLT, Nat.reduceLeDiff, Int.reduceLE, Int.reduceLT, Nat.reduceEqDiff, Nat.reduceSub, SB, SV.known, packR, ne_eq, reduceCtorEq, Nat.reduceEqDiff, ↓reduceIte, if_true, if_false, eq_self, Nat.reduceAdd, Nat.reduceMul, Nat.reduceSub, forall_const, oneCellS, litOne, flat1, Kd.isSca, flat, TYB]
def rBig_F : List SV → Heap → Option (Prop × SV)
  | [.slice a o len _], H => match hget H a with
    | some (.winU off _) => some (o = off, .bool (decide (65536 < (len : Int))))
    | _ => none
  | [.nils], _ => some (True, .bool false)
  | _, _ => none
theorem rBig_T : ∀ args H p v, rBig_F args H = some (p, v) → p → PureH Try.prog 6 args H v := by
  intro args H p v h hp
  unfold rBig_F at h
  split at h
  · rename_i a o len cap
    split at h
    · rename_i off L g
      cases h
      subst hp
      exact one_block (rBig_ok L o len cap) g rfl (fun _ => trivial)
    · cases h
  · cases h
    exact rBig_nil H
  · cases h
theorem pour_out {R : List Int} {x y : Int} (h : cpO R x y = false) : pourB R x y = false := by
  unfold cpO at h
  unfold pourB canF
  by_cases hxy : x = y
  · simp [hxy]
  · simp only [hxy, decide_false, Bool.not_false, Bool.and_true] at h
    rw [h]; rfl
theorem pour_in {R : List Int} {x y : Int} (h : cpO R x y = true) : pourB R x y = canF R x y := by
  unfold cpO at h
  simp only [Bool.and_eq_true] at h
  unfold pourB
  rw [h.1.1.1, h.1.1.2, h.1.2]; rfl
theorem cpO_flip {R N : List Int} {x y : Int} (ho : cpO R x y = true) (hr : rackB N = true) : cpO N y x = true := by
  unfold cpO at ho ⊢
  simp only [Bool.and_eq_true] at ho ⊢
  refine ⟨⟨⟨hr, ho.1.2⟩, ho.1.1.2⟩, ?_⟩
  have := ho.2
  simp only [Bool.not_eq_true', decide_eq_false_iff_not] at this ⊢
  exact fun e => this e.symm
--@tbl DrawPour = spec.DrawPour
def DrawPour_F := DrawCanPour_F
set_option maxHeartbeats 4000000 in
theorem lawFnPours (L : List Int) (off len cap : Nat) (_ : len ≤ cap) (_ : cap ≤ maxLen) (hLl : L.length = len) (hLb : ∀ x ∈ L, 0 ≤ x ∧ x ≤ 255) :
    PureH Try.prog 3 [.slice 0 off len cap] [(0, .winU off L)] (.bool true) := by
  by_cases hbig : (65536 : Int) < (len : Int)
  · refine pure_of_vc (X := ⟨Try.prog, tys, [(6, rBig_F), (8, Pour_F), (9, sPour_F), (10, CanPour_F), (11, sCanPour_F), (14, IsRack_F), (15, rPairs_F), (18, rPart_F), (19, IsSorted_F), (20, sIsSorted_F), (21, CountColors_F), (22, sCountColors_F), (23, rIn_F), (24, TopOf_F), (25, LayersOf_F)], [(7, DrawPour_F), (12, PoursOf_F), (13, sPoursOf_F), (16, UsefulPours_F), (17, sUsefulPours_F)], true, true, 1, [], []⟩) fn_3 ⟨tys_ok, (.cons rBig_T (.cons Pour_T (.cons sPour_T (.cons CanPour_T (.cons sCanPour_T (.cons IsRack_T (.cons rPairs_T (.cons rPart_T (.cons IsSorted_T (.cons sIsSorted_T (.cons CountColors_T (.cons sCountColors_T (.cons rIn_T (.cons TopOf_T (.cons LayersOf_T .nil))))))))))))))), (.cons DrawPour_T (.cons PoursOf_T (.cons sPoursOf_T (.cons UsefulPours_T (.cons sUsefulPours_T .nil))))), mixed⟩ (n0 := 1) (Nat.le_of_ble_eq_true rfl) (by simp [wfL, SV.wf]) (wfH_spec (by simp [wfH, SObj.wf])) (Nat.le_refl _) (fun _ => by simp [SV.wf, wfL]) ?_
    simp -implicitDefEqProofs only [Try.f3, Option.getD_some, argS, rBig_F, Pour_F, sPour_F, CanPour_F, sCanPour_F, IsRack_F, rPairs_F, rPart_F, IsSorted_F, sIsSorted_F, CountColors_F, sCountColors_F, rIn_F, TopOf_F, LayersOf_F, DrawPour_F, PoursOf_F, sPoursOf_F, UsefulPours_F, sUsefulPours_F, hbig, ZB, Int.reduceToNat, Nat.reduceLT, Nat.reduceLeDiff, Int.reduceLE, Int.reduceLT, Nat.reduceEqDiff, Nat.reduceSub, SB, SV.known, packR, ne_eq, reduceCtorEq, Nat.reduceEqDiff, ↓reduceIte, if_true, if_false, eq_self, Nat.reduceAdd, Nat.reduceMul, Nat.reduceSub, forall_const, oneCellS, litOne, flat1, Kd.isSca, flat, TYB]
  · refine pure_of_vc (X := ⟨Try.prog, tys, [(6, rBig_F), (8, Pour_F), (9, sPour_F), (10, CanPour_F), (11, sCanPour_F), (14, IsRack_F), (15, rPairs_F), (18, rPart_F), (19, IsSorted_F), (20, sIsSorted_F), (21, CountColors_F), (22, sCountColors_F), (23, rIn_F), (24, TopOf_F), (25, LayersOf_F)], [(7, DrawPour_F), (12, PoursOf_F), (13, sPoursOf_F), (16, UsefulPours_F), (17, sUsefulPours_F)], true, true, 1, [], []⟩) fn_3 ⟨tys_ok, (.cons rBig_T (.cons Pour_T (.cons sPour_T (.cons CanPour_T (.cons sCanPour_T (.cons IsRack_T (.cons rPairs_T (.cons rPart_T (.cons IsSorted_T (.cons sIsSorted_T (.cons CountColors_T (.cons sCountColors_T (.cons rIn_T (.cons TopOf_T (.cons LayersOf_T .nil))))))))))))))), (.cons DrawPour_T (.cons PoursOf_T (.cons sPoursOf_T (.cons UsefulPours_T (.cons sUsefulPours_T .nil))))), mixed⟩ (n0 := 1) (Nat.le_of_ble_eq_true rfl) (by simp [wfL, SV.wf]) (wfH_spec (by simp [wfH, SObj.wf])) (Nat.le_refl _) (fun _ => by simp [SV.wf, wfL]) ?_
    simp -implicitDefEqProofs only [Try.f3, Option.getD_some, argS, rBig_F, Pour_F, sPour_F, CanPour_F, sCanPour_F, IsRack_F, rPairs_F, rPart_F, IsSorted_F, sIsSorted_F, CountColors_F, sCountColors_F, rIn_F, TopOf_F, LayersOf_F, DrawPour_F, PoursOf_F, sPoursOf_F, UsefulPours_F, sUsefulPours_F, hbig, ZB, Int.reduceToNat, Nat.reduceLT, Nat.reduceLeDiff, Int.reduceLE, Int.reduceLT, Nat.reduceEqDiff, Nat.reduceSub, SB, SV.known, packR, ne_eq, reduceCtorEq, Nat.reduceEqDiff, ↓reduceIte, if_true, if_false, eq_self, Nat.reduceAdd, Nat.reduceMul, Nat.reduceSub, forall_const, oneCellS, litOne, flat1, Kd.isSca, flat, TYB]
    refine ⟨.inr ⟨0, off, len, cap, L, rfl, by simp [hget_cons], hLl, by omega, hLb⟩, Nat.le_refl _, fun R x y H' n' hR hRi hx hy hK => ?_⟩
    have tkR : R.take 24 = R := List.take_of_length_le (by omega)
    have r24 : List.take 24 (List.replicate 24 (0 : Int)) = List.replicate 24 0 := rfl
    have r6 : List.take 6 (List.replicate 6 (0 : Int)) = List.replicate 6 0 := rfl
    have tor : (True ∨ PL R 36 = []) = True := true_or _
    have z0 : 0 / 2 = 0 := rfl
    cases hr : rackB R
    · have ep : pourB R x y = false := by unfold pourB; rw [hr]; rfl
      have et : pourT R x y = List.replicate 24 0 := by unfold pourT; rw [ep]; rfl
      have em : pourM R x y = 0 := by unfold pourM; rw [ep]; rfl
      have eo : cpO R x y = false := by unfold cpO; rw [hr]; rfl
      have ec : cpC R x y = false := by unfold cpC; rw [eo]; rfl
      have eP : poF R = [] := by unfold poF; rw [hr]; rfl
      have eU : upF R = [] := by unfold upF; rw [hr]; rfl
      have eC : ccF R = List.replicate 6 0 := by unfold ccF; rw [hr]; rfl
      simp -implicitDefEqProofs only [Pour_F, sPour_F, CanPour_F, sCanPour_F, IsRack_F, rPairs_F, rPart_F, IsSorted_F, sIsSorted_F, CountColors_F, sCountColors_F, rIn_F, TopOf_F, LayersOf_F, PoursOf_F, sPoursOf_F, UsefulPours_F, sUsefulPours_F, freshK, Wrap.ap, hR, tkR, hr, ep, et, em, eo, ec, eP, eU, eC, r24, r6, tor, z0, eqI_rack, eqI_a6, Nat.add_assoc, add_self, self_add, add_add, ZB, Int.reduceToNat, Nat.reduceLT, Nat.reduceLeDiff, Int.reduceLE, Int.reduceLT, Nat.reduceEqDiff, Nat.reduceSub, SB, SV.known, packR, ne_eq, reduceCtorEq, Nat.reduceEqDiff, ↓reduceIte, if_true, if_false, eq_self, Nat.reduceAdd, Nat.reduceMul, Nat.reduceSub, forall_const, oneCellS, litOne, flat1, Kd.isSca, flat, TYB]
      exact ⟨hK.le, fun cap junk hj => ⟨fun _ _ _ => trivial, fun h => absurd trivial h⟩, fun h => absurd trivial h⟩
    · obtain ⟨np, hnp, hnp36⟩ := PL_even R 36
      obtain ⟨nu, hnu, hnu36⟩ := ulF_even R
      have ehp : (PL R 36).length / 2 = np := by omega
      have ehu : (ulF R).length / 2 = nu := by omega
      have eP : poF R = PL R 36 := by unfold poF; rw [hr]; rfl
      have eU : upF R = ulF R := by unfold upF; rw [hr]; rfl
      have eC : ccF R = cntL R := by unfold ccF; rw [hr]; rfl
      have lc := cntL_len R
      have tkc : (cntL R).take 6 = cntL R := List.take_of_length_le (by omega)
      have tl := pourT_len hR x y
      have tkt : (pourT R x y).take 24 = pourT R x y := List.take_of_length_le (by omega)
      cases ho : cpO R x y
      · have hp : pourB R x y = false := pour_out ho
        have hc : cpC R x y = false := by unfold cpC; rw [ho]; rfl
        by_cases hP : PL R 36 = []
        · have fP : (False ∨ PL R 36 = []) = True := eq_true (.inr hP)
          have hU : ulF R = [] := ulF_nil hP
          have n0 : np = 0 := by rw [hP] at hnp; simp at hnp; omega
          have u0 : nu = 0 := by rw [hU] at hnu; simp at hnu; omega
          subst n0; subst u0
          cases hs : sortB R
          all_goals
            simp -implicitDefEqProofs only [Pour_F, sPour_F, CanPour_F, sCanPour_F, IsRack_F, rPairs_F, rPart_F, IsSorted_F, sIsSorted_F, CountColors_F, sCountColors_F, rIn_F, TopOf_F, LayersOf_F, PoursOf_F, sPoursOf_F, UsefulPours_F, sUsefulPours_F, freshK, Wrap.ap, hR, tkR, hr, hp, hc, ho, eP, eU, eC, ehp, ehu, lc, tkc, tl, tkt, r24, r6, z0, fP, false_or, eqI_rack, eqI_a6, Nat.add_assoc, add_self, self_add, add_add, ZB, Int.reduceToNat, Nat.reduceLT, Nat.reduceLeDiff, Int.reduceLE, Int.reduceLT, Nat.reduceEqDiff, Nat.reduceSub, SB, SV.known, packR, ne_eq, reduceCtorEq, Nat.reduceEqDiff, ↓reduceIte, if_true, if_false, eq_self, Nat.reduceAdd, Nat.reduceMul, Nat.reduceSub, forall_const, oneCellS, litOne, flat1, Kd.isSca, flat, TYB, hP, hU, hs]
            exact ⟨hK.le, fun cap junk hj => ⟨fun _ _ _ => trivial, fun h => absurd trivial h⟩, fun h => absurd trivial h⟩
        · have fP : (False ∨ PL R 36 = []) = False := by simp [hP]
          cases hs : sortB R
          · simp -implicitDefEqProofs only [Pour_F, sPour_F, CanPour_F, sCanPour_F, IsRack_F, rPairs_F, rPart_F, IsSorted_F, sIsSorted_F, CountColors_F, sCountColors_F, rIn_F, TopOf_F, LayersOf_F, PoursOf_F, sPoursOf_F, UsefulPours_F, sUsefulPours_F, freshK, Wrap.ap, hR, tkR, hr, hp, hc, ho, eP, eU, eC, ehp, ehu, lc, tkc, tl, tkt, r24, r6, z0, fP, false_or, eqI_rack, eqI_a6, Nat.add_assoc, add_self, self_add, add_add, ZB, Int.reduceToNat, Nat.reduceLT, Nat.reduceLeDiff, Int.reduceLE, Int.reduceLT, Nat.reduceEqDiff, Nat.reduceSub, SB, SV.known, packR, ne_eq, reduceCtorEq, Nat.reduceEqDiff, ↓reduceIte, if_true, if_false, eq_self, Nat.reduceAdd, Nat.reduceMul, Nat.reduceSub, forall_const, oneCellS, litOne, flat1, Kd.isSca, flat, TYB, hs]
            refine ⟨hK.le, fun c1 j1 q1 c2 j2 q2 => ⟨⟨by rw [List.length_append]; omega, by rw [List.length_append]; omega, by rw [List.take_left' hnp, List.take_left' hnp], by omega⟩, fun c3 j3 q3 c4 j4 q4 => ⟨⟨by rw [List.length_append]; omega, by rw [List.length_append]; omega, by rw [List.take_left' hnu, List.take_left' hnu], by omega⟩, by rw [List.length_append]; omega, by rw [List.length_append]; omega, part_ok hr hnp hnu j1 j3, by omega, by omega⟩⟩⟩
          · have u0 : nu = 0 := by rw [sort_ul hR hr hs] at hnu; simp at hnu; omega
            simp -implicitDefEqProofs only [Pour_F, sPour_F, CanPour_F, sCanPour_F, IsRack_F, rPairs_F, rPart_F, IsSorted_F, sIsSorted_F, CountColors_F, sCountColors_F, rIn_F, TopOf_F, LayersOf_F, PoursOf_F, sPoursOf_F, UsefulPours_F, sUsefulPours_F, freshK, Wrap.ap, hR, tkR, hr, hp, hc, ho, eP, eU, eC, ehp, ehu, lc, tkc, tl, tkt, r24, r6, z0, fP, false_or, eqI_rack, eqI_a6, Nat.add_assoc, add_self, self_add, add_add, ZB, Int.reduceToNat, Nat.reduceLT, Nat.reduceLeDiff, Int.reduceLE, Int.reduceLT, Nat.reduceEqDiff, Nat.reduceSub, SB, SV.known, packR, ne_eq, reduceCtorEq, Nat.reduceEqDiff, ↓reduceIte, if_true, if_false, eq_self, Nat.reduceAdd, Nat.reduceMul, Nat.reduceSub, forall_const, oneCellS, litOne, flat1, Kd.isSca, flat, TYB, hs, u0]
            refine ⟨hK.le, fun c1 j1 q1 c2 j2 q2 => ⟨⟨by rw [List.length_append]; omega, by rw [List.length_append]; omega, by rw [List.take_left' hnp, List.take_left' hnp], by omega⟩, fun c3 j3 q3 c4 j4 q4 => ⟨by rw [List.length_append]; omega, fun i hi => absurd hi (by omega), by omega⟩⟩⟩
      · have hpc : pourB R x y = canF R x y := pour_in ho
        have hcc : cpC R x y = canF R x y := by unfold cpC; rw [ho]; rfl
        have hin := in_ok ho hnp
        cases hc0 : canF R x y
        · have hp : pourB R x y = false := by rw [hpc, hc0]
          have hc : cpC R x y = false := by rw [hcc, hc0]
          rw [hc0] at hin
          by_cases hP : PL R 36 = []
          · have fP : (False ∨ PL R 36 = []) = True := eq_true (.inr hP)
            have hU : ulF R = [] := ulF_nil hP
            have n0 : np = 0 := by rw [hP] at hnp; simp at hnp; omega
            have u0 : nu = 0 := by rw [hU] at hnu; simp at hnu; omega
            subst n0; subst u0
            cases hs : sortB R
            all_goals
              simp -implicitDefEqProofs only [Pour_F, sPour_F, CanPour_F, sCanPour_F, IsRack_F, rPairs_F, rPart_F, IsSorted_F, sIsSorted_F, CountColors_F, sCountColors_F, rIn_F, TopOf_F, LayersOf_F, PoursOf_F, sPoursOf_F, UsefulPours_F, sUsefulPours_F, freshK, Wrap.ap, hR, tkR, hr, hp, hc, ho, eP, eU, eC, ehp, ehu, lc, tkc, tl, tkt, r24, r6, z0, fP, false_or, eqI_rack, eqI_a6, Nat.add_assoc, add_self, self_add, add_add, ZB, Int.reduceToNat, Nat.reduceLT, Nat.reduceLeDiff, Int.reduceLE, Int.reduceLT, Nat.reduceEqDiff, Nat.reduceSub, SB, SV.known, packR, ne_eq, reduceCtorEq, Nat.reduceEqDiff, ↓reduceIte, if_true, if_false, eq_self, Nat.reduceAdd, Nat.reduceMul, Nat.reduceSub, forall_const, oneCellS, litOne, flat1, Kd.isSca, flat, TYB, hP, hU, hs]
              exact ⟨hK.le, fun cap junk hj => ⟨fun _ _ _ => trivial, fun h => absurd trivial h⟩, fun h => absurd trivial h⟩
          · have fP : (False ∨ PL R 36 = []) = False := by simp [hP]
            cases hs : sortB R
            · simp -implicitDefEqProofs only [Pour_F, sPour_F, CanPour_F, sCanPour_F, IsRack_F, rPairs_F, rPart_F, IsSorted_F, sIsSorted_F, CountColors_F, sCountColors_F, rIn_F, TopOf_F, LayersOf_F, PoursOf_F, sPoursOf_F, UsefulPours_F, sUsefulPours_F, freshK, Wrap.ap, hR, tkR, hr, hp, hc, ho, eP, eU, eC, ehp, ehu, lc, tkc, tl, tkt, r24, r6, z0, fP, false_or, eqI_rack, eqI_a6, Nat.add_assoc, add_self, self_add, add_add, ZB, Int.reduceToNat, Nat.reduceLT, Nat.reduceLeDiff, Int.reduceLE, Int.reduceLT, Nat.reduceEqDiff, Nat.reduceSub, SB, SV.known, packR, ne_eq, reduceCtorEq, Nat.reduceEqDiff, ↓reduceIte, if_true, if_false, eq_self, Nat.reduceAdd, Nat.reduceMul, Nat.reduceSub, forall_const, oneCellS, litOne, flat1, Kd.isSca, flat, TYB, hs, hin]
              refine ⟨hK.le, fun c1 j1 q1 c2 j2 q2 => ⟨⟨by rw [List.length_append]; omega, by rw [List.length_append]; omega, by rw [List.take_left' hnp, List.take_left' hnp], by omega⟩, fun c3 j3 q3 c4 j4 q4 => ⟨⟨by rw [List.length_append]; omega, by rw [List.length_append]; omega, by rw [List.take_left' hnu, List.take_left' hnu], by omega⟩, ⟨by rw [List.length_append]; omega, by rw [List.length_append]; omega, part_ok hr hnp hnu j1 j3, by omega, by omega⟩, by rw [List.length_append]; omega, by omega⟩⟩⟩
            · have u0 : nu = 0 := by rw [sort_ul hR hr hs] at hnu; simp at hnu; omega
              simp -implicitDefEqProofs only [Pour_F, sPour_F, CanPour_F, sCanPour_F, IsRack_F, rPairs_F, rPart_F, IsSorted_F, sIsSorted_F, CountColors_F, sCountColors_F, rIn_F, TopOf_F, LayersOf_F, PoursOf_F, sPoursOf_F, UsefulPours_F, sUsefulPours_F, freshK, Wrap.ap, hR, tkR, hr, hp, hc, ho, eP, eU, eC, ehp, ehu, lc, tkc, tl, tkt, r24, r6, z0, fP, false_or, eqI_rack, eqI_a6, Nat.add_assoc, add_self, self_add, add_add, ZB, Int.reduceToNat, Nat.reduceLT, Nat.reduceLeDiff, Int.reduceLE, Int.reduceLT, Nat.reduceEqDiff, Nat.reduceSub, SB, SV.known, packR, ne_eq, reduceCtorEq, Nat.reduceEqDiff, ↓reduceIte, if_true, if_false, eq_self, Nat.reduceAdd, Nat.reduceMul, Nat.reduceSub, forall_const, oneCellS, litOne, flat1, Kd.isSca, flat, TYB, hs, u0, hin]
              refine ⟨hK.le, fun c1 j1 q1 c2 j2 q2 => ⟨⟨by rw [List.length_append]; omega, by rw [List.length_append]; omega, by rw [List.take_left' hnp, List.take_left' hnp], by omega⟩, fun c3 j3 q3 c4 j4 q4 => ⟨⟨by rw [List.length_append]; omega, fun i hi => absurd hi (by omega), by omega⟩, by rw [List.length_append]; omega, by omega⟩⟩⟩
        · have hp : pourB R x y = true := by rw [hpc, hc0]
          have hc : cpC R x y = true := by rw [hcc, hc0]
          rw [hc0] at hin
          have hP : PL R 36 ≠ [] := fun h => by
            have := hin []
            rw [h] at hnp
            have n0 : np = 0 := by simp at hnp; omega
            rw [n0] at this; cases this
          have fP : (False ∨ PL R 36 = []) = False := by simp [hP]
          obtain ⟨hrN, hcN, m1, m2, m3⟩ := pour_facts hR hr ho hc0
          have hpx : plF x = true := by
            unfold cpO at ho
            simp only [Bool.and_eq_true] at ho
            exact ho.1.1.2
          have tp : tpO R x = true := can_top hR ho hc0
          have ho2 : cpO (pourT R x y) y x = true := cpO_flip ho hrN
          have hc2 : cpC (pourT R x y) y x = canF (pourT R x y) y x := by unfold cpC; rw [ho2]; rfl
          have eCN : ccF (pourT R x y) = cntL R := by unfold ccF; rw [hrN, hcN]; rfl
          have m1' : ¬ pourM R x y < 1 := by omega
          have m2' : ¬ (topF (tubeAt R x.toNat)).2 < pourM R x y := by omega
          generalize hN : pourT R x y = N at *
          generalize hM : pourM R x y = mv at *
          generalize hT : (topF (tubeAt R x.toNat)).2 = ru at *
          by_cases h3 : mv < ru
          · skip
            cases hs : sortB R
            · simp -implicitDefEqProofs only [Pour_F, sPour_F, CanPour_F, sCanPour_F, IsRack_F, rPairs_F, rPart_F, IsSorted_F, sIsSorted_F, CountColors_F, sCountColors_F, rIn_F, TopOf_F, LayersOf_F, PoursOf_F, sPoursOf_F, UsefulPours_F, sUsefulPours_F, freshK, Wrap.ap, hR, tkR, hr, hp, hc, ho, eP, eU, eC, ehp, ehu, lc, tkc, tl, tkt, r24, r6, z0, fP, false_or, eqI_rack, eqI_a6, Nat.add_assoc, add_self, self_add, add_add, ZB, Int.reduceToNat, Nat.reduceLT, Nat.reduceLeDiff, Int.reduceLE, Int.reduceLT, Nat.reduceEqDiff, Nat.reduceSub, SB, SV.known, packR, ne_eq, reduceCtorEq, Nat.reduceEqDiff, ↓reduceIte, if_true, if_false, eq_self, Nat.reduceAdd, Nat.reduceMul, Nat.reduceSub, forall_const, oneCellS, litOne, flat1, Kd.isSca, flat, TYB, hs, hin, hrN, hpx, tp, ho2, hc2, eCN, m1', m2', hN, hM, hT, h3]
              refine ⟨hK.le, fun c1 j1 q1 c2 j2 q2 => ⟨⟨by rw [List.length_append]; omega, by rw [List.length_append]; omega, by rw [List.take_left' hnp, List.take_left' hnp], by omega⟩, fun c3 j3 q3 c4 j4 q4 => ⟨⟨by rw [List.length_append]; omega, by rw [List.length_append]; omega, by rw [List.take_left' hnu, List.take_left' hnu], by omega⟩, ⟨by rw [List.length_append]; omega, by rw [List.length_append]; omega, part_ok hr hnp hnu j1 j3, by omega, by omega⟩, by rw [List.length_append]; omega, by omega⟩⟩⟩
            · have u0 : nu = 0 := by rw [sort_ul hR hr hs] at hnu; simp at hnu; omega
              simp -implicitDefEqProofs only [Pour_F, sPour_F, CanPour_F, sCanPour_F, IsRack_F, rPairs_F, rPart_F, IsSorted_F, sIsSorted_F, CountColors_F, sCountColors_F, rIn_F, TopOf_F, LayersOf_F, PoursOf_F, sPoursOf_F, UsefulPours_F, sUsefulPours_F, freshK, Wrap.ap, hR, tkR, hr, hp, hc, ho, eP, eU, eC, ehp, ehu, lc, tkc, tl, tkt, r24, r6, z0, fP, false_or, eqI_rack, eqI_a6, Nat.add_assoc, add_self, self_add, add_add, ZB, Int.reduceToNat, Nat.reduceLT, Nat.reduceLeDiff, Int.reduceLE, Int.reduceLT, Nat.reduceEqDiff, Nat.reduceSub, SB, SV.known, packR, ne_eq, reduceCtorEq, Nat.reduceEqDiff, ↓reduceIte, if_true, if_false, eq_self, Nat.reduceAdd, Nat.reduceMul, Nat.reduceSub, forall_const, oneCellS, litOne, flat1, Kd.isSca, flat, TYB, hs, u0, hin, hrN, hpx, tp, ho2, hc2, eCN, m1', m2', hN, hM, hT, h3]
              refine ⟨hK.le, fun c1 j1 q1 c2 j2 q2 => ⟨⟨by rw [List.length_append]; omega, by rw [List.length_append]; omega, by rw [List.take_left' hnp, List.take_left' hnp], by omega⟩, fun c3 j3 q3 c4 j4 q4 => ⟨⟨by rw [List.length_append]; omega, fun i hi => absurd hi (by omega), by omega⟩, by rw [List.length_append]; omega, by omega⟩⟩⟩
          · have hb := m3 h3
            cases hs : sortB R
            · simp -implicitDefEqProofs only [Pour_F, sPour_F, CanPour_F, sCanPour_F, IsRack_F, rPairs_F, rPart_F, IsSorted_F, sIsSorted_F, CountColors_F, sCountColors_F, rIn_F, TopOf_F, LayersOf_F, PoursOf_F, sPoursOf_F, UsefulPours_F, sUsefulPours_F, freshK, Wrap.ap, hR, tkR, hr, hp, hc, ho, eP, eU, eC, ehp, ehu, lc, tkc, tl, tkt, r24, r6, z0, fP, false_or, eqI_rack, eqI_a6, Nat.add_assoc, add_self, self_add, add_add, ZB, Int.reduceToNat, Nat.reduceLT, Nat.reduceLeDiff, Int.reduceLE, Int.reduceLT, Nat.reduceEqDiff, Nat.reduceSub, SB, SV.known, packR, ne_eq, reduceCtorEq, Nat.reduceEqDiff, ↓reduceIte, if_true, if_false, eq_self, Nat.reduceAdd, Nat.reduceMul, Nat.reduceSub, forall_const, oneCellS, litOne, flat1, Kd.isSca, flat, TYB, hs, hin, hrN, hpx, tp, ho2, hc2, eCN, m1', m2', hN, hM, hT, h3, hb]
              refine ⟨hK.le, fun c1 j1 q1 c2 j2 q2 => ⟨⟨by rw [List.length_append]; omega, by rw [List.length_append]; omega, by rw [List.take_left' hnp, List.take_left' hnp], by omega⟩, fun c3 j3 q3 c4 j4 q4 => ⟨⟨by rw [List.length_append]; omega, by rw [List.length_append]; omega, by rw [List.take_left' hnu, List.take_left' hnu], by omega⟩, ⟨by rw [List.length_append]; omega, by rw [List.length_append]; omega, part_ok hr hnp hnu j1 j3, by omega, by omega⟩, by rw [List.length_append]; omega, by omega⟩⟩⟩
            · have u0 : nu = 0 := by rw [sort_ul hR hr hs] at hnu; simp at hnu; omega
              simp -implicitDefEqProofs only [Pour_F, sPour_F, CanPour_F, sCanPour_F, IsRack_F, rPairs_F, rPart_F, IsSorted_F, sIsSorted_F, CountColors_F, sCountColors_F, rIn_F, TopOf_F, LayersOf_F, PoursOf_F, sPoursOf_F, UsefulPours_F, sUsefulPours_F, freshK, Wrap.ap, hR, tkR, hr, hp, hc, ho, eP, eU, eC, ehp, ehu, lc, tkc, tl, tkt, r24, r6, z0, fP, false_or, eqI_rack, eqI_a6, Nat.add_assoc, add_self, self_add, add_add, ZB, Int.reduceToNat, Nat.reduceLT, Nat.reduceLeDiff, Int.reduceLE, Int.reduceLT, Nat.reduceEqDiff, Nat.reduceSub, SB, SV.known, packR, ne_eq, reduceCtorEq, Nat.reduceEqDiff, ↓reduceIte, if_true, if_false, eq_self, Nat.reduceAdd, Nat.reduceMul, Nat.reduceSub, forall_const, oneCellS, litOne, flat1, Kd.isSca, flat, TYB, hs, u0, hin, hrN, hpx, tp, ho2, hc2, eCN, m1', m2', hN, hM, hT, h3, hb]
              refine ⟨hK.le, fun c1 j1 q1 c2 j2 q2 => ⟨⟨by rw [List.length_append]; omega, by rw [List.length_append]; omega, by rw [List.take_left' hnp, List.take_left' hnp], by omega⟩, fun c3 j3 q3 c4 j4 q4 => ⟨⟨by rw [List.length_append]; omega, fun i hi => absurd hi (by omega), by omega⟩, by rw [List.length_append]; omega, by omega⟩⟩⟩
set_option maxHeartbeats 4000000 in
theorem lawFnPoursN : PureH Try.prog 3 [.nils] [] (.bool true) := by
  refine pure_of_vc (X := ⟨Try.prog, tys, [(6, rBig_F), (8, Pour_F), (9, sPour_F), (10, CanPour_F), (11, sCanPour_F), (14, IsRack_F), (15, rPairs_F), (18, rPart_F), (19, IsSorted_F), (20, sIsSorted_F), (21, CountColors_F), (22, sCountColors_F), (23, rIn_F), (24, TopOf_F), (25, LayersOf_F)], [(7, DrawPour_F), (12, PoursOf_F), (13, sPoursOf_F), (16, UsefulPours_F), (17, sUsefulPours_F)], true, true, 1, [], []⟩) fn_3 ⟨tys_ok, (.cons rBig_T (.cons Pour_T (.cons sPour_T (.cons CanPour_T (.cons sCanPour_T (.cons IsRack_T (.cons rPairs_T (.cons rPart_T (.cons IsSorted_T (.cons sIsSorted_T (.cons CountColors_T (.cons sCountColors_T (.cons rIn_T (.cons TopOf_T (.cons LayersOf_T .nil))))))))))))))), (.cons DrawPour_T (.cons PoursOf_T (.cons sPoursOf_T (.cons UsefulPours_T (.cons sUsefulPours_T .nil))))), mixed⟩ (n0 := 1) (Nat.le_of_ble_eq_true rfl) (by simp [wfL, SV.wf]) (wfH_spec (by simp [wfH, SObj.wf])) (Nat.le_refl _) (fun _ => by simp [SV.wf, wfL]) ?_
  simp -implicitDefEqProofs only [Try.f3, Option.getD_some, argS, rBig_F, Pour_F, sPour_F, CanPour_F, sCanPour_F, IsRack_F, rPairs_F, rPart_F, IsSorted_F, sIsSorted_F, CountColors_F, sCountColors_F, rIn_F, TopOf_F, LayersOf_F, DrawPour_F, PoursOf_F, sPoursOf_F, UsefulPours_F, sUsefulPours_F, ZB, Int.reduceToNat, Nat.reduceLT, Nat.reduceLeDiff, Int.reduceLE, Int.reduceLT, Nat.reduceEqDiff, Nat.reduceSub, SB, SV.known, packR, ne_eq, reduceCtorEq, Nat.reduceEqDiff, ↓reduceIte, if_true, if_false, eq_self, Nat.reduceAdd, Nat.reduceMul, Nat.reduceSub, forall_const, oneCellS, litOne, flat1, Kd.isSca, flat, TYB]
  refine ⟨.inl rfl, Nat.le_refl _, fun R x y H' n' hR hRi hx hy hK => ?_⟩
  have tkR : R.take 24 = R := List.take_of_length_le (by omega)
  have r24 : List.take 24 (List.replicate 24 (0 : Int)) = List.replicate 24 0 := rfl
  have r6 : List.take 6 (List.replicate 6 (0 : Int)) = List.replicate 6 0 := rfl
  have tor : (True ∨ PL R 36 = []) = True := true_or _
  have z0 : 0 / 2 = 0 := rfl
  cases hr : rackB R
  · have ep : pourB R x y = false := by unfold pourB; rw [hr]; rfl
    have et : pourT R x y = List.replicate 24 0 := by unfold pourT; rw [ep]; rfl
    have em : pourM R x y = 0 := by unfold pourM; rw [ep]; rfl
    have eo : cpO R x y = false := by unfold cpO; rw [hr]; rfl
    have ec : cpC R x y = false := by unfold cpC; rw [eo]; rfl
    have eP : poF R = [] := by unfold poF; rw [hr]; rfl
    have eU : upF R = [] := by unfold upF; rw [hr]; rfl
    have eC : ccF R = List.replicate 6 0 := by unfold ccF; rw [hr]; rfl
    simp -implicitDefEqProofs only [Pour_F, sPour_F, CanPour_F, sCanPour_F, IsRack_F, rPairs_F, rPart_F, IsSorted_F, sIsSorted_F, CountColors_F, sCountColors_F, rIn_F, TopOf_F, LayersOf_F, PoursOf_F, sPoursOf_F, UsefulPours_F, sUsefulPours_F, freshK, Wrap.ap, hR, tkR, hr, ep, et, em, eo, ec, eP, eU, eC, r24, r6, tor, z0, eqI_rack, eqI_a6, Nat.add_assoc, add_self, self_add, add_add, ZB, Int.reduceToNat, Nat.reduceLT, Nat.reduceLeDiff, Int.reduceLE, Int.reduceLT, Nat.reduceEqDiff, Nat.reduceSub, SB, SV.known, packR, ne_eq, reduceCtorEq, Nat.reduceEqDiff, ↓reduceIte, if_true, if_false, eq_self, Nat.reduceAdd, Nat.reduceMul, Nat.reduceSub, forall_const, oneCellS, litOne, flat1, Kd.isSca, flat, TYB]
    exact ⟨hK.le, fun cap junk hj => ⟨fun _ _ _ => trivial, fun h => absurd trivial h⟩, fun h => absurd trivial h⟩
  · obtain ⟨np, hnp, hnp36⟩ := PL_even R 36
    obtain ⟨nu, hnu, hnu36⟩ := ulF_even R
    have ehp : (PL R 36).length / 2 = np := by omega
    have ehu : (ulF R).length / 2 = nu := by omega
    have eP : poF R = PL R 36 := by unfold poF; rw [hr]; rfl
    have eU : upF R = ulF R := by unfold upF; rw [hr]; rfl
    have eC : ccF R = cntL R := by unfold ccF; rw [hr]; rfl
    have lc := cntL_len R
    have tkc : (cntL R).take 6 = cntL R := List.take_of_length_le (by omega)
    have tl := pourT_len hR x y
    have tkt : (pourT R x y).take 24 = pourT R x y := List.take_of_length_le (by omega)
    cases ho : cpO R x y
    · have hp : pourB R x y = false := pour_out ho
      have hc : cpC R x y = false := by unfold cpC; rw [ho]; rfl
      by_cases hP : PL R 36 = []
      · have fP : (False ∨ PL R 36 = []) = True := eq_true (.inr hP)
        have hU : ulF R = [] := ulF_nil hP
        have n0 : np = 0 := by rw [hP] at hnp; simp at hnp; omega
        have u0 : nu = 0 := by rw [hU] at hnu; simp at hnu; omega
        subst n0; subst u0
        cases hs : sortB R
        all_goals
          simp -implicitDefEqProofs only [Pour_F, sPour_F, CanPour_F, sCanPour_F, IsRack_F, rPairs_F, rPart_F, IsSorted_F, sIsSorted_F, CountColors_F, sCountColors_F, rIn_F, TopOf_F, LayersOf_F, PoursOf_F, sPoursOf_F, UsefulPours_F, sUsefulPours_F, freshK, Wrap.ap, hR, tkR, hr, hp, hc, ho, eP, eU, eC, ehp, ehu, lc, tkc, tl, tkt, r24, r6, z0, fP, false_or, eqI_rack, eqI_a6, Nat.add_assoc, add_self, self_add, add_add, ZB, Int.reduceToNat, Nat.reduceLT, Nat.reduceLeDiff, Int.reduceLE, Int.reduceLT, Nat.reduceEqDiff, Nat.reduceSub, SB, SV.known, packR, ne_eq, reduceCtorEq, Nat.reduceEqDiff, ↓reduceIte, if_true, if_false, eq_self, Nat.reduceAdd, Nat.reduceMul, Nat.reduceSub, forall_const, oneCellS, litOne, flat1, Kd.isSca, flat, TYB, hP, hU, hs]
          exact ⟨hK.le, fun cap junk hj => ⟨fun _ _ _ => trivial, fun h => absurd trivial h⟩, fun h => absurd trivial h⟩
      · have fP : (False ∨ PL R 36 = []) = False := by simp [hP]
        cases hs : sortB R
        · simp -implicitDefEqProofs only [Pour_F, sPour_F, CanPour_F, sCanPour_F, IsRack_F, rPairs_F, rPart_F, IsSorted_F, sIsSorted_F, CountColors_F, sCountColors_F, rIn_F, TopOf_F, LayersOf_F, PoursOf_F, sPoursOf_F, UsefulPours_F, sUsefulPours_F, freshK, Wrap.ap, hR, tkR, hr, hp, hc, ho, eP, eU, eC, ehp, ehu, lc, tkc, tl, tkt, r24, r6, z0, fP, false_or, eqI_rack, eqI_a6, Nat.add_assoc, add_self, self_add, add_add, ZB, Int.reduceToNat, Nat.reduceLT, Nat.reduceLeDiff, Int.reduceLE, Int.reduceLT, Nat.reduceEqDiff, Nat.reduceSub, SB, SV.known, packR, ne_eq, reduceCtorEq, Nat.reduceEqDiff, ↓reduceIte, if_true, if_false, eq_self, Nat.reduceAdd, Nat.reduceMul, Nat.reduceSub, forall_const, oneCellS, litOne, flat1, Kd.isSca, flat, TYB, hs]
          refine ⟨hK.le, fun c1 j1 q1 c2 j2 q2 => ⟨⟨by rw [List.length_append]; omega, by rw [List.length_append]; omega, by rw [List.take_left' hnp, List.take_left' hnp], by omega⟩, fun c3 j3 q3 c4 j4 q4 => ⟨⟨by rw [List.length_append]; omega, by rw [List.length_append]; omega, by rw [List.take_left' hnu, List.take_left' hnu], by omega⟩, by rw [List.length_append]; omega, by rw [List.length_append]; omega, part_ok hr hnp hnu j1 j3, by omega, by omega⟩⟩⟩
        · have u0 : nu = 0 := by rw [sort_ul hR hr hs] at hnu; simp at hnu; omega
          simp -implicitDefEqProofs only [Pour_F, sPour_F, CanPour_F, sCanPour_F, IsRack_F, rPairs_F, rPart_F, IsSorted_F, sIsSorted_F, CountColors_F, sCountColors_F, rIn_F, TopOf_F, LayersOf_F, PoursOf_F, sPoursOf_F, UsefulPours_F, sUsefulPours_F, freshK, Wrap.ap, hR, tkR, hr, hp, hc, ho, eP, eU, eC, ehp, ehu, lc, tkc, tl, tkt, r24, r6, z0, fP, false_or, eqI_rack, eqI_a6, Nat.add_assoc, add_self, self_add, add_add, ZB, Int.reduceToNat, Nat.reduceLT, Nat.reduceLeDiff, Int.reduceLE, Int.reduceLT, Nat.reduceEqDiff, Nat.reduceSub, SB, SV.known, packR, ne_eq, reduceCtorEq, Nat.reduceEqDiff, ↓reduceIte, if_true, if_false, eq_self, Nat.reduceAdd, Nat.reduceMul, Nat.reduceSub, forall_const, oneCellS, litOne, flat1, Kd.isSca, flat, TYB, hs, u0]
          refine ⟨hK.le, fun c1 j1 q1 c2 j2 q2 => ⟨⟨by rw [List.length_append]; omega, by rw [List.length_append]; omega, by rw [List.take_left' hnp, List.take_left' hnp], by omega⟩, fun c3 j3 q3 c4 j4 q4 => ⟨by rw [List.length_append]; omega, fun i hi => absurd hi (by omega), by omega⟩⟩⟩
    · have hpc : pourB R x y = canF R x y := pour_in ho
      have hcc : cpC R x y = canF R x y := by unfold cpC; rw [ho]; rfl
      have hin := in_ok ho hnp
      cases hc0 : canF R x y
      · have hp : pourB R x y = false := by rw [hpc, hc0]
        have hc : cpC R x y = false := by rw [hcc, hc0]
        rw [hc0] at hin
        by_cases hP : PL R 36 = []
        · have fP : (False ∨ PL R 36 = []) = True := eq_true (.inr hP)
          have hU : ulF R = [] := ulF_nil hP
          have n0 : np = 0 := by rw [hP] at hnp; simp at hnp; omega
          have u0 : nu = 0 := by rw [hU] at hnu; simp at hnu; omega
          subst n0; subst u0
          cases hs : sortB R
          all_goals
            simp -implicitDefEqProofs only [Pour_F, sPour_F, CanPour_F, sCanPour_F, IsRack_F, rPairs_F, rPart_F, IsSorted_F, sIsSorted_F, CountColors_F, sCountColors_F, rIn_F, TopOf_F, LayersOf_F, PoursOf_F, sPoursOf_F, UsefulPours_F, sUsefulPours_F, freshK, Wrap.ap, hR, tkR, hr, hp, hc, ho, eP, eU, eC, ehp, ehu, lc, tkc, tl, tkt, r24, r6, z0, fP, false_or, eqI_rack, eqI_a6, Nat.add_assoc, add_self, self_add, add_add, ZB, Int.reduceToNat, Nat.reduceLT, Nat.reduceLeDiff, Int.reduceLE, Int.reduceLT, Nat.reduceEqDiff, Nat.reduceSub, SB, SV.known, packR, ne_eq, reduceCtorEq, Nat.reduceEqDiff, ↓reduceIte, if_true, if_false, eq_self, Nat.reduceAdd, Nat.reduceMul, Nat.reduceSub, forall_const, oneCellS, litOne, flat1, Kd.isSca, flat, TYB, hP, hU, hs]
            exact ⟨hK.le, fun cap junk hj => ⟨fun _ _ _ => trivial, fun h => absurd trivial h⟩, fun h => absurd trivial h⟩
        · have fP : (False ∨ PL R 36 = []) = False := by simp [hP]
          cases hs : sortB R
          · simp -implicitDefEqProofs only [Pour_F, sPour_F, CanPour_F, sCanPour_F, IsRack_F, rPairs_F, rPart_F, IsSorted_F, sIsSorted_F, CountColors_F, sCountColors_F, rIn_F, TopOf_F, LayersOf_F, PoursOf_F, sPoursOf_F, UsefulPours_F, sUsefulPours_F, freshK, Wrap.ap, hR, tkR, hr, hp, hc, ho, eP, eU, eC, ehp, ehu, lc, tkc, tl, tkt, r24, r6, z0, fP, false_or, eqI_rack, eqI_a6, Nat.add_assoc, add_self, self_add, add_add, ZB, Int.reduceToNat, Nat.reduceLT, Nat.reduceLeDiff, Int.reduceLE, Int.reduceLT, Nat.reduceEqDiff, Nat.reduceSub, SB, SV.known, packR, ne_eq, reduceCtorEq, Nat.reduceEqDiff, ↓reduceIte, if_true, if_false, eq_self, Nat.reduceAdd, Nat.reduceMul, Nat.reduceSub, forall_const, oneCellS, litOne, flat1, Kd.isSca, flat, TYB, hs, hin]
            refine ⟨hK.le, fun c1 j1 q1 c2 j2 q2 => ⟨⟨by rw [List.length_append]; omega, by rw [List.length_append]; omega, by rw [List.take_left' hnp, List.take_left' hnp], by omega⟩, fun c3 j3 q3 c4 j4 q4 => ⟨⟨by rw [List.length_append]; omega, by rw [List.length_append]; omega, by rw [List.take_left' hnu, List.take_left' hnu], by omega⟩, ⟨by rw [List.length_append]; omega, by rw [List.length_append]; omega, part_ok hr hnp hnu j1 j3, by omega, by omega⟩, by rw [List.length_append]; omega, by omega⟩⟩⟩
          · have u0 : nu = 0 := by rw [sort_ul hR hr hs] at hnu; simp at hnu; omega
            simp -implicitDefEqProofs only [Pour_F, sPour_F, CanPour_F, sCanPour_F, IsRack_F, rPairs_F, rPart_F, IsSorted_F, sIsSorted_F, CountColors_F, sCountColors_F, rIn_F, TopOf_F, LayersOf_F, PoursOf_F, sPoursOf_F, UsefulPours_F, sUsefulPours_F, freshK, Wrap.ap, hR, tkR, hr, hp, hc, ho, eP, eU, eC, ehp, ehu, lc, tkc, tl, tkt, r24, r6, z0, fP, false_or, eqI_rack, eqI_a6, Nat.add_assoc, add_self, self_add, add_add, ZB, Int.reduceToNat, Nat.reduceLT, Nat.reduceLeDiff, Int.reduceLE, Int.reduceLT, Nat.reduceEqDiff, Nat.reduceSub, SB, SV.known, packR, ne_eq, reduceCtorEq, Nat.reduceEqDiff, ↓reduceIte, if_true, if_false, eq_self, Nat.reduceAdd, Nat.reduceMul, Nat.reduceSub, forall_const, oneCellS, litOne, flat1, Kd.isSca, flat, TYB, hs, u0, hin]
            refine ⟨hK.le, fun c1 j1 q1 c2 j2 q2 => ⟨⟨by rw [List.length_append]; omega, by rw [List.length_append]; omega, by rw [List.take_left' hnp, List.take_left' hnp], by omega⟩, fun c3 j3 q3 c4 j4 q4 => ⟨⟨by rw [List.length_append]; omega, fun i hi => absurd hi (by omega), by omega⟩, by rw [List.length_append]; omega, by omega⟩⟩⟩
      · have hp : pourB R x y = true := by rw [hpc, hc0]
        have hc : cpC R x y = true := by rw [hcc, hc0]
        rw [hc0] at hin
        have hP : PL R 36 ≠ [] := fun h => by
          have := hin []
          rw [h] at hnp
          have n0 : np = 0 := by simp at hnp; omega
          rw [n0] at this; cases this
        have fP : (False ∨ PL R 36 = []) = False := by simp [hP]
        obtain ⟨hrN, hcN, m1, m2, m3⟩ := pour_facts hR hr ho hc0
        have hpx : plF x = true := by
          unfold cpO at ho
          simp only [Bool.and_eq_true] at ho
          exact ho.1.1.2
        have tp : tpO R x = true := can_top hR ho hc0
        have ho2 : cpO (pourT R x y) y x = true := cpO_flip ho hrN
        have hc2 : cpC (pourT R x y) y x = canF (pourT R x y) y x := by unfold cpC; rw [ho2]; rfl
        have eCN : ccF (pourT R x y) = cntL R := by unfold ccF; rw [hrN, hcN]; rfl
        have m1' : ¬ pourM R x y < 1 := by omega
        have m2' : ¬ (topF (tubeAt R x.toNat)).2 < pourM R x y := by omega
        generalize hN : pourT R x y = N at *
        generalize hM : pourM R x y = mv at *
        generalize hT : (topF (tubeAt R x.toNat)).2 = ru at *
        by_cases h3 : mv < ru
        · skip
          cases hs : sortB R
          · simp -implicitDefEqProofs only [Pour_F, sPour_F, CanPour_F, sCanPour_F, IsRack_F, rPairs_F, rPart_F, IsSorted_F, sIsSorted_F, CountColors_F, sCountColors_F, rIn_F, TopOf_F, LayersOf_F, PoursOf_F, sPoursOf_F, UsefulPours_F, sUsefulPours_F, freshK, Wrap.ap, hR, tkR, hr, hp, hc, ho, eP, eU, eC, ehp, ehu, lc, tkc, tl, tkt, r24, r6, z0, fP, false_or, eqI_rack, eqI_a6, Nat.add_assoc, add_self, self_add, add_add, ZB, Int.reduceToNat, Nat.reduceLT, Nat.reduceLeDiff, Int.reduceLE, Int.reduceLT, Nat.reduceEqDiff, Nat.reduceSub, SB, SV.known, packR, ne_eq, reduceCtorEq, Nat.reduceEqDiff, ↓reduceIte, if_true, if_false, eq_self, Nat.reduceAdd, Nat.reduceMul, Nat.reduceSub, forall_const, oneCellS, litOne, flat1, Kd.isSca, flat, TYB, hs, hin, hrN, hpx, tp, ho2, hc2, eCN, m1', m2', hN, hM, hT, h3]
            refine ⟨hK.le, fun c1 j1 q1 c2 j2 q2 => ⟨⟨by rw [List.length_append]; omega, by rw [List.length_append]; omega, by rw [List.take_left' hnp, List.take_left' hnp], by omega⟩, fun c3 j3 q3 c4 j4 q4 => ⟨⟨by rw [List.length_append]; omega, by rw [List.length_append]; omega, by rw [List.take_left' hnu, List.take_left' hnu], by omega⟩, ⟨by rw [List.length_append]; omega, by rw [List.length_append]; omega, part_ok hr hnp hnu j1 j3, by omega, by omega⟩, by rw [List.length_append]; omega, by omega⟩⟩⟩
          · have u0 : nu = 0 := by rw [sort_ul hR hr hs] at hnu; simp at hnu; omega
            simp -implicitDefEqProofs only [Pour_F, sPour_F, CanPour_F, sCanPour_F, IsRack_F, rPairs_F, rPart_F, IsSorted_F, sIsSorted_F, CountColors_F, sCountColors_F, rIn_F, TopOf_F, LayersOf_F, PoursOf_F, sPoursOf_F, UsefulPours_F, sUsefulPours_F, freshK, Wrap.ap, hR, tkR, hr, hp, hc, ho, eP, eU, eC, ehp, ehu, lc, tkc, tl, tkt, r24, r6, z0, fP, false_or, eqI_rack, eqI_a6, Nat.add_assoc, add_self, self_add, add_add, ZB, Int.reduceToNat, Nat.reduceLT, Nat.reduceLeDiff, Int.reduceLE, Int.reduceLT, Nat.reduceEqDiff, Nat.reduceSub, SB, SV.known, packR, ne_eq, reduceCtorEq, Nat.reduceEqDiff, ↓reduceIte, if_true, if_false, eq_self, Nat.reduceAdd, Nat.reduceMul, Nat.reduceSub, forall_const, oneCellS, litOne, flat1, Kd.isSca, flat, TYB, hs, u0, hin, hrN, hpx, tp, ho2, hc2, eCN, m1', m2', hN, hM, hT, h3]
            refine ⟨hK.le, fun c1 j1 q1 c2 j2 q2 => ⟨⟨by rw [List.length_append]; omega, by rw [List.length_append]; omega, by rw [List.take_left' hnp, List.take_left' hnp], by omega⟩, fun c3 j3 q3 c4 j4 q4 => ⟨⟨by rw [List.length_append]; omega, fun i hi => absurd hi (by omega), by omega⟩, by rw [List.length_append]; omega, by omega⟩⟩⟩
        · have hb := m3 h3
          cases hs : sortB R
          · simp -implicitDefEqProofs only [Pour_F, sPour_F, CanPour_F, sCanPour_F, IsRack_F, rPairs_F, rPart_F, IsSorted_F, sIsSorted_F, CountColors_F, sCountColors_F, rIn_F, TopOf_F, LayersOf_F, PoursOf_F, sPoursOf_F, UsefulPours_F, sUsefulPours_F, freshK, Wrap.ap, hR, tkR, hr, hp, hc, ho, eP, eU, eC, ehp, ehu, lc, tkc, tl, tkt, r24, r6, z0, fP, false_or, eqI_rack, eqI_a6, Nat.add_assoc, add_self, self_add, add_add, ZB, Int.reduceToNat, Nat.reduceLT, Nat.reduceLeDiff, Int.reduceLE, Int.reduceLT, Nat.reduceEqDiff, Nat.reduceSub, SB, SV.known, packR, ne_eq, reduceCtorEq, Nat.reduceEqDiff, ↓reduceIte, if_true, if_false, eq_self, Nat.reduceAdd, Nat.reduceMul, Nat.reduceSub, forall_const, oneCellS, litOne, flat1, Kd.isSca, flat, TYB, hs, hin, hrN, hpx, tp, ho2, hc2, eCN, m1', m2', hN, hM, hT, h3, hb]
            refine ⟨hK.le, fun c1 j1 q1 c2 j2 q2 => ⟨⟨by rw [List.length_append]; omega, by rw [List.length_append]; omega, by rw [List.take_left' hnp, List.take_left' hnp], by omega⟩, fun c3 j3 q3 c4 j4 q4 => ⟨⟨by rw [List.length_append]; omega, by rw [List.length_append]; omega, by rw [List.take_left' hnu, List.take_left' hnu], by omega⟩, ⟨by rw [List.length_append]; omega, by rw [List.length_append]; omega, part_ok hr hnp hnu j1 j3, by omega, by omega⟩, by rw [List.length_append]; omega, by omega⟩⟩⟩
          · have u0 : nu = 0 := by rw [sort_ul hR hr hs] at hnu; simp at hnu; omega
            simp -implicitDefEqProofs only [Pour_F, sPour_F, CanPour_F, sCanPour_F, IsRack_F, rPairs_F, rPart_F, IsSorted_F, sIsSorted_F, CountColors_F, sCountColors_F, rIn_F, TopOf_F, LayersOf_F, PoursOf_F, sPoursOf_F, UsefulPours_F, sUsefulPours_F, freshK, Wrap.ap, hR, tkR, hr, hp, hc, ho, eP, eU, eC, ehp, ehu, lc, tkc, tl, tkt, r24, r6, z0, fP, false_or, eqI_rack, eqI_a6, Nat.add_assoc, add_self, self_add, add_add, ZB, Int.reduceToNat, Nat.reduceLT, Nat.reduceLeDiff, Int.reduceLE, Int.reduceLT, Nat.reduceEqDiff, Nat.reduceSub, SB, SV.known, packR, ne_eq, reduceCtorEq, Nat.reduceEqDiff, ↓reduceIte, if_true, if_false, eq_self, Nat.reduceAdd, Nat.reduceMul, Nat.reduceSub, forall_const, oneCellS, litOne, flat1, Kd.isSca, flat, TYB, hs, u0, hin, hrN, hpx, tp, ho2, hc2, eCN, m1', m2', hN, hM, hT, h3, hb]
            refine ⟨hK.le, fun c1 j1 q1 c2 j2 q2 => ⟨⟨by rw [List.length_append]; omega, by rw [List.length_append]; omega, by rw [List.take_left' hnp, List.take_left' hnp], by omega⟩, fun c3 j3 q3 c4 j4 q4 => ⟨⟨by rw [List.length_append]; omega, fun i hi => absurd hi (by omega), by omega⟩, by rw [List.length_append]; omega, by omega⟩⟩⟩
end Go.Proofs.Ytnlbljikbonioaa
