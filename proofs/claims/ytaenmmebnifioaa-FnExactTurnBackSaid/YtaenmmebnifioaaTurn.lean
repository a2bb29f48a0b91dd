/- Walks: TurnBack. -/
import Derived.Test.YtaenmmebnifioaaRulC
set_option maxRecDepth 100000
set_option linter.unusedSimpArgs false
set_option linter.unusedVariables false
namespace Go.Proofs.Ytaenmmebnifioaa
open Go Go.RowKit
theorem mov4 {R D : List Int} {i j : Int} (hR : R.length = 24) (hD : D.length = 6) (hf : forB R D = true) (hi : 0 ≤ i ∧ i ≤ 5) (hj : 0 ≤ j ∧ j ≤ 5) (h : ¬ movF R D 4 i j = 0) : movF R D 4 i j = 1 ∧ i ≠ j ∧ 0 < layN (tubeAt R i.toNat) ∧ 1 ≤ roomF R D j.toNat := by
  have ff := forB_facts hD hf
  have f2 := ff.2.2.2 j.toNat (by omega)
  have li := tubeAt_len hR (i := i.toNat) (by omega)
  have tz := top_zero _ li (tubeAt_ok ff.1 (by omega))
  unfold movF at h ⊢
  by_cases h1 : i = j ∨ (topF (tubeAt R i.toNat)).1 = 0 ∨ roomF R D j.toNat = 0
  · rw [if_pos h1] at h; exact absurd rfl h
  · rw [if_neg h1, if_pos rfl]
    refine ⟨rfl, by omega, by omega, by omega⟩
theorem turn_facts {R D : List Int} {i j : Int} (hR : R.length = 24) (hD : D.length = 6) (hf : forB R D = true) (hi : 0 ≤ i ∧ i ≤ 5) (hj : 0 ≤ j ∧ j ≤ 5) (h : ¬ movF R D 4 i j = 0) :
    forB (mvR R i.toNat j.toNat 1) D = true ∧ movF (mvR R i.toNat j.toNat 1) D 4 j i = 1 ∧ mvR (mvR R i.toNat j.toNat 1) j.toNat i.toNat 1 = R := by
  obtain ⟨h1, hij, h0, hroom⟩ := mov4 hR hD hf hi hj h
  have ff := forB_facts hD hf
  have hr := ff.1
  have f2 := ff.2.2.2 j.toNat (by omega)
  have f3 := ff.2.2.2 i.toNat (by omega)
  have hne : i.toNat ≠ j.toNat := by omega
  have hm2 : 1 + layN (tubeAt R j.toNat) ≤ 4 := by unfold roomF at hroom; omega
  obtain ⟨m1, m2, m3⟩ := mv_facts hR hr (i := i.toNat) (j := j.toNat) (by omega) (by omega) hne (m := 1) (by omega) hm2
  have ml : (mvR R i.toNat j.toNat 1).length = 24 := by rw [mvR_len, hR]
  have mr := mv_rack hR hr (i := i.toNat) (j := j.toNat) (by omega) (by omega) hne (m := 1) (by omega) hm2
  have hf' : forB (mvR R i.toNat j.toNat 1) D = true := by
    simp only [forB, Bool.and_eq_true]
    refine ⟨⟨mr, ff.2.1⟩, fit_none fun k hk => ?_⟩
    have f4 := ff.2.2.2 k hk
    by_cases hki : k = i.toNat
    · subst hki
      rw [m1.2]
      unfold roomF at f3
      omega
    · by_cases hkj : k = j.toNat
      · subst hkj
        rw [m2.2]
        unfold roomF at hroom
        omega
      · rw [m3 k hk hki hkj]
        unfold roomF at f4
        omega
  refine ⟨hf', ?_, ?_⟩
  · have tz := top_zero _ (tubeAt_len ml (i := j.toNat) (by omega)) m2.1
    have hn : ¬ (j = i ∨ (topF (tubeAt (mvR R i.toNat j.toNat 1) j.toNat)).1 = 0 ∨ roomF (mvR R i.toNat j.toNat 1) D i.toNat = 0) := by
      unfold roomF
      unfold roomF at f3
      rw [m1.2]
      rw [tz.1, m2.2]
      omega
    unfold movF
    rw [if_neg hn, if_pos rfl]
  · have c1 := mvR_cell hR (i := i.toNat) (j := j.toNat) (by omega) (by omega) hne 1 (by omega) hm2
    have c2 := mvR_cell ml (i := j.toNat) (j := i.toNat) (by omega) (by omega) (Ne.symm hne) 1 (by rw [m2.2]; omega) (by rw [m1.2]; have := lay_le _ (tubeAt_len hR (i := i.toNat) (by omega)); omega)
    have la := lay_le _ (tubeAt_len hR (i := i.toNat) (by omega))
    apply List.ext_getElem (by rw [mvR_len, ml, hR])
    intro q q1 q2
    have e1 : (mvR (mvR R i.toNat j.toNat 1) j.toNat i.toNat 1).getD q 0 = R.getD q 0 := by
      have hq : q = q / 4 * 4 + q % 4 := by omega
      rw [hq, c2 (q / 4) (q % 4) (by omega) (by omega), m2.2, m1.2]
      have cj := (tube_cells (tubeAt_len hR (i := j.toNat) (by omega)) (tubeAt_ok hr (by omega))).2
      by_cases hA : q / 4 = j.toNat ∧ layN (tubeAt R j.toNat) + 1 - 1 ≤ q % 4 ∧ q % 4 < layN (tubeAt R j.toNat) + 1
      · rw [if_pos hA]
        have := cj (q % 4) (by omega)
        rw [tubeAt_getD _ _ _ (by omega)] at this
        rw [hA.1, this]
      · rw [if_neg hA]
        by_cases hB : q / 4 = i.toNat ∧ layN (tubeAt R i.toNat) - 1 ≤ q % 4 ∧ q % 4 < layN (tubeAt R i.toNat) - 1 + 1
        · rw [if_pos hB]
          have hb : q % 4 = layN (tubeAt R i.toNat) - 1 := by omega
          rw [hb, Nat.sub_self, Nat.sub_zero, Nat.add_sub_cancel, c1 j.toNat (layN (tubeAt R j.toNat)) (by omega) (by omega), if_neg (by omega), if_pos (by omega), Nat.sub_self, Nat.sub_zero, hB.1]
        · rw [if_neg hB, c1 (q / 4) (q % 4) (by omega) (by omega), if_neg (by omega), if_neg (by omega)]
    simpa [List.getD, List.getElem?_eq_getElem q1, List.getElem?_eq_getElem q2] using e1
def tbT (R D : List Int) (i j : Int) : List Int := if pbyB R D 4 i j = true then R else List.replicate 24 0
theorem tbT_len {R : List Int} (hR : R.length = 24) (D : List Int) (i j : Int) : (tbT R D i j).length = 24 := by
  unfold tbT
  split
  · exact hR
  · rfl
--@tbl TurnBack = impl.TurnBack
--@tbl sTurnBack = spec.TurnBack
theorem TurnBack_ok (R D : List Int) (i j : Int) (hR : R.length = 24) (hD : D.length = 6) : PureH Try.prog 25 [.arr R, .arr D, .int i, .int j] [] (.tup [.arr (tbT R D i j), .bool (pbyB R D 4 i j)]) := by
  have tkR : R.take 24 = R := List.take_of_length_le (by omega)
  have tkD : D.take 6 = D := List.take_of_length_le (by omega)
  have r24 : List.take 24 (List.replicate 24 (0 : Int)) = List.replicate 24 0 := rfl
  have hl := pbyT_len hR D 4 i j
  unfold tbT
  cases hb : pbyB R D 4 i j
  all_goals
    refine pure_of_vc (X := ⟨Try.prog, tys, [(73, PourBy_F)], [], true, true, 0, [], []⟩) fn_25 ⟨tys_ok, (.cons PourBy_T .nil), .nil, mixed⟩ (n0 := 0) (Nat.le_of_ble_eq_true rfl) (by simp [wfL, SV.wf]) (wfH_spec (by simp [wfH, SObj.wf])) (Nat.le_refl _) (fun _ => by simp [SV.wf, wfL]) ?_
    simp -implicitDefEqProofs only [Try.f25, Option.getD_some, argS, PourBy_F, hR, hD, tkR, tkD, r24, hl, hb, ZB, Int.reduceToNat, Nat.reduceLT, Nat.reduceLeDiff, Int.reduceLE, Int.reduceLT, Nat.reduceEqDiff, Nat.reduceSub, SB, SV.known, packR, ne_eq, reduceCtorEq, Nat.reduceEqDiff, ↓reduceIte, if_true, if_false, eq_self, Nat.reduceAdd, Nat.reduceMul, Nat.reduceSub, forall_const, oneCellS, Kd.isSca, flat, TYB]
theorem sTurnBack_ok (R D : List Int) (i j : Int) (hR : R.length = 24) (hD : D.length = 6) : PureH Try.prog 24 [.arr R, .arr D, .int i, .int j] [] (.tup [.arr (tbT R D i j), .bool (pbyB R D 4 i j)]) := by
  have tkR : R.take 24 = R := List.take_of_length_le (by omega)
  have tkD : D.take 6 = D := List.take_of_length_le (by omega)
  have r24 : List.take 24 (List.replicate 24 (0 : Int)) = List.replicate 24 0 := rfl
  have hl := pbyT_len hR D 4 i j
  have tkT : (pbyT R D 4 i j).take 24 = pbyT R D 4 i j := List.take_of_length_le (by omega)
  unfold tbT
  cases hb : pbyB R D 4 i j
  · refine pure_of_vc (X := ⟨Try.prog, tys, [(72, sPourBy_F)], [], true, true, 0, [], []⟩) fn_24 ⟨tys_ok, (.cons sPourBy_T .nil), .nil, mixed⟩ (n0 := 0) (Nat.le_of_ble_eq_true rfl) (by simp [wfL, SV.wf]) (wfH_spec (by simp [wfH, SObj.wf])) (Nat.le_refl _) (fun _ => by simp [SV.wf, wfL]) ?_
    simp -implicitDefEqProofs only [Try.f24, Option.getD_some, argS, sPourBy_F, hR, hD, tkR, tkD, r24, hl, tkT, hb, ZB, Int.reduceToNat, Nat.reduceLT, Nat.reduceLeDiff, Int.reduceLE, Int.reduceLT, Nat.reduceEqDiff, Nat.reduceSub, SB, SV.known, packR, ne_eq, reduceCtorEq, Nat.reduceEqDiff, ↓reduceIte, if_true, if_false, eq_self, Nat.reduceAdd, Nat.reduceMul, Nat.reduceSub, forall_const, oneCellS, Kd.isSca, flat, TYB]
  · have hb2 := hb
    simp only [pbyB, Bool.and_eq_true, Bool.not_eq_true', decide_eq_false_iff_not] at hb2
    have bi := pl_bd hb2.1.1.2
    have bj := pl_bd hb2.1.2
    have m4 := mov4 hR hD hb2.1.1.1.1 bi bj hb2.2
    obtain ⟨t1, t2, t3⟩ := turn_facts hR hD hb2.1.1.1.1 bi bj hb2.2
    have e1 : pbyT R D 4 i j = mvR R i.toNat j.toNat 1 := by rw [pbyT, if_pos hb, m4.1]; rfl
    have ml : (mvR R i.toNat j.toNat 1).length = 24 := by rw [mvR_len, hR]
    have b2 : pbyB (mvR R i.toNat j.toNat 1) D 4 j i = true := by
      simp only [pbyB, Bool.and_eq_true, Bool.not_eq_true', decide_eq_false_iff_not]
      exact ⟨⟨⟨⟨t1, rfl⟩, hb2.1.2⟩, hb2.1.1.2⟩, by omega⟩
    have e2 : pbyT (mvR R i.toNat j.toNat 1) D 4 j i = R := by rw [pbyT, if_pos b2, t2]; exact t3
    rw [e1] at hl tkT
    refine pure_of_vc (X := ⟨Try.prog, tys, [(72, sPourBy_F)], [], true, true, 0, [], []⟩) fn_24 ⟨tys_ok, (.cons sPourBy_T .nil), .nil, mixed⟩ (n0 := 0) (Nat.le_of_ble_eq_true rfl) (by simp [wfL, SV.wf]) (wfH_spec (by simp [wfH, SObj.wf])) (Nat.le_refl _) (fun _ => by simp [SV.wf, wfL]) ?_
    simp -implicitDefEqProofs only [Try.f24, Option.getD_some, argS, sPourBy_F, hR, hD, tkR, tkD, r24, hl, tkT, hb, e1, b2, e2, ZB, Int.reduceToNat, Nat.reduceLT, Nat.reduceLeDiff, Int.reduceLE, Int.reduceLT, Nat.reduceEqDiff, Nat.reduceSub, SB, SV.known, packR, ne_eq, reduceCtorEq, Nat.reduceEqDiff, ↓reduceIte, if_true, if_false, eq_self, Nat.reduceAdd, Nat.reduceMul, Nat.reduceSub, forall_const, oneCellS, Kd.isSca, flat, TYB]
def TurnBack_F : List SV → Heap → Option (Prop × SV)
  | [.arr R, .arr D, .int i, .int j], _ => some (R.length = 24 ∧ D.length = 6, .tup [.arr (tbT R D i j), .bool (pbyB R D 4 i j)])
  | _, _ => none
theorem TurnBack_T : ∀ args H p v, TurnBack_F args H = some (p, v) → p → PureH Try.prog 25 args H v := by
  intro args H p v h hp
  unfold TurnBack_F at h
  split at h
  · cases h; exact (TurnBack_ok _ _ _ _ hp.1 hp.2).any _
  · cases h
def sTurnBack_F : List SV → Heap → Option (Prop × SV)
  | [.arr R, .arr D, .int i, .int j], _ => some (R.length = 24 ∧ D.length = 6, .tup [.arr (tbT R D i j), .bool (pbyB R D 4 i j)])
  | _, _ => none
theorem sTurnBack_T : ∀ args H p v, sTurnBack_F args H = some (p, v) → p → PureH Try.prog 24 args H v := by
  intro args H p v h hp
  unfold sTurnBack_F at h
  split at h
  · cases h; exact (sTurnBack_ok _ _ _ _ hp.1 hp.2).any _
  · cases h
theorem lawTurnBack (R D : List Int) (i j : Int) (hR : R.length = 24) (_ : ∀ x ∈ R, In64 x) (hD : D.length = 6) (_ : ∀ x ∈ D, In64 x) (_ : In64 i) (_ : In64 j) : PureH Try.prog 5 [.arr R, .arr D, .int i, .int j] [] (.bool true) := by
  have tkR : R.take 24 = R := List.take_of_length_le (by omega)
  have tkD : D.take 6 = D := List.take_of_length_le (by omega)
  have hl := tbT_len hR D i j
  have tk1 : (tbT R D i j).take 24 = tbT R D i j := List.take_of_length_le (by omega)
  refine pure_of_vc (X := ⟨Try.prog, tys, [(16, toRack_F), (17, toIntA6_F), (25, TurnBack_F), (24, sTurnBack_F), (26, eqRack_F)], [], true, true, 0, [], []⟩) fn_5 ⟨tys_ok, (.cons toRack_T (.cons toIntA6_T (.cons TurnBack_T (.cons sTurnBack_T (.cons eqRack_T .nil))))), .nil, mixed⟩ (n0 := 0) (Nat.le_of_ble_eq_true rfl) (by simp [wfL, SV.wf]) (wfH_spec (by simp [wfH, SObj.wf])) (Nat.le_refl _) (fun _ => by simp [SV.wf, wfL]) ?_
  simp -implicitDefEqProofs only [Try.f5, Option.getD_some, argS, toRack_F, toIntA6_F, TurnBack_F, sTurnBack_F, eqRack_F, hR, hD, tkR, tkD, hl, tk1, ZB, Int.reduceToNat, Nat.reduceLT, Nat.reduceLeDiff, Int.reduceLE, Int.reduceLT, Nat.reduceEqDiff, Nat.reduceSub, SB, SV.known, packR, ne_eq, reduceCtorEq, Nat.reduceEqDiff, ↓reduceIte, if_true, if_false, eq_self, Nat.reduceAdd, Nat.reduceMul, Nat.reduceSub, forall_const, oneCellS, Kd.isSca, flat, TYB]
end Go.Proofs.Ytaenmmebnifioaa
