/- Texts of this claim, joined (GP1, Fin, FinS, FinB). -/
import Derived.Test.YtopfnkmlgcjpbaaQ1
import Derived.Test.YtopfnkmlgcjpbaaQ2
import Derived.Test.YtopfnkmlgcjpbaaQ3
import Derived.Test.YtopfnkmlgcjpbaaQ4
import Derived.Test.YtopfnkmlgcjpbaaQ5
import Derived.Test.YtopfnkmlgcjpbaaQ6
import Derived.Test.YtopfnkmlgcjpbaaQ7
import Derived.Test.YtopfnkmlgcjpbaaRows
import Derived.ProofKit
import Derived.OpenShut
set_option maxRecDepth 100000
set_option linter.unusedSimpArgs false
set_option linter.unusedVariables false
namespace Go.Proofs.Ytopfnkmlgcjpbaa
open Go Go.RowKit
theorem drawG_use {cv : SV} {H : Heap} {n m : Nat} {κ : K1} (h1 : BytA cv H) (h2 : m ≤ n) (h3 : ∀ (R : List Int) H' n', R.length = 24 → (∀ z ∈ R, In64 z) → Kpt n H H' n' → κ (.arr R) H' n') : DrawGoodPath_F [cv] H n m κ := ⟨h1, h2, h3⟩
set_option maxHeartbeats 4000000 in
theorem lawFnGoodPaths (L : List Int) (off len cap : Nat) (_ : len ≤ cap) (_ : cap ≤ maxLen) (hLl : L.length = len) (hLb : ∀ x ∈ L, 0 ≤ x ∧ x ≤ 255) :
    PureH Try.prog 3 [.slice 0 off len cap] [(0, .winU off L)] (.bool true) := by
  by_cases hbig : (65536 : Int) < (len : Int)
  · refine pure_of_vc (X := ⟨Try.prog, tys, [(7, rBig_F)], [], true, true, 1, [], []⟩) fn_3 ⟨tys_ok, (.cons rBig_T .nil), .nil, mixed⟩ (n0 := 1) (Nat.le_of_ble_eq_true rfl) (by simp [wfL, SV.wf]) (wfH_spec (by simp [wfH, SObj.wf])) (Nat.le_refl _) (fun _ => by simp [SV.wf, wfL]) ?_
    simp -implicitDefEqProofs only [Try.f3, Option.getD_some, argS, rBig_F, hbig, ZB, Int.reduceToNat, Nat.reduceLT, Nat.reduceLeDiff, Int.reduceLE, Int.reduceLT, Nat.reduceEqDiff, Nat.reduceSub, SB, SV.known, packR, ne_eq, reduceCtorEq, Nat.reduceEqDiff, ↓reduceIte, if_true, if_false, eq_self, Nat.reduceAdd, Nat.reduceMul, Nat.reduceSub, forall_const, oneCellS, litOne, flat1, Kd.isSca, flat, TYB]
  · refine pure_of_vc (X := ⟨Try.prog, tys, [(7, rBig_F), (11, IsRack_F), (12, rPairs_F), (20, rInts_F), (16, IsGoodPath2_F), (17, sIsGoodPath_F), (21, MostPoured_F), (22, sMostPoured_F), (23, Pour_F), (24, BoundOf_F)], [(8, DrawGoodPath_F), (15, DrawIsGoodPath_F), (9, GoodPath_F), (10, sGoodPath_F), (13, GoodPours_F), (14, sGoodPours_F), (18, BoundsAlong_F), (19, sBoundsAlong_F)], true, true, 1, [], []⟩) fn_3 ⟨tys_ok, (.cons rBig_T (.cons IsRack_T (.cons rPairs_T (.cons rInts_T (.cons IsGoodPath2_T (.cons sIsGoodPath_T (.cons MostPoured_T (.cons sMostPoured_T (.cons Pour_T (.cons BoundOf_T .nil)))))))))), (.cons DrawGoodPath_T (.cons DrawIsGoodPath_T (.cons GoodPath_T (.cons sGoodPath_T (.cons GoodPours_T (.cons sGoodPours_T (.cons BoundsAlong_T (.cons sBoundsAlong_T .nil)))))))), mixed⟩ (n0 := 1) (Nat.le_of_ble_eq_true rfl) (by simp [wfL, SV.wf]) (wfH_spec (by simp [wfH, SObj.wf])) (Nat.le_refl _) (fun _ => by simp [SV.wf, wfL]) ?_
    simp -implicitDefEqProofs only [Try.f3, Option.getD_some, argS, rBig_F, IsRack_F, rPairs_F, rInts_F, IsGoodPath2_F, sIsGoodPath_F, MostPoured_F, sMostPoured_F, Pour_F, BoundOf_F, DrawGoodPath_F, DrawIsGoodPath_F, GoodPath_F, sGoodPath_F, GoodPours_F, sGoodPours_F, BoundsAlong_F, sBoundsAlong_F, hbig, ZB, Int.reduceToNat, Nat.reduceLT, Nat.reduceLeDiff, Int.reduceLE, Int.reduceLT, Nat.reduceEqDiff, Nat.reduceSub, SB, SV.known, packR, ne_eq, reduceCtorEq, Nat.reduceEqDiff, ↓reduceIte, if_true, if_false, eq_self, Nat.reduceAdd, Nat.reduceMul, Nat.reduceSub, forall_const, oneCellS, litOne, flat1, Kd.isSca, flat, TYB]
    refine drawG_use (.inr ⟨0, off, len, cap, L, rfl, by simp [hget_cons], hLl, by omega, hLb⟩) (Nat.le_refl _) fun R H' n' hR hRi hK => ?_
    have tkR : R.take 24 = R := List.take_of_length_le (by omega)
    have r24 : List.take 24 (List.replicate 24 (0 : Int)) = List.replicate 24 0 := rfl
    have z0 : 0 / 2 = 0 := rfl
    have tor : (True ∨ PL R 36 = []) = True := true_or _
    have h0' : hget H' 0 = some (.winU off L) := hK.get (by omega) (by simp [hget_cons])
    have hle := hK.le
    have hn0 : ¬ 0 = n' := by omega
    cases hr : rackB R
    · skip
      have eL : gpaL R = [] := by unfold gpaL; rw [hr]; rfl
      have eR : gpaR R = List.replicate 24 0 := by unfold gpaR; rw [hr]; rfl
      have eG : gpF R = [] := by unfold gpF; rw [hr]; rfl
      have eM : mpN R = 0 := by unfold mpN; rw [hr]; rfl
      have eP : mpL R = [0, 0] := by unfold mpL; rw [hr]; rfl
      have e2l : [(0 : Int), 0].take 2 = [0, 0] := rfl
      simp -implicitDefEqProofs only [rBig_F, IsRack_F, rPairs_F, rInts_F, IsGoodPath2_F, sIsGoodPath_F, MostPoured_F, sMostPoured_F, Pour_F, BoundOf_F, GoodPath_F, sGoodPath_F, GoodPours_F, sGoodPours_F, BoundsAlong_F, sBoundsAlong_F, freshK, Wrap.ap, hR, tkR, r24, z0, tor, hr, eL, eR, eG, eqI_rack, eqI_p2, Nat.add_assoc, add_self, self_add, add_add, ZB, Int.reduceToNat, Nat.reduceLT, Nat.reduceLeDiff, Int.reduceLE, Int.reduceLT, Nat.reduceEqDiff, Nat.reduceSub, SB, SV.known, packR, ne_eq, reduceCtorEq, Nat.reduceEqDiff, ↓reduceIte, if_true, if_false, eq_self, Nat.reduceAdd, Nat.reduceMul, Nat.reduceSub, forall_const, oneCellS, litOne, flat1, Kd.isSca, flat, TYB]
      refine ⟨hle, fun c1 j1 q1 => ⟨fun c2 j2 q2 => ?_, fun h => absurd trivial h⟩, fun h => absurd trivial h⟩
      refine drawPath_use (.inr ⟨0, off, len, cap, L, rfl, by simp [hget_cons, h0', hn0], hLl, by omega, hLb⟩) (by omega) fun S b len2 cap2 M H2 n2 hS hSi hb1 hb2 hbM hM1 hM2 hK2 => ?_
      have tkS : S.take 24 = S := List.take_of_length_le (by omega)
      have hle2 := hK2.le
      have hn2 : 1 ≤ n2 := by omega
      have b0 : (b = n2) = False := by simp; omega
      have b1 : ∀ i, (b = n2 + i) = False := fun i => by simp; omega
      have hM3 : len2 ≤ 1048576 := by omega
      have r0 : (n' = n2) = False := by simp; omega
      have r1 : ∀ i, (n' = n2 + i) = False := fun i => by simp; omega
      have gR : hget H2 n' = some (.ints R 27) := hK2.get (by omega) (by simp [hget_cons])
      cases hok : igOk S len2
      · skip
        have eA : alL S (M.take (len2 * 2)) len2 = [] := by unfold alL; rw [hok]; rfl
        simp -implicitDefEqProofs only [rBig_F, IsRack_F, rPairs_F, rInts_F, IsGoodPath2_F, sIsGoodPath_F, MostPoured_F, sMostPoured_F, Pour_F, BoundOf_F, GoodPath_F, sGoodPath_F, GoodPours_F, sGoodPours_F, BoundsAlong_F, sBoundsAlong_F, freshK, Wrap.ap, hR, tkR, r24, z0, tor, hr, hS, tkS, hbM, hn2, b0, b1, r0, r1, gR, hM1, hM3, hok, eL, eR, eG, eM, eP, e2l, eA, eqI_rack, eqI_p2, Nat.add_assoc, add_self, self_add, add_add, ZB, Int.reduceToNat, Nat.reduceLT, Nat.reduceLeDiff, Int.reduceLE, Int.reduceLT, Nat.reduceEqDiff, Nat.reduceSub, SB, SV.known, packR, ne_eq, reduceCtorEq, Nat.reduceEqDiff, ↓reduceIte, if_true, if_false, eq_self, Nat.reduceAdd, Nat.reduceMul, Nat.reduceSub, forall_const, oneCellS, litOne, flat1, Kd.isSca, flat, TYB]
        exact ⟨fun _ _ _ => trivial, fun h => absurd trivial h⟩
      · skip
        have hrS : rackB S = true := by unfold igOk at hok; simp only [Bool.and_eq_true] at hok; exact hok.1
        have hig := path_falls (L := M.take (len2 * 2)) hS hrS len2
        have nA : (alL S (M.take (len2 * 2)) len2).length = alN S (M.take (len2 * 2)) len2 + 1 := by unfold alL; rw [hok]; exact alS_len _ _ _
        have eA : alL S (M.take (len2 * 2)) len2 = alS S (M.take (len2 * 2)) (alN S (M.take (len2 * 2)) len2 + 1) := by unfold alL; rw [hok]; rfl
        have lA := alL_len S (M.take (len2 * 2)) len2
        have bA : ∀ k : Nat, In64 ((alL S (M.take (len2 * 2)) len2).getD k 0) ∧ In64 ((alL S (M.take (len2 * 2)) len2).getD k 0 - 1) := fun k => by
          rw [eA]
          by_cases hk : k < alN S (M.take (len2 * 2)) len2 + 1
          · rw [alS_getD S _ hk]
            have := bnd_bd (paR S (M.take (len2 * 2)) k) (paR_len24 hS k)
            unfold In64; omega
          · rw [List.getD_eq_getElem?_getD, List.getElem?_eq_none (by rw [alS_len]; omega)]
            simp [In64]
        rw [← eA] at hig
        obtain ⟨A, hA⟩ : ∃ A, alL S (M.take (len2 * 2)) len2 = A := ⟨_, rfl⟩
        obtain ⟨N, hN⟩ : ∃ N, alN S (M.take (len2 * 2)) len2 = N := ⟨_, rfl⟩
        rw [hA] at nA lA hig
        rw [hA] at bA
        rw [hN] at nA hig
        clear eA
        have nA0 : (A = []) = False := eq_false fun h => by rw [h] at nA; simp at nA
        have dd : decide ((A.length : Int) = (len2 : Int) + 1) = decide (N = len2) := by
          by_cases h : N = len2
          · rw [decide_eq_true h]; exact decide_eq_true (by omega)
          · rw [decide_eq_false h]; exact decide_eq_false (by omega)
        simp -implicitDefEqProofs only [rBig_F, IsRack_F, rPairs_F, rInts_F, IsGoodPath2_F, sIsGoodPath_F, MostPoured_F, sMostPoured_F, Pour_F, BoundOf_F, GoodPath_F, sGoodPath_F, GoodPours_F, sGoodPours_F, BoundsAlong_F, sBoundsAlong_F, freshK, Wrap.ap, hR, tkR, r24, z0, tor, hr, hS, tkS, hbM, hn2, b0, b1, r0, r1, gR, hM1, hM3, hok, eL, eR, eG, eM, eP, e2l, hA, hig, nA0, dd, eqI_rack, eqI_p2, Nat.add_assoc, add_self, self_add, add_add, ZB, Int.reduceToNat, Nat.reduceLT, Nat.reduceLeDiff, Int.reduceLE, Int.reduceLT, Nat.reduceEqDiff, Nat.reduceSub, SB, SV.known, packR, ne_eq, reduceCtorEq, Nat.reduceEqDiff, ↓reduceIte, if_true, if_false, eq_self, Nat.reduceAdd, Nat.reduceMul, Nat.reduceSub, forall_const, oneCellS, litOne, flat1, Kd.isSca, flat, TYB]
        refine fun c3 j3 q3 c4 j4 q4 => ⟨⟨by rw [List.length_append]; omega, by rw [List.length_append]; omega, by rw [List.take_left, List.take_left], by omega⟩, by unfold In64; omega, ?_⟩
        refine loop_here (fun k : Nat => [(31, .int (k + 1 : Nat)), (30, .bool (decide (N = len2) && fallB A k)), (20, .slice (n2 + 1) 0 A.length c3), (16, .bool (decide (N = len2) && fallB A N)), (26, .bool false), (6, .bool false)]) (fun k => k ≤ N) (fun k => N - k) 0 (Nat.zero_le _) (by simp only [fallB_zero, Bool.and_true, LB, subS, subH, wfS, wfH, SV.ren, renL, SObj.ren, SV.wf, SObj.wf, wfL, SV.known, Nat.reduceEqDiff, ↓reduceIte, if_true, if_false, eq_self, Nat.reduceAdd, Nat.reduceLT, Nat.reduceLeDiff, implies_true, reduceCtorEq, forall_const]; try rfl) (by simp [subS, subH, wfS, wfH, SV.ren, renL, SObj.ren, SV.wf, SObj.wf, wfL, sget_cons, hget_cons] <;> omega) (by repeat' first | exact hwf_mono (by omega) hK2.wf | (refine hwf_cons ?_ ?_ ?_) | omega | trivial) (by omega) fun hwH k hk => ?_
        have lA3 : (A ++ j3).length = c3 := by rw [List.length_append]; omega
        by_cases hkN : k < N
        · have hil : ((k + 1 : Nat) : Int) < A.length := by omega
          have g1 := getD_app A j3 k (by omega)
          have g2 := getD_app A j3 (k + 1) (by omega)
          have es := fallB_succ A k
          have k1 : ((k + 1 : Nat) : Int) - 1 = k := by omega
          have es2 : (decide (N = len2) && fallB A (k + 1)) = ((decide (N = len2) && fallB A k) && decide (A.getD (k + 1) 0 = A.getD k 0 - 1)) := by rw [es, Bool.and_assoc]
          have hkc : k < c3 := by omega
          have hkc1 : k + 1 < c3 := by omega
          have hkl : (k : Int) < A.length := by omega
          have b2 := bA (k + 1)
          have b3 := bA k
          cases hfb : (decide (N = len2) && fallB A k)
          · rw [hfb, Bool.false_and] at es2
            simp -implicitDefEqProofs only [lk_normal, hil, hfb, eqI_rack, eqI_p2, Nat.add_assoc, add_self, self_add, add_add, ZB, Int.reduceToNat, Nat.reduceLT, Nat.reduceLeDiff, Int.reduceLE, Int.reduceLT, Nat.reduceEqDiff, Nat.reduceSub, SB, SV.known, packR, ne_eq, reduceCtorEq, Nat.reduceEqDiff, ↓reduceIte, if_true, if_false, eq_self, Nat.reduceAdd, Nat.reduceMul, Nat.reduceSub, forall_const, oneCellS, litOne, flat1, Kd.isSca, flat, TYB]
            exact ⟨by unfold In64; omega, k + 1, by omega, by omega, Sub.same (by simp only [es2, LB, subS, subH, wfS, wfH, SV.ren, renL, SObj.ren, SV.wf, SObj.wf, wfL, SV.known, Nat.reduceEqDiff, ↓reduceIte, if_true, if_false, eq_self, Nat.reduceAdd, Nat.reduceLT, Nat.reduceLeDiff, implies_true, reduceCtorEq, forall_const]; try rfl) (by simp [subS, subH, wfS, wfH, SV.ren, renL, SObj.ren, SV.wf, SObj.wf, wfL, sget_cons, hget_cons] <;> omega) hwH (by omega)⟩
          · rw [hfb, Bool.true_and] at es2
            simp -implicitDefEqProofs only [lk_normal, hil, g1, g2, k1, lA3, hkc, hkc1, hkl, hfb, b2.1, b3.1, b3.2, eqI_rack, eqI_p2, Nat.add_assoc, add_self, self_add, add_add, ZB, Int.reduceToNat, Nat.reduceLT, Nat.reduceLeDiff, Int.reduceLE, Int.reduceLT, Nat.reduceEqDiff, Nat.reduceSub, SB, SV.known, packR, ne_eq, reduceCtorEq, Nat.reduceEqDiff, ↓reduceIte, if_true, if_false, eq_self, Nat.reduceAdd, Nat.reduceMul, Nat.reduceSub, forall_const, oneCellS, litOne, flat1, Kd.isSca, flat, TYB]
            exact ⟨by omega, by unfold In64; omega, by omega, by unfold In64; omega, k + 1, by omega, by omega, Sub.same (by simp only [es2, LB, subS, subH, wfS, wfH, SV.ren, renL, SObj.ren, SV.wf, SObj.wf, wfL, SV.known, Nat.reduceEqDiff, ↓reduceIte, if_true, if_false, eq_self, Nat.reduceAdd, Nat.reduceLT, Nat.reduceLeDiff, implies_true, reduceCtorEq, forall_const]; try rfl) (by simp [subS, subH, wfS, wfH, SV.ren, renL, SObj.ren, SV.wf, SObj.wf, wfL, sget_cons, hget_cons] <;> omega) hwH (by omega)⟩
        · obtain rfl : k = N := by omega
          have hil : ¬ ((k + 1 : Nat) : Int) < A.length := by omega
          simp -implicitDefEqProofs only [lk_normal, hil, eqI_rack, eqI_p2, Nat.add_assoc, add_self, self_add, add_add, ZB, Int.reduceToNat, Nat.reduceLT, Nat.reduceLeDiff, Int.reduceLE, Int.reduceLT, Nat.reduceEqDiff, Nat.reduceSub, SB, SV.known, packR, ne_eq, reduceCtorEq, Nat.reduceEqDiff, ↓reduceIte, if_true, if_false, eq_self, Nat.reduceAdd, Nat.reduceMul, Nat.reduceSub, forall_const, oneCellS, litOne, flat1, Kd.isSca, flat, TYB]
    · skip
      obtain ⟨n, n54, hn1, hn2', hn3, hn4, hn5, hn6⟩ := gp_all hR hr
      obtain ⟨T, hT⟩ : ∃ T, gpR R n = T := ⟨_, rfl⟩
      have hTf := gpR_facts hR hr n
      rw [hT] at hn1 hn2' hn4 hTf
      have lT := hTf.1
      have rT := hTf.2
      have tkT : T.take 24 = T := List.take_of_length_le (by omega)
      have eL : gpaL R = gpL R n := by unfold gpaL; rw [if_pos hr, hn3]
      have eR : gpaR R = T := by unfold gpaR; rw [if_pos hr, hn2']
      have eG : gpF R = gdL R := by unfold gpF; rw [if_pos hr]
      have eGT : gpF T = [] := by unfold gpF; rw [if_pos rT, hn1]
      obtain ⟨g, hg, hg36⟩ := gdL_even R
      have hg2 : (gdL R).length / 2 = g := by omega
      have hn5' : (gpL R n).length / 2 = n := by omega
      have ml := mpL_len R
      have mt : (mpL R).take 2 = mpL R := List.take_of_length_le (by omega)
      have mb : (mpL R).drop 2 = [] := List.drop_eq_nil_of_le (by omega)
      have bo1 : boF R = bndF R := by unfold boF; rw [if_pos hr]
      have bo2 : boF T = bndF T := by unfold boF; rw [if_pos rT]
      have bt : bndF R - bndF T = n := hn4
      have eIg : igOk R n = true := by unfold igOk; rw [hr]; exact decide_eq_true (by omega)
      have n48 : n ≤ 1048576 := by omega
      have in0 : In64 0 := by simp [In64]
      have in1 : In64 (n : Int) := by unfold In64; omega
      by_cases n0 : n = 0
      · skip
        subst n0
        have nL : (gpL R 0 = []) = True := eq_true (gpL_zero R)
        have eL0 := gpL_zero R
        have eTR : T = R := by rw [← hT]; rfl
        have hnR : gdL R = [] := by rw [← eTR]; exact hn1
        clear eTR
        have hg0 : (gdL R).length / 2 = 0 := by rw [hnR]; rfl
        have z1 : ((0 : Nat) : Int) = 0 := rfl
        by_cases hP : PL R 36 = []
        · have fP : (False ∨ PL R 36 = []) = True := eq_true (.inr hP)
          simp -implicitDefEqProofs only [rBig_F, IsRack_F, rPairs_F, rInts_F, IsGoodPath2_F, sIsGoodPath_F, MostPoured_F, sMostPoured_F, Pour_F, BoundOf_F, GoodPath_F, sGoodPath_F, GoodPours_F, sGoodPours_F, BoundsAlong_F, sBoundsAlong_F, freshK, Wrap.ap, hR, tkR, r24, z0, fP, nL, hr, eL, eL0, eR, eG, lT, rT, tkT, hg0, hnR, eqI_rack, eqI_p2, Nat.add_assoc, add_self, self_add, add_add, ZB, Int.reduceToNat, Nat.reduceLT, Nat.reduceLeDiff, Int.reduceLE, Int.reduceLT, Nat.reduceEqDiff, Nat.reduceSub, SB, SV.known, packR, ne_eq, reduceCtorEq, Nat.reduceEqDiff, ↓reduceIte, if_true, if_false, eq_self, Nat.reduceAdd, Nat.reduceMul, Nat.reduceSub, forall_const, oneCellS, litOne, flat1, Kd.isSca, flat, TYB]
          refine ⟨hle, fun c1 j1 q1 => ⟨fun c2 j2 q2 => ?_, fun h => absurd trivial h⟩, fun h => absurd trivial h⟩
          refine drawPath_use (.inr ⟨0, off, len, cap, L, rfl, by simp [hget_cons, h0', hn0], hLl, by omega, hLb⟩) (by omega) fun S b len2 cap2 M H2 n2 hS hSi hb1 hb2 hbM hM1 hM2 hK2 => ?_
          have tkS : S.take 24 = S := List.take_of_length_le (by omega)
          have hle2 := hK2.le
          have hn2 : 1 ≤ n2 := by omega
          have b0 : (b = n2) = False := by simp; omega
          have b1 : ∀ i, (b = n2 + i) = False := fun i => by simp; omega
          have hM3 : len2 ≤ 1048576 := by omega
          have r0 : (n' = n2) = False := by simp; omega
          have r1 : ∀ i, (n' = n2 + i) = False := fun i => by simp; omega
          have gR : hget H2 n' = some (.ints R 27) := hK2.get (by omega) (by simp [hget_cons])
          have t0 : (n' + 1 = n2) = False := by simp; omega
          have t1 : ∀ i, (n' + 1 = n2 + i) = False := fun i => by simp; omega
          have gT : hget H2 (n' + 1) = some (.ints T 27) := hK2.get (by omega) (by simp [hget_cons])
          cases hok : igOk S len2
          · skip
            have eA : alL S (M.take (len2 * 2)) len2 = [] := by unfold alL; rw [hok]; rfl
            by_cases h4 : 0 < mpN R
            · obtain ⟨mp1, mp2⟩ := most_pour h4
              have lpt := pourT_len hR ((mpL R).getD 0 0) ((mpL R).getD 1 0)
              simp -implicitDefEqProofs only [rBig_F, IsRack_F, rPairs_F, rInts_F, IsGoodPath2_F, sIsGoodPath_F, MostPoured_F, sMostPoured_F, Pour_F, BoundOf_F, GoodPath_F, sGoodPath_F, GoodPours_F, sGoodPours_F, BoundsAlong_F, sBoundsAlong_F, freshK, Wrap.ap, hR, tkR, r24, z0, tor, hr, hS, tkS, hbM, hn2, b0, b1, r0, r1, gR, hM1, hM3, hok, eG, eGT, lT, rT, tkT, gT, t0, t1, ml, mt, mb, bo1, bo2, bt, eIg, in0, z1, fP, nL, eL, eL0, hg0, hnR, hn1, eA, h4, mp1, mp2, lpt, eqI_rack, eqI_p2, Nat.add_assoc, add_self, self_add, add_add, ZB, Int.reduceToNat, Nat.reduceLT, Nat.reduceLeDiff, Int.reduceLE, Int.reduceLT, Nat.reduceEqDiff, Nat.reduceSub, SB, SV.known, packR, ne_eq, reduceCtorEq, Nat.reduceEqDiff, ↓reduceIte, if_true, if_false, eq_self, Nat.reduceAdd, Nat.reduceMul, Nat.reduceSub, forall_const, oneCellS, litOne, flat1, Kd.isSca, flat, TYB]
              (first | exact ⟨fun _ _ _ => ⟨fun _ => trivial, fun _ _ _ _ => trivial⟩, fun h => absurd trivial h⟩ | exact ⟨fun _ => trivial, fun _ _ _ _ => trivial⟩)
            · simp -implicitDefEqProofs only [rBig_F, IsRack_F, rPairs_F, rInts_F, IsGoodPath2_F, sIsGoodPath_F, MostPoured_F, sMostPoured_F, Pour_F, BoundOf_F, GoodPath_F, sGoodPath_F, GoodPours_F, sGoodPours_F, BoundsAlong_F, sBoundsAlong_F, freshK, Wrap.ap, hR, tkR, r24, z0, tor, hr, hS, tkS, hbM, hn2, b0, b1, r0, r1, gR, hM1, hM3, hok, eG, eGT, lT, rT, tkT, gT, t0, t1, ml, mt, mb, bo1, bo2, bt, eIg, in0, z1, fP, nL, eL, eL0, hg0, hnR, hn1, eA, h4, eqI_rack, eqI_p2, Nat.add_assoc, add_self, self_add, add_add, ZB, Int.reduceToNat, Nat.reduceLT, Nat.reduceLeDiff, Int.reduceLE, Int.reduceLT, Nat.reduceEqDiff, Nat.reduceSub, SB, SV.known, packR, ne_eq, reduceCtorEq, Nat.reduceEqDiff, ↓reduceIte, if_true, if_false, eq_self, Nat.reduceAdd, Nat.reduceMul, Nat.reduceSub, forall_const, oneCellS, litOne, flat1, Kd.isSca, flat, TYB]
              (first | exact ⟨fun _ _ _ => ⟨fun _ => trivial, fun _ _ _ _ => trivial⟩, fun h => absurd trivial h⟩ | exact ⟨fun _ => trivial, fun _ _ _ _ => trivial⟩)
          · skip
            have hrS : rackB S = true := by unfold igOk at hok; simp only [Bool.and_eq_true] at hok; exact hok.1
            have hig := path_falls (L := M.take (len2 * 2)) hS hrS len2
            have nA : (alL S (M.take (len2 * 2)) len2).length = alN S (M.take (len2 * 2)) len2 + 1 := by unfold alL; rw [hok]; exact alS_len _ _ _
            have eA : alL S (M.take (len2 * 2)) len2 = alS S (M.take (len2 * 2)) (alN S (M.take (len2 * 2)) len2 + 1) := by unfold alL; rw [hok]; rfl
            have lA := alL_len S (M.take (len2 * 2)) len2
            have bA : ∀ k : Nat, In64 ((alL S (M.take (len2 * 2)) len2).getD k 0) ∧ In64 ((alL S (M.take (len2 * 2)) len2).getD k 0 - 1) := fun k => by
              rw [eA]
              by_cases hk : k < alN S (M.take (len2 * 2)) len2 + 1
              · rw [alS_getD S _ hk]
                have := bnd_bd (paR S (M.take (len2 * 2)) k) (paR_len24 hS k)
                unfold In64; omega
              · rw [List.getD_eq_getElem?_getD, List.getElem?_eq_none (by rw [alS_len]; omega)]
                simp [In64]
            rw [← eA] at hig
            obtain ⟨A, hA⟩ : ∃ A, alL S (M.take (len2 * 2)) len2 = A := ⟨_, rfl⟩
            obtain ⟨N, hN⟩ : ∃ N, alN S (M.take (len2 * 2)) len2 = N := ⟨_, rfl⟩
            rw [hA] at nA lA hig
            rw [hA] at bA
            rw [hN] at nA hig
            clear eA
            have nA0 : (A = []) = False := eq_false fun h => by rw [h] at nA; simp at nA
            have dd : decide ((A.length : Int) = (len2 : Int) + 1) = decide (N = len2) := by
              by_cases h : N = len2
              · rw [decide_eq_true h]; exact decide_eq_true (by omega)
              · rw [decide_eq_false h]; exact decide_eq_false (by omega)
            simp -implicitDefEqProofs only [rBig_F, IsRack_F, rPairs_F, rInts_F, IsGoodPath2_F, sIsGoodPath_F, MostPoured_F, sMostPoured_F, Pour_F, BoundOf_F, GoodPath_F, sGoodPath_F, GoodPours_F, sGoodPours_F, BoundsAlong_F, sBoundsAlong_F, freshK, Wrap.ap, hR, tkR, r24, z0, tor, hr, hS, tkS, hbM, hn2, b0, b1, r0, r1, gR, hM1, hM3, hok, eG, eGT, lT, rT, tkT, gT, t0, t1, ml, mt, mb, bo1, bo2, bt, eIg, in0, z1, fP, nL, eL, eL0, hg0, hnR, hn1, hA, hig, nA0, dd, eqI_rack, eqI_p2, Nat.add_assoc, add_self, self_add, add_add, ZB, Int.reduceToNat, Nat.reduceLT, Nat.reduceLeDiff, Int.reduceLE, Int.reduceLT, Nat.reduceEqDiff, Nat.reduceSub, SB, SV.known, packR, ne_eq, reduceCtorEq, Nat.reduceEqDiff, ↓reduceIte, if_true, if_false, eq_self, Nat.reduceAdd, Nat.reduceMul, Nat.reduceSub, forall_const, oneCellS, litOne, flat1, Kd.isSca, flat, TYB]
            refine fun c3 j3 q3 c4 j4 q4 => ⟨⟨by rw [List.length_append]; omega, by rw [List.length_append]; omega, by rw [List.take_left, List.take_left], by omega⟩, by unfold In64; omega, ?_⟩
            refine loop_here (fun k : Nat => [(31, .int (k + 1 : Nat)), (30, .bool (decide (N = len2) && fallB A k)), (20, .slice (n2 + 1) 0 A.length c3), (16, .bool (decide (N = len2) && fallB A N)), (26, .bool (decide (0 < mpN R))), (6, .bool true), (25, .ptr (n2 + 3) 0), (24, .int (mpN R)), (3, .ptr n' 0), (4, .nils), (5, .ptr (n' + 1) 0)]) (fun k => k ≤ N) (fun k => N - k) 0 (Nat.zero_le _) (by simp only [fallB_zero, Bool.and_true, LB, subS, subH, wfS, wfH, SV.ren, renL, SObj.ren, SV.wf, SObj.wf, wfL, SV.known, Nat.reduceEqDiff, ↓reduceIte, if_true, if_false, eq_self, Nat.reduceAdd, Nat.reduceLT, Nat.reduceLeDiff, implies_true, reduceCtorEq, forall_const]; try rfl) (by simp [subS, subH, wfS, wfH, SV.ren, renL, SObj.ren, SV.wf, SObj.wf, wfL, sget_cons, hget_cons] <;> omega) (by repeat' first | exact hwf_mono (by omega) hK2.wf | (refine hwf_cons ?_ ?_ ?_) | omega | trivial) (by omega) fun hwH k hk => ?_
            have lA3 : (A ++ j3).length = c3 := by rw [List.length_append]; omega
            by_cases hkN : k < N
            · have hil : ((k + 1 : Nat) : Int) < A.length := by omega
              have g1 := getD_app A j3 k (by omega)
              have g2 := getD_app A j3 (k + 1) (by omega)
              have es := fallB_succ A k
              have k1 : ((k + 1 : Nat) : Int) - 1 = k := by omega
              have es2 : (decide (N = len2) && fallB A (k + 1)) = ((decide (N = len2) && fallB A k) && decide (A.getD (k + 1) 0 = A.getD k 0 - 1)) := by rw [es, Bool.and_assoc]
              have hkc : k < c3 := by omega
              have hkc1 : k + 1 < c3 := by omega
              have hkl : (k : Int) < A.length := by omega
              have b2 := bA (k + 1)
              have b3 := bA k
              cases hfb : (decide (N = len2) && fallB A k)
              · rw [hfb, Bool.false_and] at es2
                simp -implicitDefEqProofs only [lk_normal, hil, hfb, eqI_rack, eqI_p2, Nat.add_assoc, add_self, self_add, add_add, ZB, Int.reduceToNat, Nat.reduceLT, Nat.reduceLeDiff, Int.reduceLE, Int.reduceLT, Nat.reduceEqDiff, Nat.reduceSub, SB, SV.known, packR, ne_eq, reduceCtorEq, Nat.reduceEqDiff, ↓reduceIte, if_true, if_false, eq_self, Nat.reduceAdd, Nat.reduceMul, Nat.reduceSub, forall_const, oneCellS, litOne, flat1, Kd.isSca, flat, TYB]
                exact ⟨by unfold In64; omega, k + 1, by omega, by omega, Sub.same (by simp only [es2, LB, subS, subH, wfS, wfH, SV.ren, renL, SObj.ren, SV.wf, SObj.wf, wfL, SV.known, Nat.reduceEqDiff, ↓reduceIte, if_true, if_false, eq_self, Nat.reduceAdd, Nat.reduceLT, Nat.reduceLeDiff, implies_true, reduceCtorEq, forall_const]; try rfl) (by simp [subS, subH, wfS, wfH, SV.ren, renL, SObj.ren, SV.wf, SObj.wf, wfL, sget_cons, hget_cons] <;> omega) hwH (by omega)⟩
              · rw [hfb, Bool.true_and] at es2
                simp -implicitDefEqProofs only [lk_normal, hil, g1, g2, k1, lA3, hkc, hkc1, hkl, hfb, b2.1, b3.1, b3.2, eqI_rack, eqI_p2, Nat.add_assoc, add_self, self_add, add_add, ZB, Int.reduceToNat, Nat.reduceLT, Nat.reduceLeDiff, Int.reduceLE, Int.reduceLT, Nat.reduceEqDiff, Nat.reduceSub, SB, SV.known, packR, ne_eq, reduceCtorEq, Nat.reduceEqDiff, ↓reduceIte, if_true, if_false, eq_self, Nat.reduceAdd, Nat.reduceMul, Nat.reduceSub, forall_const, oneCellS, litOne, flat1, Kd.isSca, flat, TYB]
                exact ⟨by omega, by unfold In64; omega, by omega, by unfold In64; omega, k + 1, by omega, by omega, Sub.same (by simp only [es2, LB, subS, subH, wfS, wfH, SV.ren, renL, SObj.ren, SV.wf, SObj.wf, wfL, SV.known, Nat.reduceEqDiff, ↓reduceIte, if_true, if_false, eq_self, Nat.reduceAdd, Nat.reduceLT, Nat.reduceLeDiff, implies_true, reduceCtorEq, forall_const]; try rfl) (by simp [subS, subH, wfS, wfH, SV.ren, renL, SObj.ren, SV.wf, SObj.wf, wfL, sget_cons, hget_cons] <;> omega) hwH (by omega)⟩
            · obtain rfl : k = N := by omega
              have hil : ¬ ((k + 1 : Nat) : Int) < A.length := by omega
              by_cases h4 : 0 < mpN R
              · obtain ⟨mp1, mp2⟩ := most_pour h4
                have lpt := pourT_len hR ((mpL R).getD 0 0) ((mpL R).getD 1 0)
                simp -implicitDefEqProofs only [lk_normal, hil, rBig_F, IsRack_F, rPairs_F, rInts_F, IsGoodPath2_F, sIsGoodPath_F, MostPoured_F, sMostPoured_F, Pour_F, BoundOf_F, GoodPath_F, sGoodPath_F, GoodPours_F, sGoodPours_F, BoundsAlong_F, sBoundsAlong_F, freshK, Wrap.ap, hR, tkR, r24, z0, tor, hr, hS, tkS, hbM, hn2, b0, b1, r0, r1, gR, hM1, hM3, hok, eG, eGT, lT, rT, tkT, gT, t0, t1, ml, mt, mb, bo1, bo2, bt, eIg, in0, z1, fP, nL, eL, eL0, hg0, hnR, hn1, h4, mp1, mp2, lpt, eqI_rack, eqI_p2, Nat.add_assoc, add_self, self_add, add_add, ZB, Int.reduceToNat, Nat.reduceLT, Nat.reduceLeDiff, Int.reduceLE, Int.reduceLT, Nat.reduceEqDiff, Nat.reduceSub, SB, SV.known, packR, ne_eq, reduceCtorEq, Nat.reduceEqDiff, ↓reduceIte, if_true, if_false, eq_self, Nat.reduceAdd, Nat.reduceMul, Nat.reduceSub, forall_const, oneCellS, litOne, flat1, Kd.isSca, flat, TYB]
                (first | exact ⟨fun _ _ _ => ⟨fun _ => trivial, fun _ _ _ _ => trivial⟩, fun h => absurd trivial h⟩ | exact ⟨fun _ => trivial, fun _ _ _ _ => trivial⟩)
              · simp -implicitDefEqProofs only [lk_normal, hil, rBig_F, IsRack_F, rPairs_F, rInts_F, IsGoodPath2_F, sIsGoodPath_F, MostPoured_F, sMostPoured_F, Pour_F, BoundOf_F, GoodPath_F, sGoodPath_F, GoodPours_F, sGoodPours_F, BoundsAlong_F, sBoundsAlong_F, freshK, Wrap.ap, hR, tkR, r24, z0, tor, hr, hS, tkS, hbM, hn2, b0, b1, r0, r1, gR, hM1, hM3, hok, eG, eGT, lT, rT, tkT, gT, t0, t1, ml, mt, mb, bo1, bo2, bt, eIg, in0, z1, fP, nL, eL, eL0, hg0, hnR, hn1, h4, eqI_rack, eqI_p2, Nat.add_assoc, add_self, self_add, add_add, ZB, Int.reduceToNat, Nat.reduceLT, Nat.reduceLeDiff, Int.reduceLE, Int.reduceLT, Nat.reduceEqDiff, Nat.reduceSub, SB, SV.known, packR, ne_eq, reduceCtorEq, Nat.reduceEqDiff, ↓reduceIte, if_true, if_false, eq_self, Nat.reduceAdd, Nat.reduceMul, Nat.reduceSub, forall_const, oneCellS, litOne, flat1, Kd.isSca, flat, TYB]
                (first | exact ⟨fun _ _ _ => ⟨fun _ => trivial, fun _ _ _ _ => trivial⟩, fun h => absurd trivial h⟩ | exact ⟨fun _ => trivial, fun _ _ _ _ => trivial⟩)
        · have fP : (False ∨ PL R 36 = []) = False := by simp [hP]
          simp -implicitDefEqProofs only [rBig_F, IsRack_F, rPairs_F, rInts_F, IsGoodPath2_F, sIsGoodPath_F, MostPoured_F, sMostPoured_F, Pour_F, BoundOf_F, GoodPath_F, sGoodPath_F, GoodPours_F, sGoodPours_F, BoundsAlong_F, sBoundsAlong_F, freshK, Wrap.ap, hR, tkR, r24, z0, fP, nL, hr, eL, eL0, eR, eG, lT, rT, tkT, hg0, hnR, eqI_rack, eqI_p2, Nat.add_assoc, add_self, self_add, add_add, ZB, Int.reduceToNat, Nat.reduceLT, Nat.reduceLeDiff, Int.reduceLE, Int.reduceLT, Nat.reduceEqDiff, Nat.reduceSub, SB, SV.known, packR, ne_eq, reduceCtorEq, Nat.reduceEqDiff, ↓reduceIte, if_true, if_false, eq_self, Nat.reduceAdd, Nat.reduceMul, Nat.reduceSub, forall_const, oneCellS, litOne, flat1, Kd.isSca, flat, TYB]
          refine ⟨hle, fun c1 j1 q1 => fun c2 j2 q2 c3 j3 q3 => ?_, fun h => absurd trivial h⟩
          refine drawPath_use (.inr ⟨0, off, len, cap, L, rfl, by simp [hget_cons, h0', hn0], hLl, by omega, hLb⟩) (by omega) fun S b len2 cap2 M H2 n2 hS hSi hb1 hb2 hbM hM1 hM2 hK2 => ?_
          have tkS : S.take 24 = S := List.take_of_length_le (by omega)
          have hle2 := hK2.le
          have hn2 : 1 ≤ n2 := by omega
          have b0 : (b = n2) = False := by simp; omega
          have b1 : ∀ i, (b = n2 + i) = False := fun i => by simp; omega
          have hM3 : len2 ≤ 1048576 := by omega
          have r0 : (n' = n2) = False := by simp; omega
          have r1 : ∀ i, (n' = n2 + i) = False := fun i => by simp; omega
          have gR : hget H2 n' = some (.ints R 27) := hK2.get (by omega) (by simp [hget_cons])
          have t0 : (n' + 1 = n2) = False := by simp; omega
          have t1 : ∀ i, (n' + 1 = n2 + i) = False := fun i => by simp; omega
          have gT : hget H2 (n' + 1) = some (.ints T 27) := hK2.get (by omega) (by simp [hget_cons])
          cases hok : igOk S len2
          · skip
            have eA : alL S (M.take (len2 * 2)) len2 = [] := by unfold alL; rw [hok]; rfl
            by_cases h4 : 0 < mpN R
            · obtain ⟨mp1, mp2⟩ := most_pour h4
              have lpt := pourT_len hR ((mpL R).getD 0 0) ((mpL R).getD 1 0)
              simp -implicitDefEqProofs only [rBig_F, IsRack_F, rPairs_F, rInts_F, IsGoodPath2_F, sIsGoodPath_F, MostPoured_F, sMostPoured_F, Pour_F, BoundOf_F, GoodPath_F, sGoodPath_F, GoodPours_F, sGoodPours_F, BoundsAlong_F, sBoundsAlong_F, freshK, Wrap.ap, hR, tkR, r24, z0, tor, hr, hS, tkS, hbM, hn2, b0, b1, r0, r1, gR, hM1, hM3, hok, eG, eGT, lT, rT, tkT, gT, t0, t1, ml, mt, mb, bo1, bo2, bt, eIg, in0, z1, fP, nL, eL, eL0, hg0, hnR, hn1, eA, h4, mp1, mp2, lpt, eqI_rack, eqI_p2, Nat.add_assoc, add_self, self_add, add_add, ZB, Int.reduceToNat, Nat.reduceLT, Nat.reduceLeDiff, Int.reduceLE, Int.reduceLT, Nat.reduceEqDiff, Nat.reduceSub, SB, SV.known, packR, ne_eq, reduceCtorEq, Nat.reduceEqDiff, ↓reduceIte, if_true, if_false, eq_self, Nat.reduceAdd, Nat.reduceMul, Nat.reduceSub, forall_const, oneCellS, litOne, flat1, Kd.isSca, flat, TYB]
              (first | exact ⟨fun _ _ _ => ⟨fun _ => trivial, fun _ _ _ _ => trivial⟩, fun h => absurd trivial h⟩ | exact ⟨fun _ => trivial, fun _ _ _ _ => trivial⟩)
            · simp -implicitDefEqProofs only [rBig_F, IsRack_F, rPairs_F, rInts_F, IsGoodPath2_F, sIsGoodPath_F, MostPoured_F, sMostPoured_F, Pour_F, BoundOf_F, GoodPath_F, sGoodPath_F, GoodPours_F, sGoodPours_F, BoundsAlong_F, sBoundsAlong_F, freshK, Wrap.ap, hR, tkR, r24, z0, tor, hr, hS, tkS, hbM, hn2, b0, b1, r0, r1, gR, hM1, hM3, hok, eG, eGT, lT, rT, tkT, gT, t0, t1, ml, mt, mb, bo1, bo2, bt, eIg, in0, z1, fP, nL, eL, eL0, hg0, hnR, hn1, eA, h4, eqI_rack, eqI_p2, Nat.add_assoc, add_self, self_add, add_add, ZB, Int.reduceToNat, Nat.reduceLT, Nat.reduceLeDiff, Int.reduceLE, Int.reduceLT, Nat.reduceEqDiff, Nat.reduceSub, SB, SV.known, packR, ne_eq, reduceCtorEq, Nat.reduceEqDiff, ↓reduceIte, if_true, if_false, eq_self, Nat.reduceAdd, Nat.reduceMul, Nat.reduceSub, forall_const, oneCellS, litOne, flat1, Kd.isSca, flat, TYB]
              (first | exact ⟨fun _ _ _ => ⟨fun _ => trivial, fun _ _ _ _ => trivial⟩, fun h => absurd trivial h⟩ | exact ⟨fun _ => trivial, fun _ _ _ _ => trivial⟩)
          · skip
            have hrS : rackB S = true := by unfold igOk at hok; simp only [Bool.and_eq_true] at hok; exact hok.1
            have hig := path_falls (L := M.take (len2 * 2)) hS hrS len2
            have nA : (alL S (M.take (len2 * 2)) len2).length = alN S (M.take (len2 * 2)) len2 + 1 := by unfold alL; rw [hok]; exact alS_len _ _ _
            have eA : alL S (M.take (len2 * 2)) len2 = alS S (M.take (len2 * 2)) (alN S (M.take (len2 * 2)) len2 + 1) := by unfold alL; rw [hok]; rfl
            have lA := alL_len S (M.take (len2 * 2)) len2
            have bA : ∀ k : Nat, In64 ((alL S (M.take (len2 * 2)) len2).getD k 0) ∧ In64 ((alL S (M.take (len2 * 2)) len2).getD k 0 - 1) := fun k => by
              rw [eA]
              by_cases hk : k < alN S (M.take (len2 * 2)) len2 + 1
              · rw [alS_getD S _ hk]
                have := bnd_bd (paR S (M.take (len2 * 2)) k) (paR_len24 hS k)
                unfold In64; omega
              · rw [List.getD_eq_getElem?_getD, List.getElem?_eq_none (by rw [alS_len]; omega)]
                simp [In64]
            rw [← eA] at hig
            obtain ⟨A, hA⟩ : ∃ A, alL S (M.take (len2 * 2)) len2 = A := ⟨_, rfl⟩
            obtain ⟨N, hN⟩ : ∃ N, alN S (M.take (len2 * 2)) len2 = N := ⟨_, rfl⟩
            rw [hA] at nA lA hig
            rw [hA] at bA
            rw [hN] at nA hig
            clear eA
            have nA0 : (A = []) = False := eq_false fun h => by rw [h] at nA; simp at nA
            have dd : decide ((A.length : Int) = (len2 : Int) + 1) = decide (N = len2) := by
              by_cases h : N = len2
              · rw [decide_eq_true h]; exact decide_eq_true (by omega)
              · rw [decide_eq_false h]; exact decide_eq_false (by omega)
            simp -implicitDefEqProofs only [rBig_F, IsRack_F, rPairs_F, rInts_F, IsGoodPath2_F, sIsGoodPath_F, MostPoured_F, sMostPoured_F, Pour_F, BoundOf_F, GoodPath_F, sGoodPath_F, GoodPours_F, sGoodPours_F, BoundsAlong_F, sBoundsAlong_F, freshK, Wrap.ap, hR, tkR, r24, z0, tor, hr, hS, tkS, hbM, hn2, b0, b1, r0, r1, gR, hM1, hM3, hok, eG, eGT, lT, rT, tkT, gT, t0, t1, ml, mt, mb, bo1, bo2, bt, eIg, in0, z1, fP, nL, eL, eL0, hg0, hnR, hn1, hA, hig, nA0, dd, eqI_rack, eqI_p2, Nat.add_assoc, add_self, self_add, add_add, ZB, Int.reduceToNat, Nat.reduceLT, Nat.reduceLeDiff, Int.reduceLE, Int.reduceLT, Nat.reduceEqDiff, Nat.reduceSub, SB, SV.known, packR, ne_eq, reduceCtorEq, Nat.reduceEqDiff, ↓reduceIte, if_true, if_false, eq_self, Nat.reduceAdd, Nat.reduceMul, Nat.reduceSub, forall_const, oneCellS, litOne, flat1, Kd.isSca, flat, TYB]
            refine fun c3 j3 q3 c4 j4 q4 => ⟨⟨by rw [List.length_append]; omega, by rw [List.length_append]; omega, by rw [List.take_left, List.take_left], by omega⟩, by unfold In64; omega, ?_⟩
            refine loop_here (fun k : Nat => [(31, .int (k + 1 : Nat)), (30, .bool (decide (N = len2) && fallB A k)), (20, .slice (n2 + 1) 0 A.length c3), (16, .bool (decide (N = len2) && fallB A N)), (26, .bool (decide (0 < mpN R))), (6, .bool true), (25, .ptr (n2 + 3) 0), (24, .int (mpN R)), (3, .ptr n' 0), (4, .nils), (5, .ptr (n' + 1) 0)]) (fun k => k ≤ N) (fun k => N - k) 0 (Nat.zero_le _) (by simp only [fallB_zero, Bool.and_true, LB, subS, subH, wfS, wfH, SV.ren, renL, SObj.ren, SV.wf, SObj.wf, wfL, SV.known, Nat.reduceEqDiff, ↓reduceIte, if_true, if_false, eq_self, Nat.reduceAdd, Nat.reduceLT, Nat.reduceLeDiff, implies_true, reduceCtorEq, forall_const]; try rfl) (by simp [subS, subH, wfS, wfH, SV.ren, renL, SObj.ren, SV.wf, SObj.wf, wfL, sget_cons, hget_cons] <;> omega) (by repeat' first | exact hwf_mono (by omega) hK2.wf | (refine hwf_cons ?_ ?_ ?_) | omega | trivial) (by omega) fun hwH k hk => ?_
            have lA3 : (A ++ j3).length = c3 := by rw [List.length_append]; omega
            by_cases hkN : k < N
            · have hil : ((k + 1 : Nat) : Int) < A.length := by omega
              have g1 := getD_app A j3 k (by omega)
              have g2 := getD_app A j3 (k + 1) (by omega)
              have es := fallB_succ A k
              have k1 : ((k + 1 : Nat) : Int) - 1 = k := by omega
              have es2 : (decide (N = len2) && fallB A (k + 1)) = ((decide (N = len2) && fallB A k) && decide (A.getD (k + 1) 0 = A.getD k 0 - 1)) := by rw [es, Bool.and_assoc]
              have hkc : k < c3 := by omega
              have hkc1 : k + 1 < c3 := by omega
              have hkl : (k : Int) < A.length := by omega
              have b2 := bA (k + 1)
              have b3 := bA k
              cases hfb : (decide (N = len2) && fallB A k)
              · rw [hfb, Bool.false_and] at es2
                simp -implicitDefEqProofs only [lk_normal, hil, hfb, eqI_rack, eqI_p2, Nat.add_assoc, add_self, self_add, add_add, ZB, Int.reduceToNat, Nat.reduceLT, Nat.reduceLeDiff, Int.reduceLE, Int.reduceLT, Nat.reduceEqDiff, Nat.reduceSub, SB, SV.known, packR, ne_eq, reduceCtorEq, Nat.reduceEqDiff, ↓reduceIte, if_true, if_false, eq_self, Nat.reduceAdd, Nat.reduceMul, Nat.reduceSub, forall_const, oneCellS, litOne, flat1, Kd.isSca, flat, TYB]
                exact ⟨by unfold In64; omega, k + 1, by omega, by omega, Sub.same (by simp only [es2, LB, subS, subH, wfS, wfH, SV.ren, renL, SObj.ren, SV.wf, SObj.wf, wfL, SV.known, Nat.reduceEqDiff, ↓reduceIte, if_true, if_false, eq_self, Nat.reduceAdd, Nat.reduceLT, Nat.reduceLeDiff, implies_true, reduceCtorEq, forall_const]; try rfl) (by simp [subS, subH, wfS, wfH, SV.ren, renL, SObj.ren, SV.wf, SObj.wf, wfL, sget_cons, hget_cons] <;> omega) hwH (by omega)⟩
              · rw [hfb, Bool.true_and] at es2
                simp -implicitDefEqProofs only [lk_normal, hil, g1, g2, k1, lA3, hkc, hkc1, hkl, hfb, b2.1, b3.1, b3.2, eqI_rack, eqI_p2, Nat.add_assoc, add_self, self_add, add_add, ZB, Int.reduceToNat, Nat.reduceLT, Nat.reduceLeDiff, Int.reduceLE, Int.reduceLT, Nat.reduceEqDiff, Nat.reduceSub, SB, SV.known, packR, ne_eq, reduceCtorEq, Nat.reduceEqDiff, ↓reduceIte, if_true, if_false, eq_self, Nat.reduceAdd, Nat.reduceMul, Nat.reduceSub, forall_const, oneCellS, litOne, flat1, Kd.isSca, flat, TYB]
                exact ⟨by omega, by unfold In64; omega, by omega, by unfold In64; omega, k + 1, by omega, by omega, Sub.same (by simp only [es2, LB, subS, subH, wfS, wfH, SV.ren, renL, SObj.ren, SV.wf, SObj.wf, wfL, SV.known, Nat.reduceEqDiff, ↓reduceIte, if_true, if_false, eq_self, Nat.reduceAdd, Nat.reduceLT, Nat.reduceLeDiff, implies_true, reduceCtorEq, forall_const]; try rfl) (by simp [subS, subH, wfS, wfH, SV.ren, renL, SObj.ren, SV.wf, SObj.wf, wfL, sget_cons, hget_cons] <;> omega) hwH (by omega)⟩
            · obtain rfl : k = N := by omega
              have hil : ¬ ((k + 1 : Nat) : Int) < A.length := by omega
              by_cases h4 : 0 < mpN R
              · obtain ⟨mp1, mp2⟩ := most_pour h4
                have lpt := pourT_len hR ((mpL R).getD 0 0) ((mpL R).getD 1 0)
                simp -implicitDefEqProofs only [lk_normal, hil, rBig_F, IsRack_F, rPairs_F, rInts_F, IsGoodPath2_F, sIsGoodPath_F, MostPoured_F, sMostPoured_F, Pour_F, BoundOf_F, GoodPath_F, sGoodPath_F, GoodPours_F, sGoodPours_F, BoundsAlong_F, sBoundsAlong_F, freshK, Wrap.ap, hR, tkR, r24, z0, tor, hr, hS, tkS, hbM, hn2, b0, b1, r0, r1, gR, hM1, hM3, hok, eG, eGT, lT, rT, tkT, gT, t0, t1, ml, mt, mb, bo1, bo2, bt, eIg, in0, z1, fP, nL, eL, eL0, hg0, hnR, hn1, h4, mp1, mp2, lpt, eqI_rack, eqI_p2, Nat.add_assoc, add_self, self_add, add_add, ZB, Int.reduceToNat, Nat.reduceLT, Nat.reduceLeDiff, Int.reduceLE, Int.reduceLT, Nat.reduceEqDiff, Nat.reduceSub, SB, SV.known, packR, ne_eq, reduceCtorEq, Nat.reduceEqDiff, ↓reduceIte, if_true, if_false, eq_self, Nat.reduceAdd, Nat.reduceMul, Nat.reduceSub, forall_const, oneCellS, litOne, flat1, Kd.isSca, flat, TYB]
                (first | exact ⟨fun _ _ _ => ⟨fun _ => trivial, fun _ _ _ _ => trivial⟩, fun h => absurd trivial h⟩ | exact ⟨fun _ => trivial, fun _ _ _ _ => trivial⟩)
              · simp -implicitDefEqProofs only [lk_normal, hil, rBig_F, IsRack_F, rPairs_F, rInts_F, IsGoodPath2_F, sIsGoodPath_F, MostPoured_F, sMostPoured_F, Pour_F, BoundOf_F, GoodPath_F, sGoodPath_F, GoodPours_F, sGoodPours_F, BoundsAlong_F, sBoundsAlong_F, freshK, Wrap.ap, hR, tkR, r24, z0, tor, hr, hS, tkS, hbM, hn2, b0, b1, r0, r1, gR, hM1, hM3, hok, eG, eGT, lT, rT, tkT, gT, t0, t1, ml, mt, mb, bo1, bo2, bt, eIg, in0, z1, fP, nL, eL, eL0, hg0, hnR, hn1, h4, eqI_rack, eqI_p2, Nat.add_assoc, add_self, self_add, add_add, ZB, Int.reduceToNat, Nat.reduceLT, Nat.reduceLeDiff, Int.reduceLE, Int.reduceLT, Nat.reduceEqDiff, Nat.reduceSub, SB, SV.known, packR, ne_eq, reduceCtorEq, Nat.reduceEqDiff, ↓reduceIte, if_true, if_false, eq_self, Nat.reduceAdd, Nat.reduceMul, Nat.reduceSub, forall_const, oneCellS, litOne, flat1, Kd.isSca, flat, TYB]
                (first | exact ⟨fun _ _ _ => ⟨fun _ => trivial, fun _ _ _ _ => trivial⟩, fun h => absurd trivial h⟩ | exact ⟨fun _ => trivial, fun _ _ _ _ => trivial⟩)
      · skip
        have nL : (gpL R n = []) = False := eq_false fun h => by rw [h] at hn5; simp at hn5; omega
        have gR0 : gdL R ≠ [] := fun h => by
          have := (gp_stop (n := 0) (by rw [gpR_zero]; exact h) n).2
          rw [Nat.zero_add, gpL_zero] at this
          rw [this] at hn5; simp at hn5; omega
        have fP : (False ∨ PL R 36 = []) = False := by
          simp only [false_or]
          refine eq_false fun h => gR0 ?_
          unfold gdL; rw [h]; rfl
        simp -implicitDefEqProofs only [rBig_F, IsRack_F, rPairs_F, rInts_F, IsGoodPath2_F, sIsGoodPath_F, MostPoured_F, sMostPoured_F, Pour_F, BoundOf_F, GoodPath_F, sGoodPath_F, GoodPours_F, sGoodPours_F, BoundsAlong_F, sBoundsAlong_F, freshK, Wrap.ap, hR, tkR, r24, z0, fP, nL, hr, eL, eR, eG, lT, rT, tkT, hg2, hn5', eqI_rack, eqI_p2, Nat.add_assoc, add_self, self_add, add_add, ZB, Int.reduceToNat, Nat.reduceLT, Nat.reduceLeDiff, Int.reduceLE, Int.reduceLT, Nat.reduceEqDiff, Nat.reduceSub, SB, SV.known, packR, ne_eq, reduceCtorEq, Nat.reduceEqDiff, ↓reduceIte, if_true, if_false, eq_self, Nat.reduceAdd, Nat.reduceMul, Nat.reduceSub, forall_const, oneCellS, litOne, flat1, Kd.isSca, flat, TYB]
        refine ⟨hle, fun c1 j1 q1 c1' j1' q1' => ⟨⟨by rw [List.length_append]; omega, by rw [List.length_append]; omega, by rw [List.take_left' hn5, List.take_left' hn5], by omega⟩, fun c2 j2 q2 c2' j2' q2' => ⟨⟨by rw [List.length_append]; omega, by rw [List.length_append]; omega, by rw [List.take_left' hg, List.take_left' hg], by omega⟩, ?_⟩⟩⟩
        refine drawPath_use (.inr ⟨0, off, len, cap, L, rfl, by simp [hget_cons, h0', hn0], hLl, by omega, hLb⟩) (by omega) fun S b len2 cap2 M H2 n2 hS hSi hb1 hb2 hbM hM1 hM2 hK2 => ?_
        have hle2' := hK2.le
        have p0 : (n' + 1 = n2) = False := by simp; omega
        have p1 : ∀ i, (n' + 1 = n2 + i) = False := fun i => by simp; omega
        have gPa : hget H2 (n' + 1) = some (.ints (gpL R n ++ j1) 44) := hK2.get (by omega) (by simp [hget_cons])
        have gl : n * 2 ≤ (gpL R n ++ j1).length := by rw [List.length_append]; omega
        have hig6 : igB R ((gpL R n ++ j1).take (n * 2)) n = true := by rw [List.take_left' hn5]; exact hn6
        have tkS : S.take 24 = S := List.take_of_length_le (by omega)
        have hle2 := hK2.le
        have hn2 : 1 ≤ n2 := by omega
        have b0 : (b = n2) = False := by simp; omega
        have b1 : ∀ i, (b = n2 + i) = False := fun i => by simp; omega
        have hM3 : len2 ≤ 1048576 := by omega
        have r0 : (n' = n2) = False := by simp; omega
        have r1 : ∀ i, (n' = n2 + i) = False := fun i => by simp; omega
        have gR : hget H2 n' = some (.ints R 27) := hK2.get (by omega) (by simp [hget_cons])
        have t0 : (n' + 2 = n2) = False := by simp; omega
        have t1 : ∀ i, (n' + 2 = n2 + i) = False := fun i => by simp; omega
        have gT : hget H2 (n' + 2) = some (.ints T 27) := hK2.get (by omega) (by simp [hget_cons])
        cases hok : igOk S len2
        · skip
          have eA : alL S (M.take (len2 * 2)) len2 = [] := by unfold alL; rw [hok]; rfl
          by_cases h4 : 0 < mpN R
          · obtain ⟨mp1, mp2⟩ := most_pour h4
            have lpt := pourT_len hR ((mpL R).getD 0 0) ((mpL R).getD 1 0)
            simp -implicitDefEqProofs only [rBig_F, IsRack_F, rPairs_F, rInts_F, IsGoodPath2_F, sIsGoodPath_F, MostPoured_F, sMostPoured_F, Pour_F, BoundOf_F, GoodPath_F, sGoodPath_F, GoodPours_F, sGoodPours_F, BoundsAlong_F, sBoundsAlong_F, freshK, Wrap.ap, hR, tkR, r24, z0, tor, hr, hS, tkS, hbM, hn2, b0, b1, r0, r1, gR, hM1, hM3, hok, eG, eGT, lT, rT, tkT, gT, t0, t1, ml, mt, mb, bo1, bo2, bt, eIg, in0, gPa, p0, p1, hig6, hn5', gl, n48, in1, eA, h4, mp1, mp2, lpt, eqI_rack, eqI_p2, Nat.add_assoc, add_self, self_add, add_add, ZB, Int.reduceToNat, Nat.reduceLT, Nat.reduceLeDiff, Int.reduceLE, Int.reduceLT, Nat.reduceEqDiff, Nat.reduceSub, SB, SV.known, packR, ne_eq, reduceCtorEq, Nat.reduceEqDiff, ↓reduceIte, if_true, if_false, eq_self, Nat.reduceAdd, Nat.reduceMul, Nat.reduceSub, forall_const, oneCellS, litOne, flat1, Kd.isSca, flat, TYB]
            (first | exact ⟨fun _ _ _ => ⟨fun _ => trivial, fun _ _ _ _ => trivial⟩, fun h => absurd trivial h⟩ | exact ⟨fun _ => trivial, fun _ _ _ _ => trivial⟩)
          · simp -implicitDefEqProofs only [rBig_F, IsRack_F, rPairs_F, rInts_F, IsGoodPath2_F, sIsGoodPath_F, MostPoured_F, sMostPoured_F, Pour_F, BoundOf_F, GoodPath_F, sGoodPath_F, GoodPours_F, sGoodPours_F, BoundsAlong_F, sBoundsAlong_F, freshK, Wrap.ap, hR, tkR, r24, z0, tor, hr, hS, tkS, hbM, hn2, b0, b1, r0, r1, gR, hM1, hM3, hok, eG, eGT, lT, rT, tkT, gT, t0, t1, ml, mt, mb, bo1, bo2, bt, eIg, in0, gPa, p0, p1, hig6, hn5', gl, n48, in1, eA, h4, eqI_rack, eqI_p2, Nat.add_assoc, add_self, self_add, add_add, ZB, Int.reduceToNat, Nat.reduceLT, Nat.reduceLeDiff, Int.reduceLE, Int.reduceLT, Nat.reduceEqDiff, Nat.reduceSub, SB, SV.known, packR, ne_eq, reduceCtorEq, Nat.reduceEqDiff, ↓reduceIte, if_true, if_false, eq_self, Nat.reduceAdd, Nat.reduceMul, Nat.reduceSub, forall_const, oneCellS, litOne, flat1, Kd.isSca, flat, TYB]
            (first | exact ⟨fun _ _ _ => ⟨fun _ => trivial, fun _ _ _ _ => trivial⟩, fun h => absurd trivial h⟩ | exact ⟨fun _ => trivial, fun _ _ _ _ => trivial⟩)
        · skip
          have hrS : rackB S = true := by unfold igOk at hok; simp only [Bool.and_eq_true] at hok; exact hok.1
          have hig := path_falls (L := M.take (len2 * 2)) hS hrS len2
          have nA : (alL S (M.take (len2 * 2)) len2).length = alN S (M.take (len2 * 2)) len2 + 1 := by unfold alL; rw [hok]; exact alS_len _ _ _
          have eA : alL S (M.take (len2 * 2)) len2 = alS S (M.take (len2 * 2)) (alN S (M.take (len2 * 2)) len2 + 1) := by unfold alL; rw [hok]; rfl
          have lA := alL_len S (M.take (len2 * 2)) len2
          have bA : ∀ k : Nat, In64 ((alL S (M.take (len2 * 2)) len2).getD k 0) ∧ In64 ((alL S (M.take (len2 * 2)) len2).getD k 0 - 1) := fun k => by
            rw [eA]
            by_cases hk : k < alN S (M.take (len2 * 2)) len2 + 1
            · rw [alS_getD S _ hk]
              have := bnd_bd (paR S (M.take (len2 * 2)) k) (paR_len24 hS k)
              unfold In64; omega
            · rw [List.getD_eq_getElem?_getD, List.getElem?_eq_none (by rw [alS_len]; omega)]
              simp [In64]
          rw [← eA] at hig
          obtain ⟨A, hA⟩ : ∃ A, alL S (M.take (len2 * 2)) len2 = A := ⟨_, rfl⟩
          obtain ⟨N, hN⟩ : ∃ N, alN S (M.take (len2 * 2)) len2 = N := ⟨_, rfl⟩
          rw [hA] at nA lA hig
          rw [hA] at bA
          rw [hN] at nA hig
          clear eA
          have nA0 : (A = []) = False := eq_false fun h => by rw [h] at nA; simp at nA
          have dd : decide ((A.length : Int) = (len2 : Int) + 1) = decide (N = len2) := by
            by_cases h : N = len2
            · rw [decide_eq_true h]; exact decide_eq_true (by omega)
            · rw [decide_eq_false h]; exact decide_eq_false (by omega)
          simp -implicitDefEqProofs only [rBig_F, IsRack_F, rPairs_F, rInts_F, IsGoodPath2_F, sIsGoodPath_F, MostPoured_F, sMostPoured_F, Pour_F, BoundOf_F, GoodPath_F, sGoodPath_F, GoodPours_F, sGoodPours_F, BoundsAlong_F, sBoundsAlong_F, freshK, Wrap.ap, hR, tkR, r24, z0, tor, hr, hS, tkS, hbM, hn2, b0, b1, r0, r1, gR, hM1, hM3, hok, eG, eGT, lT, rT, tkT, gT, t0, t1, ml, mt, mb, bo1, bo2, bt, eIg, in0, gPa, p0, p1, hig6, hn5', gl, n48, in1, hA, hig, nA0, dd, eqI_rack, eqI_p2, Nat.add_assoc, add_self, self_add, add_add, ZB, Int.reduceToNat, Nat.reduceLT, Nat.reduceLeDiff, Int.reduceLE, Int.reduceLT, Nat.reduceEqDiff, Nat.reduceSub, SB, SV.known, packR, ne_eq, reduceCtorEq, Nat.reduceEqDiff, ↓reduceIte, if_true, if_false, eq_self, Nat.reduceAdd, Nat.reduceMul, Nat.reduceSub, forall_const, oneCellS, litOne, flat1, Kd.isSca, flat, TYB]
          refine fun c3 j3 q3 c4 j4 q4 => ⟨⟨by rw [List.length_append]; omega, by rw [List.length_append]; omega, by rw [List.take_left, List.take_left], by omega⟩, by unfold In64; omega, ?_⟩
          refine loop_here (fun k : Nat => [(31, .int (k + 1 : Nat)), (30, .bool (decide (N = len2) && fallB A k)), (20, .slice (n2 + 1) 0 A.length c3), (16, .bool (decide (N = len2) && fallB A N)), (26, .bool (decide (0 < mpN R))), (6, .bool true), (25, .ptr (n2 + 3) 0), (24, .int (mpN R)), (3, .ptr n' 0), (4, .slice (n' + 1) 0 n c1), (5, .ptr (n' + 2) 0)]) (fun k => k ≤ N) (fun k => N - k) 0 (Nat.zero_le _) (by simp only [fallB_zero, Bool.and_true, LB, subS, subH, wfS, wfH, SV.ren, renL, SObj.ren, SV.wf, SObj.wf, wfL, SV.known, Nat.reduceEqDiff, ↓reduceIte, if_true, if_false, eq_self, Nat.reduceAdd, Nat.reduceLT, Nat.reduceLeDiff, implies_true, reduceCtorEq, forall_const]; try rfl) (by simp [subS, subH, wfS, wfH, SV.ren, renL, SObj.ren, SV.wf, SObj.wf, wfL, sget_cons, hget_cons] <;> omega) (by repeat' first | exact hwf_mono (by omega) hK2.wf | (refine hwf_cons ?_ ?_ ?_) | omega | trivial) (by omega) fun hwH k hk => ?_
          have lA3 : (A ++ j3).length = c3 := by rw [List.length_append]; omega
          by_cases hkN : k < N
          · have hil : ((k + 1 : Nat) : Int) < A.length := by omega
            have g1 := getD_app A j3 k (by omega)
            have g2 := getD_app A j3 (k + 1) (by omega)
            have es := fallB_succ A k
            have k1 : ((k + 1 : Nat) : Int) - 1 = k := by omega
            have es2 : (decide (N = len2) && fallB A (k + 1)) = ((decide (N = len2) && fallB A k) && decide (A.getD (k + 1) 0 = A.getD k 0 - 1)) := by rw [es, Bool.and_assoc]
            have hkc : k < c3 := by omega
            have hkc1 : k + 1 < c3 := by omega
            have hkl : (k : Int) < A.length := by omega
            have b2 := bA (k + 1)
            have b3 := bA k
            cases hfb : (decide (N = len2) && fallB A k)
            · rw [hfb, Bool.false_and] at es2
              simp -implicitDefEqProofs only [lk_normal, hil, hfb, eqI_rack, eqI_p2, Nat.add_assoc, add_self, self_add, add_add, ZB, Int.reduceToNat, Nat.reduceLT, Nat.reduceLeDiff, Int.reduceLE, Int.reduceLT, Nat.reduceEqDiff, Nat.reduceSub, SB, SV.known, packR, ne_eq, reduceCtorEq, Nat.reduceEqDiff, ↓reduceIte, if_true, if_false, eq_self, Nat.reduceAdd, Nat.reduceMul, Nat.reduceSub, forall_const, oneCellS, litOne, flat1, Kd.isSca, flat, TYB]
              exact ⟨by unfold In64; omega, k + 1, by omega, by omega, Sub.same (by simp only [es2, LB, subS, subH, wfS, wfH, SV.ren, renL, SObj.ren, SV.wf, SObj.wf, wfL, SV.known, Nat.reduceEqDiff, ↓reduceIte, if_true, if_false, eq_self, Nat.reduceAdd, Nat.reduceLT, Nat.reduceLeDiff, implies_true, reduceCtorEq, forall_const]; try rfl) (by simp [subS, subH, wfS, wfH, SV.ren, renL, SObj.ren, SV.wf, SObj.wf, wfL, sget_cons, hget_cons] <;> omega) hwH (by omega)⟩
            · rw [hfb, Bool.true_and] at es2
              simp -implicitDefEqProofs only [lk_normal, hil, g1, g2, k1, lA3, hkc, hkc1, hkl, hfb, b2.1, b3.1, b3.2, eqI_rack, eqI_p2, Nat.add_assoc, add_self, self_add, add_add, ZB, Int.reduceToNat, Nat.reduceLT, Nat.reduceLeDiff, Int.reduceLE, Int.reduceLT, Nat.reduceEqDiff, Nat.reduceSub, SB, SV.known, packR, ne_eq, reduceCtorEq, Nat.reduceEqDiff, ↓reduceIte, if_true, if_false, eq_self, Nat.reduceAdd, Nat.reduceMul, Nat.reduceSub, forall_const, oneCellS, litOne, flat1, Kd.isSca, flat, TYB]
              exact ⟨by omega, by unfold In64; omega, by omega, by unfold In64; omega, k + 1, by omega, by omega, Sub.same (by simp only [es2, LB, subS, subH, wfS, wfH, SV.ren, renL, SObj.ren, SV.wf, SObj.wf, wfL, SV.known, Nat.reduceEqDiff, ↓reduceIte, if_true, if_false, eq_self, Nat.reduceAdd, Nat.reduceLT, Nat.reduceLeDiff, implies_true, reduceCtorEq, forall_const]; try rfl) (by simp [subS, subH, wfS, wfH, SV.ren, renL, SObj.ren, SV.wf, SObj.wf, wfL, sget_cons, hget_cons] <;> omega) hwH (by omega)⟩
          · obtain rfl : k = N := by omega
            have hil : ¬ ((k + 1 : Nat) : Int) < A.length := by omega
            by_cases h4 : 0 < mpN R
            · obtain ⟨mp1, mp2⟩ := most_pour h4
              have lpt := pourT_len hR ((mpL R).getD 0 0) ((mpL R).getD 1 0)
              simp -implicitDefEqProofs only [lk_normal, hil, rBig_F, IsRack_F, rPairs_F, rInts_F, IsGoodPath2_F, sIsGoodPath_F, MostPoured_F, sMostPoured_F, Pour_F, BoundOf_F, GoodPath_F, sGoodPath_F, GoodPours_F, sGoodPours_F, BoundsAlong_F, sBoundsAlong_F, freshK, Wrap.ap, hR, tkR, r24, z0, tor, hr, hS, tkS, hbM, hn2, b0, b1, r0, r1, gR, hM1, hM3, hok, eG, eGT, lT, rT, tkT, gT, t0, t1, ml, mt, mb, bo1, bo2, bt, eIg, in0, gPa, p0, p1, hig6, hn5', gl, n48, in1, h4, mp1, mp2, lpt, eqI_rack, eqI_p2, Nat.add_assoc, add_self, self_add, add_add, ZB, Int.reduceToNat, Nat.reduceLT, Nat.reduceLeDiff, Int.reduceLE, Int.reduceLT, Nat.reduceEqDiff, Nat.reduceSub, SB, SV.known, packR, ne_eq, reduceCtorEq, Nat.reduceEqDiff, ↓reduceIte, if_true, if_false, eq_self, Nat.reduceAdd, Nat.reduceMul, Nat.reduceSub, forall_const, oneCellS, litOne, flat1, Kd.isSca, flat, TYB]
              (first | exact ⟨fun _ _ _ => ⟨fun _ => trivial, fun _ _ _ _ => trivial⟩, fun h => absurd trivial h⟩ | exact ⟨fun _ => trivial, fun _ _ _ _ => trivial⟩)
            · simp -implicitDefEqProofs only [lk_normal, hil, rBig_F, IsRack_F, rPairs_F, rInts_F, IsGoodPath2_F, sIsGoodPath_F, MostPoured_F, sMostPoured_F, Pour_F, BoundOf_F, GoodPath_F, sGoodPath_F, GoodPours_F, sGoodPours_F, BoundsAlong_F, sBoundsAlong_F, freshK, Wrap.ap, hR, tkR, r24, z0, tor, hr, hS, tkS, hbM, hn2, b0, b1, r0, r1, gR, hM1, hM3, hok, eG, eGT, lT, rT, tkT, gT, t0, t1, ml, mt, mb, bo1, bo2, bt, eIg, in0, gPa, p0, p1, hig6, hn5', gl, n48, in1, h4, eqI_rack, eqI_p2, Nat.add_assoc, add_self, self_add, add_add, ZB, Int.reduceToNat, Nat.reduceLT, Nat.reduceLeDiff, Int.reduceLE, Int.reduceLT, Nat.reduceEqDiff, Nat.reduceSub, SB, SV.known, packR, ne_eq, reduceCtorEq, Nat.reduceEqDiff, ↓reduceIte, if_true, if_false, eq_self, Nat.reduceAdd, Nat.reduceMul, Nat.reduceSub, forall_const, oneCellS, litOne, flat1, Kd.isSca, flat, TYB]
              (first | exact ⟨fun _ _ _ => ⟨fun _ => trivial, fun _ _ _ _ => trivial⟩, fun h => absurd trivial h⟩ | exact ⟨fun _ => trivial, fun _ _ _ _ => trivial⟩)

set_option maxHeartbeats 4000000 in
theorem lawFnGoodPathsN : PureH Try.prog 3 [.nils] [] (.bool true) := by
  · refine pure_of_vc (X := ⟨Try.prog, tys, [(7, rBig_F), (11, IsRack_F), (12, rPairs_F), (20, rInts_F), (16, IsGoodPath2_F), (17, sIsGoodPath_F), (21, MostPoured_F), (22, sMostPoured_F), (23, Pour_F), (24, BoundOf_F)], [(8, DrawGoodPath_F), (15, DrawIsGoodPath_F), (9, GoodPath_F), (10, sGoodPath_F), (13, GoodPours_F), (14, sGoodPours_F), (18, BoundsAlong_F), (19, sBoundsAlong_F)], true, true, 1, [], []⟩) fn_3 ⟨tys_ok, (.cons rBig_T (.cons IsRack_T (.cons rPairs_T (.cons rInts_T (.cons IsGoodPath2_T (.cons sIsGoodPath_T (.cons MostPoured_T (.cons sMostPoured_T (.cons Pour_T (.cons BoundOf_T .nil)))))))))), (.cons DrawGoodPath_T (.cons DrawIsGoodPath_T (.cons GoodPath_T (.cons sGoodPath_T (.cons GoodPours_T (.cons sGoodPours_T (.cons BoundsAlong_T (.cons sBoundsAlong_T .nil)))))))), mixed⟩ (n0 := 1) (Nat.le_of_ble_eq_true rfl) (by simp [wfL, SV.wf]) (wfH_spec (by simp [wfH, SObj.wf])) (Nat.le_refl _) (fun _ => by simp [SV.wf, wfL]) ?_
    simp -implicitDefEqProofs only [Try.f3, Option.getD_some, argS, rBig_F, IsRack_F, rPairs_F, rInts_F, IsGoodPath2_F, sIsGoodPath_F, MostPoured_F, sMostPoured_F, Pour_F, BoundOf_F, DrawGoodPath_F, DrawIsGoodPath_F, GoodPath_F, sGoodPath_F, GoodPours_F, sGoodPours_F, BoundsAlong_F, sBoundsAlong_F, ZB, Int.reduceToNat, Nat.reduceLT, Nat.reduceLeDiff, Int.reduceLE, Int.reduceLT, Nat.reduceEqDiff, Nat.reduceSub, SB, SV.known, packR, ne_eq, reduceCtorEq, Nat.reduceEqDiff, ↓reduceIte, if_true, if_false, eq_self, Nat.reduceAdd, Nat.reduceMul, Nat.reduceSub, forall_const, oneCellS, litOne, flat1, Kd.isSca, flat, TYB]
    refine drawG_use (.inl rfl) (Nat.le_refl _) fun R H' n' hR hRi hK => ?_
    have tkR : R.take 24 = R := List.take_of_length_le (by omega)
    have r24 : List.take 24 (List.replicate 24 (0 : Int)) = List.replicate 24 0 := rfl
    have z0 : 0 / 2 = 0 := rfl
    have tor : (True ∨ PL R 36 = []) = True := true_or _
    skip
    have hle := hK.le
    have hn0 : ¬ 0 = n' := by omega
    cases hr : rackB R
    · skip
      have eL : gpaL R = [] := by unfold gpaL; rw [hr]; rfl
      have eR : gpaR R = List.replicate 24 0 := by unfold gpaR; rw [hr]; rfl
      have eG : gpF R = [] := by unfold gpF; rw [hr]; rfl
      have eM : mpN R = 0 := by unfold mpN; rw [hr]; rfl
      have eP : mpL R = [0, 0] := by unfold mpL; rw [hr]; rfl
      have e2l : [(0 : Int), 0].take 2 = [0, 0] := rfl
      simp -implicitDefEqProofs only [rBig_F, IsRack_F, rPairs_F, rInts_F, IsGoodPath2_F, sIsGoodPath_F, MostPoured_F, sMostPoured_F, Pour_F, BoundOf_F, GoodPath_F, sGoodPath_F, GoodPours_F, sGoodPours_F, BoundsAlong_F, sBoundsAlong_F, freshK, Wrap.ap, hR, tkR, r24, z0, tor, hr, eL, eR, eG, eqI_rack, eqI_p2, Nat.add_assoc, add_self, self_add, add_add, ZB, Int.reduceToNat, Nat.reduceLT, Nat.reduceLeDiff, Int.reduceLE, Int.reduceLT, Nat.reduceEqDiff, Nat.reduceSub, SB, SV.known, packR, ne_eq, reduceCtorEq, Nat.reduceEqDiff, ↓reduceIte, if_true, if_false, eq_self, Nat.reduceAdd, Nat.reduceMul, Nat.reduceSub, forall_const, oneCellS, litOne, flat1, Kd.isSca, flat, TYB]
      refine ⟨hle, fun c1 j1 q1 => ⟨fun c2 j2 q2 => ?_, fun h => absurd trivial h⟩, fun h => absurd trivial h⟩
      refine drawPath_use (.inl rfl) (by omega) fun S b len2 cap2 M H2 n2 hS hSi hb1 hb2 hbM hM1 hM2 hK2 => ?_
      have tkS : S.take 24 = S := List.take_of_length_le (by omega)
      have hle2 := hK2.le
      have hn2 : 1 ≤ n2 := by omega
      have b0 : (b = n2) = False := by simp; omega
      have b1 : ∀ i, (b = n2 + i) = False := fun i => by simp; omega
      have hM3 : len2 ≤ 1048576 := by omega
      have r0 : (n' = n2) = False := by simp; omega
      have r1 : ∀ i, (n' = n2 + i) = False := fun i => by simp; omega
      have gR : hget H2 n' = some (.ints R 27) := hK2.get (by omega) (by simp [hget_cons])
      cases hok : igOk S len2
      · skip
        have eA : alL S (M.take (len2 * 2)) len2 = [] := by unfold alL; rw [hok]; rfl
        simp -implicitDefEqProofs only [rBig_F, IsRack_F, rPairs_F, rInts_F, IsGoodPath2_F, sIsGoodPath_F, MostPoured_F, sMostPoured_F, Pour_F, BoundOf_F, GoodPath_F, sGoodPath_F, GoodPours_F, sGoodPours_F, BoundsAlong_F, sBoundsAlong_F, freshK, Wrap.ap, hR, tkR, r24, z0, tor, hr, hS, tkS, hbM, hn2, b0, b1, r0, r1, gR, hM1, hM3, hok, eL, eR, eG, eM, eP, e2l, eA, eqI_rack, eqI_p2, Nat.add_assoc, add_self, self_add, add_add, ZB, Int.reduceToNat, Nat.reduceLT, Nat.reduceLeDiff, Int.reduceLE, Int.reduceLT, Nat.reduceEqDiff, Nat.reduceSub, SB, SV.known, packR, ne_eq, reduceCtorEq, Nat.reduceEqDiff, ↓reduceIte, if_true, if_false, eq_self, Nat.reduceAdd, Nat.reduceMul, Nat.reduceSub, forall_const, oneCellS, litOne, flat1, Kd.isSca, flat, TYB]
        exact ⟨fun _ _ _ => trivial, fun h => absurd trivial h⟩
      · skip
        have hrS : rackB S = true := by unfold igOk at hok; simp only [Bool.and_eq_true] at hok; exact hok.1
        have hig := path_falls (L := M.take (len2 * 2)) hS hrS len2
        have nA : (alL S (M.take (len2 * 2)) len2).length = alN S (M.take (len2 * 2)) len2 + 1 := by unfold alL; rw [hok]; exact alS_len _ _ _
        have eA : alL S (M.take (len2 * 2)) len2 = alS S (M.take (len2 * 2)) (alN S (M.take (len2 * 2)) len2 + 1) := by unfold alL; rw [hok]; rfl
        have lA := alL_len S (M.take (len2 * 2)) len2
        have bA : ∀ k : Nat, In64 ((alL S (M.take (len2 * 2)) len2).getD k 0) ∧ In64 ((alL S (M.take (len2 * 2)) len2).getD k 0 - 1) := fun k => by
          rw [eA]
          by_cases hk : k < alN S (M.take (len2 * 2)) len2 + 1
          · rw [alS_getD S _ hk]
            have := bnd_bd (paR S (M.take (len2 * 2)) k) (paR_len24 hS k)
            unfold In64; omega
          · rw [List.getD_eq_getElem?_getD, List.getElem?_eq_none (by rw [alS_len]; omega)]
            simp [In64]
        rw [← eA] at hig
        obtain ⟨A, hA⟩ : ∃ A, alL S (M.take (len2 * 2)) len2 = A := ⟨_, rfl⟩
        obtain ⟨N, hN⟩ : ∃ N, alN S (M.take (len2 * 2)) len2 = N := ⟨_, rfl⟩
        rw [hA] at nA lA hig
        rw [hA] at bA
        rw [hN] at nA hig
        clear eA
        have nA0 : (A = []) = False := eq_false fun h => by rw [h] at nA; simp at nA
        have dd : decide ((A.length : Int) = (len2 : Int) + 1) = decide (N = len2) := by
          by_cases h : N = len2
          · rw [decide_eq_true h]; exact decide_eq_true (by omega)
          · rw [decide_eq_false h]; exact decide_eq_false (by omega)
        simp -implicitDefEqProofs only [rBig_F, IsRack_F, rPairs_F, rInts_F, IsGoodPath2_F, sIsGoodPath_F, MostPoured_F, sMostPoured_F, Pour_F, BoundOf_F, GoodPath_F, sGoodPath_F, GoodPours_F, sGoodPours_F, BoundsAlong_F, sBoundsAlong_F, freshK, Wrap.ap, hR, tkR, r24, z0, tor, hr, hS, tkS, hbM, hn2, b0, b1, r0, r1, gR, hM1, hM3, hok, eL, eR, eG, eM, eP, e2l, hA, hig, nA0, dd, eqI_rack, eqI_p2, Nat.add_assoc, add_self, self_add, add_add, ZB, Int.reduceToNat, Nat.reduceLT, Nat.reduceLeDiff, Int.reduceLE, Int.reduceLT, Nat.reduceEqDiff, Nat.reduceSub, SB, SV.known, packR, ne_eq, reduceCtorEq, Nat.reduceEqDiff, ↓reduceIte, if_true, if_false, eq_self, Nat.reduceAdd, Nat.reduceMul, Nat.reduceSub, forall_const, oneCellS, litOne, flat1, Kd.isSca, flat, TYB]
        refine fun c3 j3 q3 c4 j4 q4 => ⟨⟨by rw [List.length_append]; omega, by rw [List.length_append]; omega, by rw [List.take_left, List.take_left], by omega⟩, by unfold In64; omega, ?_⟩
        refine loop_here (fun k : Nat => [(31, .int (k + 1 : Nat)), (30, .bool (decide (N = len2) && fallB A k)), (20, .slice (n2 + 1) 0 A.length c3), (16, .bool (decide (N = len2) && fallB A N)), (26, .bool false), (6, .bool false)]) (fun k => k ≤ N) (fun k => N - k) 0 (Nat.zero_le _) (by simp only [fallB_zero, Bool.and_true, LB, subS, subH, wfS, wfH, SV.ren, renL, SObj.ren, SV.wf, SObj.wf, wfL, SV.known, Nat.reduceEqDiff, ↓reduceIte, if_true, if_false, eq_self, Nat.reduceAdd, Nat.reduceLT, Nat.reduceLeDiff, implies_true, reduceCtorEq, forall_const]; try rfl) (by simp [subS, subH, wfS, wfH, SV.ren, renL, SObj.ren, SV.wf, SObj.wf, wfL, sget_cons, hget_cons] <;> omega) (by repeat' first | exact hwf_mono (by omega) hK2.wf | (refine hwf_cons ?_ ?_ ?_) | omega | trivial) (by omega) fun hwH k hk => ?_
        have lA3 : (A ++ j3).length = c3 := by rw [List.length_append]; omega
        by_cases hkN : k < N
        · have hil : ((k + 1 : Nat) : Int) < A.length := by omega
          have g1 := getD_app A j3 k (by omega)
          have g2 := getD_app A j3 (k + 1) (by omega)
          have es := fallB_succ A k
          have k1 : ((k + 1 : Nat) : Int) - 1 = k := by omega
          have es2 : (decide (N = len2) && fallB A (k + 1)) = ((decide (N = len2) && fallB A k) && decide (A.getD (k + 1) 0 = A.getD k 0 - 1)) := by rw [es, Bool.and_assoc]
          have hkc : k < c3 := by omega
          have hkc1 : k + 1 < c3 := by omega
          have hkl : (k : Int) < A.length := by omega
          have b2 := bA (k + 1)
          have b3 := bA k
          cases hfb : (decide (N = len2) && fallB A k)
          · rw [hfb, Bool.false_and] at es2
            simp -implicitDefEqProofs only [lk_normal, hil, hfb, eqI_rack, eqI_p2, Nat.add_assoc, add_self, self_add, add_add, ZB, Int.reduceToNat, Nat.reduceLT, Nat.reduceLeDiff, Int.reduceLE, Int.reduceLT, Nat.reduceEqDiff, Nat.reduceSub, SB, SV.known, packR, ne_eq, reduceCtorEq, Nat.reduceEqDiff, ↓reduceIte, if_true, if_false, eq_self, Nat.reduceAdd, Nat.reduceMul, Nat.reduceSub, forall_const, oneCellS, litOne, flat1, Kd.isSca, flat, TYB]
            exact ⟨by unfold In64; omega, k + 1, by omega, by omega, Sub.same (by simp only [es2, LB, subS, subH, wfS, wfH, SV.ren, renL, SObj.ren, SV.wf, SObj.wf, wfL, SV.known, Nat.reduceEqDiff, ↓reduceIte, if_true, if_false, eq_self, Nat.reduceAdd, Nat.reduceLT, Nat.reduceLeDiff, implies_true, reduceCtorEq, forall_const]; try rfl) (by simp [subS, subH, wfS, wfH, SV.ren, renL, SObj.ren, SV.wf, SObj.wf, wfL, sget_cons, hget_cons] <;> omega) hwH (by omega)⟩
          · rw [hfb, Bool.true_and] at es2
            simp -implicitDefEqProofs only [lk_normal, hil, g1, g2, k1, lA3, hkc, hkc1, hkl, hfb, b2.1, b3.1, b3.2, eqI_rack, eqI_p2, Nat.add_assoc, add_self, self_add, add_add, ZB, Int.reduceToNat, Nat.reduceLT, Nat.reduceLeDiff, Int.reduceLE, Int.reduceLT, Nat.reduceEqDiff, Nat.reduceSub, SB, SV.known, packR, ne_eq, reduceCtorEq, Nat.reduceEqDiff, ↓reduceIte, if_true, if_false, eq_self, Nat.reduceAdd, Nat.reduceMul, Nat.reduceSub, forall_const, oneCellS, litOne, flat1, Kd.isSca, flat, TYB]
            exact ⟨by omega, by unfold In64; omega, by omega, by unfold In64; omega, k + 1, by omega, by omega, Sub.same (by simp only [es2, LB, subS, subH, wfS, wfH, SV.ren, renL, SObj.ren, SV.wf, SObj.wf, wfL, SV.known, Nat.reduceEqDiff, ↓reduceIte, if_true, if_false, eq_self, Nat.reduceAdd, Nat.reduceLT, Nat.reduceLeDiff, implies_true, reduceCtorEq, forall_const]; try rfl) (by simp [subS, subH, wfS, wfH, SV.ren, renL, SObj.ren, SV.wf, SObj.wf, wfL, sget_cons, hget_cons] <;> omega) hwH (by omega)⟩
        · obtain rfl : k = N := by omega
          have hil : ¬ ((k + 1 : Nat) : Int) < A.length := by omega
          simp -implicitDefEqProofs only [lk_normal, hil, eqI_rack, eqI_p2, Nat.add_assoc, add_self, self_add, add_add, ZB, Int.reduceToNat, Nat.reduceLT, Nat.reduceLeDiff, Int.reduceLE, Int.reduceLT, Nat.reduceEqDiff, Nat.reduceSub, SB, SV.known, packR, ne_eq, reduceCtorEq, Nat.reduceEqDiff, ↓reduceIte, if_true, if_false, eq_self, Nat.reduceAdd, Nat.reduceMul, Nat.reduceSub, forall_const, oneCellS, litOne, flat1, Kd.isSca, flat, TYB]
    · skip
      obtain ⟨n, n54, hn1, hn2', hn3, hn4, hn5, hn6⟩ := gp_all hR hr
      obtain ⟨T, hT⟩ : ∃ T, gpR R n = T := ⟨_, rfl⟩
      have hTf := gpR_facts hR hr n
      rw [hT] at hn1 hn2' hn4 hTf
      have lT := hTf.1
      have rT := hTf.2
      have tkT : T.take 24 = T := List.take_of_length_le (by omega)
      have eL : gpaL R = gpL R n := by unfold gpaL; rw [if_pos hr, hn3]
      have eR : gpaR R = T := by unfold gpaR; rw [if_pos hr, hn2']
      have eG : gpF R = gdL R := by unfold gpF; rw [if_pos hr]
      have eGT : gpF T = [] := by unfold gpF; rw [if_pos rT, hn1]
      obtain ⟨g, hg, hg36⟩ := gdL_even R
      have hg2 : (gdL R).length / 2 = g := by omega
      have hn5' : (gpL R n).length / 2 = n := by omega
      have ml := mpL_len R
      have mt : (mpL R).take 2 = mpL R := List.take_of_length_le (by omega)
      have mb : (mpL R).drop 2 = [] := List.drop_eq_nil_of_le (by omega)
      have bo1 : boF R = bndF R := by unfold boF; rw [if_pos hr]
      have bo2 : boF T = bndF T := by unfold boF; rw [if_pos rT]
      have bt : bndF R - bndF T = n := hn4
      have eIg : igOk R n = true := by unfold igOk; rw [hr]; exact decide_eq_true (by omega)
      have n48 : n ≤ 1048576 := by omega
      have in0 : In64 0 := by simp [In64]
      have in1 : In64 (n : Int) := by unfold In64; omega
      by_cases n0 : n = 0
      · skip
        subst n0
        have nL : (gpL R 0 = []) = True := eq_true (gpL_zero R)
        have eL0 := gpL_zero R
        have eTR : T = R := by rw [← hT]; rfl
        have hnR : gdL R = [] := by rw [← eTR]; exact hn1
        clear eTR
        have hg0 : (gdL R).length / 2 = 0 := by rw [hnR]; rfl
        have z1 : ((0 : Nat) : Int) = 0 := rfl
        by_cases hP : PL R 36 = []
        · have fP : (False ∨ PL R 36 = []) = True := eq_true (.inr hP)
          simp -implicitDefEqProofs only [rBig_F, IsRack_F, rPairs_F, rInts_F, IsGoodPath2_F, sIsGoodPath_F, MostPoured_F, sMostPoured_F, Pour_F, BoundOf_F, GoodPath_F, sGoodPath_F, GoodPours_F, sGoodPours_F, BoundsAlong_F, sBoundsAlong_F, freshK, Wrap.ap, hR, tkR, r24, z0, fP, nL, hr, eL, eL0, eR, eG, lT, rT, tkT, hg0, hnR, eqI_rack, eqI_p2, Nat.add_assoc, add_self, self_add, add_add, ZB, Int.reduceToNat, Nat.reduceLT, Nat.reduceLeDiff, Int.reduceLE, Int.reduceLT, Nat.reduceEqDiff, Nat.reduceSub, SB, SV.known, packR, ne_eq, reduceCtorEq, Nat.reduceEqDiff, ↓reduceIte, if_true, if_false, eq_self, Nat.reduceAdd, Nat.reduceMul, Nat.reduceSub, forall_const, oneCellS, litOne, flat1, Kd.isSca, flat, TYB]
          refine ⟨hle, fun c1 j1 q1 => ⟨fun c2 j2 q2 => ?_, fun h => absurd trivial h⟩, fun h => absurd trivial h⟩
          refine drawPath_use (.inl rfl) (by omega) fun S b len2 cap2 M H2 n2 hS hSi hb1 hb2 hbM hM1 hM2 hK2 => ?_
          have tkS : S.take 24 = S := List.take_of_length_le (by omega)
          have hle2 := hK2.le
          have hn2 : 1 ≤ n2 := by omega
          have b0 : (b = n2) = False := by simp; omega
          have b1 : ∀ i, (b = n2 + i) = False := fun i => by simp; omega
          have hM3 : len2 ≤ 1048576 := by omega
          have r0 : (n' = n2) = False := by simp; omega
          have r1 : ∀ i, (n' = n2 + i) = False := fun i => by simp; omega
          have gR : hget H2 n' = some (.ints R 27) := hK2.get (by omega) (by simp [hget_cons])
          have t0 : (n' + 1 = n2) = False := by simp; omega
          have t1 : ∀ i, (n' + 1 = n2 + i) = False := fun i => by simp; omega
          have gT : hget H2 (n' + 1) = some (.ints T 27) := hK2.get (by omega) (by simp [hget_cons])
          cases hok : igOk S len2
          · skip
            have eA : alL S (M.take (len2 * 2)) len2 = [] := by unfold alL; rw [hok]; rfl
            by_cases h4 : 0 < mpN R
            · obtain ⟨mp1, mp2⟩ := most_pour h4
              have lpt := pourT_len hR ((mpL R).getD 0 0) ((mpL R).getD 1 0)
              simp -implicitDefEqProofs only [rBig_F, IsRack_F, rPairs_F, rInts_F, IsGoodPath2_F, sIsGoodPath_F, MostPoured_F, sMostPoured_F, Pour_F, BoundOf_F, GoodPath_F, sGoodPath_F, GoodPours_F, sGoodPours_F, BoundsAlong_F, sBoundsAlong_F, freshK, Wrap.ap, hR, tkR, r24, z0, tor, hr, hS, tkS, hbM, hn2, b0, b1, r0, r1, gR, hM1, hM3, hok, eG, eGT, lT, rT, tkT, gT, t0, t1, ml, mt, mb, bo1, bo2, bt, eIg, in0, z1, fP, nL, eL, eL0, hg0, hnR, hn1, eA, h4, mp1, mp2, lpt, eqI_rack, eqI_p2, Nat.add_assoc, add_self, self_add, add_add, ZB, Int.reduceToNat, Nat.reduceLT, Nat.reduceLeDiff, Int.reduceLE, Int.reduceLT, Nat.reduceEqDiff, Nat.reduceSub, SB, SV.known, packR, ne_eq, reduceCtorEq, Nat.reduceEqDiff, ↓reduceIte, if_true, if_false, eq_self, Nat.reduceAdd, Nat.reduceMul, Nat.reduceSub, forall_const, oneCellS, litOne, flat1, Kd.isSca, flat, TYB]
              (first | exact ⟨fun _ _ _ => ⟨fun _ => trivial, fun _ _ _ _ => trivial⟩, fun h => absurd trivial h⟩ | exact ⟨fun _ => trivial, fun _ _ _ _ => trivial⟩)
            · simp -implicitDefEqProofs only [rBig_F, IsRack_F, rPairs_F, rInts_F, IsGoodPath2_F, sIsGoodPath_F, MostPoured_F, sMostPoured_F, Pour_F, BoundOf_F, GoodPath_F, sGoodPath_F, GoodPours_F, sGoodPours_F, BoundsAlong_F, sBoundsAlong_F, freshK, Wrap.ap, hR, tkR, r24, z0, tor, hr, hS, tkS, hbM, hn2, b0, b1, r0, r1, gR, hM1, hM3, hok, eG, eGT, lT, rT, tkT, gT, t0, t1, ml, mt, mb, bo1, bo2, bt, eIg, in0, z1, fP, nL, eL, eL0, hg0, hnR, hn1, eA, h4, eqI_rack, eqI_p2, Nat.add_assoc, add_self, self_add, add_add, ZB, Int.reduceToNat, Nat.reduceLT, Nat.reduceLeDiff, Int.reduceLE, Int.reduceLT, Nat.reduceEqDiff, Nat.reduceSub, SB, SV.known, packR, ne_eq, reduceCtorEq, Nat.reduceEqDiff, ↓reduceIte, if_true, if_false, eq_self, Nat.reduceAdd, Nat.reduceMul, Nat.reduceSub, forall_const, oneCellS, litOne, flat1, Kd.isSca, flat, TYB]
              (first | exact ⟨fun _ _ _ => ⟨fun _ => trivial, fun _ _ _ _ => trivial⟩, fun h => absurd trivial h⟩ | exact ⟨fun _ => trivial, fun _ _ _ _ => trivial⟩)
          · skip
            have hrS : rackB S = true := by unfold igOk at hok; simp only [Bool.and_eq_true] at hok; exact hok.1
            have hig := path_falls (L := M.take (len2 * 2)) hS hrS len2
            have nA : (alL S (M.take (len2 * 2)) len2).length = alN S (M.take (len2 * 2)) len2 + 1 := by unfold alL; rw [hok]; exact alS_len _ _ _
            have eA : alL S (M.take (len2 * 2)) len2 = alS S (M.take (len2 * 2)) (alN S (M.take (len2 * 2)) len2 + 1) := by unfold alL; rw [hok]; rfl
            have lA := alL_len S (M.take (len2 * 2)) len2
            have bA : ∀ k : Nat, In64 ((alL S (M.take (len2 * 2)) len2).getD k 0) ∧ In64 ((alL S (M.take (len2 * 2)) len2).getD k 0 - 1) := fun k => by
              rw [eA]
              by_cases hk : k < alN S (M.take (len2 * 2)) len2 + 1
              · rw [alS_getD S _ hk]
                have := bnd_bd (paR S (M.take (len2 * 2)) k) (paR_len24 hS k)
                unfold In64; omega
              · rw [List.getD_eq_getElem?_getD, List.getElem?_eq_none (by rw [alS_len]; omega)]
                simp [In64]
            rw [← eA] at hig
            obtain ⟨A, hA⟩ : ∃ A, alL S (M.take (len2 * 2)) len2 = A := ⟨_, rfl⟩
            obtain ⟨N, hN⟩ : ∃ N, alN S (M.take (len2 * 2)) len2 = N := ⟨_, rfl⟩
            rw [hA] at nA lA hig
            rw [hA] at bA
            rw [hN] at nA hig
            clear eA
            have nA0 : (A = []) = False := eq_false fun h => by rw [h] at nA; simp at nA
            have dd : decide ((A.length : Int) = (len2 : Int) + 1) = decide (N = len2) := by
              by_cases h : N = len2
              · rw [decide_eq_true h]; exact decide_eq_true (by omega)
              · rw [decide_eq_false h]; exact decide_eq_false (by omega)
            simp -implicitDefEqProofs only [rBig_F, IsRack_F, rPairs_F, rInts_F, IsGoodPath2_F, sIsGoodPath_F, MostPoured_F, sMostPoured_F, Pour_F, BoundOf_F, GoodPath_F, sGoodPath_F, GoodPours_F, sGoodPours_F, BoundsAlong_F, sBoundsAlong_F, freshK, Wrap.ap, hR, tkR, r24, z0, tor, hr, hS, tkS, hbM, hn2, b0, b1, r0, r1, gR, hM1, hM3, hok, eG, eGT, lT, rT, tkT, gT, t0, t1, ml, mt, mb, bo1, bo2, bt, eIg, in0, z1, fP, nL, eL, eL0, hg0, hnR, hn1, hA, hig, nA0, dd, eqI_rack, eqI_p2, Nat.add_assoc, add_self, self_add, add_add, ZB, Int.reduceToNat, Nat.reduceLT, Nat.reduceLeDiff, Int.reduceLE, Int.reduceLT, Nat.reduceEqDiff, Nat.reduceSub, SB, SV.known, packR, ne_eq, reduceCtorEq, Nat.reduceEqDiff, ↓reduceIte, if_true, if_false, eq_self, Nat.reduceAdd, Nat.reduceMul, Nat.reduceSub, forall_const, oneCellS, litOne, flat1, Kd.isSca, flat, TYB]
            refine fun c3 j3 q3 c4 j4 q4 => ⟨⟨by rw [List.length_append]; omega, by rw [List.length_append]; omega, by rw [List.take_left, List.take_left], by omega⟩, by unfold In64; omega, ?_⟩
            refine loop_here (fun k : Nat => [(31, .int (k + 1 : Nat)), (30, .bool (decide (N = len2) && fallB A k)), (20, .slice (n2 + 1) 0 A.length c3), (16, .bool (decide (N = len2) && fallB A N)), (26, .bool (decide (0 < mpN R))), (6, .bool true), (25, .ptr (n2 + 3) 0), (24, .int (mpN R)), (3, .ptr n' 0), (4, .nils), (5, .ptr (n' + 1) 0)]) (fun k => k ≤ N) (fun k => N - k) 0 (Nat.zero_le _) (by simp only [fallB_zero, Bool.and_true, LB, subS, subH, wfS, wfH, SV.ren, renL, SObj.ren, SV.wf, SObj.wf, wfL, SV.known, Nat.reduceEqDiff, ↓reduceIte, if_true, if_false, eq_self, Nat.reduceAdd, Nat.reduceLT, Nat.reduceLeDiff, implies_true, reduceCtorEq, forall_const]; try rfl) (by simp [subS, subH, wfS, wfH, SV.ren, renL, SObj.ren, SV.wf, SObj.wf, wfL, sget_cons, hget_cons] <;> omega) (by repeat' first | exact hwf_mono (by omega) hK2.wf | (refine hwf_cons ?_ ?_ ?_) | omega | trivial) (by omega) fun hwH k hk => ?_
            have lA3 : (A ++ j3).length = c3 := by rw [List.length_append]; omega
            by_cases hkN : k < N
            · have hil : ((k + 1 : Nat) : Int) < A.length := by omega
              have g1 := getD_app A j3 k (by omega)
              have g2 := getD_app A j3 (k + 1) (by omega)
              have es := fallB_succ A k
              have k1 : ((k + 1 : Nat) : Int) - 1 = k := by omega
              have es2 : (decide (N = len2) && fallB A (k + 1)) = ((decide (N = len2) && fallB A k) && decide (A.getD (k + 1) 0 = A.getD k 0 - 1)) := by rw [es, Bool.and_assoc]
              have hkc : k < c3 := by omega
              have hkc1 : k + 1 < c3 := by omega
              have hkl : (k : Int) < A.length := by omega
              have b2 := bA (k + 1)
              have b3 := bA k
              cases hfb : (decide (N = len2) && fallB A k)
              · rw [hfb, Bool.false_and] at es2
                simp -implicitDefEqProofs only [lk_normal, hil, hfb, eqI_rack, eqI_p2, Nat.add_assoc, add_self, self_add, add_add, ZB, Int.reduceToNat, Nat.reduceLT, Nat.reduceLeDiff, Int.reduceLE, Int.reduceLT, Nat.reduceEqDiff, Nat.reduceSub, SB, SV.known, packR, ne_eq, reduceCtorEq, Nat.reduceEqDiff, ↓reduceIte, if_true, if_false, eq_self, Nat.reduceAdd, Nat.reduceMul, Nat.reduceSub, forall_const, oneCellS, litOne, flat1, Kd.isSca, flat, TYB]
                exact ⟨by unfold In64; omega, k + 1, by omega, by omega, Sub.same (by simp only [es2, LB, subS, subH, wfS, wfH, SV.ren, renL, SObj.ren, SV.wf, SObj.wf, wfL, SV.known, Nat.reduceEqDiff, ↓reduceIte, if_true, if_false, eq_self, Nat.reduceAdd, Nat.reduceLT, Nat.reduceLeDiff, implies_true, reduceCtorEq, forall_const]; try rfl) (by simp [subS, subH, wfS, wfH, SV.ren, renL, SObj.ren, SV.wf, SObj.wf, wfL, sget_cons, hget_cons] <;> omega) hwH (by omega)⟩
              · rw [hfb, Bool.true_and] at es2
                simp -implicitDefEqProofs only [lk_normal, hil, g1, g2, k1, lA3, hkc, hkc1, hkl, hfb, b2.1, b3.1, b3.2, eqI_rack, eqI_p2, Nat.add_assoc, add_self, self_add, add_add, ZB, Int.reduceToNat, Nat.reduceLT, Nat.reduceLeDiff, Int.reduceLE, Int.reduceLT, Nat.reduceEqDiff, Nat.reduceSub, SB, SV.known, packR, ne_eq, reduceCtorEq, Nat.reduceEqDiff, ↓reduceIte, if_true, if_false, eq_self, Nat.reduceAdd, Nat.reduceMul, Nat.reduceSub, forall_const, oneCellS, litOne, flat1, Kd.isSca, flat, TYB]
                exact ⟨by omega, by unfold In64; omega, by omega, by unfold In64; omega, k + 1, by omega, by omega, Sub.same (by simp only [es2, LB, subS, subH, wfS, wfH, SV.ren, renL, SObj.ren, SV.wf, SObj.wf, wfL, SV.known, Nat.reduceEqDiff, ↓reduceIte, if_true, if_false, eq_self, Nat.reduceAdd, Nat.reduceLT, Nat.reduceLeDiff, implies_true, reduceCtorEq, forall_const]; try rfl) (by simp [subS, subH, wfS, wfH, SV.ren, renL, SObj.ren, SV.wf, SObj.wf, wfL, sget_cons, hget_cons] <;> omega) hwH (by omega)⟩
            · obtain rfl : k = N := by omega
              have hil : ¬ ((k + 1 : Nat) : Int) < A.length := by omega
              by_cases h4 : 0 < mpN R
              · obtain ⟨mp1, mp2⟩ := most_pour h4
                have lpt := pourT_len hR ((mpL R).getD 0 0) ((mpL R).getD 1 0)
                simp -implicitDefEqProofs only [lk_normal, hil, rBig_F, IsRack_F, rPairs_F, rInts_F, IsGoodPath2_F, sIsGoodPath_F, MostPoured_F, sMostPoured_F, Pour_F, BoundOf_F, GoodPath_F, sGoodPath_F, GoodPours_F, sGoodPours_F, BoundsAlong_F, sBoundsAlong_F, freshK, Wrap.ap, hR, tkR, r24, z0, tor, hr, hS, tkS, hbM, hn2, b0, b1, r0, r1, gR, hM1, hM3, hok, eG, eGT, lT, rT, tkT, gT, t0, t1, ml, mt, mb, bo1, bo2, bt, eIg, in0, z1, fP, nL, eL, eL0, hg0, hnR, hn1, h4, mp1, mp2, lpt, eqI_rack, eqI_p2, Nat.add_assoc, add_self, self_add, add_add, ZB, Int.reduceToNat, Nat.reduceLT, Nat.reduceLeDiff, Int.reduceLE, Int.reduceLT, Nat.reduceEqDiff, Nat.reduceSub, SB, SV.known, packR, ne_eq, reduceCtorEq, Nat.reduceEqDiff, ↓reduceIte, if_true, if_false, eq_self, Nat.reduceAdd, Nat.reduceMul, Nat.reduceSub, forall_const, oneCellS, litOne, flat1, Kd.isSca, flat, TYB]
                (first | exact ⟨fun _ _ _ => ⟨fun _ => trivial, fun _ _ _ _ => trivial⟩, fun h => absurd trivial h⟩ | exact ⟨fun _ => trivial, fun _ _ _ _ => trivial⟩)
              · simp -implicitDefEqProofs only [lk_normal, hil, rBig_F, IsRack_F, rPairs_F, rInts_F, IsGoodPath2_F, sIsGoodPath_F, MostPoured_F, sMostPoured_F, Pour_F, BoundOf_F, GoodPath_F, sGoodPath_F, GoodPours_F, sGoodPours_F, BoundsAlong_F, sBoundsAlong_F, freshK, Wrap.ap, hR, tkR, r24, z0, tor, hr, hS, tkS, hbM, hn2, b0, b1, r0, r1, gR, hM1, hM3, hok, eG, eGT, lT, rT, tkT, gT, t0, t1, ml, mt, mb, bo1, bo2, bt, eIg, in0, z1, fP, nL, eL, eL0, hg0, hnR, hn1, h4, eqI_rack, eqI_p2, Nat.add_assoc, add_self, self_add, add_add, ZB, Int.reduceToNat, Nat.reduceLT, Nat.reduceLeDiff, Int.reduceLE, Int.reduceLT, Nat.reduceEqDiff, Nat.reduceSub, SB, SV.known, packR, ne_eq, reduceCtorEq, Nat.reduceEqDiff, ↓reduceIte, if_true, if_false, eq_self, Nat.reduceAdd, Nat.reduceMul, Nat.reduceSub, forall_const, oneCellS, litOne, flat1, Kd.isSca, flat, TYB]
                (first | exact ⟨fun _ _ _ => ⟨fun _ => trivial, fun _ _ _ _ => trivial⟩, fun h => absurd trivial h⟩ | exact ⟨fun _ => trivial, fun _ _ _ _ => trivial⟩)
        · have fP : (False ∨ PL R 36 = []) = False := by simp [hP]
          simp -implicitDefEqProofs only [rBig_F, IsRack_F, rPairs_F, rInts_F, IsGoodPath2_F, sIsGoodPath_F, MostPoured_F, sMostPoured_F, Pour_F, BoundOf_F, GoodPath_F, sGoodPath_F, GoodPours_F, sGoodPours_F, BoundsAlong_F, sBoundsAlong_F, freshK, Wrap.ap, hR, tkR, r24, z0, fP, nL, hr, eL, eL0, eR, eG, lT, rT, tkT, hg0, hnR, eqI_rack, eqI_p2, Nat.add_assoc, add_self, self_add, add_add, ZB, Int.reduceToNat, Nat.reduceLT, Nat.reduceLeDiff, Int.reduceLE, Int.reduceLT, Nat.reduceEqDiff, Nat.reduceSub, SB, SV.known, packR, ne_eq, reduceCtorEq, Nat.reduceEqDiff, ↓reduceIte, if_true, if_false, eq_self, Nat.reduceAdd, Nat.reduceMul, Nat.reduceSub, forall_const, oneCellS, litOne, flat1, Kd.isSca, flat, TYB]
          refine ⟨hle, fun c1 j1 q1 => fun c2 j2 q2 c3 j3 q3 => ?_, fun h => absurd trivial h⟩
          refine drawPath_use (.inl rfl) (by omega) fun S b len2 cap2 M H2 n2 hS hSi hb1 hb2 hbM hM1 hM2 hK2 => ?_
          have tkS : S.take 24 = S := List.take_of_length_le (by omega)
          have hle2 := hK2.le
          have hn2 : 1 ≤ n2 := by omega
          have b0 : (b = n2) = False := by simp; omega
          have b1 : ∀ i, (b = n2 + i) = False := fun i => by simp; omega
          have hM3 : len2 ≤ 1048576 := by omega
          have r0 : (n' = n2) = False := by simp; omega
          have r1 : ∀ i, (n' = n2 + i) = False := fun i => by simp; omega
          have gR : hget H2 n' = some (.ints R 27) := hK2.get (by omega) (by simp [hget_cons])
          have t0 : (n' + 1 = n2) = False := by simp; omega
          have t1 : ∀ i, (n' + 1 = n2 + i) = False := fun i => by simp; omega
          have gT : hget H2 (n' + 1) = some (.ints T 27) := hK2.get (by omega) (by simp [hget_cons])
          cases hok : igOk S len2
          · skip
            have eA : alL S (M.take (len2 * 2)) len2 = [] := by unfold alL; rw [hok]; rfl
            by_cases h4 : 0 < mpN R
            · obtain ⟨mp1, mp2⟩ := most_pour h4
              have lpt := pourT_len hR ((mpL R).getD 0 0) ((mpL R).getD 1 0)
              simp -implicitDefEqProofs only [rBig_F, IsRack_F, rPairs_F, rInts_F, IsGoodPath2_F, sIsGoodPath_F, MostPoured_F, sMostPoured_F, Pour_F, BoundOf_F, GoodPath_F, sGoodPath_F, GoodPours_F, sGoodPours_F, BoundsAlong_F, sBoundsAlong_F, freshK, Wrap.ap, hR, tkR, r24, z0, tor, hr, hS, tkS, hbM, hn2, b0, b1, r0, r1, gR, hM1, hM3, hok, eG, eGT, lT, rT, tkT, gT, t0, t1, ml, mt, mb, bo1, bo2, bt, eIg, in0, z1, fP, nL, eL, eL0, hg0, hnR, hn1, eA, h4, mp1, mp2, lpt, eqI_rack, eqI_p2, Nat.add_assoc, add_self, self_add, add_add, ZB, Int.reduceToNat, Nat.reduceLT, Nat.reduceLeDiff, Int.reduceLE, Int.reduceLT, Nat.reduceEqDiff, Nat.reduceSub, SB, SV.known, packR, ne_eq, reduceCtorEq, Nat.reduceEqDiff, ↓reduceIte, if_true, if_false, eq_self, Nat.reduceAdd, Nat.reduceMul, Nat.reduceSub, forall_const, oneCellS, litOne, flat1, Kd.isSca, flat, TYB]
              (first | exact ⟨fun _ _ _ => ⟨fun _ => trivial, fun _ _ _ _ => trivial⟩, fun h => absurd trivial h⟩ | exact ⟨fun _ => trivial, fun _ _ _ _ => trivial⟩)
            · simp -implicitDefEqProofs only [rBig_F, IsRack_F, rPairs_F, rInts_F, IsGoodPath2_F, sIsGoodPath_F, MostPoured_F, sMostPoured_F, Pour_F, BoundOf_F, GoodPath_F, sGoodPath_F, GoodPours_F, sGoodPours_F, BoundsAlong_F, sBoundsAlong_F, freshK, Wrap.ap, hR, tkR, r24, z0, tor, hr, hS, tkS, hbM, hn2, b0, b1, r0, r1, gR, hM1, hM3, hok, eG, eGT, lT, rT, tkT, gT, t0, t1, ml, mt, mb, bo1, bo2, bt, eIg, in0, z1, fP, nL, eL, eL0, hg0, hnR, hn1, eA, h4, eqI_rack, eqI_p2, Nat.add_assoc, add_self, self_add, add_add, ZB, Int.reduceToNat, Nat.reduceLT, Nat.reduceLeDiff, Int.reduceLE, Int.reduceLT, Nat.reduceEqDiff, Nat.reduceSub, SB, SV.known, packR, ne_eq, reduceCtorEq, Nat.reduceEqDiff, ↓reduceIte, if_true, if_false, eq_self, Nat.reduceAdd, Nat.reduceMul, Nat.reduceSub, forall_const, oneCellS, litOne, flat1, Kd.isSca, flat, TYB]
              (first | exact ⟨fun _ _ _ => ⟨fun _ => trivial, fun _ _ _ _ => trivial⟩, fun h => absurd trivial h⟩ | exact ⟨fun _ => trivial, fun _ _ _ _ => trivial⟩)
          · skip
            have hrS : rackB S = true := by unfold igOk at hok; simp only [Bool.and_eq_true] at hok; exact hok.1
            have hig := path_falls (L := M.take (len2 * 2)) hS hrS len2
            have nA : (alL S (M.take (len2 * 2)) len2).length = alN S (M.take (len2 * 2)) len2 + 1 := by unfold alL; rw [hok]; exact alS_len _ _ _
            have eA : alL S (M.take (len2 * 2)) len2 = alS S (M.take (len2 * 2)) (alN S (M.take (len2 * 2)) len2 + 1) := by unfold alL; rw [hok]; rfl
            have lA := alL_len S (M.take (len2 * 2)) len2
            have bA : ∀ k : Nat, In64 ((alL S (M.take (len2 * 2)) len2).getD k 0) ∧ In64 ((alL S (M.take (len2 * 2)) len2).getD k 0 - 1) := fun k => by
              rw [eA]
              by_cases hk : k < alN S (M.take (len2 * 2)) len2 + 1
              · rw [alS_getD S _ hk]
                have := bnd_bd (paR S (M.take (len2 * 2)) k) (paR_len24 hS k)
                unfold In64; omega
              · rw [List.getD_eq_getElem?_getD, List.getElem?_eq_none (by rw [alS_len]; omega)]
                simp [In64]
            rw [← eA] at hig
            obtain ⟨A, hA⟩ : ∃ A, alL S (M.take (len2 * 2)) len2 = A := ⟨_, rfl⟩
            obtain ⟨N, hN⟩ : ∃ N, alN S (M.take (len2 * 2)) len2 = N := ⟨_, rfl⟩
            rw [hA] at nA lA hig
            rw [hA] at bA
            rw [hN] at nA hig
            clear eA
            have nA0 : (A = []) = False := eq_false fun h => by rw [h] at nA; simp at nA
            have dd : decide ((A.length : Int) = (len2 : Int) + 1) = decide (N = len2) := by
              by_cases h : N = len2
              · rw [decide_eq_true h]; exact decide_eq_true (by omega)
              · rw [decide_eq_false h]; exact decide_eq_false (by omega)
            simp -implicitDefEqProofs only [rBig_F, IsRack_F, rPairs_F, rInts_F, IsGoodPath2_F, sIsGoodPath_F, MostPoured_F, sMostPoured_F, Pour_F, BoundOf_F, GoodPath_F, sGoodPath_F, GoodPours_F, sGoodPours_F, BoundsAlong_F, sBoundsAlong_F, freshK, Wrap.ap, hR, tkR, r24, z0, tor, hr, hS, tkS, hbM, hn2, b0, b1, r0, r1, gR, hM1, hM3, hok, eG, eGT, lT, rT, tkT, gT, t0, t1, ml, mt, mb, bo1, bo2, bt, eIg, in0, z1, fP, nL, eL, eL0, hg0, hnR, hn1, hA, hig, nA0, dd, eqI_rack, eqI_p2, Nat.add_assoc, add_self, self_add, add_add, ZB, Int.reduceToNat, Nat.reduceLT, Nat.reduceLeDiff, Int.reduceLE, Int.reduceLT, Nat.reduceEqDiff, Nat.reduceSub, SB, SV.known, packR, ne_eq, reduceCtorEq, Nat.reduceEqDiff, ↓reduceIte, if_true, if_false, eq_self, Nat.reduceAdd, Nat.reduceMul, Nat.reduceSub, forall_const, oneCellS, litOne, flat1, Kd.isSca, flat, TYB]
            refine fun c3 j3 q3 c4 j4 q4 => ⟨⟨by rw [List.length_append]; omega, by rw [List.length_append]; omega, by rw [List.take_left, List.take_left], by omega⟩, by unfold In64; omega, ?_⟩
            refine loop_here (fun k : Nat => [(31, .int (k + 1 : Nat)), (30, .bool (decide (N = len2) && fallB A k)), (20, .slice (n2 + 1) 0 A.length c3), (16, .bool (decide (N = len2) && fallB A N)), (26, .bool (decide (0 < mpN R))), (6, .bool true), (25, .ptr (n2 + 3) 0), (24, .int (mpN R)), (3, .ptr n' 0), (4, .nils), (5, .ptr (n' + 1) 0)]) (fun k => k ≤ N) (fun k => N - k) 0 (Nat.zero_le _) (by simp only [fallB_zero, Bool.and_true, LB, subS, subH, wfS, wfH, SV.ren, renL, SObj.ren, SV.wf, SObj.wf, wfL, SV.known, Nat.reduceEqDiff, ↓reduceIte, if_true, if_false, eq_self, Nat.reduceAdd, Nat.reduceLT, Nat.reduceLeDiff, implies_true, reduceCtorEq, forall_const]; try rfl) (by simp [subS, subH, wfS, wfH, SV.ren, renL, SObj.ren, SV.wf, SObj.wf, wfL, sget_cons, hget_cons] <;> omega) (by repeat' first | exact hwf_mono (by omega) hK2.wf | (refine hwf_cons ?_ ?_ ?_) | omega | trivial) (by omega) fun hwH k hk => ?_
            have lA3 : (A ++ j3).length = c3 := by rw [List.length_append]; omega
            by_cases hkN : k < N
            · have hil : ((k + 1 : Nat) : Int) < A.length := by omega
              have g1 := getD_app A j3 k (by omega)
              have g2 := getD_app A j3 (k + 1) (by omega)
              have es := fallB_succ A k
              have k1 : ((k + 1 : Nat) : Int) - 1 = k := by omega
              have es2 : (decide (N = len2) && fallB A (k + 1)) = ((decide (N = len2) && fallB A k) && decide (A.getD (k + 1) 0 = A.getD k 0 - 1)) := by rw [es, Bool.and_assoc]
              have hkc : k < c3 := by omega
              have hkc1 : k + 1 < c3 := by omega
              have hkl : (k : Int) < A.length := by omega
              have b2 := bA (k + 1)
              have b3 := bA k
              cases hfb : (decide (N = len2) && fallB A k)
              · rw [hfb, Bool.false_and] at es2
                simp -implicitDefEqProofs only [lk_normal, hil, hfb, eqI_rack, eqI_p2, Nat.add_assoc, add_self, self_add, add_add, ZB, Int.reduceToNat, Nat.reduceLT, Nat.reduceLeDiff, Int.reduceLE, Int.reduceLT, Nat.reduceEqDiff, Nat.reduceSub, SB, SV.known, packR, ne_eq, reduceCtorEq, Nat.reduceEqDiff, ↓reduceIte, if_true, if_false, eq_self, Nat.reduceAdd, Nat.reduceMul, Nat.reduceSub, forall_const, oneCellS, litOne, flat1, Kd.isSca, flat, TYB]
                exact ⟨by unfold In64; omega, k + 1, by omega, by omega, Sub.same (by simp only [es2, LB, subS, subH, wfS, wfH, SV.ren, renL, SObj.ren, SV.wf, SObj.wf, wfL, SV.known, Nat.reduceEqDiff, ↓reduceIte, if_true, if_false, eq_self, Nat.reduceAdd, Nat.reduceLT, Nat.reduceLeDiff, implies_true, reduceCtorEq, forall_const]; try rfl) (by simp [subS, subH, wfS, wfH, SV.ren, renL, SObj.ren, SV.wf, SObj.wf, wfL, sget_cons, hget_cons] <;> omega) hwH (by omega)⟩
              · rw [hfb, Bool.true_and] at es2
                simp -implicitDefEqProofs only [lk_normal, hil, g1, g2, k1, lA3, hkc, hkc1, hkl, hfb, b2.1, b3.1, b3.2, eqI_rack, eqI_p2, Nat.add_assoc, add_self, self_add, add_add, ZB, Int.reduceToNat, Nat.reduceLT, Nat.reduceLeDiff, Int.reduceLE, Int.reduceLT, Nat.reduceEqDiff, Nat.reduceSub, SB, SV.known, packR, ne_eq, reduceCtorEq, Nat.reduceEqDiff, ↓reduceIte, if_true, if_false, eq_self, Nat.reduceAdd, Nat.reduceMul, Nat.reduceSub, forall_const, oneCellS, litOne, flat1, Kd.isSca, flat, TYB]
                exact ⟨by omega, by unfold In64; omega, by omega, by unfold In64; omega, k + 1, by omega, by omega, Sub.same (by simp only [es2, LB, subS, subH, wfS, wfH, SV.ren, renL, SObj.ren, SV.wf, SObj.wf, wfL, SV.known, Nat.reduceEqDiff, ↓reduceIte, if_true, if_false, eq_self, Nat.reduceAdd, Nat.reduceLT, Nat.reduceLeDiff, implies_true, reduceCtorEq, forall_const]; try rfl) (by simp [subS, subH, wfS, wfH, SV.ren, renL, SObj.ren, SV.wf, SObj.wf, wfL, sget_cons, hget_cons] <;> omega) hwH (by omega)⟩
            · obtain rfl : k = N := by omega
              have hil : ¬ ((k + 1 : Nat) : Int) < A.length := by omega
              by_cases h4 : 0 < mpN R
              · obtain ⟨mp1, mp2⟩ := most_pour h4
                have lpt := pourT_len hR ((mpL R).getD 0 0) ((mpL R).getD 1 0)
                simp -implicitDefEqProofs only [lk_normal, hil, rBig_F, IsRack_F, rPairs_F, rInts_F, IsGoodPath2_F, sIsGoodPath_F, MostPoured_F, sMostPoured_F, Pour_F, BoundOf_F, GoodPath_F, sGoodPath_F, GoodPours_F, sGoodPours_F, BoundsAlong_F, sBoundsAlong_F, freshK, Wrap.ap, hR, tkR, r24, z0, tor, hr, hS, tkS, hbM, hn2, b0, b1, r0, r1, gR, hM1, hM3, hok, eG, eGT, lT, rT, tkT, gT, t0, t1, ml, mt, mb, bo1, bo2, bt, eIg, in0, z1, fP, nL, eL, eL0, hg0, hnR, hn1, h4, mp1, mp2, lpt, eqI_rack, eqI_p2, Nat.add_assoc, add_self, self_add, add_add, ZB, Int.reduceToNat, Nat.reduceLT, Nat.reduceLeDiff, Int.reduceLE, Int.reduceLT, Nat.reduceEqDiff, Nat.reduceSub, SB, SV.known, packR, ne_eq, reduceCtorEq, Nat.reduceEqDiff, ↓reduceIte, if_true, if_false, eq_self, Nat.reduceAdd, Nat.reduceMul, Nat.reduceSub, forall_const, oneCellS, litOne, flat1, Kd.isSca, flat, TYB]
                (first | exact ⟨fun _ _ _ => ⟨fun _ => trivial, fun _ _ _ _ => trivial⟩, fun h => absurd trivial h⟩ | exact ⟨fun _ => trivial, fun _ _ _ _ => trivial⟩)
              · simp -implicitDefEqProofs only [lk_normal, hil, rBig_F, IsRack_F, rPairs_F, rInts_F, IsGoodPath2_F, sIsGoodPath_F, MostPoured_F, sMostPoured_F, Pour_F, BoundOf_F, GoodPath_F, sGoodPath_F, GoodPours_F, sGoodPours_F, BoundsAlong_F, sBoundsAlong_F, freshK, Wrap.ap, hR, tkR, r24, z0, tor, hr, hS, tkS, hbM, hn2, b0, b1, r0, r1, gR, hM1, hM3, hok, eG, eGT, lT, rT, tkT, gT, t0, t1, ml, mt, mb, bo1, bo2, bt, eIg, in0, z1, fP, nL, eL, eL0, hg0, hnR, hn1, h4, eqI_rack, eqI_p2, Nat.add_assoc, add_self, self_add, add_add, ZB, Int.reduceToNat, Nat.reduceLT, Nat.reduceLeDiff, Int.reduceLE, Int.reduceLT, Nat.reduceEqDiff, Nat.reduceSub, SB, SV.known, packR, ne_eq, reduceCtorEq, Nat.reduceEqDiff, ↓reduceIte, if_true, if_false, eq_self, Nat.reduceAdd, Nat.reduceMul, Nat.reduceSub, forall_const, oneCellS, litOne, flat1, Kd.isSca, flat, TYB]
                (first | exact ⟨fun _ _ _ => ⟨fun _ => trivial, fun _ _ _ _ => trivial⟩, fun h => absurd trivial h⟩ | exact ⟨fun _ => trivial, fun _ _ _ _ => trivial⟩)
      · skip
        have nL : (gpL R n = []) = False := eq_false fun h => by rw [h] at hn5; simp at hn5; omega
        have gR0 : gdL R ≠ [] := fun h => by
          have := (gp_stop (n := 0) (by rw [gpR_zero]; exact h) n).2
          rw [Nat.zero_add, gpL_zero] at this
          rw [this] at hn5; simp at hn5; omega
        have fP : (False ∨ PL R 36 = []) = False := by
          simp only [false_or]
          refine eq_false fun h => gR0 ?_
          unfold gdL; rw [h]; rfl
        simp -implicitDefEqProofs only [rBig_F, IsRack_F, rPairs_F, rInts_F, IsGoodPath2_F, sIsGoodPath_F, MostPoured_F, sMostPoured_F, Pour_F, BoundOf_F, GoodPath_F, sGoodPath_F, GoodPours_F, sGoodPours_F, BoundsAlong_F, sBoundsAlong_F, freshK, Wrap.ap, hR, tkR, r24, z0, fP, nL, hr, eL, eR, eG, lT, rT, tkT, hg2, hn5', eqI_rack, eqI_p2, Nat.add_assoc, add_self, self_add, add_add, ZB, Int.reduceToNat, Nat.reduceLT, Nat.reduceLeDiff, Int.reduceLE, Int.reduceLT, Nat.reduceEqDiff, Nat.reduceSub, SB, SV.known, packR, ne_eq, reduceCtorEq, Nat.reduceEqDiff, ↓reduceIte, if_true, if_false, eq_self, Nat.reduceAdd, Nat.reduceMul, Nat.reduceSub, forall_const, oneCellS, litOne, flat1, Kd.isSca, flat, TYB]
        refine ⟨hle, fun c1 j1 q1 c1' j1' q1' => ⟨⟨by rw [List.length_append]; omega, by rw [List.length_append]; omega, by rw [List.take_left' hn5, List.take_left' hn5], by omega⟩, fun c2 j2 q2 c2' j2' q2' => ⟨⟨by rw [List.length_append]; omega, by rw [List.length_append]; omega, by rw [List.take_left' hg, List.take_left' hg], by omega⟩, ?_⟩⟩⟩
        refine drawPath_use (.inl rfl) (by omega) fun S b len2 cap2 M H2 n2 hS hSi hb1 hb2 hbM hM1 hM2 hK2 => ?_
        have hle2' := hK2.le
        have p0 : (n' + 1 = n2) = False := by simp; omega
        have p1 : ∀ i, (n' + 1 = n2 + i) = False := fun i => by simp; omega
        have gPa : hget H2 (n' + 1) = some (.ints (gpL R n ++ j1) 44) := hK2.get (by omega) (by simp [hget_cons])
        have gl : n * 2 ≤ (gpL R n ++ j1).length := by rw [List.length_append]; omega
        have hig6 : igB R ((gpL R n ++ j1).take (n * 2)) n = true := by rw [List.take_left' hn5]; exact hn6
        have tkS : S.take 24 = S := List.take_of_length_le (by omega)
        have hle2 := hK2.le
        have hn2 : 1 ≤ n2 := by omega
        have b0 : (b = n2) = False := by simp; omega
        have b1 : ∀ i, (b = n2 + i) = False := fun i => by simp; omega
        have hM3 : len2 ≤ 1048576 := by omega
        have r0 : (n' = n2) = False := by simp; omega
        have r1 : ∀ i, (n' = n2 + i) = False := fun i => by simp; omega
        have gR : hget H2 n' = some (.ints R 27) := hK2.get (by omega) (by simp [hget_cons])
        have t0 : (n' + 2 = n2) = False := by simp; omega
        have t1 : ∀ i, (n' + 2 = n2 + i) = False := fun i => by simp; omega
        have gT : hget H2 (n' + 2) = some (.ints T 27) := hK2.get (by omega) (by simp [hget_cons])
        cases hok : igOk S len2
        · skip
          have eA : alL S (M.take (len2 * 2)) len2 = [] := by unfold alL; rw [hok]; rfl
          by_cases h4 : 0 < mpN R
          · obtain ⟨mp1, mp2⟩ := most_pour h4
            have lpt := pourT_len hR ((mpL R).getD 0 0) ((mpL R).getD 1 0)
            simp -implicitDefEqProofs only [rBig_F, IsRack_F, rPairs_F, rInts_F, IsGoodPath2_F, sIsGoodPath_F, MostPoured_F, sMostPoured_F, Pour_F, BoundOf_F, GoodPath_F, sGoodPath_F, GoodPours_F, sGoodPours_F, BoundsAlong_F, sBoundsAlong_F, freshK, Wrap.ap, hR, tkR, r24, z0, tor, hr, hS, tkS, hbM, hn2, b0, b1, r0, r1, gR, hM1, hM3, hok, eG, eGT, lT, rT, tkT, gT, t0, t1, ml, mt, mb, bo1, bo2, bt, eIg, in0, gPa, p0, p1, hig6, hn5', gl, n48, in1, eA, h4, mp1, mp2, lpt, eqI_rack, eqI_p2, Nat.add_assoc, add_self, self_add, add_add, ZB, Int.reduceToNat, Nat.reduceLT, Nat.reduceLeDiff, Int.reduceLE, Int.reduceLT, Nat.reduceEqDiff, Nat.reduceSub, SB, SV.known, packR, ne_eq, reduceCtorEq, Nat.reduceEqDiff, ↓reduceIte, if_true, if_false, eq_self, Nat.reduceAdd, Nat.reduceMul, Nat.reduceSub, forall_const, oneCellS, litOne, flat1, Kd.isSca, flat, TYB]
            (first | exact ⟨fun _ _ _ => ⟨fun _ => trivial, fun _ _ _ _ => trivial⟩, fun h => absurd trivial h⟩ | exact ⟨fun _ => trivial, fun _ _ _ _ => trivial⟩)
          · simp -implicitDefEqProofs only [rBig_F, IsRack_F, rPairs_F, rInts_F, IsGoodPath2_F, sIsGoodPath_F, MostPoured_F, sMostPoured_F, Pour_F, BoundOf_F, GoodPath_F, sGoodPath_F, GoodPours_F, sGoodPours_F, BoundsAlong_F, sBoundsAlong_F, freshK, Wrap.ap, hR, tkR, r24, z0, tor, hr, hS, tkS, hbM, hn2, b0, b1, r0, r1, gR, hM1, hM3, hok, eG, eGT, lT, rT, tkT, gT, t0, t1, ml, mt, mb, bo1, bo2, bt, eIg, in0, gPa, p0, p1, hig6, hn5', gl, n48, in1, eA, h4, eqI_rack, eqI_p2, Nat.add_assoc, add_self, self_add, add_add, ZB, Int.reduceToNat, Nat.reduceLT, Nat.reduceLeDiff, Int.reduceLE, Int.reduceLT, Nat.reduceEqDiff, Nat.reduceSub, SB, SV.known, packR, ne_eq, reduceCtorEq, Nat.reduceEqDiff, ↓reduceIte, if_true, if_false, eq_self, Nat.reduceAdd, Nat.reduceMul, Nat.reduceSub, forall_const, oneCellS, litOne, flat1, Kd.isSca, flat, TYB]
            (first | exact ⟨fun _ _ _ => ⟨fun _ => trivial, fun _ _ _ _ => trivial⟩, fun h => absurd trivial h⟩ | exact ⟨fun _ => trivial, fun _ _ _ _ => trivial⟩)
        · skip
          have hrS : rackB S = true := by unfold igOk at hok; simp only [Bool.and_eq_true] at hok; exact hok.1
          have hig := path_falls (L := M.take (len2 * 2)) hS hrS len2
          have nA : (alL S (M.take (len2 * 2)) len2).length = alN S (M.take (len2 * 2)) len2 + 1 := by unfold alL; rw [hok]; exact alS_len _ _ _
          have eA : alL S (M.take (len2 * 2)) len2 = alS S (M.take (len2 * 2)) (alN S (M.take (len2 * 2)) len2 + 1) := by unfold alL; rw [hok]; rfl
          have lA := alL_len S (M.take (len2 * 2)) len2
          have bA : ∀ k : Nat, In64 ((alL S (M.take (len2 * 2)) len2).getD k 0) ∧ In64 ((alL S (M.take (len2 * 2)) len2).getD k 0 - 1) := fun k => by
            rw [eA]
            by_cases hk : k < alN S (M.take (len2 * 2)) len2 + 1
            · rw [alS_getD S _ hk]
              have := bnd_bd (paR S (M.take (len2 * 2)) k) (paR_len24 hS k)
              unfold In64; omega
            · rw [List.getD_eq_getElem?_getD, List.getElem?_eq_none (by rw [alS_len]; omega)]
              simp [In64]
          rw [← eA] at hig
          obtain ⟨A, hA⟩ : ∃ A, alL S (M.take (len2 * 2)) len2 = A := ⟨_, rfl⟩
          obtain ⟨N, hN⟩ : ∃ N, alN S (M.take (len2 * 2)) len2 = N := ⟨_, rfl⟩
          rw [hA] at nA lA hig
          rw [hA] at bA
          rw [hN] at nA hig
          clear eA
          have nA0 : (A = []) = False := eq_false fun h => by rw [h] at nA; simp at nA
          have dd : decide ((A.length : Int) = (len2 : Int) + 1) = decide (N = len2) := by
            by_cases h : N = len2
            · rw [decide_eq_true h]; exact decide_eq_true (by omega)
            · rw [decide_eq_false h]; exact decide_eq_false (by omega)
          simp -implicitDefEqProofs only [rBig_F, IsRack_F, rPairs_F, rInts_F, IsGoodPath2_F, sIsGoodPath_F, MostPoured_F, sMostPoured_F, Pour_F, BoundOf_F, GoodPath_F, sGoodPath_F, GoodPours_F, sGoodPours_F, BoundsAlong_F, sBoundsAlong_F, freshK, Wrap.ap, hR, tkR, r24, z0, tor, hr, hS, tkS, hbM, hn2, b0, b1, r0, r1, gR, hM1, hM3, hok, eG, eGT, lT, rT, tkT, gT, t0, t1, ml, mt, mb, bo1, bo2, bt, eIg, in0, gPa, p0, p1, hig6, hn5', gl, n48, in1, hA, hig, nA0, dd, eqI_rack, eqI_p2, Nat.add_assoc, add_self, self_add, add_add, ZB, Int.reduceToNat, Nat.reduceLT, Nat.reduceLeDiff, Int.reduceLE, Int.reduceLT, Nat.reduceEqDiff, Nat.reduceSub, SB, SV.known, packR, ne_eq, reduceCtorEq, Nat.reduceEqDiff, ↓reduceIte, if_true, if_false, eq_self, Nat.reduceAdd, Nat.reduceMul, Nat.reduceSub, forall_const, oneCellS, litOne, flat1, Kd.isSca, flat, TYB]
          refine fun c3 j3 q3 c4 j4 q4 => ⟨⟨by rw [List.length_append]; omega, by rw [List.length_append]; omega, by rw [List.take_left, List.take_left], by omega⟩, by unfold In64; omega, ?_⟩
          refine loop_here (fun k : Nat => [(31, .int (k + 1 : Nat)), (30, .bool (decide (N = len2) && fallB A k)), (20, .slice (n2 + 1) 0 A.length c3), (16, .bool (decide (N = len2) && fallB A N)), (26, .bool (decide (0 < mpN R))), (6, .bool true), (25, .ptr (n2 + 3) 0), (24, .int (mpN R)), (3, .ptr n' 0), (4, .slice (n' + 1) 0 n c1), (5, .ptr (n' + 2) 0)]) (fun k => k ≤ N) (fun k => N - k) 0 (Nat.zero_le _) (by simp only [fallB_zero, Bool.and_true, LB, subS, subH, wfS, wfH, SV.ren, renL, SObj.ren, SV.wf, SObj.wf, wfL, SV.known, Nat.reduceEqDiff, ↓reduceIte, if_true, if_false, eq_self, Nat.reduceAdd, Nat.reduceLT, Nat.reduceLeDiff, implies_true, reduceCtorEq, forall_const]; try rfl) (by simp [subS, subH, wfS, wfH, SV.ren, renL, SObj.ren, SV.wf, SObj.wf, wfL, sget_cons, hget_cons] <;> omega) (by repeat' first | exact hwf_mono (by omega) hK2.wf | (refine hwf_cons ?_ ?_ ?_) | omega | trivial) (by omega) fun hwH k hk => ?_
          have lA3 : (A ++ j3).length = c3 := by rw [List.length_append]; omega
          by_cases hkN : k < N
          · have hil : ((k + 1 : Nat) : Int) < A.length := by omega
            have g1 := getD_app A j3 k (by omega)
            have g2 := getD_app A j3 (k + 1) (by omega)
            have es := fallB_succ A k
            have k1 : ((k + 1 : Nat) : Int) - 1 = k := by omega
            have es2 : (decide (N = len2) && fallB A (k + 1)) = ((decide (N = len2) && fallB A k) && decide (A.getD (k + 1) 0 = A.getD k 0 - 1)) := by rw [es, Bool.and_assoc]
            have hkc : k < c3 := by omega
            have hkc1 : k + 1 < c3 := by omega
            have hkl : (k : Int) < A.length := by omega
            have b2 := bA (k + 1)
            have b3 := bA k
            cases hfb : (decide (N = len2) && fallB A k)
            · rw [hfb, Bool.false_and] at es2
              simp -implicitDefEqProofs only [lk_normal, hil, hfb, eqI_rack, eqI_p2, Nat.add_assoc, add_self, self_add, add_add, ZB, Int.reduceToNat, Nat.reduceLT, Nat.reduceLeDiff, Int.reduceLE, Int.reduceLT, Nat.reduceEqDiff, Nat.reduceSub, SB, SV.known, packR, ne_eq, reduceCtorEq, Nat.reduceEqDiff, ↓reduceIte, if_true, if_false, eq_self, Nat.reduceAdd, Nat.reduceMul, Nat.reduceSub, forall_const, oneCellS, litOne, flat1, Kd.isSca, flat, TYB]
              exact ⟨by unfold In64; omega, k + 1, by omega, by omega, Sub.same (by simp only [es2, LB, subS, subH, wfS, wfH, SV.ren, renL, SObj.ren, SV.wf, SObj.wf, wfL, SV.known, Nat.reduceEqDiff, ↓reduceIte, if_true, if_false, eq_self, Nat.reduceAdd, Nat.reduceLT, Nat.reduceLeDiff, implies_true, reduceCtorEq, forall_const]; try rfl) (by simp [subS, subH, wfS, wfH, SV.ren, renL, SObj.ren, SV.wf, SObj.wf, wfL, sget_cons, hget_cons] <;> omega) hwH (by omega)⟩
            · rw [hfb, Bool.true_and] at es2
              simp -implicitDefEqProofs only [lk_normal, hil, g1, g2, k1, lA3, hkc, hkc1, hkl, hfb, b2.1, b3.1, b3.2, eqI_rack, eqI_p2, Nat.add_assoc, add_self, self_add, add_add, ZB, Int.reduceToNat, Nat.reduceLT, Nat.reduceLeDiff, Int.reduceLE, Int.reduceLT, Nat.reduceEqDiff, Nat.reduceSub, SB, SV.known, packR, ne_eq, reduceCtorEq, Nat.reduceEqDiff, ↓reduceIte, if_true, if_false, eq_self, Nat.reduceAdd, Nat.reduceMul, Nat.reduceSub, forall_const, oneCellS, litOne, flat1, Kd.isSca, flat, TYB]
              exact ⟨by omega, by unfold In64; omega, by omega, by unfold In64; omega, k + 1, by omega, by omega, Sub.same (by simp only [es2, LB, subS, subH, wfS, wfH, SV.ren, renL, SObj.ren, SV.wf, SObj.wf, wfL, SV.known, Nat.reduceEqDiff, ↓reduceIte, if_true, if_false, eq_self, Nat.reduceAdd, Nat.reduceLT, Nat.reduceLeDiff, implies_true, reduceCtorEq, forall_const]; try rfl) (by simp [subS, subH, wfS, wfH, SV.ren, renL, SObj.ren, SV.wf, SObj.wf, wfL, sget_cons, hget_cons] <;> omega) hwH (by omega)⟩
          · obtain rfl : k = N := by omega
            have hil : ¬ ((k + 1 : Nat) : Int) < A.length := by omega
            by_cases h4 : 0 < mpN R
            · obtain ⟨mp1, mp2⟩ := most_pour h4
              have lpt := pourT_len hR ((mpL R).getD 0 0) ((mpL R).getD 1 0)
              simp -implicitDefEqProofs only [lk_normal, hil, rBig_F, IsRack_F, rPairs_F, rInts_F, IsGoodPath2_F, sIsGoodPath_F, MostPoured_F, sMostPoured_F, Pour_F, BoundOf_F, GoodPath_F, sGoodPath_F, GoodPours_F, sGoodPours_F, BoundsAlong_F, sBoundsAlong_F, freshK, Wrap.ap, hR, tkR, r24, z0, tor, hr, hS, tkS, hbM, hn2, b0, b1, r0, r1, gR, hM1, hM3, hok, eG, eGT, lT, rT, tkT, gT, t0, t1, ml, mt, mb, bo1, bo2, bt, eIg, in0, gPa, p0, p1, hig6, hn5', gl, n48, in1, h4, mp1, mp2, lpt, eqI_rack, eqI_p2, Nat.add_assoc, add_self, self_add, add_add, ZB, Int.reduceToNat, Nat.reduceLT, Nat.reduceLeDiff, Int.reduceLE, Int.reduceLT, Nat.reduceEqDiff, Nat.reduceSub, SB, SV.known, packR, ne_eq, reduceCtorEq, Nat.reduceEqDiff, ↓reduceIte, if_true, if_false, eq_self, Nat.reduceAdd, Nat.reduceMul, Nat.reduceSub, forall_const, oneCellS, litOne, flat1, Kd.isSca, flat, TYB]
              (first | exact ⟨fun _ _ _ => ⟨fun _ => trivial, fun _ _ _ _ => trivial⟩, fun h => absurd trivial h⟩ | exact ⟨fun _ => trivial, fun _ _ _ _ => trivial⟩)
            · simp -implicitDefEqProofs only [lk_normal, hil, rBig_F, IsRack_F, rPairs_F, rInts_F, IsGoodPath2_F, sIsGoodPath_F, MostPoured_F, sMostPoured_F, Pour_F, BoundOf_F, GoodPath_F, sGoodPath_F, GoodPours_F, sGoodPours_F, BoundsAlong_F, sBoundsAlong_F, freshK, Wrap.ap, hR, tkR, r24, z0, tor, hr, hS, tkS, hbM, hn2, b0, b1, r0, r1, gR, hM1, hM3, hok, eG, eGT, lT, rT, tkT, gT, t0, t1, ml, mt, mb, bo1, bo2, bt, eIg, in0, gPa, p0, p1, hig6, hn5', gl, n48, in1, h4, eqI_rack, eqI_p2, Nat.add_assoc, add_self, self_add, add_add, ZB, Int.reduceToNat, Nat.reduceLT, Nat.reduceLeDiff, Int.reduceLE, Int.reduceLT, Nat.reduceEqDiff, Nat.reduceSub, SB, SV.known, packR, ne_eq, reduceCtorEq, Nat.reduceEqDiff, ↓reduceIte, if_true, if_false, eq_self, Nat.reduceAdd, Nat.reduceMul, Nat.reduceSub, forall_const, oneCellS, litOne, flat1, Kd.isSca, flat, TYB]
              (first | exact ⟨fun _ _ _ => ⟨fun _ => trivial, fun _ _ _ _ => trivial⟩, fun h => absurd trivial h⟩ | exact ⟨fun _ => trivial, fun _ _ _ _ => trivial⟩)

end Go.Proofs.Ytopfnkmlgcjpbaa
set_option maxRecDepth 100000
set_option linter.unusedSimpArgs false
set_option linter.unusedVariables false
namespace Go.Proofs.Ytopfnkmlgcjpbaa
open Go Go.RowKit Go.ChangeShapes Go.WideShapes Go.ChangeAt

theorem own_knob : ownKnob Try.prog.godebug = none := by kernel_rfl
theorem laid_out : laidOutB Try.prog = true := by kernel_rfl

theorem trodAll_below {H : Type} {enc : TypeId × Value → H} {W W' : World} (hb : Below W.heap.size W W') : ∀ {ts : List TypeId} {vs : List Value} {ds : List (DataW H)} {ps : List MemPlace}, DataW.TrodAll enc Try.prog W 0 (fun _ => true) true ts vs ds ps →
    (∀ t ∈ ts, Try.prog.readableRec t = true ∧ t < Try.prog.types.size) → (∀ x ∈ ps, x.block < W.heap.size) → DataW.TrodAll enc Try.prog W' 0 (fun b => decide (b < W.heap.size)) true ts vs ds ps
  | [], vs, ds, ps, h, _, _ => by
    obtain ⟨rfl, rfl, rfl⟩ := trodAll_nil h
    exact trodAll_mk0
  | t :: ts, vs, ds, ps, h, hr, hp => by
    obtain ⟨v0, vs0, d0, ds0, p0, q0, rfl, rfl, rfl, h0, r0⟩ := trodAll_cons h
    exact trodAll_cons_mk (Below.trod laid_out (hr t (by simp)).1 (hr t (by simp)).2 h0 hb fun x hx => hp x (by simp [hx])) (trodAll_below hb r0 (fun t' ht' => hr t' (by simp [ht'])) fun x hx => hp x (by simp [hx]))

theorem law_post {H : Type} {enc : TypeId × Value → H} {f : Func} {s : ChangeSpec} {W W' : World} {args : Array Value} {ds gs : List (DataW H)} {before : List MemPlace} (hb : Below W.heap.size W W') (hW : DataW.Whole enc Try.prog f.params.toList s.vars false W args.toList ds gs before)
    (hv : s.vars = []) (hrt : f.resultTypes = #[4]) (hs1 : (s.fn H (ds ++ gs)).results = [.lit (.bool true)]) (hs2 : (s.fn H (ds ++ gs)).args = ds) (hs3 : (s.fn H (ds ++ gs)).vars = []) (hr : ∀ t ∈ f.params.toList, Try.prog.readableRec t = true ∧ t < Try.prog.types.size) :
    s.post enc Try.prog f false true false false W args (.bool true) W' := by
  have hW' := hW
  obtain ⟨p, q, hA, hV, rfl, hfz, hnd⟩ := hW
  rw [hv] at hV
  obtain ⟨rfl, rfl⟩ := trodVars_none hV
  refine ⟨ds, _, _, [], p, [], hW', ?_, ?_, ?_, hb.frame _, fun h => by cases h⟩
  · rw [hs1, hrt]
    exact trodAll_cons_mk (shut_bool Try.underlying4 true) trodAll_mk0
  · rw [hs2]
    exact trodAll_below hb hA hr fun x hx => by simpa using hW'.lt x (by simpa using hx)
  · rw [hv, hs3]
    rfl
end Go.Proofs.Ytopfnkmlgcjpbaa
set_option maxRecDepth 100000
set_option linter.unusedSimpArgs false
set_option linter.unusedVariables false
namespace Go.Proofs.Ytopfnkmlgcjpbaa
open Go Go.RowKit Go.ChangeShapes Go.WideShapes Go.ChangeAt

theorem add_off (b o n : Nat) : (Addr.mk b o none).add n = ⟨b, o + n, none⟩ := by
  unfold Addr.add
  split
  · rename_i h; rw [h]; rfl
  · rfl
def intOf (v : Option Value) : Int := match v with
  | some (.int _ n) => n
  | _ => 0
end Go.Proofs.Ytopfnkmlgcjpbaa
set_option maxRecDepth 100000
set_option linter.unusedSimpArgs false
set_option linter.unusedVariables false
namespace Go.Proofs.Ytopfnkmlgcjpbaa
open Go Go.RowKit Go.ChangeShapes Go.WideShapes Go.ChangeAt
/-- An argument that is a slice of bytes. -/
theorem open_by {H : Type} {enc : TypeId × Value → H} {W : World} {b0 : Nat} {sp : Nat → Bool} {held : Bool} {t e : Nat} {v : Value} {d : DataW H} {ps : List MemPlace} (ht : Try.prog.underlying t = some (.slice e)) (hc : Try.prog.cellsOf e = 1) (he : Try.prog.underlying e = some (.int .u8))
    (hval : Value.okWide Try.prog W .any b0 t v) (hd : DataW.Trod enc Try.prog W 0 sp held t v d ps) :
    v = .slice none 0 0 ∨ ∃ (b off len cap : Nat) (L : List Int), v = .slice (some ⟨b, off, none⟩) len cap ∧ len ≤ cap ∧ cap ≤ maxLen ∧ L.length = len ∧ (∀ x ∈ L, 0 ≤ x ∧ x ≤ 255) ∧ SObj.sat (fun _ => b) W b (.winU off L) := by
  unfold Value.okWide at hval
  rw [ht] at hval
  simp only [Cell.okWide] at hval
  rw [ht] at hval
  obtain ⟨fuel, hd⟩ := hd
  rcases DataW.trod_slice ht hd with ⟨h0, _⟩ | ⟨a, len, cap, elems, rest, n, _, hcs, _, _, hl, hm, hlen, hel, _⟩
  · left
    cases v <;> simp_all [Value.cells, Cell.ok]
  · right
    have hv : v = .slice (some a) len cap := by
      cases v <;> simp_all [Value.cells, Cell.ok]
    subst hv
    simp only [Cell.ok, ht] at hval
    obtain ⟨_, _, _, hsp, row, cells, hshape, _⟩ := hval
    obtain ⟨b, off, spot⟩ := a
    simp only at hsp hshape
    subst hsp
    unfold World.shape? at hshape
    split at hshape
    · rename_i c el fz hb
      have each : ∀ k, k < len → ∃ n, c[off + k]? = some (.int .u8 n) ∧ (0 ≤ n ∧ n ≤ 255) := by
        intro k hk
        have h1 := hel k hk
        obtain ⟨y, hy⟩ : ∃ y, elems[k]? = some y := ⟨elems[k]'(by omega), List.getElem?_eq_getElem (by omega)⟩
        rw [hy, hc, Option.bind_eq_some_iff] at h1
        obtain ⟨cs, hcs, h1⟩ := h1
        obtain ⟨m, rfl, _, hw⟩ := DataW.trod_int he h1
        have h2 := (World.cells?_some hcs).2.2 0 (by omega)
        rw [add_off, add_off] at h2
        unfold World.cell? at h2
        simp only [hb] at h2
        refine ⟨m, by simpa using h2, by simpa [Lit.wf, IntKind.min, IntKind.max, IntKind.signed, IntKind.bits] using hw⟩
      refine ⟨b, off, len, cap, (List.range len).map fun k => intOf c[off + k]?, rfl, hl, hm, by simp, fun x hx => ?_, c, el, fz, hb, fun i hi => ?_⟩
      · obtain ⟨k, hk, rfl⟩ := List.mem_map.1 hx
        obtain ⟨m, h1, h2⟩ := each k (List.mem_range.1 hk)
        rw [h1]; exact h2
      · simp at hi
        obtain ⟨m, h1, h2⟩ := each i hi
        rw [h1]
        simp [List.getD, hi, h1, intOf]
    · cases hshape
theorem HR.winU_one {b off : Nat} {L : List Int} {W : World} (h : SObj.sat (fun _ => b) W b (.winU off L)) : HR (fun _ => b) [(0, .winU off L)] W where
  at_ := fun k o hk _ => by
    rw [hget_cons] at hk
    split at hk
    · cases hk; exact h
    · cases hk
  inj := fun k j o o' h1 _ h2 _ _ => by
    rw [hget_cons] at h1 h2
    split at h1
    · split at h2
      · omega
      · cases h2
    · cases h1
end Go.Proofs.Ytopfnkmlgcjpbaa
