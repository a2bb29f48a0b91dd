/- Texts of this claim, joined (RE5, Fin, FinS, FinB). -/
import Derived.Test.YtmccafjblhbmkaaGreatQ1
import Derived.Test.YtmccafjblhbmkaaGreatQ2
import Derived.Test.YtmccafjblhbmkaaGreatQ3
import Derived.Test.YtmccafjblhbmkaaGreatQ4
import Derived.Test.YtmccafjblhbmkaaGreatQ5
import Derived.Test.YtmccafjblhbmkaaGreatQ6
import Derived.Test.YtmccafjblhbmkaaGreatQ7
import Derived.Test.YtmccafjblhbmkaaGreatQ8
import Derived.Test.YtmccafjblhbmkaaGreatQ9
import Derived.Test.YtmccafjblhbmkaaGreatRows
import Derived.ProofKit
import Derived.OpenShut
set_option maxRecDepth 100000
set_option linter.unusedSimpArgs false
set_option linter.unusedVariables false
namespace Go.Proofs.YtmccafjblhbmkaaGreat
open Go Go.RowKit
theorem eqI_a6v : EqI Tryz.prog 40 6 := eqI_of (D := 2) (by omega) (eqA_ints (i := (Tryz.prog.info? 3).getD default) Tryz.underlying40 (by kernel_rfl) (by kernel_rfl) rfl Tryz.underlying3) (by kernel_rfl)
--@tbl vBig = laws.vBig
theorem vBig_ok (L : List Int) (off len cap : Nat) : PureH Tryz.prog 6 [.slice 0 off len cap] [(0, .winU off L)] (.bool (decide (65536 < (len : Int)))) := by
  refine pure_of_vc (X := ⟨Tryz.prog, tys, [], [], true, true, 1, [], []⟩) fn_6 ⟨tys_ok, .nil, .nil, mixed⟩ (n0 := 1) (Nat.le_of_ble_eq_true rfl) (by simp [wfL, SV.wf]) (wfH_spec (by simp [wfH, SObj.wf])) (Nat.le_refl _) (fun _ => by simp [SV.wf, wfL]) ?_
  simp -implicitDefEqProofs only [Tryz.f6, Option.getD_some, argS, ZB, Int.reduceToNat, Nat.reduceLT, Nat.reduceLeDiff, Int.reduceLE, Int.reduceLT, Nat.reduceEqDiff, Nat.reduceSub, SB, SV.known, packR, ne_eq, reduceCtorEq, Nat.reduceEqDiff, ↓reduceIte, if_true, if_false, eq_self, Nat.reduceAdd, Nat.reduceMul, Nat.reduceSub, forall_const, oneCellS, litOne, flat1, Kd.isSca, flat, TYB]
theorem vBig_nil (H : Heap) : PureH Tryz.prog 6 [.nils] H (.bool false) := by
  refine PureH.any ?_ H
  refine pure_of_vc (X := ⟨Tryz.prog, tys, [], [], true, true, 0, [], []⟩) fn_6 ⟨tys_ok, .nil, .nil, mixed⟩ (n0 := 0) (Nat.le_of_ble_eq_true rfl) (by simp [wfL, SV.wf]) (wfH_spec (by simp [wfH, SObj.wf])) (Nat.le_refl _) (fun _ => by simp [SV.wf, wfL]) ?_
  simp -implicitDefEqProofs only [Tryz.f6, Option.getD_some, argS, ZB, Int.reduceToNat, Nat.reduceLT, Nat.reduceLeDiff, Int.reduceLE, Int.reduceLT, Nat.reduceEqDiff, Nat.reduceSub, SB, SV.known, packR, ne_eq, reduceCtorEq, Nat.reduceEqDiff, ↓reduceIte, if_true, if_false, eq_self, Nat.reduceAdd, Nat.reduceMul, Nat.reduceSub, forall_const, oneCellS, litOne, flat1, Kd.isSca, flat, TYB]
def vBig_F : List SV → Heap → Option (Prop × SV)
  | [.slice a o len _], H => match hget H a with
    | some (.winU off _) => some (o = off, .bool (decide (65536 < (len : Int))))
    | _ => none
  | [.nils], _ => some (True, .bool false)
  | _, _ => none
theorem vBig_T : ∀ args H p v, vBig_F args H = some (p, v) → p → PureH Tryz.prog 6 args H v := by
  intro args H p v h hp
  unfold vBig_F at h
  split at h
  · rename_i a o len cap
    split at h
    · rename_i off L g
      cases h
      subst hp
      exact one_block (vBig_ok L o len cap) g rfl (fun _ => trivial)
    · cases h
  · cases h
    exact vBig_nil H
  · cases h
abbrev reK : KE := retK tys Tryz.f3.results.toList fun v _ _ => v = .bool true
structure ReS (S : Env) (H : Heap) (n : Nat) (R U A B : List Int) (k : Int) (r f u a b : Nat) : Prop where
  s3 : sget S 3 = .ptr r 0
  s4 : sget S 4 = .ptr f 0
  s5 : sget S 5 = .bool (rackB R)
  s8 : sget S 8 = .ptr u 0
  s9 : sget S 9 = .int k
  s10 : sget S 10 = .int (crF U k)
  s11 : sget S 11 = .bool (crB U k)
  s14 : sget S 14 = .int (raF U)
  s15 : sget S 15 = .bool (rackB U && unO nev U)
  s18 : sget S 18 = .ptr a 0
  s19 : sget S 19 = .ptr b 0
  s20 : sget S 20 = .int (ftF A B)
  s21 : sget S 21 = .bool (ftB A B)
  hr : hget H r = some (.ints R 27)
  hf : hget H f = some (.ints (foF R) 27)
  hu : hget H u = some (.ints U 27)
  ha : hget H a = some (.ints A 27)
  hb : hget H b = some (.ints B 27)
  lt : r < n ∧ f < n ∧ u < n ∧ a < n ∧ b < n
  one : 1 ≤ n
theorem ReS.up {S S' : Env} {H H' : Heap} {n n' : Nat} {R U A B : List Int} {k : Int} {r f u a b : Nat} (h : ReS S H n R U A B k r f u a b) (hs : ∀ t, t ≤ 21 → sget S' t = sget S t) (hh : ∀ i o, i < n → hget H i = some o → hget H' i = some o) (hn : n ≤ n') : ReS S' H' n' R U A B k r f u a b := by
  have := h.lt
  have := h.one
  exact ⟨by rw [hs 3 (by omega)]; exact h.s3, by rw [hs 4 (by omega)]; exact h.s4, by rw [hs 5 (by omega)]; exact h.s5, by rw [hs 8 (by omega)]; exact h.s8, by rw [hs 9 (by omega)]; exact h.s9, by rw [hs 10 (by omega)]; exact h.s10, by rw [hs 11 (by omega)]; exact h.s11,
    by rw [hs 14 (by omega)]; exact h.s14, by rw [hs 15 (by omega)]; exact h.s15, by rw [hs 18 (by omega)]; exact h.s18, by rw [hs 19 (by omega)]; exact h.s19, by rw [hs 20 (by omega)]; exact h.s20, by rw [hs 21 (by omega)]; exact h.s21,
    hh _ _ (by omega) h.hr, hh _ _ (by omega) h.hf, hh _ _ (by omega) h.hu, hh _ _ (by omega) h.ha, hh _ _ (by omega) h.hb, by omega, by omega⟩
set_option maxHeartbeats 2000000 in
theorem re_b16 (S : Env) (H : Heap) (n : Nat) (R U A B : List Int) (k : Int) (r f u a b : Nat) (hE : ReS S H n R U A B k r f u a b) (hU : U.length = 24) (hk : In64 k) : codeVC (⟨Tryz.prog, tys, [(6, vBig_F), (8, FormOf_F), (9, sFormOf_F), (12, CountReached_F), (13, sCountReached_F), (14, ReachedAll_F), (15, sReachedAll_F), (17, FewestTo_F), (18, sFewestTo_F), (19, CountColors_F), (20, SwapTubes_F)], [(7, DrawFormOf_F), (11, vCut_F), (10, DrawCountReached_F), (16, DrawFewestTo_F), (21, UsefulPours_F)], true, true, 1, [], []⟩ : Cx) 1 (cdN 16 (Tryz.f3.body.getD .skip)) S H n reK := by
  obtain ⟨s3, s4, s5, s8, s9, s10, s11, s14, s15, s18, s19, s20, s21, hr, hf, hu, ha, hb, hlt, h1n⟩ := hE
  have tkU : U.take 24 = U := List.take_of_length_le (by omega)
  simp only [cdN, cd2, Tryz.f3, Option.getD_some, reK]
  cases hc : crB U k
  · simp -implicitDefEqProofs only [s8, s9, s10, s11, s14, s15, hu, hc, FormOf_F, sFormOf_F, CountReached_F, sCountReached_F, ReachedAll_F, sReachedAll_F, FewestTo_F, sFewestTo_F, CountColors_F, SwapTubes_F, UsefulPours_F, Wrap.ap, eqI_rack, eqI_a6v, Nat.add_assoc, add_self, self_add, add_add, ZB, Int.reduceToNat, Nat.reduceLT, Nat.reduceLeDiff, Int.reduceLE, Int.reduceLT, Nat.reduceEqDiff, Nat.reduceSub, SB, SV.known, packR, ne_eq, reduceCtorEq, Nat.reduceEqDiff, ↓reduceIte, if_true, if_false, eq_self, Nat.reduceAdd, Nat.reduceMul, Nat.reduceSub, forall_const, oneCellS, litOne, flat1, Kd.isSca, flat, TYB]
  · obtain ⟨hrk, hkb, hone, hall, hless, h1⟩ := re_fine hU hc
    have nU : (u = n) = False := by simp; omega
    obtain ⟨nu, hnu, hnu36⟩ := ulF_even (R := U)
    have ehu : (ulF U).length / 2 = nu := by omega
    have eU : upF U = ulF U := by unfold upF; rw [if_pos hrk]
    have l1 : (crF U k < 1) = False := by simp; omega
    have z0 : 0 / 2 = 0 := rfl
    have l2 : unO nev U = true → (raF U < crF U k) = False := fun h => by simp; exact hall hrk h
    by_cases hk0 : 0 < k
    · obtain ⟨hc1, hle⟩ := hless hk0
      have l3 : (crF U k < crF U (k - 1)) = False := by simp; omega
      have ik : In64 (k - 1) := by unfold In64 at hk ⊢; omega
      by_cases hk1 : k = 1
      · subst hk1
        have l4 : (1 + (nu : Int) < crF U 1) = False := by have := h1 rfl; simp; omega
        have l5 : nu = 0 → (1 + (0 : Int) < crF U 1) = False := fun h => by have := h1 rfl; simp; omega
        cases hv : unO nev U
        · simp -implicitDefEqProofs only [s8, s9, s10, s11, s14, s15, hu, hc, hv, hrk, hU, tkU, nU, eU, ehu, l1, hk0, hc1, l3, FormOf_F, sFormOf_F, CountReached_F, sCountReached_F, ReachedAll_F, sReachedAll_F, FewestTo_F, sFewestTo_F, CountColors_F, SwapTubes_F, UsefulPours_F, Wrap.ap, eqI_rack, eqI_a6v, Nat.add_assoc, add_self, self_add, add_add, ZB, Int.reduceToNat, Nat.reduceLT, Nat.reduceLeDiff, Int.reduceLE, Int.reduceLT, Nat.reduceEqDiff, Nat.reduceSub, SB, SV.known, packR, ne_eq, reduceCtorEq, Nat.reduceEqDiff, ↓reduceIte, if_true, if_false, eq_self, Nat.reduceAdd, Nat.reduceMul, Nat.reduceSub, forall_const, oneCellS, litOne, flat1, Kd.isSca, flat, TYB]
          refine ⟨ik, freshK_of (fun hn => ?_) fun cp jp hjp => ?_⟩
          · have u0 : nu = 0 := by rw [hn] at hnu; simp at hnu; omega
            simp -implicitDefEqProofs only [s8, s9, s10, s11, s14, s15, hu, hc, hv, hrk, hU, tkU, nU, eU, ehu, l1, hk0, hc1, l3, l5 u0, FormOf_F, sFormOf_F, CountReached_F, sCountReached_F, ReachedAll_F, sReachedAll_F, FewestTo_F, sFewestTo_F, CountColors_F, SwapTubes_F, UsefulPours_F, Wrap.ap, eqI_rack, eqI_a6v, Nat.add_assoc, add_self, self_add, add_add, ZB, Int.reduceToNat, Nat.reduceLT, Nat.reduceLeDiff, Int.reduceLE, Int.reduceLT, Nat.reduceEqDiff, Nat.reduceSub, SB, SV.known, packR, ne_eq, reduceCtorEq, Nat.reduceEqDiff, ↓reduceIte, if_true, if_false, eq_self, Nat.reduceAdd, Nat.reduceMul, Nat.reduceSub, forall_const, oneCellS, litOne, flat1, Kd.isSca, flat, TYB]
            unfold In64; omega
          · simp -implicitDefEqProofs only [s8, s9, s10, s11, s14, s15, hu, hc, hv, hrk, hU, tkU, nU, eU, ehu, l1, hk0, hc1, l3, l4, FormOf_F, sFormOf_F, CountReached_F, sCountReached_F, ReachedAll_F, sReachedAll_F, FewestTo_F, sFewestTo_F, CountColors_F, SwapTubes_F, UsefulPours_F, Wrap.ap, eqI_rack, eqI_a6v, Nat.add_assoc, add_self, self_add, add_add, ZB, Int.reduceToNat, Nat.reduceLT, Nat.reduceLeDiff, Int.reduceLE, Int.reduceLT, Nat.reduceEqDiff, Nat.reduceSub, SB, SV.known, packR, ne_eq, reduceCtorEq, Nat.reduceEqDiff, ↓reduceIte, if_true, if_false, eq_self, Nat.reduceAdd, Nat.reduceMul, Nat.reduceSub, forall_const, oneCellS, litOne, flat1, Kd.isSca, flat, TYB]
            unfold In64; omega
        · simp -implicitDefEqProofs only [s8, s9, s10, s11, s14, s15, hu, hc, hv, hrk, hU, tkU, nU, eU, ehu, l1, l2 hv, hk0, hc1, l3, FormOf_F, sFormOf_F, CountReached_F, sCountReached_F, ReachedAll_F, sReachedAll_F, FewestTo_F, sFewestTo_F, CountColors_F, SwapTubes_F, UsefulPours_F, Wrap.ap, eqI_rack, eqI_a6v, Nat.add_assoc, add_self, self_add, add_add, ZB, Int.reduceToNat, Nat.reduceLT, Nat.reduceLeDiff, Int.reduceLE, Int.reduceLT, Nat.reduceEqDiff, Nat.reduceSub, SB, SV.known, packR, ne_eq, reduceCtorEq, Nat.reduceEqDiff, ↓reduceIte, if_true, if_false, eq_self, Nat.reduceAdd, Nat.reduceMul, Nat.reduceSub, forall_const, oneCellS, litOne, flat1, Kd.isSca, flat, TYB]
          refine ⟨ik, freshK_of (fun hn => ?_) fun cp jp hjp => ?_⟩
          · have u0 : nu = 0 := by rw [hn] at hnu; simp at hnu; omega
            simp -implicitDefEqProofs only [s8, s9, s10, s11, s14, s15, hu, hc, hv, hrk, hU, tkU, nU, eU, ehu, l1, l2 hv, hk0, hc1, l3, l5 u0, FormOf_F, sFormOf_F, CountReached_F, sCountReached_F, ReachedAll_F, sReachedAll_F, FewestTo_F, sFewestTo_F, CountColors_F, SwapTubes_F, UsefulPours_F, Wrap.ap, eqI_rack, eqI_a6v, Nat.add_assoc, add_self, self_add, add_add, ZB, Int.reduceToNat, Nat.reduceLT, Nat.reduceLeDiff, Int.reduceLE, Int.reduceLT, Nat.reduceEqDiff, Nat.reduceSub, SB, SV.known, packR, ne_eq, reduceCtorEq, Nat.reduceEqDiff, ↓reduceIte, if_true, if_false, eq_self, Nat.reduceAdd, Nat.reduceMul, Nat.reduceSub, forall_const, oneCellS, litOne, flat1, Kd.isSca, flat, TYB]
            unfold In64; omega
          · simp -implicitDefEqProofs only [s8, s9, s10, s11, s14, s15, hu, hc, hv, hrk, hU, tkU, nU, eU, ehu, l1, l2 hv, hk0, hc1, l3, l4, FormOf_F, sFormOf_F, CountReached_F, sCountReached_F, ReachedAll_F, sReachedAll_F, FewestTo_F, sFewestTo_F, CountColors_F, SwapTubes_F, UsefulPours_F, Wrap.ap, eqI_rack, eqI_a6v, Nat.add_assoc, add_self, self_add, add_add, ZB, Int.reduceToNat, Nat.reduceLT, Nat.reduceLeDiff, Int.reduceLE, Int.reduceLT, Nat.reduceEqDiff, Nat.reduceSub, SB, SV.known, packR, ne_eq, reduceCtorEq, Nat.reduceEqDiff, ↓reduceIte, if_true, if_false, eq_self, Nat.reduceAdd, Nat.reduceMul, Nat.reduceSub, forall_const, oneCellS, litOne, flat1, Kd.isSca, flat, TYB]
            unfold In64; omega
      · have k1 : (k = 1) = False := eq_false hk1
        cases hv : unO nev U
        · simp -implicitDefEqProofs only [s8, s9, s10, s11, s14, s15, hu, hc, hv, hrk, hU, tkU, nU, eU, ehu, l1, hk0, hc1, l3, FormOf_F, sFormOf_F, CountReached_F, sCountReached_F, ReachedAll_F, sReachedAll_F, FewestTo_F, sFewestTo_F, CountColors_F, SwapTubes_F, UsefulPours_F, Wrap.ap, eqI_rack, eqI_a6v, Nat.add_assoc, add_self, self_add, add_add, ZB, Int.reduceToNat, Nat.reduceLT, Nat.reduceLeDiff, Int.reduceLE, Int.reduceLT, Nat.reduceEqDiff, Nat.reduceSub, SB, SV.known, packR, ne_eq, reduceCtorEq, Nat.reduceEqDiff, ↓reduceIte, if_true, if_false, eq_self, Nat.reduceAdd, Nat.reduceMul, Nat.reduceSub, forall_const, oneCellS, litOne, flat1, Kd.isSca, flat, TYB]
          refine ⟨ik, freshK_of (fun hn => ?_) fun cp jp hjp => ?_⟩
          · simp -implicitDefEqProofs only [s8, s9, s10, s11, s14, s15, hu, hc, hv, hrk, hU, tkU, nU, eU, ehu, l1, hk0, k1, hc1, l3, FormOf_F, sFormOf_F, CountReached_F, sCountReached_F, ReachedAll_F, sReachedAll_F, FewestTo_F, sFewestTo_F, CountColors_F, SwapTubes_F, UsefulPours_F, Wrap.ap, eqI_rack, eqI_a6v, Nat.add_assoc, add_self, self_add, add_add, ZB, Int.reduceToNat, Nat.reduceLT, Nat.reduceLeDiff, Int.reduceLE, Int.reduceLT, Nat.reduceEqDiff, Nat.reduceSub, SB, SV.known, packR, ne_eq, reduceCtorEq, Nat.reduceEqDiff, ↓reduceIte, if_true, if_false, eq_self, Nat.reduceAdd, Nat.reduceMul, Nat.reduceSub, forall_const, oneCellS, litOne, flat1, Kd.isSca, flat, TYB]
          · simp -implicitDefEqProofs only [s8, s9, s10, s11, s14, s15, hu, hc, hv, hrk, hU, tkU, nU, eU, ehu, l1, hk0, k1, hc1, l3, FormOf_F, sFormOf_F, CountReached_F, sCountReached_F, ReachedAll_F, sReachedAll_F, FewestTo_F, sFewestTo_F, CountColors_F, SwapTubes_F, UsefulPours_F, Wrap.ap, eqI_rack, eqI_a6v, Nat.add_assoc, add_self, self_add, add_add, ZB, Int.reduceToNat, Nat.reduceLT, Nat.reduceLeDiff, Int.reduceLE, Int.reduceLT, Nat.reduceEqDiff, Nat.reduceSub, SB, SV.known, packR, ne_eq, reduceCtorEq, Nat.reduceEqDiff, ↓reduceIte, if_true, if_false, eq_self, Nat.reduceAdd, Nat.reduceMul, Nat.reduceSub, forall_const, oneCellS, litOne, flat1, Kd.isSca, flat, TYB]
        · simp -implicitDefEqProofs only [s8, s9, s10, s11, s14, s15, hu, hc, hv, hrk, hU, tkU, nU, eU, ehu, l1, l2 hv, hk0, hc1, l3, FormOf_F, sFormOf_F, CountReached_F, sCountReached_F, ReachedAll_F, sReachedAll_F, FewestTo_F, sFewestTo_F, CountColors_F, SwapTubes_F, UsefulPours_F, Wrap.ap, eqI_rack, eqI_a6v, Nat.add_assoc, add_self, self_add, add_add, ZB, Int.reduceToNat, Nat.reduceLT, Nat.reduceLeDiff, Int.reduceLE, Int.reduceLT, Nat.reduceEqDiff, Nat.reduceSub, SB, SV.known, packR, ne_eq, reduceCtorEq, Nat.reduceEqDiff, ↓reduceIte, if_true, if_false, eq_self, Nat.reduceAdd, Nat.reduceMul, Nat.reduceSub, forall_const, oneCellS, litOne, flat1, Kd.isSca, flat, TYB]
          refine ⟨ik, freshK_of (fun hn => ?_) fun cp jp hjp => ?_⟩
          · simp -implicitDefEqProofs only [s8, s9, s10, s11, s14, s15, hu, hc, hv, hrk, hU, tkU, nU, eU, ehu, l1, l2 hv, hk0, k1, hc1, l3, FormOf_F, sFormOf_F, CountReached_F, sCountReached_F, ReachedAll_F, sReachedAll_F, FewestTo_F, sFewestTo_F, CountColors_F, SwapTubes_F, UsefulPours_F, Wrap.ap, eqI_rack, eqI_a6v, Nat.add_assoc, add_self, self_add, add_add, ZB, Int.reduceToNat, Nat.reduceLT, Nat.reduceLeDiff, Int.reduceLE, Int.reduceLT, Nat.reduceEqDiff, Nat.reduceSub, SB, SV.known, packR, ne_eq, reduceCtorEq, Nat.reduceEqDiff, ↓reduceIte, if_true, if_false, eq_self, Nat.reduceAdd, Nat.reduceMul, Nat.reduceSub, forall_const, oneCellS, litOne, flat1, Kd.isSca, flat, TYB]
          · simp -implicitDefEqProofs only [s8, s9, s10, s11, s14, s15, hu, hc, hv, hrk, hU, tkU, nU, eU, ehu, l1, l2 hv, hk0, k1, hc1, l3, FormOf_F, sFormOf_F, CountReached_F, sCountReached_F, ReachedAll_F, sReachedAll_F, FewestTo_F, sFewestTo_F, CountColors_F, SwapTubes_F, UsefulPours_F, Wrap.ap, eqI_rack, eqI_a6v, Nat.add_assoc, add_self, self_add, add_add, ZB, Int.reduceToNat, Nat.reduceLT, Nat.reduceLeDiff, Int.reduceLE, Int.reduceLT, Nat.reduceEqDiff, Nat.reduceSub, SB, SV.known, packR, ne_eq, reduceCtorEq, Nat.reduceEqDiff, ↓reduceIte, if_true, if_false, eq_self, Nat.reduceAdd, Nat.reduceMul, Nat.reduceSub, forall_const, oneCellS, litOne, flat1, Kd.isSca, flat, TYB]
    · cases hv : unO nev U
      · simp -implicitDefEqProofs only [s8, s9, s10, s11, s14, s15, hu, hc, hv, hrk, hU, tkU, nU, eU, ehu, l1, hk0, FormOf_F, sFormOf_F, CountReached_F, sCountReached_F, ReachedAll_F, sReachedAll_F, FewestTo_F, sFewestTo_F, CountColors_F, SwapTubes_F, UsefulPours_F, Wrap.ap, eqI_rack, eqI_a6v, Nat.add_assoc, add_self, self_add, add_add, ZB, Int.reduceToNat, Nat.reduceLT, Nat.reduceLeDiff, Int.reduceLE, Int.reduceLT, Nat.reduceEqDiff, Nat.reduceSub, SB, SV.known, packR, ne_eq, reduceCtorEq, Nat.reduceEqDiff, ↓reduceIte, if_true, if_false, eq_self, Nat.reduceAdd, Nat.reduceMul, Nat.reduceSub, forall_const, oneCellS, litOne, flat1, Kd.isSca, flat, TYB]
      · simp -implicitDefEqProofs only [s8, s9, s10, s11, s14, s15, hu, hc, hv, hrk, hU, tkU, nU, eU, ehu, l1, l2 hv, hk0, FormOf_F, sFormOf_F, CountReached_F, sCountReached_F, ReachedAll_F, sReachedAll_F, FewestTo_F, sFewestTo_F, CountColors_F, SwapTubes_F, UsefulPours_F, Wrap.ap, eqI_rack, eqI_a6v, Nat.add_assoc, add_self, self_add, add_add, ZB, Int.reduceToNat, Nat.reduceLT, Nat.reduceLeDiff, Int.reduceLE, Int.reduceLT, Nat.reduceEqDiff, Nat.reduceSub, SB, SV.known, packR, ne_eq, reduceCtorEq, Nat.reduceEqDiff, ↓reduceIte, if_true, if_false, eq_self, Nat.reduceAdd, Nat.reduceMul, Nat.reduceSub, forall_const, oneCellS, litOne, flat1, Kd.isSca, flat, TYB]
theorem re_up {S S' : Env} (h : ∀ t, t ≤ 21 → sget S' t = sget S t) {k : Nat} {v : SV} (hk : 21 < k) : ∀ t, t ≤ 21 → sget ((k, v) :: S') t = sget S t := fun t ht => by rw [sget_skip _ _ _ _ (by omega)]; exact h t ht
set_option maxHeartbeats 2000000 in
theorem re_b15 (S : Env) (H : Heap) (n : Nat) (R U A B : List Int) (k : Int) (r f u a b : Nat) (hE : ReS S H n R U A B k r f u a b) (hU : U.length = 24) (hk : In64 k) (hA : A.length = 24) (hB : B.length = 24) : codeVC (⟨Tryz.prog, tys, [(6, vBig_F), (8, FormOf_F), (9, sFormOf_F), (12, CountReached_F), (13, sCountReached_F), (14, ReachedAll_F), (15, sReachedAll_F), (17, FewestTo_F), (18, sFewestTo_F), (19, CountColors_F), (20, SwapTubes_F)], [(7, DrawFormOf_F), (11, vCut_F), (10, DrawCountReached_F), (16, DrawFewestTo_F), (21, UsefulPours_F)], true, true, 1, [], []⟩ : Cx) 1 (cdN 15 (Tryz.f3.body.getD .skip)) S H n reK := by
  have hE0 := hE
  obtain ⟨s3, s4, s5, s8, s9, s10, s11, s14, s15, s18, s19, s20, s21, hr, hf, hu, ha, hb, hlt, h1n⟩ := hE
  have tkA : A.take 24 = A := List.take_of_length_le (by omega)
  have tkB : B.take 24 = B := List.take_of_length_le (by omega)
  rw [cd_cut (show cdN 15 (Tryz.f3.body.getD .skip) = .seq (cd1 (cdN 15 (Tryz.f3.body.getD .skip))) (cdN 16 (Tryz.f3.body.getD .skip)) from rfl)]
  have next := fun S' H' n' (h : ReS S' H' n' R U A B k r f u a b) => re_b16 S' H' n' R U A B k r f u a b h hU hk
  obtain ⟨c16, e16⟩ : ∃ c, c = cdN 16 (Tryz.f3.body.getD .skip) := ⟨_, rfl⟩
  rw [← e16] at next ⊢
  simp only [cdN, cd1, cd2, Tryz.f3, Option.getD_some]
  cases hc : ftB A B
  · simp -implicitDefEqProofs only [s21, hc, FormOf_F, sFormOf_F, CountReached_F, sCountReached_F, ReachedAll_F, sReachedAll_F, FewestTo_F, sFewestTo_F, CountColors_F, SwapTubes_F, UsefulPours_F, Wrap.ap, eqI_rack, eqI_a6v, Nat.add_assoc, add_self, self_add, add_add, ZB, Int.reduceToNat, Nat.reduceLT, Nat.reduceLeDiff, Int.reduceLE, Int.reduceLT, Nat.reduceEqDiff, Nat.reduceSub, SB, SV.known, packR, ne_eq, reduceCtorEq, Nat.reduceEqDiff, ↓reduceIte, if_true, if_false, eq_self, Nat.reduceAdd, Nat.reduceMul, Nat.reduceSub, forall_const, oneCellS, litOne, flat1, Kd.isSca, flat, TYB]
    exact next _ _ _ (hE0.up (by (repeat (first | refine re_up ?_ (by decide) | exact fun _ _ => rfl))) (fun _ _ _ h => h) (Nat.le_refl _))
  · obtain ⟨ra, rb, fa, fb, hz, h0, hm⟩ := re_few hc
    have la := frm_len hA
    have lb := frm_len hB
    have tka : (frm A).take 24 = frm A := List.take_of_length_le (by omega)
    have tkb : (frm B).take 24 = frm B := List.take_of_length_le (by omega)
    have nA : (a = n) = False := by simp; omega
    have nB : (b = n) = False := by simp; omega
    have nAi : ∀ i, (a = n + i) = False := fun i => by simp; omega
    have nBi : ∀ i, (b = n + i) = False := fun i => by simp; omega
    by_cases he : frm A = frm B
    · have e0 : (ftF A B = 0) = True := eq_true (hz.2 he)
      have e1 : (frm A = frm B) = True := eq_true he
      have e2 : (0 < ftF A B) = False := by have := hz.2 he; simp; omega
      simp -implicitDefEqProofs only [s18, s19, s20, s21, ha, hb, hA, tkA, hB, tkB, hc, ra, rb, fa, fb, la, lb, tka, tkb, nA, nB, nAi, nBi, e0, e1, e2, FormOf_F, sFormOf_F, CountReached_F, sCountReached_F, ReachedAll_F, sReachedAll_F, FewestTo_F, sFewestTo_F, CountColors_F, SwapTubes_F, UsefulPours_F, Wrap.ap, eqI_rack, eqI_a6v, Nat.add_assoc, add_self, self_add, add_add, ZB, Int.reduceToNat, Nat.reduceLT, Nat.reduceLeDiff, Int.reduceLE, Int.reduceLT, Nat.reduceEqDiff, Nat.reduceSub, SB, SV.known, packR, ne_eq, reduceCtorEq, Nat.reduceEqDiff, ↓reduceIte, if_true, if_false, eq_self, Nat.reduceAdd, Nat.reduceMul, Nat.reduceSub, forall_const, oneCellS, litOne, flat1, Kd.isSca, flat, TYB]
      exact ⟨h1n, next _ _ _ (hE0.up (by (repeat (first | refine re_up ?_ (by decide) | exact fun _ _ => rfl))) (by (intro i o hi ho; (repeat rw [hget_cons, if_neg (by omega)]); exact ho)) (by omega))⟩
    · have hne : ¬ ftF A B = 0 := fun h => he (hz.1 h)
      have e0 : (ftF A B = 0) = False := eq_false hne
      have e1 : (frm A = frm B) = False := eq_false he
      have e2 : (0 < ftF A B) = True := by simp; omega
      by_cases h9 : ftF A B < 9
      · obtain ⟨m1, m2⟩ := hm (by omega) h9
        have i1 : In64 (ftF A B - 1) := by unfold In64; omega
        cases hcb : crB A (ftF A B)
        · simp -implicitDefEqProofs only [s18, s19, s20, s21, ha, hb, hA, tkA, hB, tkB, hc, ra, rb, fa, fb, la, lb, tka, tkb, nA, nB, nAi, nBi, e0, e1, e2, h9, m1, hcb, FormOf_F, sFormOf_F, CountReached_F, sCountReached_F, ReachedAll_F, sReachedAll_F, FewestTo_F, sFewestTo_F, CountColors_F, SwapTubes_F, UsefulPours_F, Wrap.ap, eqI_rack, eqI_a6v, Nat.add_assoc, add_self, self_add, add_add, ZB, Int.reduceToNat, Nat.reduceLT, Nat.reduceLeDiff, Int.reduceLE, Int.reduceLT, Nat.reduceEqDiff, Nat.reduceSub, SB, SV.known, packR, ne_eq, reduceCtorEq, Nat.reduceEqDiff, ↓reduceIte, if_true, if_false, eq_self, Nat.reduceAdd, Nat.reduceMul, Nat.reduceSub, forall_const, oneCellS, litOne, flat1, Kd.isSca, flat, TYB]
          exact ⟨h1n, i1, next _ _ _ (hE0.up (by (repeat (first | refine re_up ?_ (by decide) | exact fun _ _ => rfl))) (by (intro i o hi ho; (repeat rw [hget_cons, if_neg (by omega)]); exact ho)) (by omega))⟩
        · have e3 : (crF A (ftF A B) ≤ crF A (ftF A B - 1)) = False := by have := m2 hcb; simp; omega
          simp -implicitDefEqProofs only [s18, s19, s20, s21, ha, hb, hA, tkA, hB, tkB, hc, ra, rb, fa, fb, la, lb, tka, tkb, nA, nB, nAi, nBi, e0, e1, e2, h9, m1, hcb, e3, FormOf_F, sFormOf_F, CountReached_F, sCountReached_F, ReachedAll_F, sReachedAll_F, FewestTo_F, sFewestTo_F, CountColors_F, SwapTubes_F, UsefulPours_F, Wrap.ap, eqI_rack, eqI_a6v, Nat.add_assoc, add_self, self_add, add_add, ZB, Int.reduceToNat, Nat.reduceLT, Nat.reduceLeDiff, Int.reduceLE, Int.reduceLT, Nat.reduceEqDiff, Nat.reduceSub, SB, SV.known, packR, ne_eq, reduceCtorEq, Nat.reduceEqDiff, ↓reduceIte, if_true, if_false, eq_self, Nat.reduceAdd, Nat.reduceMul, Nat.reduceSub, forall_const, oneCellS, litOne, flat1, Kd.isSca, flat, TYB]
          exact ⟨h1n, i1, next _ _ _ (hE0.up (by (repeat (first | refine re_up ?_ (by decide) | exact fun _ _ => rfl))) (by (intro i o hi ho; (repeat rw [hget_cons, if_neg (by omega)]); exact ho)) (by omega))⟩
      · simp -implicitDefEqProofs only [s18, s19, s20, s21, ha, hb, hA, tkA, hB, tkB, hc, ra, rb, fa, fb, la, lb, tka, tkb, nA, nB, nAi, nBi, e0, e1, e2, h9, FormOf_F, sFormOf_F, CountReached_F, sCountReached_F, ReachedAll_F, sReachedAll_F, FewestTo_F, sFewestTo_F, CountColors_F, SwapTubes_F, UsefulPours_F, Wrap.ap, eqI_rack, eqI_a6v, Nat.add_assoc, add_self, self_add, add_add, ZB, Int.reduceToNat, Nat.reduceLT, Nat.reduceLeDiff, Int.reduceLE, Int.reduceLT, Nat.reduceEqDiff, Nat.reduceSub, SB, SV.known, packR, ne_eq, reduceCtorEq, Nat.reduceEqDiff, ↓reduceIte, if_true, if_false, eq_self, Nat.reduceAdd, Nat.reduceMul, Nat.reduceSub, forall_const, oneCellS, litOne, flat1, Kd.isSca, flat, TYB]
        exact ⟨h1n, next _ _ _ (hE0.up (by (repeat (first | refine re_up ?_ (by decide) | exact fun _ _ => rfl))) (by (intro i o hi ho; (repeat rw [hget_cons, if_neg (by omega)]); exact ho)) (by omega))⟩
set_option maxHeartbeats 2000000 in
theorem re_b14 (S : Env) (H : Heap) (n : Nat) (R U A B : List Int) (k : Int) (r f u a b : Nat) (hE : ReS S H n R U A B k r f u a b) (hR : R.length = 24) (hU : U.length = 24) (hk : In64 k) (hA : A.length = 24) (hB : B.length = 24) : codeVC (⟨Tryz.prog, tys, [(6, vBig_F), (8, FormOf_F), (9, sFormOf_F), (12, CountReached_F), (13, sCountReached_F), (14, ReachedAll_F), (15, sReachedAll_F), (17, FewestTo_F), (18, sFewestTo_F), (19, CountColors_F), (20, SwapTubes_F)], [(7, DrawFormOf_F), (11, vCut_F), (10, DrawCountReached_F), (16, DrawFewestTo_F), (21, UsefulPours_F)], true, true, 1, [], []⟩ : Cx) 1 (cdN 14 (Tryz.f3.body.getD .skip)) S H n reK := by
  have hE0 := hE
  obtain ⟨s3, s4, s5, s8, s9, s10, s11, s14, s15, s18, s19, s20, s21, hr, hf, hu, ha, hb, hlt, h1n⟩ := hE
  have tkR : R.take 24 = R := List.take_of_length_le (by omega)
  rw [cd_cut (show cdN 14 (Tryz.f3.body.getD .skip) = .seq (cd1 (cdN 14 (Tryz.f3.body.getD .skip))) (cdN 15 (Tryz.f3.body.getD .skip)) from rfl)]
  have next := fun S' H' n' (h : ReS S' H' n' R U A B k r f u a b) => re_b15 S' H' n' R U A B k r f u a b h hU hk hA hB
  obtain ⟨c16, e16⟩ : ∃ c, c = cdN 15 (Tryz.f3.body.getD .skip) := ⟨_, rfl⟩
  rw [← e16] at next ⊢
  simp only [cdN, cd1, cd2, Tryz.f3, Option.getD_some]
  cases hc : rackB R
  · simp -implicitDefEqProofs only [s5, hc, FormOf_F, sFormOf_F, CountReached_F, sCountReached_F, ReachedAll_F, sReachedAll_F, FewestTo_F, sFewestTo_F, CountColors_F, SwapTubes_F, UsefulPours_F, Wrap.ap, eqI_rack, eqI_a6v, Nat.add_assoc, add_self, self_add, add_add, ZB, Int.reduceToNat, Nat.reduceLT, Nat.reduceLeDiff, Int.reduceLE, Int.reduceLT, Nat.reduceEqDiff, Nat.reduceSub, SB, SV.known, packR, ne_eq, reduceCtorEq, Nat.reduceEqDiff, ↓reduceIte, if_true, if_false, eq_self, Nat.reduceAdd, Nat.reduceMul, Nat.reduceSub, forall_const, oneCellS, litOne, flat1, Kd.isSca, flat, TYB]
    exact next _ _ _ (hE0.up (by (repeat (first | refine re_up ?_ (by decide) | exact fun _ _ => rfl))) (fun _ _ _ h => h) (Nat.le_refl _))
  · obtain ⟨q1, q2, q3, q4, q5, q6, q7, q8⟩ := re_form hR hc
    have lR := frm_len hR
    have lx := exT_len hR (show 1 < 6 by omega) (show 4 < 6 by omega)
    have lc := cntL_len R
    have tkr : (frm R).take 24 = frm R := List.take_of_length_le (by omega)
    have tkx : (exT R 1 4).take 24 = exT R 1 4 := List.take_of_length_le (by omega)
    have tkc : (cntL R).take 6 = cntL R := List.take_of_length_le (by omega)
    rw [q1] at hf
    have nR : ∀ i, (r = n + i) = False := fun i => by simp; omega
    have nF : ∀ i, (f = n + i) = False := fun i => by simp; omega
    have nR0 : (r = n) = False := by simp; omega
    have nF0 : (f = n) = False := by simp; omega
    simp -implicitDefEqProofs only [s3, s4, s5, hr, hf, hc, hR, tkR, q1, q2, q3, q4, q5, q6, q7, q8, lR, lx, lc, tkr, tkx, tkc, nR, nF, nR0, nF0, FormOf_F, sFormOf_F, CountReached_F, sCountReached_F, ReachedAll_F, sReachedAll_F, FewestTo_F, sFewestTo_F, CountColors_F, SwapTubes_F, UsefulPours_F, Wrap.ap, eqI_rack, eqI_a6v, Nat.add_assoc, add_self, self_add, add_add, ZB, Int.reduceToNat, Nat.reduceLT, Nat.reduceLeDiff, Int.reduceLE, Int.reduceLT, Nat.reduceEqDiff, Nat.reduceSub, SB, SV.known, packR, ne_eq, reduceCtorEq, Nat.reduceEqDiff, ↓reduceIte, if_true, if_false, eq_self, Nat.reduceAdd, Nat.reduceMul, Nat.reduceSub, forall_const, oneCellS, litOne, flat1, Kd.isSca, flat, TYB]
    exact ⟨h1n, next _ _ _ (hE0.up (by (repeat (first | refine re_up ?_ (by decide) | exact fun _ _ => rfl))) (by (intro i o hi ho; (repeat rw [hget_cons, if_neg (by omega)]); exact ho)) (by omega))⟩
set_option maxHeartbeats 4000000 in
theorem lawFnReached_vc (cv : SV) (H0 : Heap) (hB : BytA cv H0) (hrb : vBig_F [cv] H0 = some (True, .bool false)) (hkn : cv.known = true) (hw0 : hwf 1 H0) (hcap : capOK cv) :
    codeVC (⟨Tryz.prog, tys, [(6, vBig_F), (8, FormOf_F), (9, sFormOf_F), (12, CountReached_F), (13, sCountReached_F), (14, ReachedAll_F), (15, sReachedAll_F), (17, FewestTo_F), (18, sFewestTo_F), (19, CountColors_F), (20, SwapTubes_F)], [(7, DrawFormOf_F), (11, vCut_F), (10, DrawCountReached_F), (16, DrawFewestTo_F), (21, UsefulPours_F)], true, true, 1, [], []⟩ : Cx) 1 (Tryz.f3.body.getD .skip) (argS 0 [cv]) H0 1 reK := by
  have hkm := hkn
  simp only [SV.known] at hkm
  rw [show (Tryz.f3.body.getD .skip) = cdP 14 (Tryz.f3.body.getD .skip) (cdN 14 (Tryz.f3.body.getD .skip)) from rfl]
  have next := re_b14
  obtain ⟨c14, e14⟩ : ∃ c, c = cdN 14 (Tryz.f3.body.getD .skip) := ⟨_, rfl⟩
  rw [← e14] at next ⊢
  simp only [cdP, Tryz.f3, Option.getD_some]
  simp -implicitDefEqProofs only [argS, hrb, hkn, hkm, FormOf_F, sFormOf_F, CountReached_F, sCountReached_F, ReachedAll_F, sReachedAll_F, FewestTo_F, sFewestTo_F, CountColors_F, SwapTubes_F, UsefulPours_F, Wrap.ap, eqI_rack, eqI_a6v, Nat.add_assoc, add_self, self_add, add_add, ZB, Int.reduceToNat, Nat.reduceLT, Nat.reduceLeDiff, Int.reduceLE, Int.reduceLT, Nat.reduceEqDiff, Nat.reduceSub, SB, SV.known, packR, ne_eq, reduceCtorEq, Nat.reduceEqDiff, ↓reduceIte, if_true, if_false, eq_self, Nat.reduceAdd, Nat.reduceMul, Nat.reduceSub, forall_const, oneCellS, litOne, flat1, Kd.isSca, flat, TYB]
  refine drawF_use hB (Nat.le_refl _) fun R H1 n1 hR hRi hK1 => ?_
  have tkR : R.take 24 = R := List.take_of_length_le (by omega)
  have lF := foF_len hR
  have tkF : (foF R).take 24 = foF R := List.take_of_length_le (by omega)
  have hle1 := hK1.le
  simp -implicitDefEqProofs only [hR, tkR, lF, tkF, hkn, hkm, FormOf_F, sFormOf_F, CountReached_F, sCountReached_F, ReachedAll_F, sReachedAll_F, FewestTo_F, sFewestTo_F, CountColors_F, SwapTubes_F, UsefulPours_F, Wrap.ap, eqI_rack, eqI_a6v, Nat.add_assoc, add_self, self_add, add_add, ZB, Int.reduceToNat, Nat.reduceLT, Nat.reduceLeDiff, Int.reduceLE, Int.reduceLT, Nat.reduceEqDiff, Nat.reduceSub, SB, SV.known, packR, ne_eq, reduceCtorEq, Nat.reduceEqDiff, ↓reduceIte, if_true, if_false, eq_self, Nat.reduceAdd, Nat.reduceMul, Nat.reduceSub, forall_const, oneCellS, litOne, flat1, Kd.isSca, flat, TYB]
  refine ⟨hle1, cut_use (hB.fr hw0 (fun i o hi ho => (by (repeat rw [hget_cons, if_neg (by omega)]); exact hK1.fr i o hi ho))) hcap (.inl rfl) (by omega) fun b1 l1 c1 H2 n2 hB2 hK2 => ?_⟩
  have hle2 := hK2.le
  simp -implicitDefEqProofs only [hR, tkR, lF, tkF, hkn, hkm, FormOf_F, sFormOf_F, CountReached_F, sCountReached_F, ReachedAll_F, sReachedAll_F, FewestTo_F, sFewestTo_F, CountColors_F, SwapTubes_F, UsefulPours_F, Wrap.ap, eqI_rack, eqI_a6v, Nat.add_assoc, add_self, self_add, add_add, ZB, Int.reduceToNat, Nat.reduceLT, Nat.reduceLeDiff, Int.reduceLE, Int.reduceLT, Nat.reduceEqDiff, Nat.reduceSub, SB, SV.known, packR, ne_eq, reduceCtorEq, Nat.reduceEqDiff, ↓reduceIte, if_true, if_false, eq_self, Nat.reduceAdd, Nat.reduceMul, Nat.reduceSub, forall_const, oneCellS, litOne, flat1, Kd.isSca, flat, TYB]
  refine drawCR_use hB2 (by omega) fun U k H3 n3 hU hUi hk hK3 => ?_
  have tkU : U.take 24 = U := List.take_of_length_le (by omega)
  have hle3 := hK3.le
  simp -implicitDefEqProofs only [hU, tkU, hkn, hkm, FormOf_F, sFormOf_F, CountReached_F, sCountReached_F, ReachedAll_F, sReachedAll_F, FewestTo_F, sFewestTo_F, CountColors_F, SwapTubes_F, UsefulPours_F, Wrap.ap, eqI_rack, eqI_a6v, Nat.add_assoc, add_self, self_add, add_add, ZB, Int.reduceToNat, Nat.reduceLT, Nat.reduceLeDiff, Int.reduceLE, Int.reduceLT, Nat.reduceEqDiff, Nat.reduceSub, SB, SV.known, packR, ne_eq, reduceCtorEq, Nat.reduceEqDiff, ↓reduceIte, if_true, if_false, eq_self, Nat.reduceAdd, Nat.reduceMul, Nat.reduceSub, forall_const, oneCellS, litOne, flat1, Kd.isSca, flat, TYB]
  have up2 : ∀ i o, i < n1 → hget H1 i = some o → hget H2 i = some o := fun i o hi ho => hK2.fr i o (by omega) (by (repeat rw [hget_cons, if_neg (by omega)]); exact ho)
  have up3 : ∀ i o, i < n1 → hget H1 i = some o → hget H3 i = some o := fun i o hi ho => hK3.fr i o (by omega) (up2 i o hi ho)
  refine ⟨by omega, cut_use (hB.fr hw0 (fun i o hi ho => (by (repeat rw [hget_cons, if_neg (by omega)]); exact up3 i o (by omega) (hK1.fr i o hi ho)))) hcap (.inr rfl) (by omega) fun b4 l4 c4 H4 n4 hB4 hK4 => ?_⟩
  have hle4 := hK4.le
  simp -implicitDefEqProofs only [hkn, hkm, FormOf_F, sFormOf_F, CountReached_F, sCountReached_F, ReachedAll_F, sReachedAll_F, FewestTo_F, sFewestTo_F, CountColors_F, SwapTubes_F, UsefulPours_F, Wrap.ap, eqI_rack, eqI_a6v, Nat.add_assoc, add_self, self_add, add_add, ZB, Int.reduceToNat, Nat.reduceLT, Nat.reduceLeDiff, Int.reduceLE, Int.reduceLT, Nat.reduceEqDiff, Nat.reduceSub, SB, SV.known, packR, ne_eq, reduceCtorEq, Nat.reduceEqDiff, ↓reduceIte, if_true, if_false, eq_self, Nat.reduceAdd, Nat.reduceMul, Nat.reduceSub, forall_const, oneCellS, litOne, flat1, Kd.isSca, flat, TYB]
  refine drawFT_use hB4 (by omega) fun A B H5 n5 hA hAi hB5 hBi hK5 => ?_
  have hle5 := hK5.le
  have tkA : A.take 24 = A := List.take_of_length_le (by omega)
  have tkB : B.take 24 = B := List.take_of_length_le (by omega)
  have up5 : ∀ i o, i < n3 → hget H3 i = some o → hget H5 i = some o := fun i o hi ho => hK5.fr i o (by omega) (hK4.fr i o (by omega) (by (repeat rw [hget_cons, if_neg (by omega)]); exact ho))
  have gR : hget H5 n1 = some (.ints R 27) := up5 _ _ (by omega) (hK3.fr _ _ (by omega) (hK2.fr _ _ (by omega) (by simp [hget_cons])))
  have gF : hget H5 (n1 + 1) = some (.ints (foF R) 27) := up5 _ _ (by omega) (hK3.fr _ _ (by omega) (hK2.fr _ _ (by omega) (by simp [hget_cons])))
  have gW : hget H5 (n1 + 2) = some (.ints (foF R) 27) := up5 _ _ (by omega) (hK3.fr _ _ (by omega) (hK2.fr _ _ (by omega) (by simp [hget_cons])))
  have gU : hget H5 n3 = some (.ints U 27) := hK5.fr _ _ (by omega) (hK4.fr _ _ (by omega) (by simp [hget_cons]))
  have a1 : ∀ i, (n1 + 1 = n5 + i) = False := fun i => by simp; omega
  have a2 : ∀ i, (n1 + 2 = n5 + i) = False := fun i => by simp; omega
  have a3 : (n1 + 1 = n5) = False := by simp; omega
  have a4 : (n1 + 2 = n5) = False := by simp; omega
  simp -implicitDefEqProofs only [hA, tkA, hB5, tkB, hkn, hkm, gF, gW, lF, tkF, a1, a2, a3, a4, FormOf_F, sFormOf_F, CountReached_F, sCountReached_F, ReachedAll_F, sReachedAll_F, FewestTo_F, sFewestTo_F, CountColors_F, SwapTubes_F, UsefulPours_F, Wrap.ap, eqI_rack, eqI_a6v, Nat.add_assoc, add_self, self_add, add_add, ZB, Int.reduceToNat, Nat.reduceLT, Nat.reduceLeDiff, Int.reduceLE, Int.reduceLT, Nat.reduceEqDiff, Nat.reduceSub, SB, SV.known, packR, ne_eq, reduceCtorEq, Nat.reduceEqDiff, ↓reduceIte, if_true, if_false, eq_self, Nat.reduceAdd, Nat.reduceMul, Nat.reduceSub, forall_const, oneCellS, litOne, flat1, Kd.isSca, flat, TYB]
  refine ⟨by omega, next _ _ _ R U A B k n1 (n1 + 1) n3 n5 (n5 + 1) ⟨rfl, rfl, rfl, rfl, rfl, rfl, rfl, rfl, rfl, rfl, rfl, rfl, rfl, ?_, ?_, ?_, ?_, ?_, by omega, by omega⟩ hR hU hk hA hB5⟩
  · (repeat rw [hget_cons, if_neg (by omega)]); exact gR
  · (repeat rw [hget_cons, if_neg (by omega)]); exact gF
  · (repeat rw [hget_cons, if_neg (by omega)]); exact gU
  · simp [hget_cons]
  · simp [hget_cons]
theorem lawFnReached (L : List Int) (off len cap : Nat) (hlc : len ≤ cap) (_ : cap ≤ maxLen) (hLl : L.length = len) (hLb : ∀ x ∈ L, 0 ≤ x ∧ x ≤ 255) :
    PureH Tryz.prog 3 [.slice 0 off len cap] [(0, .winU off L)] (.bool true) := by
  by_cases hbig : (65536 : Int) < (len : Int)
  · refine pure_of_vc (X := ⟨Tryz.prog, tys, [(6, vBig_F)], [], true, true, 1, [], []⟩) fn_3 ⟨tys_ok, (.cons vBig_T .nil), .nil, mixed⟩ (n0 := 1) (Nat.le_of_ble_eq_true rfl) (by simp [wfL, SV.wf]) (wfH_spec (by simp [wfH, SObj.wf])) (Nat.le_refl _) (fun _ => by simp [SV.wf, wfL]) ?_
    simp -implicitDefEqProofs only [Tryz.f3, Option.getD_some, argS, vBig_F, hbig, ZB, Int.reduceToNat, Nat.reduceLT, Nat.reduceLeDiff, Int.reduceLE, Int.reduceLT, Nat.reduceEqDiff, Nat.reduceSub, SB, SV.known, packR, ne_eq, reduceCtorEq, Nat.reduceEqDiff, ↓reduceIte, if_true, if_false, eq_self, Nat.reduceAdd, Nat.reduceMul, Nat.reduceSub, forall_const, oneCellS, litOne, flat1, Kd.isSca, flat, TYB]
  · refine pure_of_vc (X := ⟨Tryz.prog, tys, [(6, vBig_F), (8, FormOf_F), (9, sFormOf_F), (12, CountReached_F), (13, sCountReached_F), (14, ReachedAll_F), (15, sReachedAll_F), (17, FewestTo_F), (18, sFewestTo_F), (19, CountColors_F), (20, SwapTubes_F)], [(7, DrawFormOf_F), (11, vCut_F), (10, DrawCountReached_F), (16, DrawFewestTo_F), (21, UsefulPours_F)], true, true, 1, [], []⟩) (show FnOK Tryz.prog 3 Tryz.f3 (Tryz.f3.body.getD .skip) [] [] from ⟨Tryz.func3, rfl, by kernel_rfl, by kernel_rfl⟩) ⟨tys_ok, (.cons vBig_T (.cons FormOf_T (.cons sFormOf_T (.cons CountReached_T (.cons sCountReached_T (.cons ReachedAll_T (.cons sReachedAll_T (.cons FewestTo_T (.cons sFewestTo_T (.cons CountColors_T (.cons SwapTubes_T .nil))))))))))), (.cons DrawFormOf_T (.cons vCut_T (.cons DrawCountReached_T (.cons DrawFewestTo_T (.cons UsefulPours_T .nil))))), mixed⟩ (n0 := 1) (Nat.le_of_ble_eq_true rfl) (by simp [wfL, SV.wf]) (wfH_spec (by simp [wfH, SObj.wf])) (Nat.le_refl _) (fun _ => by simp [SV.wf, wfL]) ?_
    exact lawFnReached_vc _ _ (.inr ⟨0, off, len, cap, L, rfl, by simp [hget_cons], hLl, by omega, hLb⟩) (by simp [vBig_F, hget_cons, hbig]) rfl (wfH_spec (by simp [wfH, SObj.wf])) hlc
theorem lawFnReachedN : PureH Tryz.prog 3 [.nils] [] (.bool true) := by
  · refine pure_of_vc (X := ⟨Tryz.prog, tys, [(6, vBig_F), (8, FormOf_F), (9, sFormOf_F), (12, CountReached_F), (13, sCountReached_F), (14, ReachedAll_F), (15, sReachedAll_F), (17, FewestTo_F), (18, sFewestTo_F), (19, CountColors_F), (20, SwapTubes_F)], [(7, DrawFormOf_F), (11, vCut_F), (10, DrawCountReached_F), (16, DrawFewestTo_F), (21, UsefulPours_F)], true, true, 1, [], []⟩) (show FnOK Tryz.prog 3 Tryz.f3 (Tryz.f3.body.getD .skip) [] [] from ⟨Tryz.func3, rfl, by kernel_rfl, by kernel_rfl⟩) ⟨tys_ok, (.cons vBig_T (.cons FormOf_T (.cons sFormOf_T (.cons CountReached_T (.cons sCountReached_T (.cons ReachedAll_T (.cons sReachedAll_T (.cons FewestTo_T (.cons sFewestTo_T (.cons CountColors_T (.cons SwapTubes_T .nil))))))))))), (.cons DrawFormOf_T (.cons vCut_T (.cons DrawCountReached_T (.cons DrawFewestTo_T (.cons UsefulPours_T .nil))))), mixed⟩ (n0 := 1) (Nat.le_of_ble_eq_true rfl) (by simp [wfL, SV.wf]) (wfH_spec (by simp [wfH, SObj.wf])) (Nat.le_refl _) (fun _ => by simp [SV.wf, wfL]) ?_
    exact lawFnReached_vc _ _ (.inl rfl) (by simp [vBig_F]) rfl (wfH_spec (by simp [wfH, SObj.wf])) trivial
end Go.Proofs.YtmccafjblhbmkaaGreat
set_option maxRecDepth 100000
set_option linter.unusedSimpArgs false
set_option linter.unusedVariables false
namespace Go.Proofs.YtmccafjblhbmkaaGreat
open Go Go.RowKit Go.ChangeShapes Go.WideShapes Go.ChangeAt

theorem own_knob : ownKnob Tryz.prog.godebug = none := by kernel_rfl
theorem laid_out : laidOutB Tryz.prog = true := by kernel_rfl

theorem trodAll_below {H : Type} {enc : TypeId × Value → H} {W W' : World} (hb : Below W.heap.size W W') : ∀ {ts : List TypeId} {vs : List Value} {ds : List (DataW H)} {ps : List MemPlace}, DataW.TrodAll enc Tryz.prog W 0 (fun _ => true) true ts vs ds ps →
    (∀ t ∈ ts, Tryz.prog.readableRec t = true ∧ t < Tryz.prog.types.size) → (∀ x ∈ ps, x.block < W.heap.size) → DataW.TrodAll enc Tryz.prog W' 0 (fun b => decide (b < W.heap.size)) true ts vs ds ps
  | [], vs, ds, ps, h, _, _ => by
    obtain ⟨rfl, rfl, rfl⟩ := trodAll_nil h
    exact trodAll_mk0
  | t :: ts, vs, ds, ps, h, hr, hp => by
    obtain ⟨v0, vs0, d0, ds0, p0, q0, rfl, rfl, rfl, h0, r0⟩ := trodAll_cons h
    exact trodAll_cons_mk (Below.trod laid_out (hr t (by simp)).1 (hr t (by simp)).2 h0 hb fun x hx => hp x (by simp [hx])) (trodAll_below hb r0 (fun t' ht' => hr t' (by simp [ht'])) fun x hx => hp x (by simp [hx]))

theorem law_post {H : Type} {enc : TypeId × Value → H} {f : Func} {s : ChangeSpec} {W W' : World} {args : Array Value} {ds gs : List (DataW H)} {before : List MemPlace} (hb : Below W.heap.size W W') (hW : DataW.Whole enc Tryz.prog f.params.toList s.vars false W args.toList ds gs before)
    (hv : s.vars = []) (hrt : f.resultTypes = #[4]) (hs1 : (s.fn H (ds ++ gs)).results = [.lit (.bool true)]) (hs2 : (s.fn H (ds ++ gs)).args = ds) (hs3 : (s.fn H (ds ++ gs)).vars = []) (hr : ∀ t ∈ f.params.toList, Tryz.prog.readableRec t = true ∧ t < Tryz.prog.types.size) :
    s.post enc Tryz.prog f false true false false W args (.bool true) W' := by
  have hW' := hW
  obtain ⟨p, q, hA, hV, rfl, hfz, hnd⟩ := hW
  rw [hv] at hV
  obtain ⟨rfl, rfl⟩ := trodVars_none hV
  refine ⟨ds, _, _, [], p, [], hW', ?_, ?_, ?_, hb.frame _, fun h => by cases h⟩
  · rw [hs1, hrt]
    exact trodAll_cons_mk (shut_bool Tryz.underlying4 true) trodAll_mk0
  · rw [hs2]
    exact trodAll_below hb hA hr fun x hx => by simpa using hW'.lt x (by simpa using hx)
  · rw [hv, hs3]
    rfl
end Go.Proofs.YtmccafjblhbmkaaGreat
set_option maxRecDepth 100000
set_option linter.unusedSimpArgs false
set_option linter.unusedVariables false
namespace Go.Proofs.YtmccafjblhbmkaaGreat
open Go Go.RowKit Go.ChangeShapes Go.WideShapes Go.ChangeAt

theorem add_off (b o n : Nat) : (Addr.mk b o none).add n = ⟨b, o + n, none⟩ := by
  unfold Addr.add
  split
  · rename_i h; rw [h]; rfl
  · rfl
def intOf (v : Option Value) : Int := match v with
  | some (.int _ n) => n
  | _ => 0
end Go.Proofs.YtmccafjblhbmkaaGreat
set_option maxRecDepth 100000
set_option linter.unusedSimpArgs false
set_option linter.unusedVariables false
namespace Go.Proofs.YtmccafjblhbmkaaGreat
open Go Go.RowKit Go.ChangeShapes Go.WideShapes Go.ChangeAt
/-- An argument that is a slice of bytes. -/
theorem open_by {H : Type} {enc : TypeId × Value → H} {W : World} {b0 : Nat} {sp : Nat → Bool} {held : Bool} {t e : Nat} {v : Value} {d : DataW H} {ps : List MemPlace} (ht : Tryz.prog.underlying t = some (.slice e)) (hc : Tryz.prog.cellsOf e = 1) (he : Tryz.prog.underlying e = some (.int .u8))
    (hval : Value.okWide Tryz.prog W .any b0 t v) (hd : DataW.Trod enc Tryz.prog W 0 sp held t v d ps) :
    v = .slice none 0 0 ∨ ∃ (b off len cap : Nat) (L : List Int), v = .slice (some ⟨b, off, none⟩) len cap ∧ len ≤ cap ∧ cap ≤ maxLen ∧ L.length = len ∧ (∀ x ∈ L, 0 ≤ x ∧ x ≤ 255) ∧ SObj.sat (fun _ => b) W b (.winU off L) := by
  unfold Value.okWide at hval
  rw [ht] at hval
  simp only [Cell.okWide] at hval
  rw [ht] at hval
  obtain ⟨fuel, hd⟩ := hd
  rcases DataW.trod_slice ht hd with ⟨h0, _⟩ | ⟨a, len, cap, elems, rest, n, _, hcs, _, _, hl, hm, hlen, hel, _⟩
  · left
    cases v <;> simp_all [Value.cells, Cell.ok]
  · right
    have hv : v = .slice (some a) len cap := by
      cases v <;> simp_all [Value.cells, Cell.ok]
    subst hv
    simp only [Cell.ok, ht] at hval
    obtain ⟨_, _, _, hsp, row, cells, hshape, _⟩ := hval
    obtain ⟨b, off, spot⟩ := a
    simp only at hsp hshape
    subst hsp
    unfold World.shape? at hshape
    split at hshape
    · rename_i c el fz hb
      have each : ∀ k, k < len → ∃ n, c[off + k]? = some (.int .u8 n) ∧ (0 ≤ n ∧ n ≤ 255) := by
        intro k hk
        have h1 := hel k hk
        obtain ⟨y, hy⟩ : ∃ y, elems[k]? = some y := ⟨elems[k]'(by omega), List.getElem?_eq_getElem (by omega)⟩
        rw [hy, hc, Option.bind_eq_some_iff] at h1
        obtain ⟨cs, hcs, h1⟩ := h1
        obtain ⟨m, rfl, _, hw⟩ := DataW.trod_int he h1
        have h2 := (World.cells?_some hcs).2.2 0 (by omega)
        rw [add_off, add_off] at h2
        unfold World.cell? at h2
        simp only [hb] at h2
        refine ⟨m, by simpa using h2, by simpa [Lit.wf, IntKind.min, IntKind.max, IntKind.signed, IntKind.bits] using hw⟩
      refine ⟨b, off, len, cap, (List.range len).map fun k => intOf c[off + k]?, rfl, hl, hm, by simp, fun x hx => ?_, c, el, fz, hb, fun i hi => ?_⟩
      · obtain ⟨k, hk, rfl⟩ := List.mem_map.1 hx
        obtain ⟨m, h1, h2⟩ := each k (List.mem_range.1 hk)
        rw [h1]; exact h2
      · simp at hi
        obtain ⟨m, h1, h2⟩ := each i hi
        rw [h1]
        simp [List.getD, hi, h1, intOf]
    · cases hshape
theorem HR.winU_one {b off : Nat} {L : List Int} {W : World} (h : SObj.sat (fun _ => b) W b (.winU off L)) : HR (fun _ => b) [(0, .winU off L)] W where
  at_ := fun k o hk _ => by
    rw [hget_cons] at hk
    split at hk
    · cases hk; exact h
    · cases hk
  inj := fun k j o o' h1 _ h2 _ _ => by
    rw [hget_cons] at h1 h2
    split at h1
    · split at h2
      · omega
      · cases h2
    · cases h1
end Go.Proofs.YtmccafjblhbmkaaGreat
