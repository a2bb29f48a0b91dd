/- Texts of this claim, joined (O, H, Q, Val, Bnd, View, Upd). -/
import Derived.Test.YtopfnkmlgcjpbaaQ1
import Derived.Test.YtopfnkmlgcjpbaaQ2
import Derived.Test.YtopfnkmlgcjpbaaQ3
import Derived.Test.YtopfnkmlgcjpbaaQ4
/- Walks: MostPoured. -/
set_option maxRecDepth 100000
set_option linter.unusedSimpArgs false
set_option linter.unusedVariables false
namespace Go.Proofs.Ytopfnkmlgcjpbaa
open Go Go.RowKit
theorem PL_bd (R : List Int) (m : Nat) (hm : m ≤ 36) : ∀ x ∈ PL R m, 0 ≤ x ∧ x ≤ 5 := by
  intro x hx
  unfold PL at hx
  obtain ⟨k, hk, hx⟩ := List.mem_flatMap.1 hx
  have := List.mem_range.1 hk
  unfold prK at hx
  split at hx
  · simp at hx; omega
  · simp at hx
theorem PL_even (R : List Int) : ∀ m, ∃ n, (PL R m).length = n * 2 ∧ n ≤ m
  | 0 => ⟨0, rfl, by omega⟩
  | m + 1 => by
    obtain ⟨n, h1, h2⟩ := PL_even R m
    rw [PL_succ, List.length_append, h1]
    unfold prK
    split
    · exact ⟨n + 1, by simp; omega, by omega⟩
    · exact ⟨n, by simp, by omega⟩
def pours_F : List SV → Heap → Nat → Nat → K1 → Prop
  | [.arr R], H, n, _, κ => R.length = 24 ∧ freshK .one (PL R 36) ((PL R 36).length / 2) 2 44 true H n κ
  | _, _, _, _, _ => False
theorem pours_T : ∀ args H n m κ, pours_F args H n m κ → GenOK Try.prog 84 args H n m κ := by
  intro args H n m κ h
  unfold pours_F at h
  split at h
  · exact gen_of_fresh (pours_ok _ h.1) (fun k o hk => by cases hk) h.2
  · exact h.elim
def l2Pours_F : List SV → Heap → Nat → Nat → K1 → Prop
  | [.arr R], H, n, _, κ => (R.length = 24 ∧ rackB R = true) ∧ freshK .one (PL R 36) ((PL R 36).length / 2) 2 44 false H n κ
  | _, _, _, _, _ => False
theorem l2Pours_T : ∀ args H n m κ, l2Pours_F args H n m κ → GenOK Try.prog 85 args H n m κ := by
  intro args H n m κ h
  unfold l2Pours_F at h
  split at h
  · exact gen_of_fresh (l2Pours_ok _ h.1.1 h.1.2) (fun k o hk => by cases hk) h.2
  · exact h.elim
def stepM (R : List Int) (s : Int × List Int) (a b : Int) : Int × List Int := if s.1 < pmN R a.toNat b.toNat then (pmN R a.toNat b.toNat, [a, b]) else s
def mostF (R P : List Int) : Nat → Int × List Int
  | 0 => (0, [0, 0])
  | k + 1 => stepM R (mostF R P k) (P.getD (k * 2) 0) (P.getD (k * 2 + 1) 0)
theorem mostF_zero (R P : List Int) : mostF R P 0 = (0, [0, 0]) := rfl
theorem mostF_succ (R P : List Int) (k : Nat) : mostF R P (k + 1) = stepM R (mostF R P k) (P.getD (k * 2) 0) (P.getD (k * 2 + 1) 0) := rfl
def mpN (R : List Int) : Int := if rackB R = true then (mostF R (PL R 36) ((PL R 36).length / 2)).1 else 0
def mpL (R : List Int) : List Int := if rackB R = true then (mostF R (PL R 36) ((PL R 36).length / 2)).2 else [0, 0]
theorem mostF_len (R P : List Int) : ∀ k, (mostF R P k).2.length = 2
  | 0 => rfl
  | k + 1 => by
    rw [mostF_succ]
    unfold stepM
    split
    · rfl
    · exact mostF_len R P k
theorem mpL_len (R : List Int) : (mpL R).length = 2 := by
  unfold mpL
  split
  · exact mostF_len _ _ _
  · rfl
theorem take2_drop (L : List Int) (o : Nat) (h : o + 2 ≤ L.length) : (L.drop o).take 2 = [L.getD o 0, L.getD (o + 1) 0] := by
  rw [List.drop_eq_getElem_cons (show o < L.length by omega), List.drop_eq_getElem_cons (show o + 1 < L.length by omega)]
  simp only [List.getD, List.getElem?_eq_getElem (show o < L.length by omega), List.getElem?_eq_getElem (show o + 1 < L.length by omega), Option.getD_some, List.take_succ_cons, List.take_zero]
--@tbl MostPoured = impl.MostPoured
--@tbl sMostPoured = spec.MostPoured
theorem MostPoured_ok (R : List Int) (hR : R.length = 24) : PureH Try.prog 21 [.arr R] [] (.tup [.int (mpN R), .arr (mpL R), .bool (decide (0 < mpN R))]) := by
  have tkR : R.take 24 = R := List.take_of_length_le (by omega)
  have r2 : List.take 2 (List.replicate 2 (0 : Int)) = [0, 0] := rfl
  obtain ⟨m, hm, hm36⟩ := PL_even R 36
  have hbd : Bd 0 5 (PL R 36) := PL_bd R 36 (by omega)
  unfold mpN mpL
  cases hr : rackB R
  · refine pure_of_vc (X := ⟨Try.prog, tys, [(11, IsRack_F), (71, pour_F)], [(84, pours_F)], true, true, 0, [], []⟩) fn_21 ⟨tys_ok, (.cons IsRack_T (.cons pour_T .nil)), (.cons pours_T .nil), mixed⟩ (n0 := 0) (Nat.le_of_ble_eq_true rfl) (by simp [wfL, SV.wf]) (wfH_spec (by simp [wfH, SObj.wf])) (Nat.le_refl _) (fun _ => by simp [SV.wf, wfL]) ?_
    simp -implicitDefEqProofs only [Try.f21, Option.getD_some, argS, IsRack_F, pour_F, pours_F, hR, tkR, hr, r2, freshK, Wrap.ap, hm, ZB, Int.reduceToNat, Nat.reduceLT, Nat.reduceLeDiff, Int.reduceLE, Int.reduceLT, Nat.reduceEqDiff, Nat.reduceSub, SB, SV.known, packR, ne_eq, reduceCtorEq, Nat.reduceEqDiff, ↓reduceIte, if_true, if_false, eq_self, Nat.reduceAdd, Nat.reduceMul, Nat.reduceSub, forall_const, oneCellS, litOne, flat1, Kd.isSca, flat, TYB]
  · refine pure_of_vc (X := ⟨Try.prog, tys, [(11, IsRack_F), (71, pour_F)], [(84, pours_F)], true, true, 0, [], []⟩) fn_21 ⟨tys_ok, (.cons IsRack_T (.cons pour_T .nil)), (.cons pours_T .nil), mixed⟩ (n0 := 0) (Nat.le_of_ble_eq_true rfl) (by simp [wfL, SV.wf]) (wfH_spec (by simp [wfH, SObj.wf])) (Nat.le_refl _) (fun _ => by simp [SV.wf, wfL]) ?_
    simp -implicitDefEqProofs only [Try.f21, Option.getD_some, argS, IsRack_F, pour_F, pours_F, hR, tkR, hr, r2, freshK, Wrap.ap, hm, ZB, Int.reduceToNat, Nat.reduceLT, Nat.reduceLeDiff, Int.reduceLE, Int.reduceLT, Nat.reduceEqDiff, Nat.reduceSub, SB, SV.known, packR, ne_eq, reduceCtorEq, Nat.reduceEqDiff, ↓reduceIte, if_true, if_false, eq_self, Nat.reduceAdd, Nat.reduceMul, Nat.reduceSub, forall_const, oneCellS, litOne, flat1, Kd.isSca, flat, TYB]
    generalize PL R 36 = P at *
    refine ⟨fun h0 => ?_, fun h0 cap junk hj => ?_⟩
    · have hm0 : m = 0 := by rw [h0] at hm; simp at hm; omega
      subst hm0
      refine loop_intro (fun _ : Unit => [(1, .ptr 0 0), (3, .ptr 1 0), (6, .ptr 2 0), (5, .int 0), (16, .nils), (17, .int 0), (18, .int 0)]) (fun _ => [(2, .ints (List.replicate 2 0) 44), (1, .ints (List.replicate 2 0) 44), (0, .ints R 27)]) 3 (fun _ => True) (fun _ => 0) ?_ ?_
      · refine ⟨(), trivial, Sub.mk_id ?_ ?_ ?_ ?_ ?_⟩
        all_goals simp only [LB, subS, subH, wfS, wfH, SV.ren, renL, SObj.ren, SV.wf, SObj.wf, wfL, SV.known, Nat.reduceEqDiff, ↓reduceIte, if_true, if_false, eq_self, Nat.reduceAdd, Nat.reduceLT, Nat.reduceLeDiff, implies_true, reduceCtorEq, forall_const]
      · intro _ _
        simp -implicitDefEqProofs only [lk_normal, r2, hR, tkR, hr, ZB, Int.reduceToNat, Nat.reduceLT, Nat.reduceLeDiff, Int.reduceLE, Int.reduceLT, Nat.reduceEqDiff, Nat.reduceSub, SB, SV.known, packR, ne_eq, reduceCtorEq, Nat.reduceEqDiff, ↓reduceIte, if_true, if_false, eq_self, Nat.reduceAdd, Nat.reduceMul, Nat.reduceSub, forall_const, oneCellS, litOne, flat1, Kd.isSca, flat, TYB]
        exact ⟨rfl, rfl, rfl⟩
    have e2 : m * 2 / 2 = m := by omega
    simp only [e2]
    refine loop_intro (fun k : Nat => [(1, .ptr 0 0), (3, .ptr 1 0), (6, .ptr 2 0), (5, .int (mostF R P k).1), (16, .slice 3 0 m cap), (17, .int m), (18, .int k)]) (fun k => [(3, .ints (P ++ junk) 44), (2, .ints (mostF R P k).2 44), (1, .ints (List.replicate 2 0) 44), (0, .ints R 27)]) 4 (fun k => k ≤ m) (fun k => m - k) ?_ ?_
    · refine ⟨0, by omega, Sub.mk_id ?_ ?_ ?_ ?_ ?_⟩
      all_goals simp only [mostF_zero, LB, subS, subH, wfS, wfH, SV.ren, renL, SObj.ren, SV.wf, SObj.wf, wfL, SV.known, Nat.reduceEqDiff, ↓reduceIte, if_true, if_false, eq_self, Nat.reduceAdd, Nat.reduceLT, Nat.reduceLeDiff, implies_true, reduceCtorEq, forall_const]
      all_goals (try simp)
      all_goals rfl
    · intro k hk
      have ml := mostF_len R P k
      have tk2 : (mostF R P k).2.take 2 = (mostF R P k).2 := List.take_of_length_le (by omega)
      by_cases hkm : k < m
      · have eP : List.take 2 (List.drop (k * 2) (P ++ junk)) = [P.getD (k * 2) 0, P.getD (k * 2 + 1) 0] := by
          rw [take2_drop _ _ (by rw [List.length_append]; omega), getD_app _ _ _ (by omega), getD_app _ _ _ (by omega)]
        have pA : 0 ≤ P.getD (k * 2) 0 ∧ P.getD (k * 2) 0 ≤ 5 := hbd.getD (by omega)
        have pB : 0 ≤ P.getD (k * 2 + 1) 0 ∧ P.getD (k * 2 + 1) 0 ≤ 5 := hbd.getD (by omega)
        have lenL : (P ++ junk).length = cap * 2 := by rw [List.length_append]; omega
        have g0 := getD_app P junk (k * 2) (by omega)
        have g1 := getD_app P junk (k * 2 + 1) (by omega)
        simp -implicitDefEqProofs only [lk_normal, IsRack_F, pour_F, pours_F, hR, tkR, hr, eP, g0, g1, lenL, ml, tk2, List.getD_cons_zero, List.getD_cons_succ, ZB, Int.reduceToNat, Nat.reduceLT, Nat.reduceLeDiff, Int.reduceLE, Int.reduceLT, Nat.reduceEqDiff, Nat.reduceSub, SB, SV.known, packR, ne_eq, reduceCtorEq, Nat.reduceEqDiff, ↓reduceIte, if_true, if_false, eq_self, Nat.reduceAdd, Nat.reduceMul, Nat.reduceSub, forall_const, oneCellS, litOne, flat1, Kd.isSca, flat, TYB]
        refine ⟨fun _ => ?_, fun hx => absurd (by omega) hx⟩
        have pl : (pourF R (P.getD (k * 2) 0).toNat (P.getD (k * 2 + 1) 0).toNat).length = 24 := by unfold pourF; rw [pmR_len, hR]
        have d2 : (mostF R P k).2.drop 2 = [] := List.drop_of_length_le (by omega)
        have es := mostF_succ R P k
        (try (and_intros <;> try (first | omega | (unfold In64; omega) | trivial | assumption)))
        all_goals intro hlt
        · rw [stepM, if_pos hlt] at es
          (try (and_intros <;> try (first | omega | (unfold In64; omega) | trivial | assumption)))
          refine ⟨k + 1, by omega, by omega, Sub.mk_id ?_ ?_ ?_ ?_ ?_⟩
          all_goals simp only [es, d2, LB, subS, subH, wfS, wfH, SV.ren, renL, SObj.ren, SV.wf, SObj.wf, wfL, SV.known, Nat.reduceEqDiff, ↓reduceIte, if_true, if_false, eq_self, Nat.reduceAdd, Nat.reduceLT, Nat.reduceLeDiff, implies_true, reduceCtorEq, forall_const]
          all_goals (try simp)
        · rw [stepM, if_neg hlt] at es
          (try (and_intros <;> try (first | omega | (unfold In64; omega) | trivial | assumption)))
          refine ⟨k + 1, by omega, by omega, Sub.mk_id ?_ ?_ ?_ ?_ ?_⟩
          all_goals simp only [es, d2, LB, subS, subH, wfS, wfH, SV.ren, renL, SObj.ren, SV.wf, SObj.wf, wfL, SV.known, Nat.reduceEqDiff, ↓reduceIte, if_true, if_false, eq_self, Nat.reduceAdd, Nat.reduceLT, Nat.reduceLeDiff, implies_true, reduceCtorEq, forall_const]
          all_goals (try simp)
      · obtain rfl : k = m := by omega
        simp -implicitDefEqProofs only [lk_normal, IsRack_F, pour_F, pours_F, hR, tkR, hr, ml, tk2, List.getD_cons_zero, List.getD_cons_succ, ZB, Int.reduceToNat, Nat.reduceLT, Nat.reduceLeDiff, Int.reduceLE, Int.reduceLT, Nat.reduceEqDiff, Nat.reduceSub, SB, SV.known, packR, ne_eq, reduceCtorEq, Nat.reduceEqDiff, ↓reduceIte, if_true, if_false, eq_self, Nat.reduceAdd, Nat.reduceMul, Nat.reduceSub, forall_const, oneCellS, litOne, flat1, Kd.isSca, flat, TYB]
        refine ⟨fun hx => absurd hx (by omega), fun _ => ?_⟩
        trivial
theorem sMostPoured_ok (R : List Int) (hR : R.length = 24) : PureH Try.prog 22 [.arr R] [] (.tup [.int (mpN R), .arr (mpL R), .bool (decide (0 < mpN R))]) := by
  have tkR : R.take 24 = R := List.take_of_length_le (by omega)
  have r2 : List.take 2 (List.replicate 2 (0 : Int)) = [0, 0] := rfl
  obtain ⟨m, hm, hm36⟩ := PL_even R 36
  have hbd : Bd 0 5 (PL R 36) := PL_bd R 36 (by omega)
  unfold mpN mpL
  cases hr : rackB R
  · refine pure_of_vc (X := ⟨Try.prog, tys, [(72, l2Rack_F), (74, l2Pour_F)], [(85, l2Pours_F)], true, true, 0, [], []⟩) fn_22 ⟨tys_ok, (.cons l2Rack_T (.cons l2Pour_T .nil)), (.cons l2Pours_T .nil), mixed⟩ (n0 := 0) (Nat.le_of_ble_eq_true rfl) (by simp [wfL, SV.wf]) (wfH_spec (by simp [wfH, SObj.wf])) (Nat.le_refl _) (fun _ => by simp [SV.wf, wfL]) ?_
    simp -implicitDefEqProofs only [Try.f22, Option.getD_some, argS, l2Rack_F, l2Pour_F, l2Pours_F, hR, tkR, hr, r2, freshK, Wrap.ap, hm, ZB, Int.reduceToNat, Nat.reduceLT, Nat.reduceLeDiff, Int.reduceLE, Int.reduceLT, Nat.reduceEqDiff, Nat.reduceSub, SB, SV.known, packR, ne_eq, reduceCtorEq, Nat.reduceEqDiff, ↓reduceIte, if_true, if_false, eq_self, Nat.reduceAdd, Nat.reduceMul, Nat.reduceSub, forall_const, oneCellS, litOne, flat1, Kd.isSca, flat, TYB]
  · refine pure_of_vc (X := ⟨Try.prog, tys, [(72, l2Rack_F), (74, l2Pour_F)], [(85, l2Pours_F)], true, true, 0, [], []⟩) fn_22 ⟨tys_ok, (.cons l2Rack_T (.cons l2Pour_T .nil)), (.cons l2Pours_T .nil), mixed⟩ (n0 := 0) (Nat.le_of_ble_eq_true rfl) (by simp [wfL, SV.wf]) (wfH_spec (by simp [wfH, SObj.wf])) (Nat.le_refl _) (fun _ => by simp [SV.wf, wfL]) ?_
    simp -implicitDefEqProofs only [Try.f22, Option.getD_some, argS, l2Rack_F, l2Pour_F, l2Pours_F, hR, tkR, hr, r2, freshK, Wrap.ap, hm, ZB, Int.reduceToNat, Nat.reduceLT, Nat.reduceLeDiff, Int.reduceLE, Int.reduceLT, Nat.reduceEqDiff, Nat.reduceSub, SB, SV.known, packR, ne_eq, reduceCtorEq, Nat.reduceEqDiff, ↓reduceIte, if_true, if_false, eq_self, Nat.reduceAdd, Nat.reduceMul, Nat.reduceSub, forall_const, oneCellS, litOne, flat1, Kd.isSca, flat, TYB]
    generalize PL R 36 = P at *
    intro cap junk hj
    have e2 : m * 2 / 2 = m := by omega
    simp only [e2]
    refine loop_intro (fun k : Nat => [(1, .ptr 0 0), (3, .ptr 1 0), (6, .ptr 2 0), (5, .int (mostF R P k).1), (7, .slice 3 0 m cap), (8, .int k)]) (fun k => [(3, .ints (P ++ junk) 44), (2, .ints (mostF R P k).2 44), (1, .ints (List.replicate 2 0) 44), (0, .ints R 27)]) 4 (fun k => k ≤ m) (fun k => m - k) ?_ ?_
    · refine ⟨0, by omega, Sub.mk_id ?_ ?_ ?_ ?_ ?_⟩
      all_goals simp only [mostF_zero, LB, subS, subH, wfS, wfH, SV.ren, renL, SObj.ren, SV.wf, SObj.wf, wfL, SV.known, Nat.reduceEqDiff, ↓reduceIte, if_true, if_false, eq_self, Nat.reduceAdd, Nat.reduceLT, Nat.reduceLeDiff, implies_true, reduceCtorEq, forall_const]
      all_goals (try simp)
      all_goals rfl
    · intro k hk
      have ml := mostF_len R P k
      have tk2 : (mostF R P k).2.take 2 = (mostF R P k).2 := List.take_of_length_le (by omega)
      by_cases hkm : k < m
      · have eP : List.take 2 (List.drop (k * 2) (P ++ junk)) = [P.getD (k * 2) 0, P.getD (k * 2 + 1) 0] := by
          rw [take2_drop _ _ (by rw [List.length_append]; omega), getD_app _ _ _ (by omega), getD_app _ _ _ (by omega)]
        have pA : 0 ≤ P.getD (k * 2) 0 ∧ P.getD (k * 2) 0 ≤ 5 := hbd.getD (by omega)
        have pB : 0 ≤ P.getD (k * 2 + 1) 0 ∧ P.getD (k * 2 + 1) 0 ≤ 5 := hbd.getD (by omega)
        have lenL : (P ++ junk).length = cap * 2 := by rw [List.length_append]; omega
        have g0 := getD_app P junk (k * 2) (by omega)
        have g1 := getD_app P junk (k * 2 + 1) (by omega)
        simp -implicitDefEqProofs only [lk_normal, l2Rack_F, l2Pour_F, l2Pours_F, hR, tkR, hr, eP, g0, g1, lenL, ml, tk2, List.getD_cons_zero, List.getD_cons_succ, ZB, Int.reduceToNat, Nat.reduceLT, Nat.reduceLeDiff, Int.reduceLE, Int.reduceLT, Nat.reduceEqDiff, Nat.reduceSub, SB, SV.known, packR, ne_eq, reduceCtorEq, Nat.reduceEqDiff, ↓reduceIte, if_true, if_false, eq_self, Nat.reduceAdd, Nat.reduceMul, Nat.reduceSub, forall_const, oneCellS, litOne, flat1, Kd.isSca, flat, TYB]
        refine ⟨fun _ => ?_, fun hx => absurd (by omega) hx⟩
        have pl : (pourF R (P.getD (k * 2) 0).toNat (P.getD (k * 2 + 1) 0).toNat).length = 24 := by unfold pourF; rw [pmR_len, hR]
        have d2 : (mostF R P k).2.drop 2 = [] := List.drop_of_length_le (by omega)
        have es := mostF_succ R P k
        (try (and_intros <;> try (first | omega | (unfold In64; omega) | trivial | assumption)))
        all_goals intro hlt
        · rw [stepM, if_pos hlt] at es
          (try (and_intros <;> try (first | omega | (unfold In64; omega) | trivial | assumption)))
          refine ⟨k + 1, by omega, by omega, Sub.mk_id ?_ ?_ ?_ ?_ ?_⟩
          all_goals simp only [es, d2, LB, subS, subH, wfS, wfH, SV.ren, renL, SObj.ren, SV.wf, SObj.wf, wfL, SV.known, Nat.reduceEqDiff, ↓reduceIte, if_true, if_false, eq_self, Nat.reduceAdd, Nat.reduceLT, Nat.reduceLeDiff, implies_true, reduceCtorEq, forall_const]
          all_goals (try simp)
        · rw [stepM, if_neg hlt] at es
          (try (and_intros <;> try (first | omega | (unfold In64; omega) | trivial | assumption)))
          refine ⟨k + 1, by omega, by omega, Sub.mk_id ?_ ?_ ?_ ?_ ?_⟩
          all_goals simp only [es, d2, LB, subS, subH, wfS, wfH, SV.ren, renL, SObj.ren, SV.wf, SObj.wf, wfL, SV.known, Nat.reduceEqDiff, ↓reduceIte, if_true, if_false, eq_self, Nat.reduceAdd, Nat.reduceLT, Nat.reduceLeDiff, implies_true, reduceCtorEq, forall_const]
          all_goals (try simp)
      · obtain rfl : k = m := by omega
        simp -implicitDefEqProofs only [lk_normal, l2Rack_F, l2Pour_F, l2Pours_F, hR, tkR, hr, ml, tk2, List.getD_cons_zero, List.getD_cons_succ, ZB, Int.reduceToNat, Nat.reduceLT, Nat.reduceLeDiff, Int.reduceLE, Int.reduceLT, Nat.reduceEqDiff, Nat.reduceSub, SB, SV.known, packR, ne_eq, reduceCtorEq, Nat.reduceEqDiff, ↓reduceIte, if_true, if_false, eq_self, Nat.reduceAdd, Nat.reduceMul, Nat.reduceSub, forall_const, oneCellS, litOne, flat1, Kd.isSca, flat, TYB]
        refine ⟨fun hx => absurd hx (by omega), fun _ => ?_⟩
        trivial
def MostPoured_F : List SV → Heap → Option (Prop × SV)
  | [.arr R], _ => some (R.length = 24, .tup [.int (mpN R), .arr (mpL R), .bool (decide (0 < mpN R))])
  | _, _ => none
theorem MostPoured_T : ∀ args H p v, MostPoured_F args H = some (p, v) → p → PureH Try.prog 21 args H v := by
  intro args H p v h hp
  unfold MostPoured_F at h
  split at h
  · cases h; exact (MostPoured_ok _ hp).any _
  · cases h
def sMostPoured_F : List SV → Heap → Option (Prop × SV)
  | [.arr R], _ => some (R.length = 24, .tup [.int (mpN R), .arr (mpL R), .bool (decide (0 < mpN R))])
  | _, _ => none
theorem sMostPoured_T : ∀ args H p v, sMostPoured_F args H = some (p, v) → p → PureH Try.prog 22 args H v := by
  intro args H p v h hp
  unfold sMostPoured_F at h
  split at h
  · cases h; exact (sMostPoured_ok _ hp).any _
  · cases h
end Go.Proofs.Ytopfnkmlgcjpbaa
/- Walks: DealAlike, DealRuns. -/
set_option maxRecDepth 100000
set_option linter.unusedSimpArgs false
set_option linter.unusedVariables false
namespace Go.Proofs.Ytopfnkmlgcjpbaa
open Go Go.RowKit
theorem le_sum2 {a : Int} : ∀ (l : List Int) (i j : Nat), Bd 0 a l → i < j → j < l.length → l.getD i 0 + l.getD j 0 ≤ l.sum
  | [], i, j, _, _, h => by simp at h
  | x :: r, 0, j + 1, hb, _, h => by
    have h1 := le_sum r j (fun y hy => hb y (by simp [hy])) (by simpa using h)
    simp only [List.getD_cons_zero, List.getD_cons_succ, List.sum_cons]
    omega
  | x :: r, i + 1, 0, hb, hij, _ => by omega
  | x :: r, 0, 0, hb, hij, _ => by omega
  | x :: r, i + 1, j + 1, hb, hij, h => by
    have h1 := le_sum2 r i j (fun y hy => hb y (by simp [hy])) (by omega) (by simpa using h)
    have h2 := hb x (by simp)
    simp only [List.getD_cons_succ, List.sum_cons]
    omega
theorem prF_le : ∀ (l : List Int), Bd 0 24 l → prF l ≤ l.sum * (l.sum - 1)
  | [], _ => by simp [prF]
  | x :: r, hb => by
    have h1 := prF_le r fun y hy => hb y (by simp [hy])
    have h2 := hb x (by simp)
    have h3 := (sum_bd r fun y hy => hb y (by simp [hy])).1
    simp only [prF, List.map_cons, List.sum_cons] at h1 ⊢
    have h4 : 0 ≤ x * r.sum := Int.mul_nonneg h2.1 (by omega)
    have e : (x + r.sum) * (x + r.sum - 1) = x * (x - 1) + r.sum * (r.sum - 1) + 2 * (x * r.sum) := by
      simp only [Int.mul_sub, Int.add_mul, Int.mul_add, Int.mul_one]
      rw [Int.mul_comm r.sum x]; omega
    omega
theorem prF_drop {c : List Int} (hc : c.length = 6) (h0 : c.getD 0 0 = 0) : prF (c.drop 1) = prF c := by
  obtain ⟨a, r, rfl⟩ : ∃ a r, c = a :: r := ⟨_, _, cons_of (by omega)⟩
  obtain rfl : a = 0 := by simpa using h0
  simp [prF]
theorem mul_bd {x y a b : Int} (hx : 0 ≤ x) (hxa : x ≤ a) (hy : 0 ≤ y) (hyb : y ≤ b) : 0 ≤ x * y ∧ x * y ≤ a * b := ⟨Int.mul_nonneg hx hy, Int.mul_le_mul hxa hyb hy (by omega)⟩
theorem fracF_pos {a b : Int} (ha : 0 ≤ a) (hb : 0 < b) : 0 ≤ (fracF a b).getD 0 0 ∧ (fracF a b).getD 0 0 ≤ a ∧ 0 < (fracF a b).getD 1 0 ∧ (fracF a b).getD 1 0 ≤ b := by
  have hg := gcd_posI (a := a) hb
  obtain ⟨x, rfl⟩ := Int.eq_ofNat_of_zero_le ha
  obtain ⟨y, rfl⟩ := Int.eq_ofNat_of_zero_le (Int.le_of_lt hb)
  have hy : 0 < y := by omega
  simp only [Int.toNat_natCast] at hg
  have e : fracF (x : Int) (y : Int) = [((x / Nat.gcd x y : Nat) : Int), ((y / Nat.gcd x y : Nat) : Int)] := by
    simp only [fracF, Int.toNat_natCast]; rfl
  rw [e]
  have h1 := Nat.div_le_self x (Nat.gcd x y)
  have h2 := Nat.div_le_self y (Nat.gcd x y)
  have h3 : 0 < y / Nat.gcd x y := Nat.div_pos (Nat.le_of_dvd hy (Nat.gcd_dvd_right x y)) hg
  simp only [List.getD_cons_zero, List.getD_cons_succ]
  refine ⟨Int.natCast_nonneg _, Int.ofNat_le.2 h1, Int.natCast_pos.2 h3, Int.ofNat_le.2 h2⟩

--@tbl DealAlike = impl.DealAlike
--@tbl sDealAlike = spec.DealAlike
def dealAlikeB (m c : List Int) (i j : Int) : Bool := isDealF m c && plF i && plF j && !decide (i = j) && !decide (m.getD i.toNat 0 = 0) && !decide (m.getD j.toNat 0 = 0)
def dealAlikeF (m c : List Int) (i j : Int) : List Int := if dealAlikeB m c i j = true then fracF (prF c) (c.sum * (c.sum - 1)) else [0, 0]
theorem alike_facts {m c : List Int} {i j : Int} (hm : m.length = 6) (hc : c.length = 6) (h : isDealF m c = true) (h1 : plF i = true) (h2 : plF j = true) (hij : ¬ i = j) (hi : ¬ m.getD i.toNat 0 = 0) (hj : ¬ m.getD j.toNat 0 = 0) :
    2 ≤ c.sum ∧ c.sum ≤ 24 ∧ 2 ≤ c.sum * (c.sum - 1) ∧ c.sum * (c.sum - 1) ≤ 552 ∧ 0 ≤ prF c ∧ prF c ≤ 3456 := by
  have b1 := pl_bd h1
  have b2 := pl_bd h2
  obtain ⟨f1, f2, f3, f4, f5, f6⟩ := deal_facts hm hc h
  have g1 := f2.getD (k := i.toNat) (by omega)
  have g2 := f2.getD (k := j.toNat) (by omega)
  have hs : 2 ≤ m.sum := by
    rcases Nat.lt_or_gt_of_ne (show i.toNat ≠ j.toNat by omega) with hl | hl
    · have := le_sum2 m i.toNat j.toNat f2 hl (by omega); omega
    · have := le_sum2 m j.toNat i.toNat f2 hl (by omega); omega
  have g3 := prF_bd f3
  rw [hc] at g3
  have g4 := mul_bd (x := c.sum - 2) (y := c.sum) (a := 22) (b := 24) (by omega) (by omega) (by omega) (by omega)
  have e : c.sum * (c.sum - 1) = (c.sum - 2) * c.sum + c.sum := by rw [Int.mul_sub, Int.sub_mul]; omega
  omega
theorem dealAlikeF_len (m c : List Int) (i k : Int) : (dealAlikeF m c i k).length = 2 := by
  unfold dealAlikeF
  split <;> rfl
def plusF (A B : List Int) : List Int := fracF (A.getD 0 0 * B.getD 1 0 + B.getD 0 0 * A.getD 1 0) (A.getD 1 0 * B.getD 1 0)
def smallF (A : List Int) : Prop := A.length = 2 ∧ 0 ≤ A.getD 0 0 ∧ A.getD 0 0 ≤ 1000000000 ∧ 0 < A.getD 1 0 ∧ A.getD 1 0 ≤ 1000000000
theorem plus_facts {A B : List Int} (hA : smallF A) (hB : smallF B) : In64 (A.getD 0 0 * B.getD 1 0) ∧ In64 (B.getD 0 0 * A.getD 1 0) ∧ In64 (A.getD 0 0 * B.getD 1 0 + B.getD 0 0 * A.getD 1 0) ∧ In64 (A.getD 1 0 * B.getD 1 0) ∧
    0 ≤ A.getD 0 0 * B.getD 1 0 + B.getD 0 0 * A.getD 1 0 ∧ 0 < A.getD 1 0 * B.getD 1 0 ∧ In64 (A.getD 0 0 * B.getD 1 0 + B.getD 0 0 * A.getD 1 0) ∧ In64 (A.getD 1 0 * B.getD 1 0) := by
  obtain ⟨_, a1, a2, a3, a4⟩ := hA
  obtain ⟨_, b1, b2, b3, b4⟩ := hB
  have m1 := mul_bd a1 a2 (Int.le_of_lt b3) b4
  have m2 := mul_bd b1 b2 (Int.le_of_lt a3) a4
  have m3 := mul_bd (Int.le_of_lt a3) a4 (Int.le_of_lt b3) b4
  have m4 := Int.mul_pos a3 b3
  unfold In64
  omega
theorem plusF_len (A B : List Int) : (plusF A B).length = 2 := rfl
--@tbl plus = impl.plus
--@tbl l7Plus = spec.l7Plus
def tubF (l : List Int) : Int := (l.map fun n => min n 1).sum
def besF (l : List Int) : Int := (l.map fun n => max (n - 1) 0).sum
theorem tub_facts : ∀ (l : List Int), Bd 0 4 l → tubF l + besF l = l.sum ∧ 0 ≤ tubF l ∧ tubF l ≤ l.length ∧ 0 ≤ besF l ∧ besF l ≤ 3 * tubF l
  | [], _ => by simp [tubF, besF]
  | x :: r, h => by
    have h1 := tub_facts r fun y hy => h y (by simp [hy])
    have h2 := h x (by simp)
    simp only [tubF, besF, List.map_cons, List.sum_cons, List.length_cons] at h1 ⊢
    omega
theorem tubF_take_succ (l : List Int) (k : Nat) (h : k < l.length) : tubF (l.take (k + 1)) = tubF (l.take k) + min (l.getD k 0) 1 := by
  unfold tubF
  rw [List.map_take, List.map_take, sum_take_succ _ k (by simpa using h)]
  simp [List.getD, List.getElem?_eq_getElem h]
theorem besF_take_succ (l : List Int) (k : Nat) (h : k < l.length) : besF (l.take (k + 1)) = besF (l.take k) + max (l.getD k 0 - 1) 0 := by
  unfold besF
  rw [List.map_take, List.map_take, sum_take_succ _ k (by simpa using h)]
  simp [List.getD, List.getElem?_eq_getElem h]
--@tbl DealRuns = impl.DealRuns
--@tbl sDealRuns = spec.DealRuns
def dealRunsF (m c : List Int) : List Int := if isDealF m c = true then if besF m = 0 then [tubF m, 1] else plusF [tubF m, 1] (fracF (besF m * (c.sum * (c.sum - 1) - prF c)) (c.sum * (c.sum - 1))) else [0, 0]
theorem dealRunsF_len (m c : List Int) : (dealRunsF m c).length = 2 := by
  unfold dealRunsF
  split
  · split <;> rfl
  · rfl
theorem runs_facts {m c : List Int} (hm : m.length = 6) (hc : c.length = 6) (h : isDealF m c = true) (hb : ¬ besF m = 0) :
    2 ≤ c.sum ∧ c.sum ≤ 24 ∧ 2 ≤ c.sum * (c.sum - 1) ∧ c.sum * (c.sum - 1) ≤ 552 ∧ 0 ≤ prF c ∧ prF c ≤ c.sum * (c.sum - 1) ∧ 0 ≤ besF m * (c.sum * (c.sum - 1) - prF c) ∧ besF m * (c.sum * (c.sum - 1) - prF c) ≤ 9936 ∧
      smallF [tubF m, 1] ∧ smallF (fracF (besF m * (c.sum * (c.sum - 1) - prF c)) (c.sum * (c.sum - 1))) := by
  obtain ⟨f1, f2, f3, f4, f5, f6⟩ := deal_facts hm hc h
  obtain ⟨t1, t2, t3, t4, t5⟩ := tub_facts m f2
  have g3 := prF_bd f3
  have g5 := prF_le c f3
  have g4 := mul_bd (x := c.sum - 2) (y := c.sum) (a := 22) (b := 24) (by omega) (by omega) (by omega) (by omega)
  have e : c.sum * (c.sum - 1) = (c.sum - 2) * c.sum + c.sum := by rw [Int.mul_sub, Int.sub_mul]; omega
  have g6 := mul_bd (x := besF m) (y := c.sum * (c.sum - 1) - prF c) (a := 18) (b := 552) (by omega) (by omega) (by omega) (by omega)
  have g7 := fracF_pos (a := besF m * (c.sum * (c.sum - 1) - prF c)) (b := c.sum * (c.sum - 1)) (by omega) (by omega)
  refine ⟨by omega, by omega, by omega, by omega, by omega, g5, by omega, by omega, ⟨rfl, ?_⟩, ⟨rfl, ?_⟩⟩
  · simp; omega
  · omega
end Go.Proofs.Ytopfnkmlgcjpbaa
/- Walks: equality of results, copies of arguments. -/
set_option maxRecDepth 100000
set_option linter.unusedSimpArgs false
set_option linter.unusedVariables false
namespace Go.Proofs.Ytopfnkmlgcjpbaa
open Go Go.RowKit

--@tbl eqIntA3 = laws.eqIntA3
--@tbl eqIntA4 = laws.eqIntA4
--@tbl eqIntA5 = laws.eqIntA5
--@tbl eqIntA6 = laws.eqIntA6
--@tbl eqIntA4A6 = laws.eqIntA4A6
--@tbl eqRack = laws.eqRack
--@tbl eqView = laws.eqView
--@tbl toSource = laws.toSource
end Go.Proofs.Ytopfnkmlgcjpbaa
/- Plain: pours and moves leave valid racks. -/
set_option maxRecDepth 100000
set_option linter.unusedSimpArgs false
set_option linter.unusedVariables false
namespace Go.Proofs.Ytopfnkmlgcjpbaa
open Go Go.RowKit
theorem tube_cells {t : List Int} (ht : t.length = 4) (hb : tubeB t = true) : (∀ b, b < layN t → 1 ≤ t.getD b 0 ∧ t.getD b 0 ≤ 5) ∧ (∀ b, layN t ≤ b → t.getD b 0 = 0) := by
  have hle := lay_le t ht
  unfold tubeB at hb
  simp only [Bool.and_eq_true] at hb
  constructor
  · intro b hbn
    have hlt : b < t.length := by omega
    have := List.all_eq_true.1 hb.1 (t.getD b 0) (by
      simp only [List.getD, List.getElem?_eq_getElem hlt, Option.getD_some]
      exact List.mem_take_iff_getElem.2 ⟨b, by omega, rfl⟩)
    simpa [coT] using this
  · intro b hbn
    rcases Nat.lt_or_ge b 4 with h4 | h4
    · have hlt : b < t.length := by omega
      have := List.all_eq_true.1 hb.2 (t.getD b 0) (by
        simp only [List.getD, List.getElem?_eq_getElem hlt, Option.getD_some]
        exact List.mem_drop_iff_getElem.2 ⟨b - layN t, by omega, by congr 1; omega⟩)
      simpa [is0] using this
    · simp [List.getD, List.getElem?_eq_none (show t.length ≤ b by omega)]
theorem tube_of {t : List Int} (ht : t.length = 4) {n : Nat} (hn : n ≤ 4) (h1 : ∀ b, b < n → 1 ≤ t.getD b 0 ∧ t.getD b 0 ≤ 5) (h2 : ∀ b, n ≤ b → b < 4 → t.getD b 0 = 0) : tubeB t = true ∧ layN t = n := by
  have hl : layN t = n := by
    unfold layN
    rcases Nat.lt_or_ge n 4 with h4 | h4
    · have : t.findIdx? isZ0 = some n := by
        rw [List.findIdx?_eq_some_iff_getElem]
        refine ⟨by omega, ?_, fun j hj => ?_⟩
        · have := h2 n (by omega) h4
          simp only [List.getD, List.getElem?_eq_getElem (show n < t.length by omega), Option.getD_some] at this
          simp [isZ0, this]
        · have := h1 j hj
          simp only [List.getD, List.getElem?_eq_getElem (show j < t.length by omega), Option.getD_some] at this
          simp [isZ0]; omega
      rw [this]; rfl
    · have : t.findIdx? isZ0 = none := by
        rw [List.findIdx?_eq_none_iff]
        intro x hx
        obtain ⟨k, hk, rfl⟩ := List.getElem_of_mem hx
        have := h1 k (by omega)
        simp only [List.getD, List.getElem?_eq_getElem hk, Option.getD_some] at this
        simp [isZ0]; omega
      rw [this]
      simp; omega
  refine ⟨?_, hl⟩
  unfold tubeB
  rw [hl]
  simp only [Bool.and_eq_true]
  constructor
  · rw [List.all_eq_true]
    intro x hx
    obtain ⟨k, hk, rfl⟩ := List.mem_take_iff_getElem.1 hx
    have := h1 k (by omega)
    simp only [List.getD, List.getElem?_eq_getElem (show k < t.length by omega), Option.getD_some] at this
    simpa [coT] using this
  · rw [List.all_eq_true]
    intro x hx
    obtain ⟨k, hk, rfl⟩ := List.mem_drop_iff_getElem.1 hx
    have := h2 (n + k) (by omega) (by omega)
    simp only [List.getD, List.getElem?_eq_getElem (show n + k < t.length by omega), Option.getD_some] at this
    simpa [is0] using this
theorem rack_tubes {R : List Int} : rackB R = true ↔ ∀ i, i < 6 → tubeB (tubeAt R i) = true := by
  unfold rackB tubesOf tubeAt
  simp only [List.all_map, List.all_eq_true, List.mem_range, Function.comp, Nat.zero_add]
theorem tubeAt_getD (R : List Int) (i k : Nat) (h : k < 4) : (tubeAt R i).getD k 0 = R.getD (i * 4 + k) 0 := cut_getD R i k h
theorem tubeAt_ext {R R' : List Int} {i j : Nat} (h1 : (tubeAt R i).length = 4) (h2 : (tubeAt R' j).length = 4) (h : ∀ k, k < 4 → R.getD (i * 4 + k) 0 = R'.getD (j * 4 + k) 0) : tubeAt R i = tubeAt R' j := by
  apply List.ext_getElem (by omega)
  intro k hk1 hk2
  have e1 := tubeAt_getD R i k (by omega)
  have e2 := tubeAt_getD R' j k (by omega)
  have := h k (by omega)
  simp only [List.getD, List.getElem?_eq_getElem hk1, List.getElem?_eq_getElem hk2, Option.getD_some] at e1 e2 this
  rw [e1, e2]; exact this
theorem getD_set' (L : List Int) (a b : Nat) (x : Int) (h : a < L.length) : (L.set a x).getD b 0 = if a = b then x else L.getD b 0 := by
  simp only [List.getD, List.getElem?_set]
  split
  · simp [h]
  · rfl
/-- The cells of a rack behind some moved layers. -/
theorem pmR_cell {R : List Int} (hR : R.length = 24) {i j : Nat} (hi : i < 6) (hj : j < 6) (hij : i ≠ j) : ∀ m, m ≤ layN (tubeAt R i) → m + layN (tubeAt R j) ≤ 4 → ∀ a b, a < 6 → b < 4 →
    (pmR R i j m).getD (a * 4 + b) 0 = if a = i ∧ layN (tubeAt R i) - m ≤ b ∧ b < layN (tubeAt R i) then 0 else if a = j ∧ layN (tubeAt R j) ≤ b ∧ b < layN (tubeAt R j) + m then (topF (tubeAt R i)).1 else R.getD (a * 4 + b) 0
  | 0, _, _, a, b, _, _ => by
    simp only [pmR]
    rw [if_neg (by omega), if_neg (by omega)]
  | m + 1, hm, hm2, a, b, ha, hb => by
    have hli := lay_le _ (tubeAt_len hR hi)
    have hlj := lay_le _ (tubeAt_len hR hj)
    have ih := pmR_cell hR hi hj hij m (by omega) (by omega) a b ha hb
    simp only [pmR]
    rw [getD_set' _ _ _ _ (by rw [List.length_set, pmR_len]; omega), getD_set' _ _ _ _ (by rw [pmR_len]; omega), ih]
    by_cases h1 : j * 4 + (layN (tubeAt R j) + m) = a * 4 + b
    · have haj : a = j := by omega
      subst haj
      rw [if_pos h1, if_neg (by omega), if_pos (by omega)]
    · rw [if_neg h1]
      by_cases h2 : i * 4 + (layN (tubeAt R i) - 1 - m) = a * 4 + b
      · have hai : a = i := by omega
        subst hai
        rw [if_pos h2, if_pos (by omega)]
      · rw [if_neg h2]
        by_cases h3 : a = i ∧ layN (tubeAt R i) - m ≤ b ∧ b < layN (tubeAt R i)
        · rw [if_pos h3, if_pos (by omega)]
        · rw [if_neg h3]
          by_cases h4 : a = i ∧ layN (tubeAt R i) - (m + 1) ≤ b ∧ b < layN (tubeAt R i)
          · omega
          · rw [if_neg h4]
            by_cases h5 : a = j ∧ layN (tubeAt R j) ≤ b ∧ b < layN (tubeAt R j) + m
            · rw [if_pos h5, if_pos (by omega)]
            · rw [if_neg h5, if_neg (by omega)]
theorem top_co {t : List Int} (ht : t.length = 4) (hb : tubeB t = true) (h0 : 0 < layN t) : 1 ≤ (topF t).1 ∧ (topF t).1 ≤ 5 := by
  obtain ⟨r, h1, h2⟩ := topF_run t ht h0
  rw [h1]
  exact (tube_cells ht hb).1 _ (by omega)
theorem pm_facts {R : List Int} (hR : R.length = 24) (hr : rackB R = true) {i j : Nat} (hi : i < 6) (hj : j < 6) (hij : i ≠ j) {m : Nat} (hm : m ≤ layN (tubeAt R i)) (hm2 : m + layN (tubeAt R j) ≤ 4) :
    (tubeB (tubeAt (pmR R i j m) i) = true ∧ layN (tubeAt (pmR R i j m) i) = layN (tubeAt R i) - m) ∧ (tubeB (tubeAt (pmR R i j m) j) = true ∧ layN (tubeAt (pmR R i j m) j) = layN (tubeAt R j) + m) ∧
    (∀ k, k < 6 → k ≠ i → k ≠ j → tubeAt (pmR R i j m) k = tubeAt R k) := by
  have hP : (pmR R i j m).length = 24 := by rw [pmR_len, hR]
  have hc := pmR_cell hR hi hj hij m hm hm2
  have hli := tubeAt_len hR hi
  have hlj := tubeAt_len hR hj
  have ci := tube_cells hli (tubeAt_ok hr hi)
  have cj := tube_cells hlj (tubeAt_ok hr hj)
  have li := lay_le _ hli
  refine ⟨tube_of (tubeAt_len hP hi) (by omega) (fun b hb => ?_) (fun b hb hb4 => ?_), tube_of (tubeAt_len hP hj) (by omega) (fun b hb => ?_) (fun b hb hb4 => ?_), fun k hk h1 h2 => ?_⟩
  · rw [tubeAt_getD _ _ _ (by omega), hc i b hi (by omega), if_neg (by omega), if_neg (by omega), ← tubeAt_getD _ _ _ (by omega)]
    exact ci.1 b (by omega)
  · rw [tubeAt_getD _ _ _ hb4, hc i b hi hb4]
    by_cases h3 : b < layN (tubeAt R i)
    · rw [if_pos ⟨rfl, hb, h3⟩]
    · rw [if_neg (by omega), if_neg (by omega), ← tubeAt_getD _ _ _ hb4]
      exact ci.2 b (by omega)
  · rw [tubeAt_getD _ _ _ (by omega), hc j b hj (by omega), if_neg (by omega)]
    by_cases h3 : layN (tubeAt R j) ≤ b
    · rw [if_pos (by omega)]
      exact top_co hli (tubeAt_ok hr hi) (by omega)
    · rw [if_neg (by omega), ← tubeAt_getD _ _ _ (by omega)]
      exact cj.1 b (by omega)
  · rw [tubeAt_getD _ _ _ hb4, hc j b hj hb4, if_neg (by omega), if_neg (by omega), ← tubeAt_getD _ _ _ hb4]
    exact cj.2 b (by omega)
  · refine tubeAt_ext (tubeAt_len hP hk) (tubeAt_len hR hk) fun b hb => ?_
    rw [hc k b hk hb, if_neg (by omega), if_neg (by omega)]
theorem pm_rack {R : List Int} (hR : R.length = 24) (hr : rackB R = true) {i j : Nat} (hi : i < 6) (hj : j < 6) (hij : i ≠ j) {m : Nat} (hm : m ≤ layN (tubeAt R i)) (hm2 : m + layN (tubeAt R j) ≤ 4) : rackB (pmR R i j m) = true := by
  obtain ⟨h1, h2, h3⟩ := pm_facts hR hr hi hj hij hm hm2
  rw [rack_tubes]
  intro k hk
  by_cases hki : k = i
  · rw [hki]; exact h1.1
  · by_cases hkj : k = j
    · rw [hkj]; exact h2.1
    · rw [h3 k hk hki hkj]; exact tubeAt_ok hr hk
theorem can_facts {R : List Int} {i j : Int} (hR : R.length = 24) (hr : rackB R = true) (hi : 0 ≤ i ∧ i ≤ 5) (hj : 0 ≤ j ∧ j ≤ 5) (h : canF R i j = true) : i ≠ j ∧ 0 < layN (tubeAt R i.toNat) ∧ layN (tubeAt R j.toNat) < 4 ∧ 0 < pmN R i.toNat j.toNat ∧
    (pmN R i.toNat j.toNat).toNat ≤ layN (tubeAt R i.toNat) ∧ (pmN R i.toNat j.toNat).toNat + layN (tubeAt R j.toNat) ≤ 4 ∧ pmN R i.toNat j.toNat ≤ 4 := by
  simp only [canF, Bool.and_eq_true, Bool.not_eq_true', decide_eq_false_iff_not, decide_eq_true_eq] at h
  have hli := tubeAt_len hR (i := i.toNat) (by omega)
  have hlj := tubeAt_len hR (i := j.toNat) (by omega)
  have tp := top_pos _ hli (tubeAt_ok hr (by omega))
  have tl := topF_le _ hli
  have h0 := tp.1.1 h.1.1.2
  have h2 := tp.2.2 h0
  have := lay_le _ hlj
  have := lay_le _ hli
  unfold pmN
  refine ⟨h.1.1.1, h0, by omega, by omega, by omega, by omega, by omega⟩
theorem pour_rack {R : List Int} {i j : Int} (hR : R.length = 24) (hr : rackB R = true) (hi : 0 ≤ i ∧ i ≤ 5) (hj : 0 ≤ j ∧ j ≤ 5) (h : canF R i j = true) : rackB (pourF R i.toNat j.toNat) = true := by
  obtain ⟨h1, h2, h3, h4, h5, h6, _⟩ := can_facts hR hr hi hj h
  exact pm_rack hR hr (by omega) (by omega) (by omega) h5 h6
end Go.Proofs.Ytopfnkmlgcjpbaa
/- Walks: runs, boundaries, bounds of racks. -/
set_option maxRecDepth 100000
set_option linter.unusedSimpArgs false
set_option linter.unusedVariables false
namespace Go.Proofs.Ytopfnkmlgcjpbaa
open Go Go.RowKit
def sumT (f : List Int → Int) (R : List Int) (k : Nat) : Int := ((List.range k).map fun i => f (tubeAt R i)).sum
theorem sumT_zero (f : List Int → Int) (R : List Int) : sumT f R 0 = 0 := rfl
theorem sumT_succ (f : List Int → Int) (R : List Int) (k : Nat) : sumT f R (k + 1) = sumT f R k + f (tubeAt R k) := by simp [sumT, List.range_succ]
theorem sumT_bd {f : List Int → Int} {R : List Int} {b : Int} (hR : R.length = 24) (h : ∀ t : List Int, t.length = 4 → 0 ≤ f t ∧ f t ≤ b) : ∀ k, k ≤ 6 → 0 ≤ sumT f R k ∧ sumT f R k ≤ k * b
  | 0, _ => by simp [sumT_zero]
  | k + 1, hk => by
    have := sumT_bd hR h k (by omega)
    have h1 := h _ (tubeAt_len hR (i := k) (by omega))
    rw [sumT_succ]
    have : ((k + 1 : Nat) : Int) * b = k * b + b := by rw [Int.natCast_add, Int.add_mul, Int.natCast_one, Int.one_mul]
    omega
def crN (t : List Int) : Int := ((runsL t).length / 2 : Nat)
def cbN (t : List Int) : Int := max (crN t - 1) 0
theorem crN_bd (t : List Int) (ht : t.length = 4) : 0 ≤ crN t ∧ crN t ≤ 4 := by
  obtain ⟨n, h1, h2, _⟩ := runsL_even t ht
  unfold crN
  omega
theorem cbN_bd (t : List Int) (ht : t.length = 4) : 0 ≤ cbN t ∧ cbN t ≤ 4 := by
  have := crN_bd t ht
  unfold cbN
  omega
--@tbl countRuns = impl.countRuns
--@tbl countBoundaries = impl.countBoundaries
theorem countRuns_ok (R : List Int) (hR : R.length = 24) : PureH Try.prog 123 [.arr R] [] (.int (sumT crN R 6)) := by
  have tkR : R.take 24 = R := List.take_of_length_le (by omega)
  refine pure_of_vc (X := ⟨Try.prog, tys, [], [(152, runs_F)], true, true, 0, [], []⟩) fn_123 ⟨tys_ok, .nil, (.cons runs_T .nil), mixed⟩ (n0 := 0) (Nat.le_of_ble_eq_true rfl) (by simp [wfL, SV.wf]) (wfH_spec (by simp [wfH, SObj.wf])) (Nat.le_refl _) (fun _ => by simp [SV.wf, wfL]) ?_
  simp -implicitDefEqProofs only [Try.f123, Option.getD_some, argS, runs_F, hR, tkR, ZB, Int.reduceToNat, Nat.reduceLT, Nat.reduceLeDiff, Int.reduceLE, Int.reduceLT, Nat.reduceEqDiff, Nat.reduceSub, SB, SV.known, packR, ne_eq, reduceCtorEq, Nat.reduceEqDiff, ↓reduceIte, if_true, if_false, eq_self, Nat.reduceAdd, Nat.reduceMul, Nat.reduceSub, forall_const, oneCellS, litOne, flat1, Kd.isSca, flat, TYB]
  refine loop_intro (fun i : Nat => [(8, .int i), (7, .arr R), (3, .int (sumT crN R i)), (1, .ptr 0 0)]) (fun _ => [(0, .ints R 27)]) 1 (fun i => i ≤ 6) (fun i => 6 - i) ?_ ?_
  · refine ⟨0, ?_, Sub.mk_id ?_ ?_ ?_ ?_ ?_⟩
    all_goals (try (simp only [sumT_zero, LB, subS, subH, wfS, wfH, SV.ren, renL, SObj.ren, SV.wf, SObj.wf, wfL, SV.known, Nat.reduceEqDiff, ↓reduceIte, if_true, if_false, eq_self, Nat.reduceAdd, Nat.reduceLT, Nat.reduceLeDiff, implies_true, reduceCtorEq, forall_const]; done))
    all_goals (try (simp only [sumT_zero, LB, subS, subH, wfS, wfH, SV.ren, renL, SObj.ren, SV.wf, SObj.wf, wfL, SV.known, Nat.reduceEqDiff, ↓reduceIte, if_true, if_false, eq_self, Nat.reduceAdd, Nat.reduceLT, Nat.reduceLeDiff, implies_true, reduceCtorEq, forall_const]; simp; done))
    all_goals (try (simp only [sumT_zero, LB, subS, subH, wfS, wfH, SV.ren, renL, SObj.ren, SV.wf, SObj.wf, wfL, SV.known, Nat.reduceEqDiff, ↓reduceIte, if_true, if_false, eq_self, Nat.reduceAdd, Nat.reduceLT, Nat.reduceLeDiff, implies_true, reduceCtorEq, forall_const]; (and_intros <;> (first | omega | rfl | (simp; done) | (simp; omega))); done))
    all_goals (try dsimp only)
    all_goals (and_intros <;> try (first | omega | (unfold In64; omega) | trivial | assumption))
  · intro i hi
    have eT : List.take 4 (List.drop (i * 4) R) = tubeAt R i := rfl
    have bd := sumT_bd hR crN_bd i hi
    by_cases hlt : i < 6
    · have hl := tubeAt_len hR hlt
      have tk4 : (tubeAt R i).take 4 = tubeAt R i := List.take_of_length_le (by omega)
      have es := sumT_succ crN R i
      have cr := crN_bd _ hl
      have cb := crN_bd _ hl
      have ec : (((runsL (tubeAt R i)).length / 2 : Nat) : Int) = crN (tubeAt R i) := rfl
      simp -implicitDefEqProofs only [lk_normal, runs_F, freshK, Wrap.ap, hR, eT, hl, tk4, ec, ZB, Int.reduceToNat, Nat.reduceLT, Nat.reduceLeDiff, Int.reduceLE, Int.reduceLT, Nat.reduceEqDiff, Nat.reduceSub, SB, SV.known, packR, ne_eq, reduceCtorEq, Nat.reduceEqDiff, ↓reduceIte, if_true, if_false, eq_self, Nat.reduceAdd, Nat.reduceMul, Nat.reduceSub, forall_const, oneCellS, litOne, flat1, Kd.isSca, flat, TYB]
      refine ⟨fun _ => ⟨by omega, by omega, fun h0 => ?_, fun h0 cap junk hj => ?_⟩, fun hx => absurd (by omega) hx⟩
      · have c0 : crN (tubeAt R i) = 0 := by simp [crN, h0]
        rw [c0] at es
        (try (and_intros <;> try (first | omega | (unfold In64; omega) | trivial | assumption)))
        refine ⟨i + 1, ?_, ?_, Sub.mk_id ?_ ?_ ?_ ?_ ?_⟩
        all_goals (try (simp only [es, LB, subS, subH, wfS, wfH, SV.ren, renL, SObj.ren, SV.wf, SObj.wf, wfL, SV.known, Nat.reduceEqDiff, ↓reduceIte, if_true, if_false, eq_self, Nat.reduceAdd, Nat.reduceLT, Nat.reduceLeDiff, implies_true, reduceCtorEq, forall_const]; done))
        all_goals (try (simp only [es, LB, subS, subH, wfS, wfH, SV.ren, renL, SObj.ren, SV.wf, SObj.wf, wfL, SV.known, Nat.reduceEqDiff, ↓reduceIte, if_true, if_false, eq_self, Nat.reduceAdd, Nat.reduceLT, Nat.reduceLeDiff, implies_true, reduceCtorEq, forall_const]; simp; done))
        all_goals (try (simp only [es, LB, subS, subH, wfS, wfH, SV.ren, renL, SObj.ren, SV.wf, SObj.wf, wfL, SV.known, Nat.reduceEqDiff, ↓reduceIte, if_true, if_false, eq_self, Nat.reduceAdd, Nat.reduceLT, Nat.reduceLeDiff, implies_true, reduceCtorEq, forall_const]; (and_intros <;> (first | omega | rfl | (simp; done) | (simp; omega))); done))
        all_goals (try dsimp only)
        all_goals (and_intros <;> try (first | omega | (unfold In64; omega) | trivial | assumption))
      · skip
        (try (and_intros <;> try (first | omega | (unfold In64; omega) | trivial | assumption)))
        refine ⟨i + 1, ?_, ?_, Sub.mk_id ?_ ?_ ?_ ?_ ?_⟩
        all_goals (try (simp only [es, LB, subS, subH, wfS, wfH, SV.ren, renL, SObj.ren, SV.wf, SObj.wf, wfL, SV.known, Nat.reduceEqDiff, ↓reduceIte, if_true, if_false, eq_self, Nat.reduceAdd, Nat.reduceLT, Nat.reduceLeDiff, implies_true, reduceCtorEq, forall_const]; done))
        all_goals (try (simp only [es, LB, subS, subH, wfS, wfH, SV.ren, renL, SObj.ren, SV.wf, SObj.wf, wfL, SV.known, Nat.reduceEqDiff, ↓reduceIte, if_true, if_false, eq_self, Nat.reduceAdd, Nat.reduceLT, Nat.reduceLeDiff, implies_true, reduceCtorEq, forall_const]; simp; done))
        all_goals (try (simp only [es, LB, subS, subH, wfS, wfH, SV.ren, renL, SObj.ren, SV.wf, SObj.wf, wfL, SV.known, Nat.reduceEqDiff, ↓reduceIte, if_true, if_false, eq_self, Nat.reduceAdd, Nat.reduceLT, Nat.reduceLeDiff, implies_true, reduceCtorEq, forall_const]; (and_intros <;> (first | omega | rfl | (simp; done) | (simp; omega))); done))
        all_goals (try dsimp only)
        all_goals (and_intros <;> try (first | omega | (unfold In64; omega) | trivial | assumption))
    · obtain rfl : i = 6 := by omega
      simp -implicitDefEqProofs only [lk_normal, runs_F, freshK, Wrap.ap, hR, eT, ZB, Int.reduceToNat, Nat.reduceLT, Nat.reduceLeDiff, Int.reduceLE, Int.reduceLT, Nat.reduceEqDiff, Nat.reduceSub, SB, SV.known, packR, ne_eq, reduceCtorEq, Nat.reduceEqDiff, ↓reduceIte, if_true, if_false, eq_self, Nat.reduceAdd, Nat.reduceMul, Nat.reduceSub, forall_const, oneCellS, litOne, flat1, Kd.isSca, flat, TYB]
      (try (and_intros <;> try (first | omega | (unfold In64; omega) | trivial | assumption)))
def countRuns_F : List SV → Heap → Option (Prop × SV)
  | [.arr R], _ => some (R.length = 24, .int (sumT crN R 6))
  | _, _ => none
theorem countRuns_T : ∀ args H p v, countRuns_F args H = some (p, v) → p → PureH Try.prog 123 args H v := by
  intro args H p v h hp
  unfold countRuns_F at h
  split at h
  · cases h; exact (countRuns_ok _ hp).any _
  · cases h
theorem countBoundaries_ok (R : List Int) (hR : R.length = 24) : PureH Try.prog 124 [.arr R] [] (.int (sumT cbN R 6)) := by
  have tkR : R.take 24 = R := List.take_of_length_le (by omega)
  refine pure_of_vc (X := ⟨Try.prog, tys, [], [(152, runs_F)], true, true, 0, [], []⟩) fn_124 ⟨tys_ok, .nil, (.cons runs_T .nil), mixed⟩ (n0 := 0) (Nat.le_of_ble_eq_true rfl) (by simp [wfL, SV.wf]) (wfH_spec (by simp [wfH, SObj.wf])) (Nat.le_refl _) (fun _ => by simp [SV.wf, wfL]) ?_
  simp -implicitDefEqProofs only [Try.f124, Option.getD_some, argS, runs_F, hR, tkR, ZB, Int.reduceToNat, Nat.reduceLT, Nat.reduceLeDiff, Int.reduceLE, Int.reduceLT, Nat.reduceEqDiff, Nat.reduceSub, SB, SV.known, packR, ne_eq, reduceCtorEq, Nat.reduceEqDiff, ↓reduceIte, if_true, if_false, eq_self, Nat.reduceAdd, Nat.reduceMul, Nat.reduceSub, forall_const, oneCellS, litOne, flat1, Kd.isSca, flat, TYB]
  refine loop_intro (fun i : Nat => [(8, .int i), (7, .arr R), (3, .int (sumT cbN R i)), (1, .ptr 0 0)]) (fun _ => [(0, .ints R 27)]) 1 (fun i => i ≤ 6) (fun i => 6 - i) ?_ ?_
  · refine ⟨0, ?_, Sub.mk_id ?_ ?_ ?_ ?_ ?_⟩
    all_goals (try (simp only [sumT_zero, LB, subS, subH, wfS, wfH, SV.ren, renL, SObj.ren, SV.wf, SObj.wf, wfL, SV.known, Nat.reduceEqDiff, ↓reduceIte, if_true, if_false, eq_self, Nat.reduceAdd, Nat.reduceLT, Nat.reduceLeDiff, implies_true, reduceCtorEq, forall_const]; done))
    all_goals (try (simp only [sumT_zero, LB, subS, subH, wfS, wfH, SV.ren, renL, SObj.ren, SV.wf, SObj.wf, wfL, SV.known, Nat.reduceEqDiff, ↓reduceIte, if_true, if_false, eq_self, Nat.reduceAdd, Nat.reduceLT, Nat.reduceLeDiff, implies_true, reduceCtorEq, forall_const]; simp; done))
    all_goals (try (simp only [sumT_zero, LB, subS, subH, wfS, wfH, SV.ren, renL, SObj.ren, SV.wf, SObj.wf, wfL, SV.known, Nat.reduceEqDiff, ↓reduceIte, if_true, if_false, eq_self, Nat.reduceAdd, Nat.reduceLT, Nat.reduceLeDiff, implies_true, reduceCtorEq, forall_const]; (and_intros <;> (first | omega | rfl | (simp; done) | (simp; omega))); done))
    all_goals (try dsimp only)
    all_goals (and_intros <;> try (first | omega | (unfold In64; omega) | trivial | assumption))
  · intro i hi
    have eT : List.take 4 (List.drop (i * 4) R) = tubeAt R i := rfl
    have bd := sumT_bd hR cbN_bd i hi
    by_cases hlt : i < 6
    · have hl := tubeAt_len hR hlt
      have tk4 : (tubeAt R i).take 4 = tubeAt R i := List.take_of_length_le (by omega)
      have es := sumT_succ cbN R i
      have cr := crN_bd _ hl
      have cb := cbN_bd _ hl
      have ec : (((runsL (tubeAt R i)).length / 2 : Nat) : Int) = crN (tubeAt R i) := rfl
      simp -implicitDefEqProofs only [lk_normal, runs_F, freshK, Wrap.ap, hR, eT, hl, tk4, ec, ZB, Int.reduceToNat, Nat.reduceLT, Nat.reduceLeDiff, Int.reduceLE, Int.reduceLT, Nat.reduceEqDiff, Nat.reduceSub, SB, SV.known, packR, ne_eq, reduceCtorEq, Nat.reduceEqDiff, ↓reduceIte, if_true, if_false, eq_self, Nat.reduceAdd, Nat.reduceMul, Nat.reduceSub, forall_const, oneCellS, litOne, flat1, Kd.isSca, flat, TYB]
      refine ⟨fun _ => ⟨by omega, by omega, fun h0 => ?_, fun h0 cap junk hj => ?_⟩, fun hx => absurd (by omega) hx⟩
      · have c0 : crN (tubeAt R i) = 0 := by simp [crN, h0]
        have c1 : cbN (tubeAt R i) = max (0 - 1) 0 := by rw [cbN, c0]
        rw [c1] at es
        (try (and_intros <;> try (first | omega | (unfold In64; omega) | trivial | assumption)))
        refine ⟨i + 1, ?_, ?_, Sub.mk_id ?_ ?_ ?_ ?_ ?_⟩
        all_goals (try (simp only [es, LB, subS, subH, wfS, wfH, SV.ren, renL, SObj.ren, SV.wf, SObj.wf, wfL, SV.known, Nat.reduceEqDiff, ↓reduceIte, if_true, if_false, eq_self, Nat.reduceAdd, Nat.reduceLT, Nat.reduceLeDiff, implies_true, reduceCtorEq, forall_const]; done))
        all_goals (try (simp only [es, LB, subS, subH, wfS, wfH, SV.ren, renL, SObj.ren, SV.wf, SObj.wf, wfL, SV.known, Nat.reduceEqDiff, ↓reduceIte, if_true, if_false, eq_self, Nat.reduceAdd, Nat.reduceLT, Nat.reduceLeDiff, implies_true, reduceCtorEq, forall_const]; simp; done))
        all_goals (try (simp only [es, LB, subS, subH, wfS, wfH, SV.ren, renL, SObj.ren, SV.wf, SObj.wf, wfL, SV.known, Nat.reduceEqDiff, ↓reduceIte, if_true, if_false, eq_self, Nat.reduceAdd, Nat.reduceLT, Nat.reduceLeDiff, implies_true, reduceCtorEq, forall_const]; (and_intros <;> (first | omega | rfl | (simp; done) | (simp; omega))); done))
        all_goals (try dsimp only)
        all_goals (and_intros <;> try (first | omega | (unfold In64; omega) | trivial | assumption))
      · have c1 : cbN (tubeAt R i) = max (crN (tubeAt R i) - 1) 0 := rfl
        rw [c1] at es
        (try (and_intros <;> try (first | omega | (unfold In64; omega) | trivial | assumption)))
        refine ⟨i + 1, ?_, ?_, Sub.mk_id ?_ ?_ ?_ ?_ ?_⟩
        all_goals (try (simp only [es, LB, subS, subH, wfS, wfH, SV.ren, renL, SObj.ren, SV.wf, SObj.wf, wfL, SV.known, Nat.reduceEqDiff, ↓reduceIte, if_true, if_false, eq_self, Nat.reduceAdd, Nat.reduceLT, Nat.reduceLeDiff, implies_true, reduceCtorEq, forall_const]; done))
        all_goals (try (simp only [es, LB, subS, subH, wfS, wfH, SV.ren, renL, SObj.ren, SV.wf, SObj.wf, wfL, SV.known, Nat.reduceEqDiff, ↓reduceIte, if_true, if_false, eq_self, Nat.reduceAdd, Nat.reduceLT, Nat.reduceLeDiff, implies_true, reduceCtorEq, forall_const]; simp; done))
        all_goals (try (simp only [es, LB, subS, subH, wfS, wfH, SV.ren, renL, SObj.ren, SV.wf, SObj.wf, wfL, SV.known, Nat.reduceEqDiff, ↓reduceIte, if_true, if_false, eq_self, Nat.reduceAdd, Nat.reduceLT, Nat.reduceLeDiff, implies_true, reduceCtorEq, forall_const]; (and_intros <;> (first | omega | rfl | (simp; done) | (simp; omega))); done))
        all_goals (try dsimp only)
        all_goals (and_intros <;> try (first | omega | (unfold In64; omega) | trivial | assumption))
    · obtain rfl : i = 6 := by omega
      simp -implicitDefEqProofs only [lk_normal, runs_F, freshK, Wrap.ap, hR, eT, ZB, Int.reduceToNat, Nat.reduceLT, Nat.reduceLeDiff, Int.reduceLE, Int.reduceLT, Nat.reduceEqDiff, Nat.reduceSub, SB, SV.known, packR, ne_eq, reduceCtorEq, Nat.reduceEqDiff, ↓reduceIte, if_true, if_false, eq_self, Nat.reduceAdd, Nat.reduceMul, Nat.reduceSub, forall_const, oneCellS, litOne, flat1, Kd.isSca, flat, TYB]
      (try (and_intros <;> try (first | omega | (unfold In64; omega) | trivial | assumption)))
def countBoundaries_F : List SV → Heap → Option (Prop × SV)
  | [.arr R], _ => some (R.length = 24, .int (sumT cbN R 6))
  | _, _ => none
theorem countBoundaries_T : ∀ args H p v, countBoundaries_F args H = some (p, v) → p → PureH Try.prog 124 args H v := by
  intro args H p v h hp
  unfold countBoundaries_F at h
  split at h
  · cases h; exact (countBoundaries_ok _ hp).any _
  · cases h
/-! Counts. -/
def incr (L : List Int) (j : Nat) : List Int := L.set j (L.getD j 0 + 1)
def cntL (l : List Int) : List Int := l.foldl (fun c x => incr c x.toNat) (List.replicate 6 0)
theorem cntL_nil : cntL [] = List.replicate 6 0 := rfl
theorem cntL_take_succ (l : List Int) (k : Nat) (h : k < l.length) : cntL (l.take (k + 1)) = incr (cntL (l.take k)) (l.getD k 0).toNat := by
  unfold cntL
  rw [List.take_succ_eq_append_getElem h, List.foldl_append]
  simp [List.getD, List.getElem?_eq_getElem h]
theorem cntL_snoc (l : List Int) (x : Int) : cntL (l ++ [x]) = incr (cntL l) x.toNat := by
  unfold cntL
  rw [List.foldl_append]; rfl
theorem foldl_len (l : List Int) : ∀ c : List Int, (l.foldl (fun c x => incr c x.toNat) c).length = c.length := by
  induction l with
  | nil => intro c; rfl
  | cons x l ih => intro c; rw [List.foldl_cons, ih]; simp [incr]
theorem cntL_len (l : List Int) : (cntL l).length = 6 := by unfold cntL; rw [foldl_len]; rfl
theorem incr_bd {L : List Int} {b : Int} (j : Nat) (h : ∀ k, 0 ≤ L.getD k 0 ∧ L.getD k 0 ≤ b) : ∀ k, 0 ≤ (incr L j).getD k 0 ∧ (incr L j).getD k 0 ≤ b + 1 := by
  intro k
  have h1 := h k
  have h2 := h j
  unfold incr
  simp only [List.getD, List.getElem?_set] at *
  split
  · split
    · simp; omega
    · simp; omega
  · omega
theorem foldl_bd (l : List Int) : ∀ (c : List Int) (b : Int), (∀ k, 0 ≤ c.getD k 0 ∧ c.getD k 0 ≤ b) → ∀ k, 0 ≤ (l.foldl (fun c x => incr c x.toNat) c).getD k 0 ∧ (l.foldl (fun c x => incr c x.toNat) c).getD k 0 ≤ b + l.length := by
  induction l with
  | nil => intro c b h k; simpa using h k
  | cons x l ih =>
    intro c b h k
    have := ih (incr c x.toNat) (b + 1) (incr_bd _ h) k
    rw [List.foldl_cons, List.length_cons]
    omega
theorem cntL_bd (l : List Int) (k : Nat) : 0 ≤ (cntL l).getD k 0 ∧ (cntL l).getD k 0 ≤ l.length := by
  have := foldl_bd l (List.replicate 6 0) 0 (fun k => by
    simp only [List.getD, List.getElem?_replicate]
    split <;> simp) k
  unfold cntL
  omega
def botL (R : List Int) : List Int := (List.range 6).map fun i => R.getD (i * 4) 0
theorem botL_len (R : List Int) : (botL R).length = 6 := by simp [botL]
theorem botL_getD (R : List Int) (i : Nat) (h : i < 6) : (botL R).getD i 0 = R.getD (i * 4) 0 := by simp [botL, List.getD, h]
theorem rack_cell {R : List Int} (hR : R.length = 24) (hr : rackB R = true) {k : Nat} (h : k < 24) : 0 ≤ R.getD k 0 ∧ R.getD k 0 ≤ 5 := by
  have := (rackB_iff R hR).1 hr (k / 4) (k % 4) (by omega) (by omega)
  unfold cB at this
  rw [show k / 4 * 4 + k % 4 = k by omega] at this
  exact this.1
--@tbl bottoms = impl.bottoms
--@tbl l6Bottoms = spec.l6Bottoms
theorem bottoms_ok (R : List Int) (hR : R.length = 24) (hr : rackB R = true) : PureH Try.prog 130 [.arr R] [] (.arr (cntL (botL R))) := by
  have tkR : R.take 24 = R := List.take_of_length_le (by omega)
  refine pure_of_vc (X := ⟨Try.prog, tys, [], [], true, true, 0, [], []⟩) fn_130 ⟨tys_ok, .nil, .nil, mixed⟩ (n0 := 0) (Nat.le_of_ble_eq_true rfl) (by simp [wfL, SV.wf]) (wfH_spec (by simp [wfH, SObj.wf])) (Nat.le_refl _) (fun _ => by simp [SV.wf, wfL]) ?_
  simp -implicitDefEqProofs only [Try.f130, Option.getD_some, argS, hR, tkR, ZB, Int.reduceToNat, Nat.reduceLT, Nat.reduceLeDiff, Int.reduceLE, Int.reduceLT, Nat.reduceEqDiff, Nat.reduceSub, SB, SV.known, packR, ne_eq, reduceCtorEq, Nat.reduceEqDiff, ↓reduceIte, if_true, if_false, eq_self, Nat.reduceAdd, Nat.reduceMul, Nat.reduceSub, forall_const, oneCellS, litOne, flat1, Kd.isSca, flat, TYB]
  refine loop_intro (fun i : Nat => [(8, .int i), (7, .arr R), (3, .ptr 2 0), (2, .ptr 1 0), (1, .ptr 0 0)]) (fun i => [(0, .ints R 27), (1, .ints (List.replicate 6 0) 51), (2, .ints (cntL ((botL R).take i)) 51)]) 3 (fun i => i ≤ 6) (fun i => 6 - i) ?_ ?_
  · refine ⟨0, ?_, Sub.mk_id ?_ ?_ ?_ ?_ ?_⟩
    all_goals (try (simp only [List.take_zero, cntL_nil, LB, subS, subH, wfS, wfH, SV.ren, renL, SObj.ren, SV.wf, SObj.wf, wfL, SV.known, Nat.reduceEqDiff, ↓reduceIte, if_true, if_false, eq_self, Nat.reduceAdd, Nat.reduceLT, Nat.reduceLeDiff, implies_true, reduceCtorEq, forall_const]; done))
    all_goals (try (simp only [List.take_zero, cntL_nil, LB, subS, subH, wfS, wfH, SV.ren, renL, SObj.ren, SV.wf, SObj.wf, wfL, SV.known, Nat.reduceEqDiff, ↓reduceIte, if_true, if_false, eq_self, Nat.reduceAdd, Nat.reduceLT, Nat.reduceLeDiff, implies_true, reduceCtorEq, forall_const]; simp; done))
    all_goals (try (simp only [List.take_zero, cntL_nil, LB, subS, subH, wfS, wfH, SV.ren, renL, SObj.ren, SV.wf, SObj.wf, wfL, SV.known, Nat.reduceEqDiff, ↓reduceIte, if_true, if_false, eq_self, Nat.reduceAdd, Nat.reduceLT, Nat.reduceLeDiff, implies_true, reduceCtorEq, forall_const]; (and_intros <;> (first | omega | rfl | (simp; done) | (simp; omega))); done))
    all_goals (try dsimp only)
    all_goals (and_intros <;> try (first | omega | (unfold In64; omega) | trivial | assumption))
  · intro i hi
    have eT : List.take 4 (List.drop (i * 4) R) = tubeAt R i := rfl
    have cl := cntL_len ((botL R).take i)
    by_cases hlt : i < 6
    · have hl := tubeAt_len hR hlt
      have tk4 : (tubeAt R i).take 4 = tubeAt R i := List.take_of_length_le (by omega)
      have rc := rack_cell hR hr (k := i * 4) (by omega)
      have e0 : (tubeAt R i).getD 0 0 = R.getD (i * 4) 0 := by rw [show i * 4 = i * 4 + 0 by omega]; exact cut_getD R i 0 (by omega)
      have es := cntL_take_succ (botL R) i (by rw [botL_len]; omega)
      rw [botL_getD R i hlt] at es
      have cb := cntL_bd ((botL R).take i) (R.getD (i * 4) 0).toNat
      have ll : ((botL R).take i).length = i := by rw [List.length_take, botL_len]; omega
      rw [ll] at cb
      simp -implicitDefEqProofs only [lk_normal, hR, eT, hl, tk4, cl, e0, ZB, Int.reduceToNat, Nat.reduceLT, Nat.reduceLeDiff, Int.reduceLE, Int.reduceLT, Nat.reduceEqDiff, Nat.reduceSub, SB, SV.known, packR, ne_eq, reduceCtorEq, Nat.reduceEqDiff, ↓reduceIte, if_true, if_false, eq_self, Nat.reduceAdd, Nat.reduceMul, Nat.reduceSub, forall_const, oneCellS, litOne, flat1, Kd.isSca, flat, TYB]
      refine ⟨fun _ => ?_, fun hx => absurd (by omega) hx⟩
      (try (and_intros <;> try (first | omega | (unfold In64; omega) | trivial | assumption)))
      refine ⟨i + 1, ?_, ?_, Sub.mk_id ?_ ?_ ?_ ?_ ?_⟩
      all_goals (try (simp only [es, incr, LB, subS, subH, wfS, wfH, SV.ren, renL, SObj.ren, SV.wf, SObj.wf, wfL, SV.known, Nat.reduceEqDiff, ↓reduceIte, if_true, if_false, eq_self, Nat.reduceAdd, Nat.reduceLT, Nat.reduceLeDiff, implies_true, reduceCtorEq, forall_const]; done))
      all_goals (try (simp only [es, incr, LB, subS, subH, wfS, wfH, SV.ren, renL, SObj.ren, SV.wf, SObj.wf, wfL, SV.known, Nat.reduceEqDiff, ↓reduceIte, if_true, if_false, eq_self, Nat.reduceAdd, Nat.reduceLT, Nat.reduceLeDiff, implies_true, reduceCtorEq, forall_const]; simp; done))
      all_goals (try (simp only [es, incr, LB, subS, subH, wfS, wfH, SV.ren, renL, SObj.ren, SV.wf, SObj.wf, wfL, SV.known, Nat.reduceEqDiff, ↓reduceIte, if_true, if_false, eq_self, Nat.reduceAdd, Nat.reduceLT, Nat.reduceLeDiff, implies_true, reduceCtorEq, forall_const]; (and_intros <;> (first | omega | rfl | (simp; done) | (simp; omega))); done))
      all_goals (try dsimp only)
      all_goals (and_intros <;> try (first | omega | (unfold In64; omega) | trivial | assumption))
    · obtain rfl : i = 6 := by omega
      have tk6 : (botL R).take 6 = botL R := List.take_of_length_le (by rw [botL_len]; omega)
      have cl2 := cntL_len (botL R)
      have tkc : (cntL (botL R)).take 6 = cntL (botL R) := List.take_of_length_le (by omega)
      simp -implicitDefEqProofs only [lk_normal, hR, eT, cl, cl2, tk6, tkc, ZB, Int.reduceToNat, Nat.reduceLT, Nat.reduceLeDiff, Int.reduceLE, Int.reduceLT, Nat.reduceEqDiff, Nat.reduceSub, SB, SV.known, packR, ne_eq, reduceCtorEq, Nat.reduceEqDiff, ↓reduceIte, if_true, if_false, eq_self, Nat.reduceAdd, Nat.reduceMul, Nat.reduceSub, forall_const, oneCellS, litOne, flat1, Kd.isSca, flat, TYB]
      (try (and_intros <;> try (first | omega | (unfold In64; omega) | trivial | assumption)))
def bottoms_F : List SV → Heap → Option (Prop × SV)
  | [.arr R], _ => some (R.length = 24 ∧ rackB R = true, .arr (cntL (botL R)))
  | _, _ => none
theorem bottoms_T : ∀ args H p v, bottoms_F args H = some (p, v) → p → PureH Try.prog 130 args H v := by
  intro args H p v h hp
  unfold bottoms_F at h
  split at h
  · cases h; exact (bottoms_ok _ hp.1 hp.2).any _
  · cases h
theorem l6Bottoms_ok (R : List Int) (hR : R.length = 24) (hr : rackB R = true) : PureH Try.prog 131 [.arr R] [] (.arr (cntL (botL R))) := by
  have tkR : R.take 24 = R := List.take_of_length_le (by omega)
  refine pure_of_vc (X := ⟨Try.prog, tys, [], [], true, true, 0, [], []⟩) fn_131 ⟨tys_ok, .nil, .nil, mixed⟩ (n0 := 0) (Nat.le_of_ble_eq_true rfl) (by simp [wfL, SV.wf]) (wfH_spec (by simp [wfH, SObj.wf])) (Nat.le_refl _) (fun _ => by simp [SV.wf, wfL]) ?_
  simp -implicitDefEqProofs only [Try.f131, Option.getD_some, argS, hR, tkR, ZB, Int.reduceToNat, Nat.reduceLT, Nat.reduceLeDiff, Int.reduceLE, Int.reduceLT, Nat.reduceEqDiff, Nat.reduceSub, SB, SV.known, packR, ne_eq, reduceCtorEq, Nat.reduceEqDiff, ↓reduceIte, if_true, if_false, eq_self, Nat.reduceAdd, Nat.reduceMul, Nat.reduceSub, forall_const, oneCellS, litOne, flat1, Kd.isSca, flat, TYB]
  refine loop_intro (fun i : Nat => [(4, .int i), (3, .ptr 2 0), (2, .ptr 1 0), (1, .ptr 0 0)]) (fun i => [(0, .ints R 27), (1, .ints (List.replicate 6 0) 51), (2, .ints (cntL ((botL R).take i)) 51)]) 3 (fun i => i ≤ 6) (fun i => 6 - i) ?_ ?_
  · refine ⟨0, ?_, Sub.mk_id ?_ ?_ ?_ ?_ ?_⟩
    all_goals (try (simp only [List.take_zero, cntL_nil, LB, subS, subH, wfS, wfH, SV.ren, renL, SObj.ren, SV.wf, SObj.wf, wfL, SV.known, Nat.reduceEqDiff, ↓reduceIte, if_true, if_false, eq_self, Nat.reduceAdd, Nat.reduceLT, Nat.reduceLeDiff, implies_true, reduceCtorEq, forall_const]; done))
    all_goals (try (simp only [List.take_zero, cntL_nil, LB, subS, subH, wfS, wfH, SV.ren, renL, SObj.ren, SV.wf, SObj.wf, wfL, SV.known, Nat.reduceEqDiff, ↓reduceIte, if_true, if_false, eq_self, Nat.reduceAdd, Nat.reduceLT, Nat.reduceLeDiff, implies_true, reduceCtorEq, forall_const]; simp; done))
    all_goals (try (simp only [List.take_zero, cntL_nil, LB, subS, subH, wfS, wfH, SV.ren, renL, SObj.ren, SV.wf, SObj.wf, wfL, SV.known, Nat.reduceEqDiff, ↓reduceIte, if_true, if_false, eq_self, Nat.reduceAdd, Nat.reduceLT, Nat.reduceLeDiff, implies_true, reduceCtorEq, forall_const]; (and_intros <;> (first | omega | rfl | (simp; done) | (simp; omega))); done))
    all_goals (try dsimp only)
    all_goals (and_intros <;> try (first | omega | (unfold In64; omega) | trivial | assumption))
  · intro i hi
    have cl := cntL_len ((botL R).take i)
    by_cases hlt : i < 6
    · have rc := rack_cell hR hr (k := i * 4) (by omega)
      have es := cntL_take_succ (botL R) i (by rw [botL_len]; omega)
      rw [botL_getD R i hlt] at es
      have cb := cntL_bd ((botL R).take i) (R.getD (i * 4) 0).toNat
      have ll : ((botL R).take i).length = i := by rw [List.length_take, botL_len]; omega
      rw [ll] at cb
      simp -implicitDefEqProofs only [lk_normal, hR, cl, ZB, Int.reduceToNat, Nat.reduceLT, Nat.reduceLeDiff, Int.reduceLE, Int.reduceLT, Nat.reduceEqDiff, Nat.reduceSub, SB, SV.known, packR, ne_eq, reduceCtorEq, Nat.reduceEqDiff, ↓reduceIte, if_true, if_false, eq_self, Nat.reduceAdd, Nat.reduceMul, Nat.reduceSub, forall_const, oneCellS, litOne, flat1, Kd.isSca, flat, TYB]
      refine ⟨fun _ => ?_, fun hx => absurd (by omega) hx⟩
      (try (and_intros <;> try (first | omega | (unfold In64; omega) | trivial | assumption)))
      refine ⟨i + 1, ?_, ?_, Sub.mk_id ?_ ?_ ?_ ?_ ?_⟩
      all_goals (try (simp only [es, incr, LB, subS, subH, wfS, wfH, SV.ren, renL, SObj.ren, SV.wf, SObj.wf, wfL, SV.known, Nat.reduceEqDiff, ↓reduceIte, if_true, if_false, eq_self, Nat.reduceAdd, Nat.reduceLT, Nat.reduceLeDiff, implies_true, reduceCtorEq, forall_const]; done))
      all_goals (try (simp only [es, incr, LB, subS, subH, wfS, wfH, SV.ren, renL, SObj.ren, SV.wf, SObj.wf, wfL, SV.known, Nat.reduceEqDiff, ↓reduceIte, if_true, if_false, eq_self, Nat.reduceAdd, Nat.reduceLT, Nat.reduceLeDiff, implies_true, reduceCtorEq, forall_const]; simp; done))
      all_goals (try (simp only [es, incr, LB, subS, subH, wfS, wfH, SV.ren, renL, SObj.ren, SV.wf, SObj.wf, wfL, SV.known, Nat.reduceEqDiff, ↓reduceIte, if_true, if_false, eq_self, Nat.reduceAdd, Nat.reduceLT, Nat.reduceLeDiff, implies_true, reduceCtorEq, forall_const]; (and_intros <;> (first | omega | rfl | (simp; done) | (simp; omega))); done))
      all_goals (try dsimp only)
      all_goals (and_intros <;> try (first | omega | (unfold In64; omega) | trivial | assumption))
    · obtain rfl : i = 6 := by omega
      have tk6 : (botL R).take 6 = botL R := List.take_of_length_le (by rw [botL_len]; omega)
      have cl2 := cntL_len (botL R)
      have tkc : (cntL (botL R)).take 6 = cntL (botL R) := List.take_of_length_le (by omega)
      simp -implicitDefEqProofs only [lk_normal, hR, cl, cl2, tk6, tkc, ZB, Int.reduceToNat, Nat.reduceLT, Nat.reduceLeDiff, Int.reduceLE, Int.reduceLT, Nat.reduceEqDiff, Nat.reduceSub, SB, SV.known, packR, ne_eq, reduceCtorEq, Nat.reduceEqDiff, ↓reduceIte, if_true, if_false, eq_self, Nat.reduceAdd, Nat.reduceMul, Nat.reduceSub, forall_const, oneCellS, litOne, flat1, Kd.isSca, flat, TYB]
      (try (and_intros <;> try (first | omega | (unfold In64; omega) | trivial | assumption)))
def l6Bottoms_F : List SV → Heap → Option (Prop × SV)
  | [.arr R], _ => some (R.length = 24 ∧ rackB R = true, .arr (cntL (botL R)))
  | _, _ => none
theorem l6Bottoms_T : ∀ args H p v, l6Bottoms_F args H = some (p, v) → p → PureH Try.prog 131 args H v := by
  intro args H p v h hp
  unfold l6Bottoms_F at h
  split at h
  · cases h; exact (l6Bottoms_ok _ hp.1 hp.2).any _
  · cases h
/-! The bound. -/
def bndF (R : List Int) : Int := sumT cbN R 6 + besF ((cntL (botL R)).drop 1)
theorem besF_bd (l : List Int) (b : Int) (hb : 0 ≤ b) (h : ∀ x ∈ l, x ≤ b) : 0 ≤ besF l ∧ besF l ≤ l.length * b := by
  induction l with
  | nil => simp [besF]
  | cons x l ih =>
    have := ih fun y hy => h y (by simp [hy])
    have hx := h x (by simp)
    have e : besF (x :: l) = max (x - 1) 0 + besF l := by simp [besF]
    rw [e, List.length_cons]
    have : ((l.length + 1 : Nat) : Int) * b = l.length * b + b := by rw [Int.natCast_add, Int.add_mul, Int.natCast_one, Int.one_mul]
    omega
theorem bots_bd (R : List Int) : ∀ x ∈ (cntL (botL R)).drop 1, x ≤ 6 := by
  intro x hx
  obtain ⟨k, hk, rfl⟩ := List.getElem_of_mem hx
  have := cntL_bd (botL R) (1 + k)
  rw [botL_len] at this
  simp only [List.length_drop] at hk
  simp only [List.getD, List.getElem?_eq_getElem (show 1 + k < (cntL (botL R)).length by omega), Option.getD_some] at this
  simp only [List.getElem_drop]
  exact this.2
theorem bnd_bd (R : List Int) (hR : R.length = 24) : 0 ≤ sumT cbN R 6 ∧ sumT cbN R 6 ≤ 24 ∧ 0 ≤ bndF R ∧ bndF R ≤ 54 ∧ ∀ k, 0 ≤ besF (((cntL (botL R)).drop 1).take k) ∧ besF (((cntL (botL R)).drop 1).take k) ≤ 30 := by
  have h1 := sumT_bd hR cbN_bd 6 (by omega)
  have h2 := besF_bd _ 6 (by omega) (bots_bd R)
  have cl := cntL_len (botL R)
  have h3 : ((cntL (botL R)).drop 1).length = 5 := by rw [List.length_drop, cl]
  rw [h3] at h2
  refine ⟨h1.1, by omega, ?_, ?_, fun k => ?_⟩
  · unfold bndF; omega
  · unfold bndF; omega
  · have h4 := besF_bd (((cntL (botL R)).drop 1).take k) 6 (by omega) fun x hx => bots_bd R x (List.mem_of_mem_take hx)
    have : (((cntL (botL R)).drop 1).take k).length ≤ 5 := by rw [List.length_take]; omega
    have : ((((cntL (botL R)).drop 1).take k).length : Int) * 6 ≤ 5 * 6 := by omega
    omega
--@tbl bound = impl.bound
theorem bound_ok (R : List Int) (hR : R.length = 24) (hr : rackB R = true) : PureH Try.prog 83 [.arr R] [] (.int (bndF R)) := by
  have tkR : R.take 24 = R := List.take_of_length_le (by omega)
  have cl := cntL_len (botL R)
  have tkc : (cntL (botL R)).take 6 = cntL (botL R) := List.take_of_length_le (by omega)
  have bb := bnd_bd R hR
  have c6 : cutOff 6 1 0 1 = 1 := rfl
  have d1 : ∀ k, (cntL (botL R)).getD (1 + k) 0 = ((cntL (botL R)).drop 1).getD k 0 := fun k => by simp [List.getD, Nat.add_comm]
  have l5 : ((cntL (botL R)).drop 1).length = 5 := by rw [List.length_drop, cl]
  refine pure_of_vc (X := ⟨Try.prog, tys, [(124, countBoundaries_F), (130, bottoms_F)], [], true, true, 0, [], []⟩) fn_83 ⟨tys_ok, (.cons countBoundaries_T (.cons bottoms_T .nil)), .nil, mixed⟩ (n0 := 0) (Nat.le_of_ble_eq_true rfl) (by simp [wfL, SV.wf]) (wfH_spec (by simp [wfH, SObj.wf])) (Nat.le_refl _) (fun _ => by simp [SV.wf, wfL]) ?_
  simp -implicitDefEqProofs only [Try.f83, Option.getD_some, argS, countBoundaries_F, bottoms_F, hR, tkR, hr, cl, tkc, ZB, Int.reduceToNat, Nat.reduceLT, Nat.reduceLeDiff, Int.reduceLE, Int.reduceLT, Nat.reduceEqDiff, Nat.reduceSub, SB, SV.known, packR, ne_eq, reduceCtorEq, Nat.reduceEqDiff, ↓reduceIte, if_true, if_false, eq_self, Nat.reduceAdd, Nat.reduceMul, Nat.reduceSub, forall_const, oneCellS, litOne, flat1, Kd.isSca, flat, TYB]
  refine loop_intro (fun i : Nat => [(13, .int i), (12, .int 5), (11, .slice 1 1 5 5), (3, .int (sumT cbN R 6 + besF (((cntL (botL R)).drop 1).take i)))]) (fun i => [(1, .ints (cntL (botL R)) 51)]) 2 (fun i => i ≤ 5) (fun i => 5 - i) ?_ ?_
  · have b0 : besF [] = 0 := rfl
    refine ⟨0, ?_, Sub.mk_id ?_ ?_ ?_ ?_ ?_⟩
    all_goals (try (simp only [List.take_zero, c6, b0, Int.add_zero, LB, subS, subH, wfS, wfH, SV.ren, renL, SObj.ren, SV.wf, SObj.wf, wfL, SV.known, Nat.reduceEqDiff, ↓reduceIte, if_true, if_false, eq_self, Nat.reduceAdd, Nat.reduceLT, Nat.reduceLeDiff, implies_true, reduceCtorEq, forall_const]; done))
    all_goals (try (simp only [List.take_zero, c6, b0, Int.add_zero, LB, subS, subH, wfS, wfH, SV.ren, renL, SObj.ren, SV.wf, SObj.wf, wfL, SV.known, Nat.reduceEqDiff, ↓reduceIte, if_true, if_false, eq_self, Nat.reduceAdd, Nat.reduceLT, Nat.reduceLeDiff, implies_true, reduceCtorEq, forall_const]; simp; done))
    all_goals (try (simp only [List.take_zero, c6, b0, Int.add_zero, LB, subS, subH, wfS, wfH, SV.ren, renL, SObj.ren, SV.wf, SObj.wf, wfL, SV.known, Nat.reduceEqDiff, ↓reduceIte, if_true, if_false, eq_self, Nat.reduceAdd, Nat.reduceLT, Nat.reduceLeDiff, implies_true, reduceCtorEq, forall_const]; (and_intros <;> (first | omega | rfl | (simp; done) | (simp; omega))); done))
    all_goals (try dsimp only)
    all_goals (and_intros <;> try (first | omega | (unfold In64; omega) | trivial | assumption))
  · intro i hi
    by_cases hlt : i < 5
    · have es := besF_take_succ ((cntL (botL R)).drop 1) i (by omega)
      have b1 := bb.2.2.2.2 i
      have b2 := bb.2.2.2.2 (i + 1)
      rw [es] at b2
      have cb := cntL_bd (botL R) (1 + i)
      rw [d1, botL_len] at cb
      simp -implicitDefEqProofs only [lk_normal, d1, cl, Int.add_assoc, ZB, Int.reduceToNat, Nat.reduceLT, Nat.reduceLeDiff, Int.reduceLE, Int.reduceLT, Nat.reduceEqDiff, Nat.reduceSub, SB, SV.known, packR, ne_eq, reduceCtorEq, Nat.reduceEqDiff, ↓reduceIte, if_true, if_false, eq_self, Nat.reduceAdd, Nat.reduceMul, Nat.reduceSub, forall_const, oneCellS, litOne, flat1, Kd.isSca, flat, TYB]
      refine ⟨fun _ => ?_, fun hx => absurd (by omega) hx⟩
      (try (and_intros <;> try (first | omega | (unfold In64; omega) | trivial | assumption)))
      refine ⟨i + 1, ?_, ?_, Sub.mk_id ?_ ?_ ?_ ?_ ?_⟩
      all_goals (try (simp only [es, LB, subS, subH, wfS, wfH, SV.ren, renL, SObj.ren, SV.wf, SObj.wf, wfL, SV.known, Nat.reduceEqDiff, ↓reduceIte, if_true, if_false, eq_self, Nat.reduceAdd, Nat.reduceLT, Nat.reduceLeDiff, implies_true, reduceCtorEq, forall_const]; done))
      all_goals (try (simp only [es, LB, subS, subH, wfS, wfH, SV.ren, renL, SObj.ren, SV.wf, SObj.wf, wfL, SV.known, Nat.reduceEqDiff, ↓reduceIte, if_true, if_false, eq_self, Nat.reduceAdd, Nat.reduceLT, Nat.reduceLeDiff, implies_true, reduceCtorEq, forall_const]; simp; done))
      all_goals (try (simp only [es, LB, subS, subH, wfS, wfH, SV.ren, renL, SObj.ren, SV.wf, SObj.wf, wfL, SV.known, Nat.reduceEqDiff, ↓reduceIte, if_true, if_false, eq_self, Nat.reduceAdd, Nat.reduceLT, Nat.reduceLeDiff, implies_true, reduceCtorEq, forall_const]; (and_intros <;> (first | omega | rfl | (simp; done) | (simp; omega))); done))
      all_goals (try dsimp only)
      all_goals (and_intros <;> try (first | omega | (unfold In64; omega) | trivial | assumption))
    · obtain rfl : i = 5 := by omega
      have tk5 : ((cntL (botL R)).drop 1).take 5 = (cntL (botL R)).drop 1 := List.take_of_length_le (by omega)
      simp -implicitDefEqProofs only [lk_normal, cl, tk5, ZB, Int.reduceToNat, Nat.reduceLT, Nat.reduceLeDiff, Int.reduceLE, Int.reduceLT, Nat.reduceEqDiff, Nat.reduceSub, SB, SV.known, packR, ne_eq, reduceCtorEq, Nat.reduceEqDiff, ↓reduceIte, if_true, if_false, eq_self, Nat.reduceAdd, Nat.reduceMul, Nat.reduceSub, forall_const, oneCellS, litOne, flat1, Kd.isSca, flat, TYB]
      (try (and_intros <;> try (first | omega | (unfold In64; omega) | trivial | assumption)))
def bound_F : List SV → Heap → Option (Prop × SV)
  | [.arr R], _ => some (R.length = 24 ∧ rackB R = true, .int (bndF R))
  | _, _ => none
theorem bound_T : ∀ args H p v, bound_F args H = some (p, v) → p → PureH Try.prog 83 args H v := by
  intro args H p v h hp
  unfold bound_F at h
  split at h
  · cases h; exact (bound_ok _ hp.1 hp.2).any _
  · cases h
--@tbl l6Runs = spec.l6Runs
theorem RL_last (t : List Int) (ht : t.length = 4) : ∀ i, 0 < i → i ≤ 4 → ∃ r n : Nat, (RL t i).length = n * 2 ∧ 0 < n ∧ (RL t i).getD (n * 2 - 2) 0 = t.getD (i - 1) 0 ∧ (RL t i).getD (n * 2 - 1) 0 = r ∧ 0 < r ∧ r ≤ i := by
  intro i
  induction i with
  | zero => intro h; omega
  | succ i ih =>
    intro _ hi
    rw [RL_succ t i (by omega)]
    by_cases hi0 : i = 0
    · subst hi0
      rw [RL_zero]
      exact ⟨1, 1, by simp [stepR], by omega, by simp [stepR], by simp [stepR], by omega, by omega⟩
    · obtain ⟨r, n, h1, h2, h3, h4, h5, h6⟩ := ih (by omega) (by omega)
      by_cases he : (RL t i).getD (n * 2 - 2) 0 = t.getD i 0
      · rw [stepR_eq h1 h2 he]
        refine ⟨r + 1, n, by simpa using h1, h2, ?_, ?_, by omega, by omega⟩
        · rw [show i + 1 - 1 = i by omega, ← he]
          simp only [List.getD, List.getElem?_set]
          rw [if_neg (by omega)]
        · rw [getD_set_self _ _ _ (by omega), h4]; omega
      · rw [stepR_ne h1 he]
        refine ⟨1, n + 1, by simp; omega, by omega, ?_, ?_, by omega, by omega⟩
        · rw [show (n + 1) * 2 - 2 = (RL t i).length + 0 by omega, getD_app_right]; rfl
        · rw [show (n + 1) * 2 - 1 = (RL t i).length + 1 by omega, getD_app_right]; rfl
theorem l2Runs_ok (t : List Int) (ht : t.length = 4) (hb : tubeB t = true) : FreshP Try.prog 154 [.arr t] [] (runsL t) ((runsL t).length / 2) 2 44 false .one := by
  have tk : t.take 4 = t := List.take_of_length_le (by omega)
  have hp := posC_lay t ht hb
  have hle := lay_le t ht
  refine fresh_of_vc (X := ⟨Try.prog, tys, [(135, l2Many_F)], [], true, true, 0, [], []⟩) fn_154 ⟨tys_ok, (.cons l2Many_T .nil), .nil, mixed⟩ (n0 := 0) rfl (Nat.le_of_ble_eq_true rfl) (by simp [wfL, SV.wf]) (wfH_spec (by simp [wfH, SObj.wf])) (Nat.le_refl _) ?_
  simp -implicitDefEqProofs only [Try.f154, Option.getD_some, argS, l2Many_F, ht, tk, hp, ZB, Int.reduceToNat, Nat.reduceLT, Nat.reduceLeDiff, Int.reduceLE, Int.reduceLT, Nat.reduceEqDiff, Nat.reduceSub, SB, SV.known, packR, ne_eq, reduceCtorEq, Nat.reduceEqDiff, ↓reduceIte, if_true, if_false, eq_self, Nat.reduceAdd, Nat.reduceMul, Nat.reduceSub, forall_const, oneCellS, litOne, flat1, Kd.isSca, flat, TYB]
  refine loop_intro (fun s : Nat × Nat × Nat × List Int => [(4, .int s.1), (3, .slice 1 0 s.2.1 s.2.2.1), (1, .ptr 0 0)]) (fun s => [(1, .ints (RL t s.1 ++ s.2.2.2) 44), (0, .ints t 24)]) 2
    (fun s => s.1 ≤ layN t ∧ (RL t s.1).length = s.2.1 * 2 ∧ s.2.1 ≤ s.1 ∧ s.2.2.2.length + s.2.1 * 2 = s.2.2.1 * 2) (fun s => layN t - s.1) ?_ ?_
  · refine ⟨(0, 0, 0, []), ?_, Sub.mk_id ?_ ?_ ?_ ?_ ?_⟩
    all_goals (try (simp only [RL_zero, List.append_nil, LB, subS, subH, wfS, wfH, SV.ren, renL, SObj.ren, SV.wf, SObj.wf, wfL, SV.known, Nat.reduceEqDiff, ↓reduceIte, if_true, if_false, eq_self, Nat.reduceAdd, Nat.reduceLT, Nat.reduceLeDiff, implies_true, reduceCtorEq, forall_const]; done))
    all_goals (try (simp only [RL_zero, List.append_nil, LB, subS, subH, wfS, wfH, SV.ren, renL, SObj.ren, SV.wf, SObj.wf, wfL, SV.known, Nat.reduceEqDiff, ↓reduceIte, if_true, if_false, eq_self, Nat.reduceAdd, Nat.reduceLT, Nat.reduceLeDiff, implies_true, reduceCtorEq, forall_const]; simp; done))
    all_goals (try (simp only [RL_zero, List.append_nil, LB, subS, subH, wfS, wfH, SV.ren, renL, SObj.ren, SV.wf, SObj.wf, wfL, SV.known, Nat.reduceEqDiff, ↓reduceIte, if_true, if_false, eq_self, Nat.reduceAdd, Nat.reduceLT, Nat.reduceLeDiff, implies_true, reduceCtorEq, forall_const]; (and_intros <;> (first | omega | rfl | (simp; done) | (simp; omega))); done))
    all_goals (try dsimp only)
    all_goals (and_intros <;> try (first | omega | (unfold In64; omega) | trivial | assumption))
    all_goals simp [RL_zero]
  · rintro ⟨i, n, cap, junk⟩ ⟨hi, hL, hni, hj⟩
    simp only at hi hL hni hj
    have hlst := RL_last t ht i
    have tkL : (RL t i ++ junk).take (n * 2) = RL t i := List.take_left' hL
    have lenL : (RL t i ++ junk).length = cap * 2 := by rw [List.length_append]; omega
    have ei : ((i : Int) - 1).toNat = i - 1 := by omega
    have e0 : ((n : Int) - 1).toNat * 2 = n * 2 - 2 := by omega
    by_cases hlt : i < layN t
    · have es := RL_succ t i (by omega)
      rcases Nat.eq_zero_or_pos i with h0 | h0
      · subst h0
        have en : n = 0 := by omega
        subst en
        rw [RL_zero] at es
        simp -implicitDefEqProofs only [lk_normal, l2Many_F, ht, tk, hp, tkL, lenL, ei, e0, ZB, Int.reduceToNat, Nat.reduceLT, Nat.reduceLeDiff, Int.reduceLE, Int.reduceLT, Nat.reduceEqDiff, Nat.reduceSub, SB, SV.known, packR, ne_eq, reduceCtorEq, Nat.reduceEqDiff, ↓reduceIte, if_true, if_false, eq_self, Nat.reduceAdd, Nat.reduceMul, Nat.reduceSub, forall_const, oneCellS, litOne, flat1, Kd.isSca, flat, TYB]
        refine ⟨fun _ => ?_, fun hx => absurd (by omega) hx⟩
        (try (and_intros <;> try (first | omega | (unfold In64; omega) | trivial | assumption)))
        intro junk' cap' hj'
        (try (and_intros <;> try (first | omega | (unfold In64; omega) | trivial | assumption)))
        have es1 : RL t 1 = [t.getD 0 0, 1] := RL_one t (by omega)
        refine ⟨(1, 1, cap', junk'), ?_, ?_, Sub.mk_to 1 3 ?_ ?_ ?_ ?_ ?_ ?_ ?_⟩
        all_goals (try (simp only [es1, RL_zero, LB, subS, subH, wfS, wfH, SV.ren, renL, SObj.ren, SV.wf, SObj.wf, wfL, SV.known, Nat.reduceEqDiff, ↓reduceIte, if_true, if_false, eq_self, Nat.reduceAdd, Nat.reduceLT, Nat.reduceLeDiff, implies_true, reduceCtorEq, forall_const]; done))
        all_goals (try (simp only [es1, RL_zero, LB, subS, subH, wfS, wfH, SV.ren, renL, SObj.ren, SV.wf, SObj.wf, wfL, SV.known, Nat.reduceEqDiff, ↓reduceIte, if_true, if_false, eq_self, Nat.reduceAdd, Nat.reduceLT, Nat.reduceLeDiff, implies_true, reduceCtorEq, forall_const]; simp; done))
        all_goals (try (simp only [es1, RL_zero, LB, subS, subH, wfS, wfH, SV.ren, renL, SObj.ren, SV.wf, SObj.wf, wfL, SV.known, Nat.reduceEqDiff, ↓reduceIte, if_true, if_false, eq_self, Nat.reduceAdd, Nat.reduceLT, Nat.reduceLeDiff, implies_true, reduceCtorEq, forall_const]; (and_intros <;> (first | omega | rfl | (simp; done) | (simp; omega))); done))
        all_goals (try dsimp only)
        all_goals (and_intros <;> try (first | omega | (unfold In64; omega) | trivial | assumption))
        all_goals (try (simp [es1, RL_zero]; done))
        all_goals (simp only [es1, RL_zero, LB, subS, subH, wfS, wfH, SV.ren, renL, SObj.ren, SV.wf, SObj.wf, wfL, SV.known, Nat.reduceEqDiff, ↓reduceIte, if_true, if_false, eq_self, Nat.reduceAdd, Nat.reduceLT, Nat.reduceLeDiff, implies_true, reduceCtorEq, forall_const]; simp)
      · obtain ⟨r, n', g1, g2, g3, g4, g5, g6⟩ := hlst h0 (by omega)
        have en : n' = n := by omega
        subst en
        have e1 : n' * 2 - 2 + 1 = n' * 2 - 1 := by omega
        have gd1 := getD_app (RL t i) junk (n' * 2 - 1) (by omega)
        have hs := fun x => set_app (RL t i) junk (n' * 2 - 1) x (by omega)
        simp -implicitDefEqProofs only [lk_normal, l2Many_F, ht, tk, hp, tkL, lenL, ei, e0, e1, gd1, hs, ZB, Int.reduceToNat, Nat.reduceLT, Nat.reduceLeDiff, Int.reduceLE, Int.reduceLT, Nat.reduceEqDiff, Nat.reduceSub, SB, SV.known, packR, ne_eq, reduceCtorEq, Nat.reduceEqDiff, ↓reduceIte, if_true, if_false, eq_self, Nat.reduceAdd, Nat.reduceMul, Nat.reduceSub, forall_const, oneCellS, litOne, flat1, Kd.isSca, flat, TYB]
        refine ⟨fun _ => ⟨fun _ => ?_, fun hx => absurd (by omega) hx⟩, fun hx => absurd (by omega) hx⟩
        (try (and_intros <;> try (first | omega | (unfold In64; omega) | trivial | assumption)))
        · intro he
          rw [stepR_eq g1 g2 (by rw [g3, he])] at es
          (try (and_intros <;> try (first | omega | (unfold In64; omega) | trivial | assumption)))
          refine ⟨(i + 1, n', cap, junk), ?_, ?_, Sub.mk_id ?_ ?_ ?_ ?_ ?_⟩
          all_goals (try (simp only [es, LB, subS, subH, wfS, wfH, SV.ren, renL, SObj.ren, SV.wf, SObj.wf, wfL, SV.known, Nat.reduceEqDiff, ↓reduceIte, if_true, if_false, eq_self, Nat.reduceAdd, Nat.reduceLT, Nat.reduceLeDiff, implies_true, reduceCtorEq, forall_const]; done))
          all_goals (try (simp only [es, LB, subS, subH, wfS, wfH, SV.ren, renL, SObj.ren, SV.wf, SObj.wf, wfL, SV.known, Nat.reduceEqDiff, ↓reduceIte, if_true, if_false, eq_self, Nat.reduceAdd, Nat.reduceLT, Nat.reduceLeDiff, implies_true, reduceCtorEq, forall_const]; simp; done))
          all_goals (try (simp only [es, LB, subS, subH, wfS, wfH, SV.ren, renL, SObj.ren, SV.wf, SObj.wf, wfL, SV.known, Nat.reduceEqDiff, ↓reduceIte, if_true, if_false, eq_self, Nat.reduceAdd, Nat.reduceLT, Nat.reduceLeDiff, implies_true, reduceCtorEq, forall_const]; (and_intros <;> (first | omega | rfl | (simp; done) | (simp; omega))); done))
          all_goals (try dsimp only)
          all_goals (and_intros <;> try (first | omega | (unfold In64; omega) | trivial | assumption))
          all_goals (rw [es]; simp; omega)
        · intro he
          rw [stepR_ne g1 (by rw [g3]; exact fun hx => he hx.symm)] at es
          (try (and_intros <;> try (first | omega | (unfold In64; omega) | trivial | assumption)))
          intro junk' cap' hj'
          (try (and_intros <;> try (first | omega | (unfold In64; omega) | trivial | assumption)))
          refine ⟨(i + 1, n' + 1, cap', junk'), ?_, ?_, Sub.mk_to 1 3 ?_ ?_ ?_ ?_ ?_ ?_ ?_⟩
          all_goals (try (simp only [es, LB, subS, subH, wfS, wfH, SV.ren, renL, SObj.ren, SV.wf, SObj.wf, wfL, SV.known, Nat.reduceEqDiff, ↓reduceIte, if_true, if_false, eq_self, Nat.reduceAdd, Nat.reduceLT, Nat.reduceLeDiff, implies_true, reduceCtorEq, forall_const]; done))
          all_goals (try (simp only [es, LB, subS, subH, wfS, wfH, SV.ren, renL, SObj.ren, SV.wf, SObj.wf, wfL, SV.known, Nat.reduceEqDiff, ↓reduceIte, if_true, if_false, eq_self, Nat.reduceAdd, Nat.reduceLT, Nat.reduceLeDiff, implies_true, reduceCtorEq, forall_const]; simp; done))
          all_goals (try (simp only [es, LB, subS, subH, wfS, wfH, SV.ren, renL, SObj.ren, SV.wf, SObj.wf, wfL, SV.known, Nat.reduceEqDiff, ↓reduceIte, if_true, if_false, eq_self, Nat.reduceAdd, Nat.reduceLT, Nat.reduceLeDiff, implies_true, reduceCtorEq, forall_const]; (and_intros <;> (first | omega | rfl | (simp; done) | (simp; omega))); done))
          all_goals (try dsimp only)
          all_goals (and_intros <;> try (first | omega | (unfold In64; omega) | trivial | assumption))
          all_goals (rw [es, List.length_append, g1]; simp; omega)
    · have hii : i = layN t := by omega
      have hr : runsL t = RL t i := by rw [hii]; rfl
      simp -implicitDefEqProofs only [lk_normal, l2Many_F, ht, tk, hp, tkL, lenL, ei, e0, ZB, Int.reduceToNat, Nat.reduceLT, Nat.reduceLeDiff, Int.reduceLE, Int.reduceLT, Nat.reduceEqDiff, Nat.reduceSub, SB, SV.known, packR, ne_eq, reduceCtorEq, Nat.reduceEqDiff, ↓reduceIte, if_true, if_false, eq_self, Nat.reduceAdd, Nat.reduceMul, Nat.reduceSub, forall_const, oneCellS, litOne, flat1, Kd.isSca, flat, TYB]
      refine ⟨fun hx => absurd hx (by omega), fun _ => ?_⟩
      refine .inr ⟨1, cap, junk, ?_, ?_, by omega, ?_, by simp⟩
      · rw [hr, hL]; simp [Wrap.ap]
      · rw [hr]; simp [hget_cons]
      · rw [hr]; omega
--@tbl l2Runs = spec.l2Runs
def l2Runs_F : List SV → Heap → Nat → Nat → K1 → Prop
  | [.arr t], H, n, _, κ => (t.length = 4 ∧ tubeB t = true) ∧ freshK .one (runsL t) ((runsL t).length / 2) 2 44 false H n κ
  | _, _, _, _, _ => False
theorem l2Runs_T : ∀ args H n m κ, l2Runs_F args H n m κ → GenOK Try.prog 154 args H n m κ := by
  intro args H n m κ h
  unfold l2Runs_F at h
  split at h
  · exact gen_of_fresh (l2Runs_ok _ h.1.1 h.1.2) (fun k o hk => by cases hk) h.2
  · exact h.elim
theorem l6Runs_ok (R : List Int) (hR : R.length = 24) (hr : rackB R = true) : PureH Try.prog 126 [.arr R] [] (.int (sumT crN R 6)) := by
  have tkR : R.take 24 = R := List.take_of_length_le (by omega)
  refine pure_of_vc (X := ⟨Try.prog, tys, [], [(154, l2Runs_F)], true, true, 0, [], []⟩) fn_126 ⟨tys_ok, .nil, (.cons l2Runs_T .nil), mixed⟩ (n0 := 0) (Nat.le_of_ble_eq_true rfl) (by simp [wfL, SV.wf]) (wfH_spec (by simp [wfH, SObj.wf])) (Nat.le_refl _) (fun _ => by simp [SV.wf, wfL]) ?_
  simp -implicitDefEqProofs only [Try.f126, Option.getD_some, argS, l2Runs_F, hR, tkR, ZB, Int.reduceToNat, Nat.reduceLT, Nat.reduceLeDiff, Int.reduceLE, Int.reduceLT, Nat.reduceEqDiff, Nat.reduceSub, SB, SV.known, packR, ne_eq, reduceCtorEq, Nat.reduceEqDiff, ↓reduceIte, if_true, if_false, eq_self, Nat.reduceAdd, Nat.reduceMul, Nat.reduceSub, forall_const, oneCellS, litOne, flat1, Kd.isSca, flat, TYB]
  refine loop_intro (fun i : Nat => [(4, .int i), (3, .int (sumT crN R i)), (1, .ptr 0 0)]) (fun _ => [(0, .ints R 27)]) 1 (fun i => i ≤ 6) (fun i => 6 - i) ?_ ?_
  · refine ⟨0, ?_, Sub.mk_id ?_ ?_ ?_ ?_ ?_⟩
    all_goals (try (simp only [sumT_zero, LB, subS, subH, wfS, wfH, SV.ren, renL, SObj.ren, SV.wf, SObj.wf, wfL, SV.known, Nat.reduceEqDiff, ↓reduceIte, if_true, if_false, eq_self, Nat.reduceAdd, Nat.reduceLT, Nat.reduceLeDiff, implies_true, reduceCtorEq, forall_const]; done))
    all_goals (try (simp only [sumT_zero, LB, subS, subH, wfS, wfH, SV.ren, renL, SObj.ren, SV.wf, SObj.wf, wfL, SV.known, Nat.reduceEqDiff, ↓reduceIte, if_true, if_false, eq_self, Nat.reduceAdd, Nat.reduceLT, Nat.reduceLeDiff, implies_true, reduceCtorEq, forall_const]; simp; done))
    all_goals (try (simp only [sumT_zero, LB, subS, subH, wfS, wfH, SV.ren, renL, SObj.ren, SV.wf, SObj.wf, wfL, SV.known, Nat.reduceEqDiff, ↓reduceIte, if_true, if_false, eq_self, Nat.reduceAdd, Nat.reduceLT, Nat.reduceLeDiff, implies_true, reduceCtorEq, forall_const]; (and_intros <;> (first | omega | rfl | (simp; done) | (simp; omega))); done))
    all_goals (try dsimp only)
    all_goals (and_intros <;> try (first | omega | (unfold In64; omega) | trivial | assumption))
  · intro i hi
    have eT : List.take 4 (List.drop (i * 4) R) = tubeAt R i := rfl
    have bd := sumT_bd hR crN_bd i hi
    by_cases hlt : i < 6
    · have hl := tubeAt_len hR hlt
      have hb := tubeAt_ok hr hlt
      have es := sumT_succ crN R i
      have cr := crN_bd _ hl
      have ec : (((runsL (tubeAt R i)).length / 2 : Nat) : Int) = crN (tubeAt R i) := rfl
      simp -implicitDefEqProofs only [lk_normal, l2Runs_F, freshK, Wrap.ap, hR, eT, hl, hb, ec, ZB, Int.reduceToNat, Nat.reduceLT, Nat.reduceLeDiff, Int.reduceLE, Int.reduceLT, Nat.reduceEqDiff, Nat.reduceSub, SB, SV.known, packR, ne_eq, reduceCtorEq, Nat.reduceEqDiff, ↓reduceIte, if_true, if_false, eq_self, Nat.reduceAdd, Nat.reduceMul, Nat.reduceSub, forall_const, oneCellS, litOne, flat1, Kd.isSca, flat, TYB]
      refine ⟨fun _ => ⟨by omega, by omega, ?_⟩, fun hx => absurd (by omega) hx⟩
      (try (and_intros <;> try (first | omega | (unfold In64; omega) | trivial | assumption)))
      intro cap junk hj
      (try (and_intros <;> try (first | omega | (unfold In64; omega) | trivial | assumption)))
      refine ⟨i + 1, ?_, ?_, Sub.mk_id ?_ ?_ ?_ ?_ ?_⟩
      all_goals (try (simp only [es, LB, subS, subH, wfS, wfH, SV.ren, renL, SObj.ren, SV.wf, SObj.wf, wfL, SV.known, Nat.reduceEqDiff, ↓reduceIte, if_true, if_false, eq_self, Nat.reduceAdd, Nat.reduceLT, Nat.reduceLeDiff, implies_true, reduceCtorEq, forall_const]; done))
      all_goals (try (simp only [es, LB, subS, subH, wfS, wfH, SV.ren, renL, SObj.ren, SV.wf, SObj.wf, wfL, SV.known, Nat.reduceEqDiff, ↓reduceIte, if_true, if_false, eq_self, Nat.reduceAdd, Nat.reduceLT, Nat.reduceLeDiff, implies_true, reduceCtorEq, forall_const]; simp; done))
      all_goals (try (simp only [es, LB, subS, subH, wfS, wfH, SV.ren, renL, SObj.ren, SV.wf, SObj.wf, wfL, SV.known, Nat.reduceEqDiff, ↓reduceIte, if_true, if_false, eq_self, Nat.reduceAdd, Nat.reduceLT, Nat.reduceLeDiff, implies_true, reduceCtorEq, forall_const]; (and_intros <;> (first | omega | rfl | (simp; done) | (simp; omega))); done))
      all_goals (try dsimp only)
      all_goals (and_intros <;> try (first | omega | (unfold In64; omega) | trivial | assumption))
    · obtain rfl : i = 6 := by omega
      simp -implicitDefEqProofs only [lk_normal, hR, eT, ZB, Int.reduceToNat, Nat.reduceLT, Nat.reduceLeDiff, Int.reduceLE, Int.reduceLT, Nat.reduceEqDiff, Nat.reduceSub, SB, SV.known, packR, ne_eq, reduceCtorEq, Nat.reduceEqDiff, ↓reduceIte, if_true, if_false, eq_self, Nat.reduceAdd, Nat.reduceMul, Nat.reduceSub, forall_const, oneCellS, litOne, flat1, Kd.isSca, flat, TYB]
      (try (and_intros <;> try (first | omega | (unfold In64; omega) | trivial | assumption)))
def l6Runs_F : List SV → Heap → Option (Prop × SV)
  | [.arr R], _ => some (R.length = 24 ∧ rackB R = true, .int (sumT crN R 6))
  | _, _ => none
theorem l6Runs_T : ∀ args H p v, l6Runs_F args H = some (p, v) → p → PureH Try.prog 126 args H v := by
  intro args H p v h hp
  unfold l6Runs_F at h
  split at h
  · cases h; exact (l6Runs_ok _ hp.1 hp.2).any _
  · cases h
/-! The model's boundaries. -/
theorem cnt0_sum : ∀ (l : List Int), (∀ x ∈ l, 0 ≤ x) → (cntL l).getD 0 0 = (l.map fun x => if x = 0 then (1 : Int) else 0).sum := by
  intro l
  have key : ∀ (l : List Int) (c : List Int), c.length = 6 → (∀ x ∈ l, 0 ≤ x) → (l.foldl (fun c x => incr c x.toNat) c).getD 0 0 = c.getD 0 0 + (l.map fun x => if x = 0 then (1 : Int) else 0).sum := by
    intro l
    induction l with
    | nil => intro c _ _; simp
    | cons x l ih =>
      intro c hc h
      have hx := h x (by simp)
      rw [List.foldl_cons, ih (incr c x.toNat) (by simp [incr, hc]) fun y hy => h y (by simp [hy])]
      simp only [List.map_cons, List.sum_cons]
      by_cases h0 : x = 0
      · subst h0
        rw [if_pos rfl, incr, show (0 : Int).toNat = 0 from rfl, getD_set_self _ _ _ (by omega)]
        omega
      · rw [if_neg h0]
        have : (incr c x.toNat).getD 0 0 = c.getD 0 0 := by
          simp only [incr, List.getD, List.getElem?_set]
          rw [if_neg (by omega)]
        rw [this]; omega
  intro h
  unfold cntL
  rw [key l _ (by simp) h]
  simp
theorem runs_bottom (t : List Int) (ht : t.length = 4) (hb : tubeB t = true) : (0 < layN t ↔ 0 < crN t) ∧ (t.getD 0 0 = 0 ↔ layN t = 0) := by
  have hle := lay_le t ht
  constructor
  · constructor
    · intro h
      obtain ⟨n, h1, h2, h3⟩ := runsL_even t ht
      have := h3 h
      unfold crN
      omega
    · intro h
      rcases Nat.eq_zero_or_pos (layN t) with h0 | h0
      · have : crN t = 0 := by simp [crN, runsL, h0]
        omega
      · exact h0
  · obtain ⟨a, b, c, d, rfl⟩ : ∃ a b c d, t = [a, b, c, d] := by
      match t, ht with
      | [a, b, c, d], _ => exact ⟨a, b, c, d, rfl⟩
    by_cases ha : a = 0
    · subst ha; simp [layN, isZ0, List.findIdx?_cons]
    · simp [layN, isZ0, List.findIdx?_cons, ha, Ne.symm ha]
theorem bnd_link (R : List Int) (hR : R.length = 24) (hr : rackB R = true) : sumT crN R 6 - 6 + (cntL (botL R)).getD 0 0 = sumT cbN R 6 := by
  rw [cnt0_sum (botL R) (by
    intro x hx
    obtain ⟨i, hi, rfl⟩ := List.mem_map.1 hx
    exact (rack_cell hR hr (k := i * 4) (by have := List.mem_range.1 hi; omega)).1)]
  have key : ∀ k, k ≤ 6 → sumT crN R k - k + (((List.range k).map fun i => R.getD (i * 4) 0).map fun x => if x = 0 then (1 : Int) else 0).sum = sumT cbN R k := by
    intro k
    induction k with
    | zero => intro _; simp [sumT_zero]
    | succ k ih =>
      intro hk
      have h1 := ih (by omega)
      have hl := tubeAt_len hR (i := k) (by omega)
      have hb := tubeAt_ok hr (i := k) (by omega)
      have rb := runs_bottom _ hl hb
      have e0 : (tubeAt R k).getD 0 0 = R.getD (k * 4) 0 := by rw [show k * 4 = k * 4 + 0 by omega]; exact cut_getD R k 0 (by omega)
      rw [e0] at rb
      have cb : cbN (tubeAt R k) = max (crN (tubeAt R k) - 1) 0 := rfl
      have c0 := (crN_bd _ hl).1
      rw [sumT_succ, sumT_succ, List.range_succ, List.map_append, List.map_append, List.sum_append]
      simp only [List.map_cons, List.map_nil, List.sum_cons, List.sum_nil]
      by_cases hz : R.getD (k * 4) 0 = 0
      · rw [if_pos hz]
        have := rb.2.1 hz
        have : ¬ 0 < crN (tubeAt R k) := fun h => by have := rb.1.2 h; omega
        omega
      · rw [if_neg hz]
        have : ¬ layN (tubeAt R k) = 0 := fun h => hz (rb.2.2 h)
        have := rb.1.1 (by omega)
        omega
  exact key 6 (by omega)
--@tbl l6Boundaries = spec.l6Boundaries
theorem l6Boundaries_ok (R : List Int) (hR : R.length = 24) (hr : rackB R = true) : PureH Try.prog 127 [.arr R] [] (.int (sumT cbN R 6)) := by
  have tkR : R.take 24 = R := List.take_of_length_le (by omega)
  have cl := cntL_len (botL R)
  have tkc : (cntL (botL R)).take 6 = cntL (botL R) := List.take_of_length_le (by omega)
  have bd := sumT_bd hR crN_bd 6 (by omega)
  have cb := cntL_bd (botL R) 0
  rw [botL_len] at cb
  have lk := bnd_link R hR hr
  refine pure_of_vc (X := ⟨Try.prog, tys, [(126, l6Runs_F), (131, l6Bottoms_F)], [], true, true, 0, [], []⟩) fn_127 ⟨tys_ok, (.cons l6Runs_T (.cons l6Bottoms_T .nil)), .nil, mixed⟩ (n0 := 0) (Nat.le_of_ble_eq_true rfl) (by simp [wfL, SV.wf]) (wfH_spec (by simp [wfH, SObj.wf])) (Nat.le_refl _) (fun _ => by simp [SV.wf, wfL]) ?_
  simp -implicitDefEqProofs only [Try.f127, Option.getD_some, argS, l6Runs_F, l6Bottoms_F, hR, tkR, hr, cl, tkc, ZB, Int.reduceToNat, Nat.reduceLT, Nat.reduceLeDiff, Int.reduceLE, Int.reduceLT, Nat.reduceEqDiff, Nat.reduceSub, SB, SV.known, packR, ne_eq, reduceCtorEq, Nat.reduceEqDiff, ↓reduceIte, if_true, if_false, eq_self, Nat.reduceAdd, Nat.reduceMul, Nat.reduceSub, forall_const, oneCellS, litOne, flat1, Kd.isSca, flat, TYB]
  (try (and_intros <;> try (first | omega | (unfold In64; omega) | trivial | assumption)))
def l6Boundaries_F : List SV → Heap → Option (Prop × SV)
  | [.arr R], _ => some (R.length = 24 ∧ rackB R = true, .int (sumT cbN R 6))
  | _, _ => none
theorem l6Boundaries_T : ∀ args H p v, l6Boundaries_F args H = some (p, v) → p → PureH Try.prog 127 args H v := by
  intro args H p v h hp
  unfold l6Boundaries_F at h
  split at h
  · cases h; exact (l6Boundaries_ok _ hp.1 hp.2).any _
  · cases h
--@tbl l6Bound = spec.l6Bound
theorem l6Bound_ok (R : List Int) (hR : R.length = 24) (hr : rackB R = true) : PureH Try.prog 82 [.arr R] [] (.int (bndF R)) := by
  have tkR : R.take 24 = R := List.take_of_length_le (by omega)
  have cl := cntL_len (botL R)
  have tkc : (cntL (botL R)).take 6 = cntL (botL R) := List.take_of_length_le (by omega)
  have bb := bnd_bd R hR
  have d1 : ∀ k, (cntL (botL R)).getD (1 + k) 0 = ((cntL (botL R)).drop 1).getD k 0 := fun k => by simp [List.getD, Nat.add_comm]
  have l5 : ((cntL (botL R)).drop 1).length = 5 := by rw [List.length_drop, cl]
  refine pure_of_vc (X := ⟨Try.prog, tys, [(127, l6Boundaries_F), (131, l6Bottoms_F), (145, l1Most_F)], [], true, true, 0, [], []⟩) fn_82 ⟨tys_ok, (.cons l6Boundaries_T (.cons l6Bottoms_T (.cons l1Most_T .nil))), .nil, mixed⟩ (n0 := 0) (Nat.le_of_ble_eq_true rfl) (by simp [wfL, SV.wf]) (wfH_spec (by simp [wfH, SObj.wf])) (Nat.le_refl _) (fun _ => by simp [SV.wf, wfL]) ?_
  simp -implicitDefEqProofs only [Try.f82, Option.getD_some, argS, l6Boundaries_F, l6Bottoms_F, l1Most_F, hR, tkR, hr, cl, tkc, ZB, Int.reduceToNat, Nat.reduceLT, Nat.reduceLeDiff, Int.reduceLE, Int.reduceLT, Nat.reduceEqDiff, Nat.reduceSub, SB, SV.known, packR, ne_eq, reduceCtorEq, Nat.reduceEqDiff, ↓reduceIte, if_true, if_false, eq_self, Nat.reduceAdd, Nat.reduceMul, Nat.reduceSub, forall_const, oneCellS, litOne, flat1, Kd.isSca, flat, TYB]
  refine loop_intro (fun i : Nat => [(5, .int (1 + i)), (3, .int (sumT cbN R 6 + besF (((cntL (botL R)).drop 1).take i))), (4, .ptr 1 0)]) (fun i => [(1, .ints (cntL (botL R)) 51)]) 2 (fun i => i ≤ 5) (fun i => 5 - i) ?_ ?_
  · have b0 : besF [] = 0 := rfl
    refine ⟨0, ?_, Sub.mk_id ?_ ?_ ?_ ?_ ?_⟩
    all_goals (try (simp only [List.take_zero, b0, Int.add_zero, LB, subS, subH, wfS, wfH, SV.ren, renL, SObj.ren, SV.wf, SObj.wf, wfL, SV.known, Nat.reduceEqDiff, ↓reduceIte, if_true, if_false, eq_self, Nat.reduceAdd, Nat.reduceLT, Nat.reduceLeDiff, implies_true, reduceCtorEq, forall_const]; done))
    all_goals (try (simp only [List.take_zero, b0, Int.add_zero, LB, subS, subH, wfS, wfH, SV.ren, renL, SObj.ren, SV.wf, SObj.wf, wfL, SV.known, Nat.reduceEqDiff, ↓reduceIte, if_true, if_false, eq_self, Nat.reduceAdd, Nat.reduceLT, Nat.reduceLeDiff, implies_true, reduceCtorEq, forall_const]; simp; done))
    all_goals (try (simp only [List.take_zero, b0, Int.add_zero, LB, subS, subH, wfS, wfH, SV.ren, renL, SObj.ren, SV.wf, SObj.wf, wfL, SV.known, Nat.reduceEqDiff, ↓reduceIte, if_true, if_false, eq_self, Nat.reduceAdd, Nat.reduceLT, Nat.reduceLeDiff, implies_true, reduceCtorEq, forall_const]; (and_intros <;> (first | omega | rfl | (simp; done) | (simp; omega))); done))
    all_goals (try dsimp only)
    all_goals (and_intros <;> try (first | omega | (unfold In64; omega) | trivial | assumption))
  · intro i hi
    have e1 : (1 + (i : Int)).toNat = 1 + i := by omega
    by_cases hlt : i < 5
    · have es := besF_take_succ ((cntL (botL R)).drop 1) i (by omega)
      have b1 := bb.2.2.2.2 i
      have b2 := bb.2.2.2.2 (i + 1)
      rw [es, Int.max_comm] at b2
      rw [Int.max_comm] at es
      have cb := cntL_bd (botL R) (1 + i)
      rw [d1, botL_len] at cb
      simp -implicitDefEqProofs only [lk_normal, l1Most_F, e1, d1, cl, Int.add_assoc, ZB, Int.reduceToNat, Nat.reduceLT, Nat.reduceLeDiff, Int.reduceLE, Int.reduceLT, Nat.reduceEqDiff, Nat.reduceSub, SB, SV.known, packR, ne_eq, reduceCtorEq, Nat.reduceEqDiff, ↓reduceIte, if_true, if_false, eq_self, Nat.reduceAdd, Nat.reduceMul, Nat.reduceSub, forall_const, oneCellS, litOne, flat1, Kd.isSca, flat, TYB]
      refine ⟨fun _ => ?_, fun hx => absurd (by omega) hx⟩
      (try (and_intros <;> try (first | omega | (unfold In64; omega) | trivial | assumption)))
      refine ⟨i + 1, ?_, ?_, Sub.mk_id ?_ ?_ ?_ ?_ ?_⟩
      all_goals (try (simp only [es, LB, subS, subH, wfS, wfH, SV.ren, renL, SObj.ren, SV.wf, SObj.wf, wfL, SV.known, Nat.reduceEqDiff, ↓reduceIte, if_true, if_false, eq_self, Nat.reduceAdd, Nat.reduceLT, Nat.reduceLeDiff, implies_true, reduceCtorEq, forall_const]; done))
      all_goals (try (simp only [es, LB, subS, subH, wfS, wfH, SV.ren, renL, SObj.ren, SV.wf, SObj.wf, wfL, SV.known, Nat.reduceEqDiff, ↓reduceIte, if_true, if_false, eq_self, Nat.reduceAdd, Nat.reduceLT, Nat.reduceLeDiff, implies_true, reduceCtorEq, forall_const]; simp; done))
      all_goals (try (simp only [es, LB, subS, subH, wfS, wfH, SV.ren, renL, SObj.ren, SV.wf, SObj.wf, wfL, SV.known, Nat.reduceEqDiff, ↓reduceIte, if_true, if_false, eq_self, Nat.reduceAdd, Nat.reduceLT, Nat.reduceLeDiff, implies_true, reduceCtorEq, forall_const]; (and_intros <;> (first | omega | rfl | (simp; done) | (simp; omega))); done))
      all_goals (try dsimp only)
      all_goals (and_intros <;> try (first | omega | (unfold In64; omega) | trivial | assumption))
    · obtain rfl : i = 5 := by omega
      have tk5 : ((cntL (botL R)).drop 1).take 5 = (cntL (botL R)).drop 1 := List.take_of_length_le (by omega)
      simp -implicitDefEqProofs only [lk_normal, cl, tk5, ZB, Int.reduceToNat, Nat.reduceLT, Nat.reduceLeDiff, Int.reduceLE, Int.reduceLT, Nat.reduceEqDiff, Nat.reduceSub, SB, SV.known, packR, ne_eq, reduceCtorEq, Nat.reduceEqDiff, ↓reduceIte, if_true, if_false, eq_self, Nat.reduceAdd, Nat.reduceMul, Nat.reduceSub, forall_const, oneCellS, litOne, flat1, Kd.isSca, flat, TYB]
      (try (and_intros <;> try (first | omega | (unfold In64; omega) | trivial | assumption)))
      intro _
      rfl
def l6Bound_F : List SV → Heap → Option (Prop × SV)
  | [.arr R], _ => some (R.length = 24 ∧ rackB R = true, .int (bndF R))
  | _, _ => none
theorem l6Bound_T : ∀ args H p v, l6Bound_F args H = some (p, v) → p → PureH Try.prog 82 args H v := by
  intro args H p v h hp
  unfold l6Bound_F at h
  split at h
  · cases h; exact (l6Bound_ok _ hp.1 hp.2).any _
  · cases h
theorem pourB_facts {R : List Int} {i j : Int} (hR : R.length = 24) (h : pourB R i j = true) : rackB R = true ∧ (0 ≤ i ∧ i ≤ 5) ∧ (0 ≤ j ∧ j ≤ 5) ∧ canF R i j = true ∧ rackB (pourF R i.toNat j.toNat) = true ∧ pourT R i j = pourF R i.toNat j.toNat ∧ pourM R i j = pmN R i.toNat j.toNat := by
  have h0 := h
  simp only [pourB, Bool.and_eq_true] at h
  have bi := pl_bd h.1.1.2
  have bj := pl_bd h.1.2
  exact ⟨h.1.1.1, bi, bj, h.2, pour_rack hR h.1.1.1 bi bj h.2, by rw [pourT, if_pos h0], by rw [pourM, if_pos h0]⟩
--@tbl PourChange = impl.PourChange
--@tbl sPourChange = spec.PourChange
def pchF (R : List Int) (i j : Int) : List Int := if pourB R i j = true then [sumT crN (pourF R i.toNat j.toNat) 6 - sumT crN R 6, sumT cbN (pourF R i.toNat j.toNat) 6 - sumT cbN R 6, bndF (pourF R i.toNat j.toNat) - bndF R] else [0, 0, 0]
theorem pchF_len (R : List Int) (i j : Int) : (pchF R i j).length = 3 := by unfold pchF; split <;> rfl
theorem PourChange_ok (R : List Int) (i j : Int) (hR : R.length = 24) : PureH Try.prog 53 [.arr R, .int i, .int j] [] (.tup [.arr (pchF R i j), .bool (pourB R i j)]) := by
  have tkR : R.take 24 = R := List.take_of_length_le (by omega)
  have r2 : List.replicate 2 (0 : Int) = [0, 0] := rfl
  have r3 : List.replicate 3 (0 : Int) = [0, 0, 0] := rfl
  have t3 : List.take 3 [(0 : Int), 0, 0] = [0, 0, 0] := rfl
  unfold pchF pourB
  cases hr : rackB R <;> cases hi : plF i <;> cases hj : plF j
  case true.true.true =>
    have bi := pl_bd hi
    have bj := pl_bd hj
    cases hc : canF R i j
    · refine pure_of_vc (X := ⟨Try.prog, tys, [(86, isAt_F), (87, canPour_F), (71, pour_F)], [], true, true, 0, [], []⟩) fn_53 ⟨tys_ok, (.cons isAt_T (.cons canPour_T (.cons pour_T .nil))), .nil, mixed⟩ (n0 := 0) (Nat.le_of_ble_eq_true rfl) (by simp [wfL, SV.wf]) (wfH_spec (by simp [wfH, SObj.wf])) (Nat.le_refl _) (fun _ => by simp [SV.wf, wfL]) ?_
      simp -implicitDefEqProofs only [Try.f53, Option.getD_some, argS, isAt_F, canPour_F, pour_F, hR, tkR, hr, hi, hj, hc, r2, r3, t3, List.set_cons_zero, List.set_cons_succ, List.drop_zero, List.all_cons, List.all_nil, ZB, Int.reduceToNat, Nat.reduceLT, Nat.reduceLeDiff, Int.reduceLE, Int.reduceLT, Nat.reduceEqDiff, Nat.reduceSub, SB, SV.known, packR, ne_eq, reduceCtorEq, Nat.reduceEqDiff, ↓reduceIte, if_true, if_false, eq_self, Nat.reduceAdd, Nat.reduceMul, Nat.reduceSub, forall_const, oneCellS, litOne, flat1, Kd.isSca, flat, TYB]
      (try (and_intros <;> try (first | omega | (unfold In64; omega) | trivial | assumption)))
    · have hr' := pour_rack hR hr bi bj hc
      have pl := pourF_len hR i.toNat j.toNat
      have tkP : (pourF R i.toNat j.toNat).take 24 = pourF R i.toNat j.toNat := List.take_of_length_le (by omega)
      have b1 := sumT_bd hR crN_bd 6 (by omega)
      have b2 := sumT_bd pl crN_bd 6 (by omega)
      have b3 := bnd_bd R hR
      have b4 := bnd_bd _ pl
      refine pure_of_vc (X := ⟨Try.prog, tys, [(86, isAt_F), (87, canPour_F), (71, pour_F), (123, countRuns_F), (124, countBoundaries_F), (83, bound_F)], [], true, true, 0, [], []⟩) fn_53 ⟨tys_ok, (.cons isAt_T (.cons canPour_T (.cons pour_T (.cons countRuns_T (.cons countBoundaries_T (.cons bound_T .nil)))))), .nil, mixed⟩ (n0 := 0) (Nat.le_of_ble_eq_true rfl) (by simp [wfL, SV.wf]) (wfH_spec (by simp [wfH, SObj.wf])) (Nat.le_refl _) (fun _ => by simp [SV.wf, wfL]) ?_
      simp -implicitDefEqProofs only [Try.f53, Option.getD_some, argS, isAt_F, canPour_F, pour_F, countRuns_F, countBoundaries_F, bound_F, hR, tkR, hr, hi, hj, hc, r2, r3, t3, hr', pl, tkP, List.set_cons_zero, List.set_cons_succ, List.drop_zero, List.all_cons, List.all_nil, ZB, Int.reduceToNat, Nat.reduceLT, Nat.reduceLeDiff, Int.reduceLE, Int.reduceLT, Nat.reduceEqDiff, Nat.reduceSub, SB, SV.known, packR, ne_eq, reduceCtorEq, Nat.reduceEqDiff, ↓reduceIte, if_true, if_false, eq_self, Nat.reduceAdd, Nat.reduceMul, Nat.reduceSub, forall_const, oneCellS, litOne, flat1, Kd.isSca, flat, TYB]
      (try (and_intros <;> try (first | omega | (unfold In64; omega) | trivial | assumption)))
  all_goals
    refine pure_of_vc (X := ⟨Try.prog, tys, [(86, isAt_F), (87, canPour_F), (71, pour_F)], [], true, true, 0, [], []⟩) fn_53 ⟨tys_ok, (.cons isAt_T (.cons canPour_T (.cons pour_T .nil))), .nil, mixed⟩ (n0 := 0) (Nat.le_of_ble_eq_true rfl) (by simp [wfL, SV.wf]) (wfH_spec (by simp [wfH, SObj.wf])) (Nat.le_refl _) (fun _ => by simp [SV.wf, wfL]) ?_
    simp -implicitDefEqProofs only [Try.f53, Option.getD_some, argS, isAt_F, canPour_F, pour_F, hR, tkR, hr, hi, hj, r2, r3, t3, List.set_cons_zero, List.set_cons_succ, List.drop_zero, List.all_cons, List.all_nil, ZB, Int.reduceToNat, Nat.reduceLT, Nat.reduceLeDiff, Int.reduceLE, Int.reduceLT, Nat.reduceEqDiff, Nat.reduceSub, SB, SV.known, packR, ne_eq, reduceCtorEq, Nat.reduceEqDiff, ↓reduceIte, if_true, if_false, eq_self, Nat.reduceAdd, Nat.reduceMul, Nat.reduceSub, forall_const, oneCellS, litOne, flat1, Kd.isSca, flat, TYB]
theorem sPourChange_ok (R : List Int) (i j : Int) (hR : R.length = 24) : PureH Try.prog 54 [.arr R, .int i, .int j] [] (.tup [.arr (pchF R i j), .bool (pourB R i j)]) := by
  have tkR : R.take 24 = R := List.take_of_length_le (by omega)
  have r3 : List.replicate 3 (0 : Int) = [0, 0, 0] := rfl
  have t3 : List.take 3 [(0 : Int), 0, 0] = [0, 0, 0] := rfl
  have ptl := pourT_len hR i j
  have tkT : (pourT R i j).take 24 = pourT R i j := List.take_of_length_le (by omega)
  unfold pchF
  cases hp : pourB R i j
  · refine pure_of_vc (X := ⟨Try.prog, tys, [(125, sPour_F)], [], true, true, 0, [], []⟩) fn_54 ⟨tys_ok, (.cons sPour_T .nil), .nil, mixed⟩ (n0 := 0) (Nat.le_of_ble_eq_true rfl) (by simp [wfL, SV.wf]) (wfH_spec (by simp [wfH, SObj.wf])) (Nat.le_refl _) (fun _ => by simp [SV.wf, wfL]) ?_
    simp -implicitDefEqProofs only [Try.f54, Option.getD_some, argS, sPour_F, hR, tkR, hp, ptl, tkT, r3, t3, ZB, Int.reduceToNat, Nat.reduceLT, Nat.reduceLeDiff, Int.reduceLE, Int.reduceLT, Nat.reduceEqDiff, Nat.reduceSub, SB, SV.known, packR, ne_eq, reduceCtorEq, Nat.reduceEqDiff, ↓reduceIte, if_true, if_false, eq_self, Nat.reduceAdd, Nat.reduceMul, Nat.reduceSub, forall_const, oneCellS, litOne, flat1, Kd.isSca, flat, TYB]
  · obtain ⟨hr, bi, bj, hc, hr', pe, _⟩ := pourB_facts hR hp
    have pl := pourF_len hR i.toNat j.toNat
    have tkP : (pourF R i.toNat j.toNat).take 24 = pourF R i.toNat j.toNat := List.take_of_length_le (by omega)
    have b1 := sumT_bd hR crN_bd 6 (by omega)
    have b2 := sumT_bd pl crN_bd 6 (by omega)
    have b3 := bnd_bd R hR
    have b4 := bnd_bd _ pl
    refine pure_of_vc (X := ⟨Try.prog, tys, [(125, sPour_F), (126, l6Runs_F), (127, l6Boundaries_F), (82, l6Bound_F)], [], true, true, 0, [], []⟩) fn_54 ⟨tys_ok, (.cons sPour_T (.cons l6Runs_T (.cons l6Boundaries_T (.cons l6Bound_T .nil)))), .nil, mixed⟩ (n0 := 0) (Nat.le_of_ble_eq_true rfl) (by simp [wfL, SV.wf]) (wfH_spec (by simp [wfH, SObj.wf])) (Nat.le_refl _) (fun _ => by simp [SV.wf, wfL]) ?_
    simp -implicitDefEqProofs only [Try.f54, Option.getD_some, argS, sPour_F, l6Runs_F, l6Boundaries_F, l6Bound_F, hR, tkR, hr, hp, pe, hr', pl, tkP, r3, t3, ZB, Int.reduceToNat, Nat.reduceLT, Nat.reduceLeDiff, Int.reduceLE, Int.reduceLT, Nat.reduceEqDiff, Nat.reduceSub, SB, SV.known, packR, ne_eq, reduceCtorEq, Nat.reduceEqDiff, ↓reduceIte, if_true, if_false, eq_self, Nat.reduceAdd, Nat.reduceMul, Nat.reduceSub, forall_const, oneCellS, litOne, flat1, Kd.isSca, flat, TYB]
    (try (and_intros <;> try (first | omega | (unfold In64; omega) | trivial | assumption)))
    all_goals simp
def PourChange_F : List SV → Heap → Option (Prop × SV)
  | [.arr R, .int i, .int j], _ => some (R.length = 24, .tup [.arr (pchF R i j), .bool (pourB R i j)])
  | _, _ => none
theorem PourChange_T : ∀ args H p v, PourChange_F args H = some (p, v) → p → PureH Try.prog 53 args H v := by
  intro args H p v h hp
  unfold PourChange_F at h
  split at h
  · cases h; exact (PourChange_ok _ _ _ hp).any _
  · cases h
def sPourChange_F : List SV → Heap → Option (Prop × SV)
  | [.arr R, .int i, .int j], _ => some (R.length = 24, .tup [.arr (pchF R i j), .bool (pourB R i j)])
  | _, _ => none
theorem sPourChange_T : ∀ args H p v, sPourChange_F args H = some (p, v) → p → PureH Try.prog 54 args H v := by
  intro args H p v h hp
  unfold sPourChange_F at h
  split at h
  · cases h; exact (sPourChange_ok _ _ _ hp).any _
  · cases h
end Go.Proofs.Ytopfnkmlgcjpbaa
/- Walks: views. -/
set_option maxRecDepth 100000
set_option linter.unusedSimpArgs false
set_option linter.unusedVariables false
namespace Go.Proofs.Ytopfnkmlgcjpbaa
open Go Go.RowKit
/-! Colors counted. -/
--@tbl countColors = impl.countColors
--@tbl l2Counts = spec.l2Counts
theorem cnt_step {R : List Int} (hR : R.length = 24) (hr : rackB R = true) {i j : Nat} (hi : i < 6) (hj : j < 4) : cntL (R.take (i * 4 + (j + 1))) = incr (cntL (R.take (i * 4 + j))) (R.getD (i * 4 + j) 0).toNat ∧ (0 ≤ R.getD (i * 4 + j) 0 ∧ R.getD (i * 4 + j) 0 ≤ 5) ∧
    0 ≤ (cntL (R.take (i * 4 + j))).getD (R.getD (i * 4 + j) 0).toNat 0 ∧ (cntL (R.take (i * 4 + j))).getD (R.getD (i * 4 + j) 0).toNat 0 ≤ 24 := by
  have := cntL_take_succ R (i * 4 + j) (by omega)
  have rc := rack_cell hR hr (k := i * 4 + j) (by omega)
  have cb := cntL_bd (R.take (i * 4 + j)) (R.getD (i * 4 + j) 0).toNat
  have : (R.take (i * 4 + j)).length ≤ 24 := by rw [List.length_take]; omega
  refine ⟨by rw [← Nat.add_assoc]; assumption, rc, by omega, by omega⟩
theorem countColors_ok (R : List Int) (hR : R.length = 24) (hr : rackB R = true) : PureH Try.prog 128 [.arr R] [] (.arr (cntL R)) := by
  have tkR : R.take 24 = R := List.take_of_length_le (by omega)
  refine pure_of_vc (X := ⟨Try.prog, tys, [], [], true, true, 0, [], []⟩) fn_128 ⟨tys_ok, .nil, .nil, mixed⟩ (n0 := 0) (Nat.le_of_ble_eq_true rfl) (by simp [wfL, SV.wf]) (wfH_spec (by simp [wfH, SObj.wf])) (Nat.le_refl _) (fun _ => by simp [SV.wf, wfL]) ?_
  simp -implicitDefEqProofs only [Try.f128, Option.getD_some, argS, hR, tkR, ZB, Int.reduceToNat, Nat.reduceLT, Nat.reduceLeDiff, Int.reduceLE, Int.reduceLT, Nat.reduceEqDiff, Nat.reduceSub, SB, SV.known, packR, ne_eq, reduceCtorEq, Nat.reduceEqDiff, ↓reduceIte, if_true, if_false, eq_self, Nat.reduceAdd, Nat.reduceMul, Nat.reduceSub, forall_const, oneCellS, litOne, flat1, Kd.isSca, flat, TYB]
  refine loop_intro (fun i : Nat => [(10, .int i), (9, .arr R), (3, .ptr 2 0), (2, .ptr 1 0), (1, .ptr 0 0)]) (fun i => [(0, .ints R 27), (1, .ints (List.replicate 6 0) 51), (2, .ints (cntL (R.take (i * 4))) 51)]) 3 (fun i => i ≤ 6) (fun i => 6 - i) ?_ ?_
  · refine ⟨0, ?_, Sub.mk_id ?_ ?_ ?_ ?_ ?_⟩
    all_goals (try (simp only [List.take_zero, Nat.zero_mul, cntL_nil, LB, subS, subH, wfS, wfH, SV.ren, renL, SObj.ren, SV.wf, SObj.wf, wfL, SV.known, Nat.reduceEqDiff, ↓reduceIte, if_true, if_false, eq_self, Nat.reduceAdd, Nat.reduceLT, Nat.reduceLeDiff, implies_true, reduceCtorEq, forall_const]; done))
    all_goals (try (simp only [List.take_zero, Nat.zero_mul, cntL_nil, LB, subS, subH, wfS, wfH, SV.ren, renL, SObj.ren, SV.wf, SObj.wf, wfL, SV.known, Nat.reduceEqDiff, ↓reduceIte, if_true, if_false, eq_self, Nat.reduceAdd, Nat.reduceLT, Nat.reduceLeDiff, implies_true, reduceCtorEq, forall_const]; simp; done))
    all_goals (try (simp only [List.take_zero, Nat.zero_mul, cntL_nil, LB, subS, subH, wfS, wfH, SV.ren, renL, SObj.ren, SV.wf, SObj.wf, wfL, SV.known, Nat.reduceEqDiff, ↓reduceIte, if_true, if_false, eq_self, Nat.reduceAdd, Nat.reduceLT, Nat.reduceLeDiff, implies_true, reduceCtorEq, forall_const]; (and_intros <;> (first | omega | rfl | (simp; done) | (simp; omega))); done))
    all_goals (try dsimp only)
    all_goals (and_intros <;> try (first | omega | (unfold In64; omega) | trivial | assumption))
  · intro i hi
    have eT : List.take 4 (List.drop (i * 4) R) = tubeAt R i := rfl
    by_cases hlt : i < 6
    · have hil : (i : Int) < 6 := by omega
      have hl := tubeAt_len hR hlt
      have tk4 : (tubeAt R i).take 4 = tubeAt R i := List.take_of_length_le (by omega)
      simp -implicitDefEqProofs only [lk_normal, hil, hR, eT, hl, tk4, ZB, Int.reduceToNat, Nat.reduceLT, Nat.reduceLeDiff, Int.reduceLE, Int.reduceLT, Nat.reduceEqDiff, Nat.reduceSub, SB, SV.known, packR, ne_eq, reduceCtorEq, Nat.reduceEqDiff, ↓reduceIte, if_true, if_false, eq_self, Nat.reduceAdd, Nat.reduceMul, Nat.reduceSub, forall_const, oneCellS, litOne, flat1, Kd.isSca, flat, TYB]
      refine ⟨by omega, ?_⟩
      refine loop_intro (fun j : Nat => [(14, .int j), (13, .arr (tubeAt R i)), (10, .int i), (9, .arr R), (3, .ptr 2 0), (2, .ptr 1 0), (1, .ptr 0 0)]) (fun j => [(0, .ints R 27), (1, .ints (List.replicate 6 0) 51), (2, .ints (cntL (R.take (i * 4 + j))) 51)]) 3 (fun j => j ≤ 4) (fun j => 4 - j) ?_ ?_
      · refine ⟨0, ?_, Sub.mk_id ?_ ?_ ?_ ?_ ?_⟩
        all_goals (try (simp only [Nat.add_zero, LB, subS, subH, wfS, wfH, SV.ren, renL, SObj.ren, SV.wf, SObj.wf, wfL, SV.known, Nat.reduceEqDiff, ↓reduceIte, if_true, if_false, eq_self, Nat.reduceAdd, Nat.reduceLT, Nat.reduceLeDiff, implies_true, reduceCtorEq, forall_const]; done))
        all_goals (try (simp only [Nat.add_zero, LB, subS, subH, wfS, wfH, SV.ren, renL, SObj.ren, SV.wf, SObj.wf, wfL, SV.known, Nat.reduceEqDiff, ↓reduceIte, if_true, if_false, eq_self, Nat.reduceAdd, Nat.reduceLT, Nat.reduceLeDiff, implies_true, reduceCtorEq, forall_const]; simp; done))
        all_goals (try (simp only [Nat.add_zero, LB, subS, subH, wfS, wfH, SV.ren, renL, SObj.ren, SV.wf, SObj.wf, wfL, SV.known, Nat.reduceEqDiff, ↓reduceIte, if_true, if_false, eq_self, Nat.reduceAdd, Nat.reduceLT, Nat.reduceLeDiff, implies_true, reduceCtorEq, forall_const]; (and_intros <;> (first | omega | rfl | (simp; done) | (simp; omega))); done))
        all_goals (try dsimp only)
        all_goals (and_intros <;> try (first | omega | (unfold In64; omega) | trivial | assumption))
      · intro j hj
        by_cases hjt : j < 4
        · have hjl : (j : Int) < 4 := by omega
          have cs := cnt_step hR hr hlt hjt
          have cl := cntL_len (R.take (i * 4 + j))
          have eg : (tubeAt R i).getD j 0 = R.getD (i * 4 + j) 0 := tubeAt_getD R i j hjt
          simp -implicitDefEqProofs only [lk_normal, hil, hjl, hR, cl, hl, eg, ZB, Int.reduceToNat, Nat.reduceLT, Nat.reduceLeDiff, Int.reduceLE, Int.reduceLT, Nat.reduceEqDiff, Nat.reduceSub, SB, SV.known, packR, ne_eq, reduceCtorEq, Nat.reduceEqDiff, ↓reduceIte, if_true, if_false, eq_self, Nat.reduceAdd, Nat.reduceMul, Nat.reduceSub, forall_const, oneCellS, litOne, flat1, Kd.isSca, flat, TYB]
          (try (and_intros <;> try (first | omega | (unfold In64; omega) | trivial | assumption)))
          refine ⟨j + 1, ?_, ?_, Sub.mk_id ?_ ?_ ?_ ?_ ?_⟩
          all_goals (try (simp only [cs.1, incr, LB, subS, subH, wfS, wfH, SV.ren, renL, SObj.ren, SV.wf, SObj.wf, wfL, SV.known, Nat.reduceEqDiff, ↓reduceIte, if_true, if_false, eq_self, Nat.reduceAdd, Nat.reduceLT, Nat.reduceLeDiff, implies_true, reduceCtorEq, forall_const]; done))
          all_goals (try (simp only [cs.1, incr, LB, subS, subH, wfS, wfH, SV.ren, renL, SObj.ren, SV.wf, SObj.wf, wfL, SV.known, Nat.reduceEqDiff, ↓reduceIte, if_true, if_false, eq_self, Nat.reduceAdd, Nat.reduceLT, Nat.reduceLeDiff, implies_true, reduceCtorEq, forall_const]; simp; done))
          all_goals (try (simp only [cs.1, incr, LB, subS, subH, wfS, wfH, SV.ren, renL, SObj.ren, SV.wf, SObj.wf, wfL, SV.known, Nat.reduceEqDiff, ↓reduceIte, if_true, if_false, eq_self, Nat.reduceAdd, Nat.reduceLT, Nat.reduceLeDiff, implies_true, reduceCtorEq, forall_const]; (and_intros <;> (first | omega | rfl | (simp; done) | (simp; omega))); done))
          all_goals (try dsimp only)
          all_goals (and_intros <;> try (first | omega | (unfold In64; omega) | trivial | assumption))
        · have hjl : ¬ (j : Int) < 4 := by omega
          obtain rfl : j = 4 := by omega
          simp -implicitDefEqProofs only [lk_normal, hjl, ZB, Int.reduceToNat, Nat.reduceLT, Nat.reduceLeDiff, Int.reduceLE, Int.reduceLT, Nat.reduceEqDiff, Nat.reduceSub, SB, SV.known, packR, ne_eq, reduceCtorEq, Nat.reduceEqDiff, ↓reduceIte, if_true, if_false, eq_self, Nat.reduceAdd, Nat.reduceMul, Nat.reduceSub, forall_const, oneCellS, litOne, flat1, Kd.isSca, flat, TYB]
          (try (and_intros <;> try (first | omega | (unfold In64; omega) | trivial | assumption)))
          have e2 : (i + 1) * 4 = i * 4 + 4 := by omega
          refine ⟨i + 1, ?_, ?_, Sub.mk_id ?_ ?_ ?_ ?_ ?_⟩
          all_goals (try (simp only [e2, LB, subS, subH, wfS, wfH, SV.ren, renL, SObj.ren, SV.wf, SObj.wf, wfL, SV.known, Nat.reduceEqDiff, ↓reduceIte, if_true, if_false, eq_self, Nat.reduceAdd, Nat.reduceLT, Nat.reduceLeDiff, implies_true, reduceCtorEq, forall_const]; done))
          all_goals (try (simp only [e2, LB, subS, subH, wfS, wfH, SV.ren, renL, SObj.ren, SV.wf, SObj.wf, wfL, SV.known, Nat.reduceEqDiff, ↓reduceIte, if_true, if_false, eq_self, Nat.reduceAdd, Nat.reduceLT, Nat.reduceLeDiff, implies_true, reduceCtorEq, forall_const]; simp; done))
          all_goals (try (simp only [e2, LB, subS, subH, wfS, wfH, SV.ren, renL, SObj.ren, SV.wf, SObj.wf, wfL, SV.known, Nat.reduceEqDiff, ↓reduceIte, if_true, if_false, eq_self, Nat.reduceAdd, Nat.reduceLT, Nat.reduceLeDiff, implies_true, reduceCtorEq, forall_const]; (and_intros <;> (first | omega | rfl | (simp; done) | (simp; omega))); done))
          all_goals (try dsimp only)
          all_goals (and_intros <;> try (first | omega | (unfold In64; omega) | trivial | assumption))
    · have hil : ¬ (i : Int) < 6 := by omega
      obtain rfl : i = 6 := by omega
      have cl2 := cntL_len R
      have tkc : (cntL R).take 6 = cntL R := List.take_of_length_le (by omega)
      simp -implicitDefEqProofs only [lk_normal, hil, hR, tkR, cl2, tkc, ZB, Int.reduceToNat, Nat.reduceLT, Nat.reduceLeDiff, Int.reduceLE, Int.reduceLT, Nat.reduceEqDiff, Nat.reduceSub, SB, SV.known, packR, ne_eq, reduceCtorEq, Nat.reduceEqDiff, ↓reduceIte, if_true, if_false, eq_self, Nat.reduceAdd, Nat.reduceMul, Nat.reduceSub, forall_const, oneCellS, litOne, flat1, Kd.isSca, flat, TYB]
      (try (and_intros <;> try (first | omega | (unfold In64; omega) | trivial | assumption)))
def countColors_F : List SV → Heap → Option (Prop × SV)
  | [.arr R], _ => some (R.length = 24 ∧ rackB R = true, .arr (cntL R))
  | _, _ => none
theorem countColors_T : ∀ args H p v, countColors_F args H = some (p, v) → p → PureH Try.prog 128 args H v := by
  intro args H p v h hp
  unfold countColors_F at h
  split at h
  · cases h; exact (countColors_ok _ hp.1 hp.2).any _
  · cases h
theorem l2Counts_ok (R : List Int) (hR : R.length = 24) (hr : rackB R = true) : PureH Try.prog 129 [.arr R] [] (.arr (cntL R)) := by
  have tkR : R.take 24 = R := List.take_of_length_le (by omega)
  refine pure_of_vc (X := ⟨Try.prog, tys, [], [], true, true, 0, [], []⟩) fn_129 ⟨tys_ok, .nil, .nil, mixed⟩ (n0 := 0) (Nat.le_of_ble_eq_true rfl) (by simp [wfL, SV.wf]) (wfH_spec (by simp [wfH, SObj.wf])) (Nat.le_refl _) (fun _ => by simp [SV.wf, wfL]) ?_
  simp -implicitDefEqProofs only [Try.f129, Option.getD_some, argS, hR, tkR, ZB, Int.reduceToNat, Nat.reduceLT, Nat.reduceLeDiff, Int.reduceLE, Int.reduceLT, Nat.reduceEqDiff, Nat.reduceSub, SB, SV.known, packR, ne_eq, reduceCtorEq, Nat.reduceEqDiff, ↓reduceIte, if_true, if_false, eq_self, Nat.reduceAdd, Nat.reduceMul, Nat.reduceSub, forall_const, oneCellS, litOne, flat1, Kd.isSca, flat, TYB]
  refine loop_intro (fun i : Nat => [(4, .int i), (3, .ptr 2 0), (2, .ptr 1 0), (1, .ptr 0 0)]) (fun i => [(0, .ints R 27), (1, .ints (List.replicate 6 0) 51), (2, .ints (cntL (R.take (i * 4))) 51)]) 3 (fun i => i ≤ 6) (fun i => 6 - i) ?_ ?_
  · refine ⟨0, ?_, Sub.mk_id ?_ ?_ ?_ ?_ ?_⟩
    all_goals (try (simp only [List.take_zero, Nat.zero_mul, cntL_nil, LB, subS, subH, wfS, wfH, SV.ren, renL, SObj.ren, SV.wf, SObj.wf, wfL, SV.known, Nat.reduceEqDiff, ↓reduceIte, if_true, if_false, eq_self, Nat.reduceAdd, Nat.reduceLT, Nat.reduceLeDiff, implies_true, reduceCtorEq, forall_const]; done))
    all_goals (try (simp only [List.take_zero, Nat.zero_mul, cntL_nil, LB, subS, subH, wfS, wfH, SV.ren, renL, SObj.ren, SV.wf, SObj.wf, wfL, SV.known, Nat.reduceEqDiff, ↓reduceIte, if_true, if_false, eq_self, Nat.reduceAdd, Nat.reduceLT, Nat.reduceLeDiff, implies_true, reduceCtorEq, forall_const]; simp; done))
    all_goals (try (simp only [List.take_zero, Nat.zero_mul, cntL_nil, LB, subS, subH, wfS, wfH, SV.ren, renL, SObj.ren, SV.wf, SObj.wf, wfL, SV.known, Nat.reduceEqDiff, ↓reduceIte, if_true, if_false, eq_self, Nat.reduceAdd, Nat.reduceLT, Nat.reduceLeDiff, implies_true, reduceCtorEq, forall_const]; (and_intros <;> (first | omega | rfl | (simp; done) | (simp; omega))); done))
    all_goals (try dsimp only)
    all_goals (and_intros <;> try (first | omega | (unfold In64; omega) | trivial | assumption))
  · intro i hi
    by_cases hlt : i < 6
    · have hil : (i : Int) < 6 := by omega
      simp -implicitDefEqProofs only [lk_normal, hil, hR, ZB, Int.reduceToNat, Nat.reduceLT, Nat.reduceLeDiff, Int.reduceLE, Int.reduceLT, Nat.reduceEqDiff, Nat.reduceSub, SB, SV.known, packR, ne_eq, reduceCtorEq, Nat.reduceEqDiff, ↓reduceIte, if_true, if_false, eq_self, Nat.reduceAdd, Nat.reduceMul, Nat.reduceSub, forall_const, oneCellS, litOne, flat1, Kd.isSca, flat, TYB]
      refine loop_intro (fun j : Nat => [(4, .int i), (5, .int j), (3, .ptr 2 0), (2, .ptr 1 0), (1, .ptr 0 0)]) (fun j => [(0, .ints R 27), (1, .ints (List.replicate 6 0) 51), (2, .ints (cntL (R.take (i * 4 + j))) 51)]) 3 (fun j => j ≤ 4) (fun j => 4 - j) ?_ ?_
      · refine ⟨0, ?_, Sub.mk_id ?_ ?_ ?_ ?_ ?_⟩
        all_goals (try (simp only [Nat.add_zero, LB, subS, subH, wfS, wfH, SV.ren, renL, SObj.ren, SV.wf, SObj.wf, wfL, SV.known, Nat.reduceEqDiff, ↓reduceIte, if_true, if_false, eq_self, Nat.reduceAdd, Nat.reduceLT, Nat.reduceLeDiff, implies_true, reduceCtorEq, forall_const]; done))
        all_goals (try (simp only [Nat.add_zero, LB, subS, subH, wfS, wfH, SV.ren, renL, SObj.ren, SV.wf, SObj.wf, wfL, SV.known, Nat.reduceEqDiff, ↓reduceIte, if_true, if_false, eq_self, Nat.reduceAdd, Nat.reduceLT, Nat.reduceLeDiff, implies_true, reduceCtorEq, forall_const]; simp; done))
        all_goals (try (simp only [Nat.add_zero, LB, subS, subH, wfS, wfH, SV.ren, renL, SObj.ren, SV.wf, SObj.wf, wfL, SV.known, Nat.reduceEqDiff, ↓reduceIte, if_true, if_false, eq_self, Nat.reduceAdd, Nat.reduceLT, Nat.reduceLeDiff, implies_true, reduceCtorEq, forall_const]; (and_intros <;> (first | omega | rfl | (simp; done) | (simp; omega))); done))
        all_goals (try dsimp only)
        all_goals (and_intros <;> try (first | omega | (unfold In64; omega) | trivial | assumption))
      · intro j hj
        by_cases hjt : j < 4
        · have hjl : (j : Int) < 4 := by omega
          have cs := cnt_step hR hr hlt hjt
          have cl := cntL_len (R.take (i * 4 + j))
          simp -implicitDefEqProofs only [lk_normal, hil, hjl, hR, cl, ZB, Int.reduceToNat, Nat.reduceLT, Nat.reduceLeDiff, Int.reduceLE, Int.reduceLT, Nat.reduceEqDiff, Nat.reduceSub, SB, SV.known, packR, ne_eq, reduceCtorEq, Nat.reduceEqDiff, ↓reduceIte, if_true, if_false, eq_self, Nat.reduceAdd, Nat.reduceMul, Nat.reduceSub, forall_const, oneCellS, litOne, flat1, Kd.isSca, flat, TYB]
          (try (and_intros <;> try (first | omega | (unfold In64; omega) | trivial | assumption)))
          refine ⟨j + 1, ?_, ?_, Sub.mk_id ?_ ?_ ?_ ?_ ?_⟩
          all_goals (try (simp only [cs.1, incr, LB, subS, subH, wfS, wfH, SV.ren, renL, SObj.ren, SV.wf, SObj.wf, wfL, SV.known, Nat.reduceEqDiff, ↓reduceIte, if_true, if_false, eq_self, Nat.reduceAdd, Nat.reduceLT, Nat.reduceLeDiff, implies_true, reduceCtorEq, forall_const]; done))
          all_goals (try (simp only [cs.1, incr, LB, subS, subH, wfS, wfH, SV.ren, renL, SObj.ren, SV.wf, SObj.wf, wfL, SV.known, Nat.reduceEqDiff, ↓reduceIte, if_true, if_false, eq_self, Nat.reduceAdd, Nat.reduceLT, Nat.reduceLeDiff, implies_true, reduceCtorEq, forall_const]; simp; done))
          all_goals (try (simp only [cs.1, incr, LB, subS, subH, wfS, wfH, SV.ren, renL, SObj.ren, SV.wf, SObj.wf, wfL, SV.known, Nat.reduceEqDiff, ↓reduceIte, if_true, if_false, eq_self, Nat.reduceAdd, Nat.reduceLT, Nat.reduceLeDiff, implies_true, reduceCtorEq, forall_const]; (and_intros <;> (first | omega | rfl | (simp; done) | (simp; omega))); done))
          all_goals (try dsimp only)
          all_goals (and_intros <;> try (first | omega | (unfold In64; omega) | trivial | assumption))
        · have hjl : ¬ (j : Int) < 4 := by omega
          obtain rfl : j = 4 := by omega
          simp -implicitDefEqProofs only [lk_normal, hjl, ZB, Int.reduceToNat, Nat.reduceLT, Nat.reduceLeDiff, Int.reduceLE, Int.reduceLT, Nat.reduceEqDiff, Nat.reduceSub, SB, SV.known, packR, ne_eq, reduceCtorEq, Nat.reduceEqDiff, ↓reduceIte, if_true, if_false, eq_self, Nat.reduceAdd, Nat.reduceMul, Nat.reduceSub, forall_const, oneCellS, litOne, flat1, Kd.isSca, flat, TYB]
          (try (and_intros <;> try (first | omega | (unfold In64; omega) | trivial | assumption)))
          have e2 : (i + 1) * 4 = i * 4 + 4 := by omega
          refine ⟨i + 1, ?_, ?_, Sub.mk_id ?_ ?_ ?_ ?_ ?_⟩
          all_goals (try (simp only [e2, LB, subS, subH, wfS, wfH, SV.ren, renL, SObj.ren, SV.wf, SObj.wf, wfL, SV.known, Nat.reduceEqDiff, ↓reduceIte, if_true, if_false, eq_self, Nat.reduceAdd, Nat.reduceLT, Nat.reduceLeDiff, implies_true, reduceCtorEq, forall_const]; done))
          all_goals (try (simp only [e2, LB, subS, subH, wfS, wfH, SV.ren, renL, SObj.ren, SV.wf, SObj.wf, wfL, SV.known, Nat.reduceEqDiff, ↓reduceIte, if_true, if_false, eq_self, Nat.reduceAdd, Nat.reduceLT, Nat.reduceLeDiff, implies_true, reduceCtorEq, forall_const]; simp; done))
          all_goals (try (simp only [e2, LB, subS, subH, wfS, wfH, SV.ren, renL, SObj.ren, SV.wf, SObj.wf, wfL, SV.known, Nat.reduceEqDiff, ↓reduceIte, if_true, if_false, eq_self, Nat.reduceAdd, Nat.reduceLT, Nat.reduceLeDiff, implies_true, reduceCtorEq, forall_const]; (and_intros <;> (first | omega | rfl | (simp; done) | (simp; omega))); done))
          all_goals (try dsimp only)
          all_goals (and_intros <;> try (first | omega | (unfold In64; omega) | trivial | assumption))
    · have hil : ¬ (i : Int) < 6 := by omega
      obtain rfl : i = 6 := by omega
      have cl2 := cntL_len R
      have tkc : (cntL R).take 6 = cntL R := List.take_of_length_le (by omega)
      simp -implicitDefEqProofs only [lk_normal, hil, hR, tkR, cl2, tkc, ZB, Int.reduceToNat, Nat.reduceLT, Nat.reduceLeDiff, Int.reduceLE, Int.reduceLT, Nat.reduceEqDiff, Nat.reduceSub, SB, SV.known, packR, ne_eq, reduceCtorEq, Nat.reduceEqDiff, ↓reduceIte, if_true, if_false, eq_self, Nat.reduceAdd, Nat.reduceMul, Nat.reduceSub, forall_const, oneCellS, litOne, flat1, Kd.isSca, flat, TYB]
      (try (and_intros <;> try (first | omega | (unfold In64; omega) | trivial | assumption)))
def l2Counts_F : List SV → Heap → Option (Prop × SV)
  | [.arr R], _ => some (R.length = 24 ∧ rackB R = true, .arr (cntL R))
  | _, _ => none
theorem l2Counts_T : ∀ args H p v, l2Counts_F args H = some (p, v) → p → PureH Try.prog 129 args H v := by
  intro args H p v h hp
  unfold l2Counts_F at h
  split at h
  · cases h; exact (l2Counts_ok _ hp.1 hp.2).any _
  · cases h
/-! Views. -/
def topL (R : List Int) : List Int := (List.range 6).map fun i => (topF (tubeAt R i)).1
def manL (R : List Int) : List Int := (List.range 6).map fun i => (layN (tubeAt R i) : Int)
theorem topL_len (R : List Int) : (topL R).length = 6 := by simp [topL]
theorem manL_len (R : List Int) : (manL R).length = 6 := by simp [manL]
theorem topL_getD (R : List Int) (i : Nat) (h : i < 6) : (topL R).getD i 0 = (topF (tubeAt R i)).1 := by simp [topL, List.getD, h]
theorem manL_getD (R : List Int) (i : Nat) (h : i < 6) : (manL R).getD i 0 = (layN (tubeAt R i) : Int) := by simp [manL, List.getD, h]
def ctL (R : List Int) : List Int := (cntL R).set 0 0
theorem ctL_len (R : List Int) : (ctL R).length = 6 := by simp [ctL, cntL_len]
def viewF (R : List Int) : List Int := topL R ++ manL R ++ ctL R
theorem viewF_len (R : List Int) : (viewF R).length = 18 := by simp [viewF, topL_len, manL_len, ctL_len]
/-- A view in the making. -/
def vwK (R C : List Int) (k : Nat) : List Int := ((topL R).take k ++ List.replicate (6 - k) 0) ++ ((manL R).take k ++ List.replicate (6 - k) 0) ++ C
theorem vwK_len (R C : List Int) (k : Nat) (hk : k ≤ 6) : (vwK R C k).length = 12 + C.length := by
  simp [vwK, topL_len, manL_len]; omega
theorem vwK_zero (R C : List Int) : vwK R C 0 = List.replicate 12 0 ++ C := by
  simp only [vwK, List.take_zero, List.nil_append, Nat.sub_zero]
  rfl
theorem vwK_step (R C : List Int) (k : Nat) (hk : k < 6) : ((vwK R C k).set k (topF (tubeAt R k)).1).set (6 + k) (layN (tubeAt R k) : Int) = vwK R C (k + 1) := by
  have t1 : ((topL R).take k ++ List.replicate (6 - k) 0).length = 6 := by simp [topL_len]; omega
  have t2 : ((manL R).take k ++ List.replicate (6 - k) 0).length = 6 := by simp [manL_len]; omega
  have f1 := fill_step (topL R) k 6 hk (topL_len R)
  have f2 := fill_step (manL R) k 6 hk (manL_len R)
  rw [topL_getD R k hk] at f1
  rw [manL_getD R k hk] at f2
  unfold vwK
  rw [List.append_assoc, List.set_append_left _ _ (by omega), f1]
  have t3 : (List.take (k + 1) (topL R) ++ List.replicate (6 - (k + 1)) 0).length = 6 := by simp [topL_len]; omega
  rw [List.set_append_right _ _ (by omega), t3, show 6 + k - 6 = k by omega, List.set_append_left _ _ (by omega), f2]
  simp only [List.append_assoc]
theorem vwK_end (R C : List Int) : vwK R C 6 = topL R ++ manL R ++ C := by
  unfold vwK
  rw [List.take_of_length_le (by rw [topL_len]; omega), List.take_of_length_le (by rw [manL_len]; omega)]
  simp
theorem vwK_step1 (R C : List Int) (k : Nat) (hk : k < 6) : ((vwK R C k).set k (topF (tubeAt R k)).1).length = 12 + C.length := by rw [List.length_set, vwK_len _ _ _ (by omega)]
--@tbl viewOf = impl.viewOf
--@tbl l7View = spec.l7View
--@tbl ViewBehind = impl.ViewBehind
--@tbl sViewBehind = spec.ViewBehind
def vbF (R : List Int) (i j : Int) : List Int := if pourB R i j = true then viewF (pourF R i.toNat j.toNat) else List.replicate 18 0
theorem vbF_len (R : List Int) (i j : Int) : (vbF R i j).length = 18 := by
  unfold vbF
  split
  · exact viewF_len _
  · rfl
end Go.Proofs.Ytopfnkmlgcjpbaa
/- Contracts of functions that write into one block; heaps with a tail that stays. -/
set_option maxRecDepth 100000
set_option linter.unusedSimpArgs false
set_option linter.unusedVariables false
namespace Go.Proofs.Ytopfnkmlgcjpbaa
open Go Go.RowKit

structure UpdP (P : Program) (f : FuncId) (args : List SV) (b : Nat) (H0 : Heap) (o o' : SObj) (r : SV) : Prop where
  ent : Entd P f
  lo : o.live = true
  wo : ∀ n, o'.wf n
  call : ∀ B w, HR B ((b, o) :: H0) w → Calls P f (denL B args).toArray w fun e w' => e = .returned (r.den B) ∧ Kept (fun i => i = B b ∨ w.heap.size ≤ i) w w' ∧ w'.heap[B b]? = some (o'.den B)

theorem upd_of_vc {X : Cx} {f : FuncId} {fn : Func} {c : Code} (hf : FnOK X.P f fn c X.sx X.hr) (hX : CxOK X) {n0 b : Nat} {args : List SV} {H0 : Heap} {o o' : SObj} {r : SV} (hb : b < n0) (hN : args.length ≤ fn.ntmps) (hwa : wfL n0 args) (hwH : hwf n0 ((b, o) :: H0)) (hm : ∀ k o1, hget H0 k = some o1 → k < X.m) (hlo : o.live = true) (hlo' : o'.live = true) (hwo : ∀ n, o'.wf n) (hwr : r.wf n0)
    (h : codeVC X n0 c (argS 0 args) ((b, o) :: H0) n0 (retK X.τ fn.results.toList fun v H' _ => v = r ∧ hget H' b = some o')) (hfo' : o'.full = true := by rfl) : UpdP X.P f args b H0 o o' r := by
  refine ⟨hf.ent, hlo, hwo, fun B w hH => ?_⟩
  have hown : Own (fun i => i = B b ∨ w.heap.size ≤ i) X.m B ((b, o) :: H0) := by
    intro k o1 hl _ hmk
    rw [hget_cons] at hl
    split at hl
    · rename_i hkb; subst hkb; exact .inl rfl
    · have := hm k o1 hl; omega
  refine (run_of_vc hf hX hN hwa hwH (Nat.le_refl _) h B (fun i => i = B b ∨ w.heap.size ≤ i) w hH hown (fun _ h => .inr h)).mono fun e w' hh => ?_
  obtain ⟨v, H', n', B', rfl, ⟨rfl, h2⟩, g1, g2, g3, g4, g5, g6, g7⟩ := hh
  refine ⟨?_, g5, ?_⟩
  · rw [SV.den_congr (n := n0) g6 v hwr]
  · have := SObj.den_of_sat hfo' (g3.at_ b o' h2 hlo')
    rw [g6 b hb] at this
    rw [this, SObj.den_congr (n := 0) (fun k hk => by omega) o' (hwo 0)]

theorem gen_of_upd {P : Program} {f : FuncId} {args : List SV} {b : Nat} {H0 H : Heap} {o o' : SObj} {r : SV} {n m : Nat} {κ : K1} (h : UpdP P f args b H0 o o' r) (ρ : Nat → Nat) (hs : ∀ k o1, hget ((b, o) :: H0) k = some o1 → hget H (ρ k) = some (o1.ren ρ))
    (hi : ∀ k o1 j o2, hget ((b, o) :: H0) k = some o1 → hget ((b, o) :: H0) j = some o2 → ρ k = ρ j → k = j) (hm : m ≤ ρ b) (hlo' : o'.live = true) (hwr : ∀ n, ρ b < n → (r.ren ρ).wf n) (hk : κ (r.ren ρ) ((ρ b, o') :: H) n) (hfo' : o'.full = true := by rfl) : GenOK P f (renL ρ args) H n m κ := by
  refine ⟨h.ent, fun B M w hH hwH hwa hown hM => ?_⟩
  have hb0 : hget H (ρ b) = some (o.ren ρ) := hs b o (by rw [hget_cons, if_pos rfl])
  have hlive : (o.ren ρ).live = true := by rw [SObj.live_ren]; exact h.lo
  have hR : HR (fun k => B (ρ k)) ((b, o) :: H0) w := ⟨fun k o1 hl hk1 => by
    have := hH.at_ _ _ (hs k o1 hl) (by rw [SObj.live_ren]; exact hk1)
    rw [SObj.sat_ren] at this
    exact this, fun k j o1 o2 h1 h2 h3 h4 he => hi k o1 j o2 h1 h3 (hH.inj _ _ _ _ (hs k o1 h1) (by rw [SObj.live_ren]; exact h2) (hs j o2 h3) (by rw [SObj.live_ren]; exact h4) he)⟩
  rw [denL_ren]
  refine (h.call _ w hR).mono fun e w' hh => ?_
  obtain ⟨rfl, hkept, hblk⟩ := hh
  have hbn := (hwH (ρ b) _ hb0).1
  have hden : o'.den (fun k => B (ρ k)) = o'.den B := by
    rw [SObj.den_congr (n := 0) (B := B) (B' := fun k => B (ρ k)) (fun k hk => by omega) o' (h.wo 0)]
  have off : ∀ k o1, hget H k = some o1 → o1.live = true → k ≠ ρ b → o1.sat B w' (B k) := fun k o1 hl hk1 hne => by
    have hlt := hH.lt hl hk1
    exact SObj.sat_heap (hkept.block (B k) hlt (fun hc => by
      rcases hc with hc | hc
      · exact hne (hH.inj k (ρ b) _ _ hl hk1 hb0 hlive hc)
      · omega)) (hH.at_ k o1 hl hk1)
  refine ⟨r.ren ρ, (ρ b, o') :: H, n, B, by rw [SV.den_ren], hk, Nat.le_refl _, hwr n hbn, hwf_cons hwH hbn (h.wo n), fun _ _ => rfl, ⟨fun k o1 hl hk1 => ?_, fun k j o1 o2 h1 h2 h3 h4 he => ?_⟩, ?_, ?_⟩
  · rw [hget_cons] at hl
    split at hl
    · rename_i hkb
      subst hkb
      cases hl
      exact SObj.sat_of_den hfo' (by rw [hblk, hden])
    · rename_i hkb
      exact off k o1 hl hk1 hkb
  · rw [hget_cons] at h1 h3
    have up : ∀ k o1, (if k = ρ b then some o' else hget H k) = some o1 → o1.live = true → ∃ o2, hget H k = some o2 ∧ o2.live = true := fun k o1 hl hk1 => by
      split at hl
      · rename_i hkb; rw [hkb]; exact ⟨_, hb0, hlive⟩
      · exact ⟨o1, hl, hk1⟩
    obtain ⟨p1, q1, r1⟩ := up k o1 h1 h2
    obtain ⟨p2, q2, r2⟩ := up j o2 h3 h4
    exact hH.inj k j p1 p2 q1 r1 q2 r2 he
  · intro k o1 hl hk1 hmk
    rw [hget_cons] at hl
    split at hl
    · rename_i hkb; rw [hkb]; exact hown (ρ b) _ hb0 hlive hm
    · exact hown k o1 hl hk1 hmk
  · refine ⟨hkept.os, hkept.tape, hkept.output, hkept.size, fun i hi1 hi2 => hkept.block i hi1 fun hc => ?_, hkept.drawn⟩
    rcases hc with hc | hc
    · rw [hc] at hi2; exact hi2 (hown (ρ b) _ hb0 hlive hm)
    · omega

/-- A heap that holds another one. -/
def Ext (Hc H : Heap) : Prop := ∀ k o, hget Hc k = some o → hget H k = some o
theorem Ext.refl (H : Heap) : Ext H H := fun _ _ h => h
theorem Ext.cons {Hc H : Heap} {b : Nat} {o : SObj} {n : Nat} (hw : hwf n Hc) (hb : n ≤ b) (h : Ext Hc H) : Ext Hc ((b, o) :: H) := fun k o1 hk => by
  have := (hw k o1 hk).1
  rw [hget_cons, if_neg (by omega)]
  exact h k o1 hk
theorem hget_app (l Hc : Heap) (k : Nat) : hget (l ++ Hc) k = (hget l k).or (hget Hc k) := by
  induction l with
  | nil => simp [hget]
  | cons q l ih =>
    obtain ⟨b, o⟩ := q
    rw [List.cons_append, hget_cons, hget_cons, ih]
    split <;> rfl
theorem Sub.mk_ext {p m : Nat} {S S' : Env} {H l Hc : Heap} {n' : Nat} (h1 : subS (fun k => k) S S') (h2 : subH (fun k => k) m H l) (h3 : wfS n' S') (h4 : wfH n' l) (h5 : p ≤ n') (hE : Ext Hc H) (hw : hwf n' Hc) : Sub p m S H S' (l ++ Hc) n' := by
  refine ⟨fun k => k, h1, fun k o hk => ?_, h3, fun k o hk => ?_, fun _ _ _ _ h => h, fun _ _ => rfl, h5⟩
  · rw [hget_app] at hk
    cases hl : hget l k with
    | none =>
      rw [hl] at hk
      simp at hk
      exact ⟨by rw [SObj.ren_id]; exact hE k o hk, fun h => h, by
        have := mem_keys hk
        simp only [List.map_append, List.mem_append]
        exact .inr this⟩
    | some o1 =>
      rw [hl] at hk
      simp at hk
      subst hk
      obtain ⟨g1, g2, g3⟩ := subH_spec h2 k o1 hl
      exact ⟨g1, g2, by simp only [List.map_append, List.mem_append]; exact .inl g3⟩
  · rw [hget_app] at hk
    cases hl : hget l k with
    | none => rw [hl] at hk; simp at hk; exact hw k o hk
    | some o1 => rw [hl] at hk; simp at hk; subst hk; exact wfH_spec h4 k o1 hl
end Go.Proofs.Ytopfnkmlgcjpbaa
