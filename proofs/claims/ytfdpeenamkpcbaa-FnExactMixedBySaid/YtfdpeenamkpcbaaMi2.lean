/- Walks: MixedBy, the law. -/
import Derived.Test.YtfdpeenamkpcbaaMix
set_option maxRecDepth 100000
set_option linter.unusedSimpArgs false
set_option linter.unusedVariables false
namespace Go.Proofs.Ytfdpeenamkpcbaa
open Go Go.RowKit
/-! The argument's copy. -/
--@tbl toS1 = laws.toIntS
theorem toS1_ok (L : List Int) (off len cap : Nat) (hL : L.length = len) (hl : len ≤ 1048576) : FreshP Try.prog 39 [.slice 0 off len cap] [(0, .win off L)] L len 1 3 false .one := by
  refine fresh_of_vc (X := ⟨Try.prog, tys, [], [], true, true, 1, [], []⟩) fn_39 ⟨tys_ok, .nil, .nil, mixed⟩ (n0 := 1) rfl (Nat.le_of_ble_eq_true rfl) (by simp [wfL, SV.wf]) (wfH_spec (by simp [wfH, SObj.wf])) (Nat.le_refl _) ?_
  simp -implicitDefEqProofs only [Try.f39, Option.getD_some, argS, hL, freshK, Wrap.ap, ZB, Int.reduceToNat, Nat.reduceLT, Nat.reduceLeDiff, Int.reduceLE, Int.reduceLT, Nat.reduceEqDiff, Nat.reduceSub, SB, SV.known, packR, ne_eq, reduceCtorEq, Nat.reduceEqDiff, ↓reduceIte, if_true, if_false, eq_self, Nat.reduceAdd, Nat.reduceMul, Nat.reduceSub, forall_const, oneCellS, Kd.isSca, flat, TYB]
  refine ⟨by omega, by omega, by omega, ?_⟩
  refine loop_intro (fun i : Nat => [(4, .int i), (3, .slice 1 0 len len), (0, .slice 0 off len cap)]) (fun i => [(1, .ints (L.take i ++ List.replicate (len - i) 0) 3), (0, .win off L)]) 2 (fun i => i ≤ len) (fun i => len - i) ?_ ?_
  · refine ⟨0, ?_, Sub.mk_id ?_ ?_ ?_ ?_ ?_⟩
    all_goals (try (simp only [LB, subS, subH, wfS, wfH, SV.ren, renL, SObj.ren, SV.wf, SObj.wf, wfL, SV.known, Nat.reduceEqDiff, ↓reduceIte, if_true, if_false, eq_self, Nat.reduceAdd, Nat.reduceLT, Nat.reduceLeDiff, implies_true, reduceCtorEq, forall_const]; done))
    all_goals (try (simp only [LB, subS, subH, wfS, wfH, SV.ren, renL, SObj.ren, SV.wf, SObj.wf, wfL, SV.known, Nat.reduceEqDiff, ↓reduceIte, if_true, if_false, eq_self, Nat.reduceAdd, Nat.reduceLT, Nat.reduceLeDiff, implies_true, reduceCtorEq, forall_const]; simp; done))
    all_goals (try (simp only [LB, subS, subH, wfS, wfH, SV.ren, renL, SObj.ren, SV.wf, SObj.wf, wfL, SV.known, Nat.reduceEqDiff, ↓reduceIte, if_true, if_false, eq_self, Nat.reduceAdd, Nat.reduceLT, Nat.reduceLeDiff, implies_true, reduceCtorEq, forall_const]; (and_intros <;> (first | omega | rfl | (simp; done) | (simp; omega))); done))
    all_goals (try dsimp only)
    all_goals (and_intros <;> try (first | omega | (unfold In64; omega) | trivial | assumption))
    all_goals (try simp)
  · intro i hi
    have ll : (L.take i ++ List.replicate (len - i) (0 : Int)).length = len := by
      rw [List.length_append, List.length_take, List.length_replicate]; omega
    by_cases hlt : i < len
    · have hil : (i : Int) < len := by omega
      have fr := fill_step L i len hlt hL
      have e0 : off + i - off = i := by omega
      simp -implicitDefEqProofs only [lk_normal, hil, ll, hL, e0, ZB, Int.reduceToNat, Nat.reduceLT, Nat.reduceLeDiff, Int.reduceLE, Int.reduceLT, Nat.reduceEqDiff, Nat.reduceSub, SB, SV.known, packR, ne_eq, reduceCtorEq, Nat.reduceEqDiff, ↓reduceIte, if_true, if_false, eq_self, Nat.reduceAdd, Nat.reduceMul, Nat.reduceSub, forall_const, oneCellS, Kd.isSca, flat, TYB]

      (try (and_intros <;> try (first | omega | (unfold In64; omega) | trivial | assumption)))
      refine ⟨i + 1, ?_, ?_, Sub.mk_id ?_ ?_ ?_ ?_ ?_⟩
      all_goals (try (simp only [fr, LB, subS, subH, wfS, wfH, SV.ren, renL, SObj.ren, SV.wf, SObj.wf, wfL, SV.known, Nat.reduceEqDiff, ↓reduceIte, if_true, if_false, eq_self, Nat.reduceAdd, Nat.reduceLT, Nat.reduceLeDiff, implies_true, reduceCtorEq, forall_const]; done))
      all_goals (try (simp only [fr, LB, subS, subH, wfS, wfH, SV.ren, renL, SObj.ren, SV.wf, SObj.wf, wfL, SV.known, Nat.reduceEqDiff, ↓reduceIte, if_true, if_false, eq_self, Nat.reduceAdd, Nat.reduceLT, Nat.reduceLeDiff, implies_true, reduceCtorEq, forall_const]; simp; done))
      all_goals (try (simp only [fr, LB, subS, subH, wfS, wfH, SV.ren, renL, SObj.ren, SV.wf, SObj.wf, wfL, SV.known, Nat.reduceEqDiff, ↓reduceIte, if_true, if_false, eq_self, Nat.reduceAdd, Nat.reduceLT, Nat.reduceLeDiff, implies_true, reduceCtorEq, forall_const]; (and_intros <;> (first | omega | rfl | (simp; done) | (simp; omega))); done))
      all_goals (try dsimp only)
      all_goals (and_intros <;> try (first | omega | (unfold In64; omega) | trivial | assumption))
    · have hil : ¬ (i : Int) < len := by omega
      obtain rfl : i = len := by omega
      simp -implicitDefEqProofs only [lk_normal, hil, ZB, Int.reduceToNat, Nat.reduceLT, Nat.reduceLeDiff, Int.reduceLE, Int.reduceLT, Nat.reduceEqDiff, Nat.reduceSub, SB, SV.known, packR, ne_eq, reduceCtorEq, Nat.reduceEqDiff, ↓reduceIte, if_true, if_false, eq_self, Nat.reduceAdd, Nat.reduceMul, Nat.reduceSub, forall_const, oneCellS, Kd.isSca, flat, TYB]
      refine .inr ⟨1, i, [], rfl, ?_, by omega, by simp [hL], by simp⟩
      simp [hget_cons, ← hL]
theorem toS1_nil : FreshP Try.prog 39 [.nils] [] [] 0 1 3 false .one := by
  refine fresh_of_vc (X := ⟨Try.prog, tys, [], [], true, true, 0, [], []⟩) fn_39 ⟨tys_ok, .nil, .nil, mixed⟩ (n0 := 0) rfl (Nat.le_of_ble_eq_true rfl) (by simp [wfL, SV.wf]) (wfH_spec (by simp [wfH, SObj.wf])) (Nat.le_refl _) ?_
  simp -implicitDefEqProofs only [Try.f39, Option.getD_some, argS, freshK, Wrap.ap, ZB, Int.reduceToNat, Nat.reduceLT, Nat.reduceLeDiff, Int.reduceLE, Int.reduceLT, Nat.reduceEqDiff, Nat.reduceSub, SB, SV.known, packR, ne_eq, reduceCtorEq, Nat.reduceEqDiff, ↓reduceIte, if_true, if_false, eq_self, Nat.reduceAdd, Nat.reduceMul, Nat.reduceSub, forall_const, oneCellS, Kd.isSca, flat, TYB]
  refine ⟨by omega, ?_⟩
  refine loop_intro (fun i : Unit => [(4, .int 0), (3, .slice 0 0 0 0), (0, .nils)]) (fun i => [(0, .ints [] 3)]) 1 (fun i => True) (fun i => 0) ?_ ?_
  · refine ⟨(), ?_, Sub.mk_id ?_ ?_ ?_ ?_ ?_⟩
    all_goals (try (simp only [LB, subS, subH, wfS, wfH, SV.ren, renL, SObj.ren, SV.wf, SObj.wf, wfL, SV.known, Nat.reduceEqDiff, ↓reduceIte, if_true, if_false, eq_self, Nat.reduceAdd, Nat.reduceLT, Nat.reduceLeDiff, implies_true, reduceCtorEq, forall_const]; done))
    all_goals (try (simp only [LB, subS, subH, wfS, wfH, SV.ren, renL, SObj.ren, SV.wf, SObj.wf, wfL, SV.known, Nat.reduceEqDiff, ↓reduceIte, if_true, if_false, eq_self, Nat.reduceAdd, Nat.reduceLT, Nat.reduceLeDiff, implies_true, reduceCtorEq, forall_const]; simp; done))
    all_goals (try (simp only [LB, subS, subH, wfS, wfH, SV.ren, renL, SObj.ren, SV.wf, SObj.wf, wfL, SV.known, Nat.reduceEqDiff, ↓reduceIte, if_true, if_false, eq_self, Nat.reduceAdd, Nat.reduceLT, Nat.reduceLeDiff, implies_true, reduceCtorEq, forall_const]; (and_intros <;> (first | omega | rfl | (simp; done) | (simp; omega))); done))
    all_goals (try dsimp only)
    all_goals (and_intros <;> try (first | omega | (unfold In64; omega) | trivial | assumption))
  · intro i hi
    simp -implicitDefEqProofs only [lk_normal, ZB, Int.reduceToNat, Nat.reduceLT, Nat.reduceLeDiff, Int.reduceLE, Int.reduceLT, Nat.reduceEqDiff, Nat.reduceSub, SB, SV.known, packR, ne_eq, reduceCtorEq, Nat.reduceEqDiff, ↓reduceIte, if_true, if_false, eq_self, Nat.reduceAdd, Nat.reduceMul, Nat.reduceSub, forall_const, oneCellS, Kd.isSca, flat, TYB]
    exact .inr ⟨0, 0, [], rfl, by simp [hget_cons], by omega, rfl, by simp⟩
def toS1_F : List SV → Heap → Nat → Nat → K1 → Prop
  | [.slice 0 off len _], H, n, _, κ => match hget H 0 with
    | some (.win o L) => (o = off ∧ L.length = len ∧ len ≤ 1048576) ∧ freshK .one L len 1 3 false H n κ
    | _ => False
  | [.nils], H, n, _, κ => freshK .one [] 0 1 3 false H n κ
  | _, _, _, _, _ => False
theorem toS1_T : ∀ args H n m κ, toS1_F args H n m κ → GenOK Try.prog 39 args H n m κ := by
  intro args H n m κ h
  unfold toS1_F at h
  split at h
  · split at h
    · rename_i o L hb
      obtain ⟨⟨rfl, h1, h2⟩, h3⟩ := h
      exact gen_of_fresh (toS1_ok L _ _ _ h1 h2) (fun k o1 hk => by
        rw [hget_cons] at hk
        split at hk
        · rename_i hj0; cases hk; subst hj0; exact hb
        · cases hk) h3
    · exact h.elim
  · exact gen_of_fresh toS1_nil (fun k o hk => by cases hk) h
  · exact h.elim
theorem lawMixedBy (R L : List Int) (off len cap : Nat) (hR : R.length = 24) (_ : ∀ x ∈ R, In64 x) (hle : len ≤ cap) (hcm : cap ≤ maxLen) (hL : L.length = len * 1) (_ : ∀ x ∈ L, In64 x) : PureH Try.prog 10 [.arr R, .slice 0 off len cap] [(0, .win off L)] (.bool true) := by
  have tkR : R.take 24 = R := List.take_of_length_le (by omega)
  have hL1 : L.length = len := by omega
  have tkL : ∀ J, (L ++ J).take len = L := fun J => List.take_left' hL1
  by_cases hbig : (len : Int) > 1048576
  · refine pure_of_vc (X := ⟨Try.prog, tys, [(13, toRack_F), (16, eqRack_F), (17, eqS2_F), (41, eqS1_F), (24, held2_F)], [(39, toS1_F), (40, MixedBy_F), (38, sMixedBy_F), (23, mark2_F), (42, mark1_F)], true, true, 1, [39, 40, 38], []⟩) (show FnOK Try.prog 10 Try.f10 (Try.f10.body.getD .skip) [39, 40, 38] [] from ⟨Try.func10, rfl, by kernel_rfl, by kernel_rfl⟩) ⟨tys_ok, (.cons toRack_T (.cons eqRack_T (.cons eqS2_T (.cons eqS1_T (.cons held2_T .nil))))), (.cons toS1_T (.cons MixedBy_T (.cons sMixedBy_T (.cons mark2_T (.cons mark1_T .nil))))), mixed⟩ (n0 := 1) (Nat.le_of_ble_eq_true rfl) (by simp [wfL, SV.wf]) (wfH_spec (by simp [wfH, SObj.wf])) (Nat.le_refl _) (fun _ => by simp [SV.wf, wfL]) ?_
    simp -implicitDefEqProofs only [Try.f10, Option.getD_some, argS, toRack_F, eqRack_F, eqS2_F, eqS1_F, held2_F, toS1_F, MixedBy_F, sMixedBy_F, mark2_F, mark1_F, hR, tkR, hbig, freshK, Wrap.ap, ZB, Int.reduceToNat, Nat.reduceLT, Nat.reduceLeDiff, Int.reduceLE, Int.reduceLT, Nat.reduceEqDiff, Nat.reduceSub, SB, SV.known, packR, ne_eq, reduceCtorEq, Nat.reduceEqDiff, ↓reduceIte, if_true, if_false, eq_self, Nat.reduceAdd, Nat.reduceMul, Nat.reduceSub, forall_const, oneCellS, Kd.isSca, flat, TYB]
  · have hl : len ≤ 1048576 := by omega
    have mr := mxR_len (len := len) hR (show len ≤ L.length by omega)
    have tkm : List.take 24 (mxR R L len) = mxR R L len := List.take_of_length_le (by omega)
    refine pure_of_vc (X := ⟨Try.prog, tys, [(13, toRack_F), (16, eqRack_F), (17, eqS2_F), (41, eqS1_F), (24, held2_F)], [(39, toS1_F), (40, MixedBy_F), (38, sMixedBy_F), (23, mark2_F), (42, mark1_F)], true, true, 1, [39, 40, 38], []⟩) (show FnOK Try.prog 10 Try.f10 (Try.f10.body.getD .skip) [39, 40, 38] [] from ⟨Try.func10, rfl, by kernel_rfl, by kernel_rfl⟩) ⟨tys_ok, (.cons toRack_T (.cons eqRack_T (.cons eqS2_T (.cons eqS1_T (.cons held2_T .nil))))), (.cons toS1_T (.cons MixedBy_T (.cons sMixedBy_T (.cons mark2_T (.cons mark1_T .nil))))), mixed⟩ (n0 := 1) (Nat.le_of_ble_eq_true rfl) (by simp [wfL, SV.wf]) (wfH_spec (by simp [wfH, SObj.wf])) (Nat.le_refl _) (fun _ => by simp [SV.wf, wfL]) ?_
    simp -implicitDefEqProofs only [Try.f10, Option.getD_some, argS, toRack_F, eqRack_F, eqS2_F, eqS1_F, held2_F, toS1_F, MixedBy_F, sMixedBy_F, mark2_F, mark1_F, hR, tkR, hbig, hl, hL1, tkL, mr, tkm, freshK, Wrap.ap, ZB, Int.reduceToNat, Nat.reduceLT, Nat.reduceLeDiff, Int.reduceLE, Int.reduceLT, Nat.reduceEqDiff, Nat.reduceSub, SB, SV.known, packR, ne_eq, reduceCtorEq, Nat.reduceEqDiff, ↓reduceIte, if_true, if_false, eq_self, Nat.reduceAdd, Nat.reduceMul, Nat.reduceSub, forall_const, oneCellS, Kd.isSca, flat, TYB]
    obtain ⟨k, hk, hk20⟩ := mxP_two R L len
    generalize mxP R L len = P at *
    have e2 : P.length / 2 = k := by omega
    have ln : ∀ J : List Int, len ≤ (L ++ J).length := fun J => by rw [List.length_append]; omega
    have k0 : P = [] → k = 0 := fun h => by rw [h] at hk; simp at hk; omega
    have kl : ∀ J : List Int, k * 2 ≤ (P ++ J).length := fun J => by rw [List.length_append]; omega
    have tk : ∀ J : List Int, List.take (k * 2) (P ++ J) = P := fun J => List.take_left' hk
    simp only [e2, tk]
    repeat' (first | omega | trivial | exact ln _ | exact kl _ | exact mkL_take _ _ _ | (rw [List.length_append]; omega) | (simp only [*, List.length_nil]; done) | (exact k0 (by assumption)) | intro _ | constructor)
theorem lawMixedByN (R : List Int) (hR : R.length = 24) (_ : ∀ x ∈ R, In64 x) : PureH Try.prog 10 [.arr R, .nils] [] (.bool true) := by
  have tkR : R.take 24 = R := List.take_of_length_le (by omega)
  have mr := mxR_len (C := []) (len := 0) hR (by simp)
  have tkm : List.take 24 (mxR R [] 0) = mxR R [] 0 := List.take_of_length_le (by omega)
  refine pure_of_vc (X := ⟨Try.prog, tys, [(13, toRack_F), (16, eqRack_F), (17, eqS2_F), (41, eqS1_F), (24, held2_F)], [(39, toS1_F), (40, MixedBy_F), (38, sMixedBy_F), (23, mark2_F), (42, mark1_F)], true, true, 0, [39, 40, 38], []⟩) (show FnOK Try.prog 10 Try.f10 (Try.f10.body.getD .skip) [39, 40, 38] [] from ⟨Try.func10, rfl, by kernel_rfl, by kernel_rfl⟩) ⟨tys_ok, (.cons toRack_T (.cons eqRack_T (.cons eqS2_T (.cons eqS1_T (.cons held2_T .nil))))), (.cons toS1_T (.cons MixedBy_T (.cons sMixedBy_T (.cons mark2_T (.cons mark1_T .nil))))), mixed⟩ (n0 := 0) (Nat.le_of_ble_eq_true rfl) (by simp [wfL, SV.wf]) (wfH_spec (by simp [wfH, SObj.wf])) (Nat.le_refl _) (fun _ => by simp [SV.wf, wfL]) ?_
  simp -implicitDefEqProofs only [Try.f10, Option.getD_some, argS, toRack_F, eqRack_F, eqS2_F, eqS1_F, held2_F, toS1_F, MixedBy_F, sMixedBy_F, mark2_F, mark1_F, hR, tkR, mr, tkm, freshK, Wrap.ap, ZB, Int.reduceToNat, Nat.reduceLT, Nat.reduceLeDiff, Int.reduceLE, Int.reduceLT, Nat.reduceEqDiff, Nat.reduceSub, SB, SV.known, packR, ne_eq, reduceCtorEq, Nat.reduceEqDiff, ↓reduceIte, if_true, if_false, eq_self, Nat.reduceAdd, Nat.reduceMul, Nat.reduceSub, forall_const, oneCellS, Kd.isSca, flat, TYB]
  obtain ⟨k, hk, hk20⟩ := mxP_two R [] 0
  generalize mxP R [] 0 = P at *
  have e2 : P.length / 2 = k := by omega
  have k0 : P = [] → k = 0 := fun h => by rw [h] at hk; simp at hk; omega
  have kl : ∀ J : List Int, k * 2 ≤ (P ++ J).length := fun J => by rw [List.length_append]; omega
  have tk : ∀ J : List Int, List.take (k * 2) (P ++ J) = P := fun J => List.take_left' hk
  simp only [e2, tk]
  repeat' (first | omega | trivial | exact kl _ | exact mkL_take _ _ _ | (rw [List.length_append]; omega) | (simp only [*, List.length_nil]; done) | (exact k0 (by assumption)) | intro _ | constructor)
end Go.Proofs.Ytfdpeenamkpcbaa
