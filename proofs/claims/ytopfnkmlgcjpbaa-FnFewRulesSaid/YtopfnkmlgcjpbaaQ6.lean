/- Texts of this claim, joined (Be2, Be3, FR0, UPours, View, FP1, FP0, FP2, RPL, Draw). -/
import Derived.Test.YtopfnkmlgcjpbaaQ1
import Derived.Test.YtopfnkmlgcjpbaaQ2
import Derived.Test.YtopfnkmlgcjpbaaQ3
import Derived.Test.YtopfnkmlgcjpbaaQ4
import Derived.Test.YtopfnkmlgcjpbaaQ5
set_option maxRecDepth 100000
set_option linter.unusedSimpArgs false
set_option linter.unusedVariables false
namespace Go.Proofs.Ytopfnkmlgcjpbaa
open Go Go.RowKit
theorem outVn_ren2 (ρ : Nat → Nat) (n i l c : Nat) : (outVn 2 i l c).ren (ext ρ 2 n) = outVn n i l c := by
  cases i with
  | zero => rfl
  | succ i => simp [outVn_succ, SV.ren, ext_ge]
theorem renH_outHn (ρ : Nat → Nat) (n i : Nat) (L : List Int) (e : Nat) (l : List (List Int × Int)) (H : Heap) : renH (ext ρ 2 n) (outHn 2 i L e [(1, .mp true l)]) ++ H = outHn n i L e ((ρ 1, .mp true l) :: H) := by
  cases i with
  | zero => simp [outHn_zero, renH, SObj.ren, ext_lt]
  | succ i => simp [outHn_succ, renH, SObj.ren, ext_lt, ext_ge]
def nwL (D : List Int) (u : Int) (Q K : List (List Int)) : List (List Int) := nwF K (Q.flatMap (sucL D u))
def behind_F : List SV → Heap → Nat → Nat → K1 → Prop
  | [.slice b 0 len _, .arr D, .int u, .mp k], H, n, m, κ => match hget H b, hget H k with
    | some (.ints L _), some (.mp true l) => D.length = 6 ∧ ruF u = true ∧ b ≠ k ∧ m ≤ k ∧ len ≤ 2000 ∧ ∃ Q J K, L = Q.flatten ++ J ∧ Q.length = len ∧ l = mk1 K ∧ okR D Q ∧ all24 K ∧
        ∀ c j, j.length + (nwL D u Q K).length * 24 = c * 24 → κ (outVn n (nwL D u Q K).length (nwL D u Q K).length c) (outHn n (nwL D u Q K).length ((nwL D u Q K).flatten ++ j) 27 ((k, .mp true (mk1 (K ++ nwL D u Q K))) :: H)) (n + 1)
    | _, _ => False
  | [.nils, .arr D, .int u, .mp k], H, n, _, κ => match hget H k with
    | some (.mp true _) => D.length = 6 ∧ κ .nils H n
    | _ => False
  | _, _, _, _, _ => False
theorem behind_nil (D : List Int) (u : Int) (hD : D.length = 6) (l : List (List Int × Int)) : PureH Try.prog 117 [.nils, .arr D, .int u, .mp 0] [(0, .mp true l)] .nils := by
  have tkD : D.take 6 = D := List.take_of_length_le (by omega)
  refine pure_of_vc (X := ⟨Try.prog, tys, [], [], true, true, 1, [], []⟩) fn_117 ⟨tys_ok, .nil, .nil, mixed⟩ (n0 := 1) (Nat.le_of_ble_eq_true rfl) (by simp [wfL, SV.wf]) (wfH_spec (by simp [wfH, SObj.wf])) (Nat.le_refl _) (fun _ => by simp [SV.wf, wfL]) ?_
  simp -implicitDefEqProofs only [Try.f117, Option.getD_some, argS, hD, tkD, ZB, Int.reduceToNat, Nat.reduceLT, Nat.reduceLeDiff, Int.reduceLE, Int.reduceLT, Nat.reduceEqDiff, Nat.reduceSub, SB, SV.known, packR, ne_eq, reduceCtorEq, Nat.reduceEqDiff, ↓reduceIte, if_true, if_false, eq_self, Nat.reduceAdd, Nat.reduceMul, Nat.reduceSub, forall_const, oneCellS, litOne, flat1, Kd.isSca, flat, TYB]
  refine loop_intro (fun _ : Unit => [(17, SV.int 0), (16, SV.int 0), (15, SV.nils), (9, SV.nils), (5, SV.ptr 1 0), (2, SV.int u), (3, SV.mp 0)]) (fun _ => [(1, SObj.ints D 51), (0, SObj.mp true l)]) 2 (fun _ => True) (fun _ => 0) ?_ ?_
  · refine ⟨(), trivial, Sub.mk_id ?_ ?_ ?_ ?_ ?_⟩
    all_goals (simp only [LB, subS, subH, wfS, wfH, SV.ren, renL, SObj.ren, SV.wf, SObj.wf, wfL, SV.known, Nat.reduceEqDiff, ↓reduceIte, if_true, if_false, eq_self, Nat.reduceAdd, Nat.reduceLT, Nat.reduceLeDiff, implies_true, reduceCtorEq, forall_const] <;> simp)
  · intro _ _
    simp -implicitDefEqProofs only [lk_normal, Int.lt_irrefl, SB, SV.known, packR, ne_eq, reduceCtorEq, Nat.reduceEqDiff, ↓reduceIte, if_true, if_false, eq_self, Nat.reduceAdd, Nat.reduceMul, Nat.reduceSub, forall_const, oneCellS, litOne, flat1, Kd.isSca, flat, TYB]
    trace_state
theorem behind_T : ∀ args H n m κ, behind_F args H n m κ → GenOK Try.prog 117 args H n m κ := by
  intro args H n m κ h
  unfold behind_F at h
  split at h
  · rename_i b len cap D u k
    split at h
    · rename_i L e l h1 h2
      obtain ⟨hD, hu, hbk, hmk, hsm, Q, J, K, rfl, hl, rfl, hQ, hK, h⟩ := h
      have hw := behind_ok D u Q K J e len cap hD hu hQ hK hl hsm
      have := gen_of_vc (H := H) (n := n) (m := m) (κ := κ) fn_117 ⟨tys_ok, .cons movedBy_T (.cons move_T .nil), .cons poursBy_T .nil, mixed⟩ (Nat.le_of_ble_eq_true rfl) (by simp [wfL, SV.wf]) (wfH_spec (by simp [wfH, SObj.wf])) (by show 1 ≤ 2; omega) hw
        (fun j => if j = 1 then k else b) (fun j hj => by
          obtain rfl | rfl : j = 0 ∨ j = 1 := by omega
          · exact ⟨_, rfl⟩
          · exact ⟨_, rfl⟩) (fun a1 a2 h3 h4 he => by
          obtain rfl | rfl : a1 = 0 ∨ a1 = 1 := by omega
          all_goals obtain rfl | rfl : a2 = 0 ∨ a2 = 1 := by omega
          all_goals simp at he ⊢
          all_goals omega) ?_ ?_ ?_ ?_
      · simpa [renL, SV.ren] using this
      · intro j o hj
        simp only [hget_cons] at hj
        split at hj
        · rename_i h0; cases hj; subst h0; exact h1
        · split at hj
          · rename_i h0; cases hj; subst h0; exact h2
          · cases hj
      · intro j o hj h1j
        simp only [hget_cons] at hj
        split at hj
        · rename_i h0; subst h0; exact absurd h1j (by show ¬ 1 ≤ 0; omega)
        · split at hj
          · rename_i h0; subst h0; exact hmk
          · cases hj
      · rintro v H' n' ⟨c, j, rfl, rfl, rfl, _⟩
        refine ⟨fun i o hi _ h1i => ?_, fun i o hi _ h1i => ?_⟩
        · simp only [hget_cons] at hi
          split at hi
          · rename_i h0; subst h0; exact absurd h1i (by show ¬ 1 ≤ 0; omega)
          · split at hi
            · rename_i h0; subst h0
              rw [hget_outHn, if_neg (by omega)]; rfl
            · cases hi
        · obtain rfl : i = 0 := by
            have : i < 1 := h1i
            omega
          rw [hget_outHn, if_neg (by omega)] at hi
          cases hi
      · rintro v H' n' ⟨c, j, rfl, rfl, rfl, hj⟩ _
        rw [outVn_ren2, renH_outHn]
        exact h c j hj
    · exact h.elim
  · rename_i D u k
    split at h
    · rename_i l h1
      obtain ⟨hD, h⟩ := h
      have hp := behind_nil D u hD l
      have hq : PureH Try.prog 117 [.nils, .arr D, .int u, .mp k] H .nils := hp.sub (H := H) (fun _ => k) (fun j o hj => by
        simp only [hget_cons] at hj
        split at hj
        · rename_i h0; cases hj; exact ⟨h1, fun h => Nat.zero_le _, by simp [h0]⟩
        · cases hj) (fun x hx y hy _ => by simp at hx hy; omega) (fun _ => trivial)
      exact gen_of_pure hq h
    · exact h.elim
  · exact h.elim
theorem l8Next_ok (D : List Int) (u : Int) (Q : List (List Int)) (J : List Int) (e len cap : Nat) (hD : D.length = 6) (hu : ruF u = true) (hQ : okR D Q) (hl : Q.length = len) (h0 : 0 < len) (hJ : (Q.flatten ++ J).length = cap * 24) (hsm : len ≤ 2000) :
    FreshP Try.prog 121 [.slice 0 0 len cap, .arr D, .int u] [(0, .ints (Q.flatten ++ J) e)] (Q ++ nwL D u Q Q).flatten (Q ++ nwL D u Q Q).length 24 27 false .one := by
  have tkD : D.take 6 = D := List.take_of_length_le (by omega)
  have hA := hQ.all24
  have hfl := flat_len hA
  have tkQ : (Q.flatten ++ J).take (len * 24) = Q.flatten := List.take_left' (by rw [hfl, hl])
  have eqr := eqI_rack
  unfold nwL
  generalize hX : Q.flatMap (sucL D u) = X at *
  have hsr : srcE (.slice 0 0 len cap) = false := by
    cases len with
    | zero => omega
    | succ n => rfl
  have lJ : len * 24 ≤ (Q.flatten ++ J).length := by rw [List.length_append, hfl, hl]; omega
  refine fresh_of_vc (X := ⟨Try.prog, tys, [(102, l8Moves_F), (103, l8Move_F)], [(93, l8Pours_F)], true, true, 1, [93], []⟩) (show FnOK Try.prog 121 Try.f121 (Try.f121.body.getD .skip) [93] [] from ⟨Try.func121, rfl, by kernel_rfl, by kernel_rfl⟩) ⟨tys_ok, (.cons l8Moves_T (.cons l8Move_T .nil)), (.cons l8Pours_T .nil), mixed⟩ (n0 := 1) rfl (Nat.le_of_ble_eq_true rfl) (by simp [wfL, SV.wf]) (wfH_spec (by simp [wfH, SObj.wf])) (Nat.le_refl _) ?_
  simp -implicitDefEqProofs only [Try.f121, Option.getD_some, argS, l8Moves_F, l8Move_F, l8Pours_F, hD, tkD, lJ, tkQ, hsr, ZB, Int.reduceToNat, Nat.reduceLT, Nat.reduceLeDiff, Int.reduceLE, Int.reduceLT, Nat.reduceEqDiff, Nat.reduceSub, SB, SV.known, packR, ne_eq, reduceCtorEq, Nat.reduceEqDiff, ↓reduceIte, if_true, if_false, eq_self, Nat.reduceAdd, Nat.reduceMul, Nat.reduceSub, forall_const, oneCellS, litOne, flat1, Kd.isSca, flat, TYB]
  refine ⟨h0, by omega, by omega, fun junk0 cap0 hj0 => ?_⟩
  refine loop_intro (fun s : Nat × Nat × List Int => [(8, .int s.1), (7, .slice 3 0 (Q ++ nwF Q (upto D u Q s.1 0)).length s.2.1), (4, .ptr 1 0), (0, .slice 0 0 len cap), (2, .int u)])
    (fun s => [(3, .ints ((Q ++ nwF Q (upto D u Q s.1 0)).flatten ++ s.2.2) 27), (1, .ints D 51), (0, .ints (Q.flatten ++ J) e)]) 4
    (fun s => s.1 ≤ len ∧ s.2.2.length + (Q ++ nwF Q (upto D u Q s.1 0)).length * 24 = s.2.1 * 24) (fun s => len - s.1) ?_ ?_
  · refine ⟨(0, cap0, junk0), ⟨by simp, by simp only [upto_zero, nwF_nil, List.append_nil, hl]; exact hj0⟩, Sub.mk_id ?_ ?_ ?_ ?_ ?_⟩
    all_goals simp only [upto_zero, nwF_nil, List.append_nil, hl, LB, subS, subH, wfS, wfH, SV.ren, renL, SObj.ren, SV.wf, SObj.wf, wfL, SV.known, Nat.reduceEqDiff, ↓reduceIte, if_true, if_false, eq_self, Nat.reduceAdd, Nat.reduceLT, Nat.reduceLeDiff, implies_true, reduceCtorEq, forall_const]
    all_goals simp
  · rintro ⟨i, c, j⟩ ⟨hi, hj⟩
    simp only at hi hj
    by_cases hlt : i < len
    · have hil : (i : Int) < len := by omega
      have hiQ : i < Q.length := by omega
      have eR : List.take 24 (List.drop (i * 24) (Q.flatten ++ J)) = Q.getD i [] := flat_get hA hiQ J
      obtain ⟨r24, rf⟩ := hQ _ (getD_mem hiQ)
      have tkR : List.take 24 (Q.getD i []) = Q.getD i [] := List.take_of_length_le (by omega)
      have lQ : i * 24 + 24 ≤ (Q.flatten ++ J).length := by rw [List.length_append, hfl]; omega
      have unext := upto_next D u Q hiQ
      have usn := fun q (hq : q < sucN (Q.getD i []) D u) => upto_snoc D u Q hq
      have sgd := fun q (hq : q < sucN (Q.getD i []) D u) => sucL_getD D u (Q.getD i []) hq
      generalize hR : Q.getD i [] = R at *
      obtain ⟨np, hnp, hnp36⟩ := GL_even (pbB R D u) 36
      have esn : sucN R D u = np := by unfold sucN; omega
      have ehp : (GL (pbB R D u) 36).length / 2 = np := by omega
      have pairs := GL_pairB (pbB R D u) 36 (by omega)
      rw [esn] at unext usn sgd
      generalize hP : GL (pbB R D u) 36 = P at *
      have okU := fun q => upto_ok (u := u) hD hQ (j := q) (.inl hiQ)
      simp -implicitDefEqProofs only [lk_normal, l8Pours_F, hil, eR, r24, rf, hu, tkR, lQ, hD, tkD, hP, ehp, freshK, Wrap.ap, ZB, Int.reduceToNat, Nat.reduceLT, Nat.reduceLeDiff, Int.reduceLE, Int.reduceLT, Nat.reduceEqDiff, Nat.reduceSub, SB, SV.known, packR, ne_eq, reduceCtorEq, Nat.reduceEqDiff, ↓reduceIte, if_true, if_false, eq_self, Nat.reduceAdd, Nat.reduceMul, Nat.reduceSub, forall_const, oneCellS, litOne, flat1, Kd.isSca, flat, TYB]
      refine ⟨by omega, fun cp jp hjp => ?_⟩
      have lenP : (P ++ jp).length = cp * 2 := by rw [List.length_append]; omega
      refine loop_intro (fun s : Nat × Nat × List Int => [(10, .int s.1), (9, .slice 4 0 np cp), (8, .int i), (7, .slice 3 0 (Q ++ nwF Q (upto D u Q i s.1)).length s.2.1), (4, .ptr 1 0), (0, .slice 0 0 len cap), (2, .int u)])
        (fun s => [(3, .ints ((Q ++ nwF Q (upto D u Q i s.1)).flatten ++ s.2.2) 27), (4, .ints (P ++ jp) 44), (1, .ints D 51), (0, .ints (Q.flatten ++ J) e)]) 5
        (fun s => s.1 ≤ np ∧ s.2.2.length + (Q ++ nwF Q (upto D u Q i s.1)).length * 24 = s.2.1 * 24) (fun s => np - s.1) ?_ ?_
      · refine ⟨(0, c, j), ⟨by simp only; omega, by simp only; exact hj⟩, Sub.mk_id ?_ ?_ ?_ ?_ ?_⟩
        all_goals (simp only [LB, subS, subH, wfS, wfH, SV.ren, renL, SObj.ren, SV.wf, SObj.wf, wfL, SV.known, Nat.reduceEqDiff, ↓reduceIte, if_true, if_false, eq_self, Nat.reduceAdd, Nat.reduceLT, Nat.reduceLeDiff, implies_true, reduceCtorEq, forall_const] <;> simp)
      · rintro ⟨q, c, j⟩ ⟨hq, hj⟩
        simp only at hq hj
        have hOk := okU q
        have hNk := (okR_nw (K := Q) hOk).all24
        have hG : all24 (Q ++ nwF Q (upto D u Q i q)) := fun y hy => by
          rcases List.mem_append.1 hy with hy | hy
          · exact hA y hy
          · exact hNk y hy
        have hfO := flat_len hG
        by_cases hqn : q < np
        · have hql : (q : Int) < np := by omega
          obtain ⟨a, b, ha, hb, hc, ga, gb⟩ := pairs q (by omega)
          have eP : List.take 2 (List.drop (q * 2) (P ++ jp)) = [(a : Int), (b : Int)] := by
            rw [take2_drop _ _ (by rw [List.length_append]; omega), getD_app _ _ _ (by omega), getD_app _ _ _ (by omega), ga, gb]
          have eP0 : (P ++ jp).getD (q * 2) 0 = (a : Int) := by rw [getD_app _ _ _ (by omega), ga]
          have eP1 : (P ++ jp).getD (q * 2 + 1) 0 = (b : Int) := by rw [getD_app _ _ _ (by omega), gb]
          obtain ⟨x24, xf, mp, mne, m1, m2⟩ := for_suc r24 hD rf ha hb hc
          have us := usn q hqn
          have ex := sgd q hqn
          rw [ga, gb] at ex
          rw [ex] at us
          have a0 : 0 ≤ (a : Int) ∧ (a : Int) ≤ 5 := by omega
          have b0 : 0 ≤ (b : Int) ∧ (b : Int) ≤ 5 := by omega
          have rr := (forB_facts hD rf).1
          have m0 : 0 ≤ movF R D u a b := by omega
          have exx : mvR R a b (movF R D u a b).toNat = sucP R D u a b := by unfold sucP; simp only [Int.toNat_natCast]
          have bound : (nwF Q (upto D u Q i q)).length ≤ 100000 := by
            have := nwF_len Q (upto D u Q i q)
            have := upto_len D u Q i q
            omega
          have tkx : List.take 24 (sucP R D u a b) = sucP R D u a b := List.take_of_length_le (by omega)
          generalize hx : sucP R D u a b = x at *
          generalize hGd : Q ++ nwF Q (upto D u Q i q) = G at *
          simp -implicitDefEqProofs only [lk_normal, l8Moves_F, l8Move_F, hql, eP, eP0, eP1, lenP, r24, rf, rr, hu, eR, lQ, tkR, hD, tkD, a0, b0, mne, m0, m1, m2, exx, x24, tkx, List.getD_cons_zero, List.getD_cons_succ, Int.toNat_natCast, ZB, Int.reduceToNat, Nat.reduceLT, Nat.reduceLeDiff, Int.reduceLE, Int.reduceLT, Nat.reduceEqDiff, Nat.reduceSub, SB, SV.known, packR, ne_eq, reduceCtorEq, Nat.reduceEqDiff, ↓reduceIte, if_true, if_false, eq_self, Nat.reduceAdd, Nat.reduceMul, Nat.reduceSub, forall_const, oneCellS, litOne, flat1, Kd.isSca, flat, TYB]
          have lG : (G.flatten ++ j).length = c * 24 := by rw [List.length_append, hfO]; omega
          have gB : G.length ≤ 102000 := by rw [← hGd, List.length_append]; omega
          refine ⟨by omega, by omega, by omega, by omega, by omega, hil, by omega, hil, ?_⟩
          refine loop_intro (fun m : Nat => [(15, .int m), (14, .bool (decide (x ∈ G.take m))), (13, .ptr 5 0), (10, .int q), (9, .slice 4 0 np cp), (8, .int i), (7, .slice 3 0 G.length c), (4, .ptr 1 0), (0, .slice 0 0 len cap), (2, .int u)])
            (fun _ => [(5, .ints x 27), (3, .ints (G.flatten ++ j) 27), (4, .ints (P ++ jp) 44), (1, .ints D 51), (0, .ints (Q.flatten ++ J) e)]) 6 (fun m => m ≤ G.length) (fun m => G.length - m) ?_ ?_
          · refine ⟨0, by omega, Sub.mk_id ?_ ?_ ?_ ?_ ?_⟩
            all_goals (simp only [LB, subS, subH, wfS, wfH, SV.ren, renL, SObj.ren, SV.wf, SObj.wf, wfL, SV.known, Nat.reduceEqDiff, ↓reduceIte, if_true, if_false, eq_self, Nat.reduceAdd, Nat.reduceLT, Nat.reduceLeDiff, implies_true, reduceCtorEq, forall_const] <;> simp)
          · intro m hm
            by_cases hmg : m < G.length
            · have hml : (m : Int) < G.length := by omega
              have eG : List.take 24 (List.drop (m * 24) (G.flatten ++ j)) = G.getD m [] := flat_get hG hmg j
              have g24 := hG _ (getD_mem hmg)
              have gB : m * 24 + 24 ≤ (G.flatten ++ j).length := by omega
              have ms := memT G x m hmg
              cases ho : decide (x ∈ G.take m)
              · simp -implicitDefEqProofs only [lk_normal, hml, eG, g24, gB, ho, x24, tkx, eqr, Bool.false_or, ZB, Int.reduceToNat, Nat.reduceLT, Nat.reduceLeDiff, Int.reduceLE, Int.reduceLT, Nat.reduceEqDiff, Nat.reduceSub, SB, SV.known, packR, ne_eq, reduceCtorEq, Nat.reduceEqDiff, ↓reduceIte, if_true, if_false, eq_self, Nat.reduceAdd, Nat.reduceMul, Nat.reduceSub, forall_const, oneCellS, litOne, flat1, Kd.isSca, flat, TYB]
                refine ⟨by omega, by unfold In64; omega, m + 1, by omega, by omega, Sub.mk_id ?_ ?_ ?_ ?_ ?_⟩
                all_goals (try simp only [ms, ho, Bool.false_or])
                all_goals (simp only [LB, subS, subH, wfS, wfH, SV.ren, renL, SObj.ren, SV.wf, SObj.wf, wfL, SV.known, Nat.reduceEqDiff, ↓reduceIte, if_true, if_false, eq_self, Nat.reduceAdd, Nat.reduceLT, Nat.reduceLeDiff, implies_true, reduceCtorEq, forall_const] <;> simp)
              · simp -implicitDefEqProofs only [lk_normal, hml, eG, g24, gB, ho, x24, tkx, eqr, Bool.true_or, ZB, Int.reduceToNat, Nat.reduceLT, Nat.reduceLeDiff, Int.reduceLE, Int.reduceLT, Nat.reduceEqDiff, Nat.reduceSub, SB, SV.known, packR, ne_eq, reduceCtorEq, Nat.reduceEqDiff, ↓reduceIte, if_true, if_false, eq_self, Nat.reduceAdd, Nat.reduceMul, Nat.reduceSub, forall_const, oneCellS, litOne, flat1, Kd.isSca, flat, TYB]
                refine ⟨by unfold In64; omega, m + 1, by omega, by omega, Sub.mk_id ?_ ?_ ?_ ?_ ?_⟩
                all_goals (try simp only [ms, ho, Bool.true_or])
                all_goals (simp only [LB, subS, subH, wfS, wfH, SV.ren, renL, SObj.ren, SV.wf, SObj.wf, wfL, SV.known, Nat.reduceEqDiff, ↓reduceIte, if_true, if_false, eq_self, Nat.reduceAdd, Nat.reduceLT, Nat.reduceLeDiff, implies_true, reduceCtorEq, forall_const] <;> simp)
            · have hml : ¬ (m : Int) < G.length := by omega
              obtain rfl : m = G.length := by omega
              rw [List.take_of_length_le (Nat.le_refl _)]
              by_cases hin : x ∈ G
              · have eo : Q ++ nwF Q (upto D u Q i (q + 1)) = G := by
                  rw [us, nwF_old (by rw [hGd]; exact hin), hGd]
                simp -implicitDefEqProofs only [lk_normal, hml, hin, decide_true, ZB, Int.reduceToNat, Nat.reduceLT, Nat.reduceLeDiff, Int.reduceLE, Int.reduceLT, Nat.reduceEqDiff, Nat.reduceSub, SB, SV.known, packR, ne_eq, reduceCtorEq, Nat.reduceEqDiff, ↓reduceIte, if_true, if_false, eq_self, Nat.reduceAdd, Nat.reduceMul, Nat.reduceSub, forall_const, oneCellS, litOne, flat1, Kd.isSca, flat, TYB]
                refine ⟨by unfold In64; omega, (q + 1, c, j), ⟨by simp only; omega, by simp only [eo]; exact hj⟩, by simp only; omega, Sub.mk_id ?_ ?_ ?_ ?_ ?_⟩
                all_goals (try simp only [eo])
                all_goals (simp only [LB, subS, subH, wfS, wfH, SV.ren, renL, SObj.ren, SV.wf, SObj.wf, wfL, SV.known, Nat.reduceEqDiff, ↓reduceIte, if_true, if_false, eq_self, Nat.reduceAdd, Nat.reduceLT, Nat.reduceLeDiff, implies_true, reduceCtorEq, forall_const] <;> simp)
              · have eo : Q ++ nwF Q (upto D u Q i (q + 1)) = G ++ [x] := by
                  rw [us, nwF_new (by rw [hGd]; exact hin), ← List.append_assoc, hGd]
                have tkG : List.take (G.length * 24) (G.flatten ++ j) = G.flatten := List.take_left' hfO
                simp -implicitDefEqProofs only [lk_normal, hml, hin, decide_false, x24, tkx, lG, tkG, ZB, Int.reduceToNat, Nat.reduceLT, Nat.reduceLeDiff, Int.reduceLE, Int.reduceLT, Nat.reduceEqDiff, Nat.reduceSub, SB, SV.known, packR, ne_eq, reduceCtorEq, Nat.reduceEqDiff, ↓reduceIte, if_true, if_false, eq_self, Nat.reduceAdd, Nat.reduceMul, Nat.reduceSub, forall_const, oneCellS, litOne, flat1, Kd.isSca, flat, TYB]
                refine ⟨by omega, by omega, by omega, fun junk' cap' hj' => ⟨by unfold In64; omega, (q + 1, cap', junk'), ⟨by simp only; omega, by simp only [eo, List.length_append, List.length_cons, List.length_nil]; exact hj'⟩, by simp only; omega, Sub.mk_to 3 7 ?_ ?_ ?_ ?_ ?_ ?_ ?_⟩⟩
                all_goals (try simp only [eo, List.length_append, List.length_cons, List.length_nil, List.flatten_append, List.flatten_cons, List.flatten_nil, List.append_nil, Nat.zero_add, ← List.append_assoc])
                all_goals ((try simp only [LB, subS, subH, wfS, wfH, SV.ren, renL, SObj.ren, SV.wf, SObj.wf, wfL, SV.known, Nat.reduceEqDiff, ↓reduceIte, if_true, if_false, eq_self, Nat.reduceAdd, Nat.reduceLT, Nat.reduceLeDiff, implies_true, reduceCtorEq, forall_const]) <;> simp)
        · have hql : ¬ (q : Int) < np := by omega
          obtain rfl : q = np := by omega
          simp -implicitDefEqProofs only [lk_normal, hql, ZB, Int.reduceToNat, Nat.reduceLT, Nat.reduceLeDiff, Int.reduceLE, Int.reduceLT, Nat.reduceEqDiff, Nat.reduceSub, SB, SV.known, packR, ne_eq, reduceCtorEq, Nat.reduceEqDiff, ↓reduceIte, if_true, if_false, eq_self, Nat.reduceAdd, Nat.reduceMul, Nat.reduceSub, forall_const, oneCellS, litOne, flat1, Kd.isSca, flat, TYB]
          rw [unext] at hj ⊢
          refine ⟨by unfold In64; omega, (i + 1, c, j), ⟨by simp only; omega, hj⟩, by simp only; omega, Sub.mk_id ?_ ?_ ?_ ?_ ?_⟩
          all_goals (simp only [LB, subS, subH, wfS, wfH, SV.ren, renL, SObj.ren, SV.wf, SObj.wf, wfL, SV.known, Nat.reduceEqDiff, ↓reduceIte, if_true, if_false, eq_self, Nat.reduceAdd, Nat.reduceLT, Nat.reduceLeDiff, implies_true, reduceCtorEq, forall_const] <;> simp)
    · have hil : ¬ (i : Int) < len := by omega
      obtain rfl : i = len := by omega
      simp -implicitDefEqProofs only [lk_normal, hil, ZB, Int.reduceToNat, Nat.reduceLT, Nat.reduceLeDiff, Int.reduceLE, Int.reduceLT, Nat.reduceEqDiff, Nat.reduceSub, SB, SV.known, packR, ne_eq, reduceCtorEq, Nat.reduceEqDiff, ↓reduceIte, if_true, if_false, eq_self, Nat.reduceAdd, Nat.reduceMul, Nat.reduceSub, forall_const, oneCellS, litOne, flat1, Kd.isSca, flat, TYB]
      have ue : upto D u Q i 0 = X := by rw [← hX, ← upto_end, hl]
      rw [ue] at hj ⊢
      exact .inr ⟨3, c, j, rfl, rfl, by omega, by rw [flat_len]; omega; exact (fun y hy => by
        rcases List.mem_append.1 hy with hy | hy
        · exact hA y hy
        · exact (okR_nw (K := Q) (hX ▸ okR_suc hD hQ)).all24 y hy), by simp⟩
def l8Next_F : List SV → Heap → Nat → Nat → K1 → Prop
  | [.slice b 0 len cap, .arr D, .int u], H, n, _, κ => match hget H b with
    | some (.ints L _) => D.length = 6 ∧ ruF u = true ∧ L.length = cap * 24 ∧ 0 < len ∧ len ≤ 2000 ∧ ∃ Q J, L = Q.flatten ++ J ∧ Q.length = len ∧ okR D Q ∧ freshK .one (Q ++ nwL D u Q Q).flatten (Q ++ nwL D u Q Q).length 24 27 false H n κ
    | _ => False
  | _, _, _, _, _ => False
--@tbl l8Next = spec.l8Next
theorem l8Next_T : ∀ args H n m κ, l8Next_F args H n m κ → GenOK Try.prog 121 args H n m κ := by
  intro args H n m κ h
  unfold l8Next_F at h
  split at h
  · rename_i b len cap D u
    split at h
    · rename_i L e h1
      obtain ⟨hD, hu, hJ, h0, hsm, Q, J, rfl, hl, hQ, h⟩ := h
      exact gen_of_fresh ((l8Next_ok D u Q J e len cap hD hu hQ hl h0 hJ hsm).one h1 rfl) (fun k o hk => hk) h
    · exact h.elim
  · exact h.elim
end Go.Proofs.Ytopfnkmlgcjpbaa
set_option maxRecDepth 100000
set_option linter.unusedSimpArgs false
set_option linter.unusedVariables false
namespace Go.Proofs.Ytopfnkmlgcjpbaa
open Go Go.RowKit
/-! l8Sorts. -/
def srtN (D : List Int) (u : Int) : Nat → List Int → Bool
  | 0, R => sortB R
  | n + 1, R => sortB R || (sucL D u R).any (srtN D u n)
theorem l8Sorts_ok (D : List Int) (u : Int) (hD : D.length = 6) (hu : ruF u = true) : ∀ (most : Nat), most ≤ 100 → ∀ R : List Int, R.length = 24 → forB R D = true → PureH Try.prog 118 [.arr R, .arr D, .int u, .int most] [] (.bool (srtN D u most R))
  | most, hm, R, hR, hf => by
    have tkR : R.take 24 = R := List.take_of_length_le (by omega)
    have tkD : D.take 6 = D := List.take_of_length_le (by omega)
    have rr := (forB_facts hD hf).1
    cases most with
    | zero =>
      show PureH Try.prog 118 [.arr R, .arr D, .int u, .int 0] [] (.bool (sortB R))
      cases hs : sortB R
      · refine pure_of_vc (X := ⟨Try.prog, tys, [(153, l2Sorted_F)], [], true, true, 0, [], []⟩) fn_118 ⟨tys_ok, (.cons l2Sorted_T .nil), .nil, mixed⟩ (n0 := 0) (Nat.le_of_ble_eq_true rfl) (by simp [wfL, SV.wf]) (wfH_spec (by simp [wfH, SObj.wf])) (Nat.le_refl _) (fun _ => by simp [SV.wf, wfL]) ?_
        simp -implicitDefEqProofs only [Try.f118, Option.getD_some, argS, l2Sorted_F, hR, hD, tkR, tkD, rr, hs, ZB, Int.reduceToNat, Nat.reduceLT, Nat.reduceLeDiff, Int.reduceLE, Int.reduceLT, Nat.reduceEqDiff, Nat.reduceSub, SB, SV.known, packR, ne_eq, reduceCtorEq, Nat.reduceEqDiff, ↓reduceIte, if_true, if_false, eq_self, Nat.reduceAdd, Nat.reduceMul, Nat.reduceSub, forall_const, oneCellS, litOne, flat1, Kd.isSca, flat, TYB]
      · refine pure_of_vc (X := ⟨Try.prog, tys, [(153, l2Sorted_F)], [], true, true, 0, [], []⟩) fn_118 ⟨tys_ok, (.cons l2Sorted_T .nil), .nil, mixed⟩ (n0 := 0) (Nat.le_of_ble_eq_true rfl) (by simp [wfL, SV.wf]) (wfH_spec (by simp [wfH, SObj.wf])) (Nat.le_refl _) (fun _ => by simp [SV.wf, wfL]) ?_
        simp -implicitDefEqProofs only [Try.f118, Option.getD_some, argS, l2Sorted_F, hR, hD, tkR, tkD, rr, hs, ZB, Int.reduceToNat, Nat.reduceLT, Nat.reduceLeDiff, Int.reduceLE, Int.reduceLT, Nat.reduceEqDiff, Nat.reduceSub, SB, SV.known, packR, ne_eq, reduceCtorEq, Nat.reduceEqDiff, ↓reduceIte, if_true, if_false, eq_self, Nat.reduceAdd, Nat.reduceMul, Nat.reduceSub, forall_const, oneCellS, litOne, flat1, Kd.isSca, flat, TYB]
    | succ most =>
      have ih := l8Sorts_ok D u hD hu most (by omega)
      have e1 : (((most + 1 : Nat) : Int) - 1) = (most : Nat) := by omega
      have ne0 : ¬ ((most + 1 : Nat) : Int) = 0 := by omega
      show PureH Try.prog 118 _ [] (.bool (sortB R || (sucL D u R).any (srtN D u most)))
      refine pure_of_vc (X := ⟨Try.prog, tys, [(118, fun args H => match args with | [.arr x, .arr D', .int u', .int k] => some ((x.length = 24 ∧ forB x D = true) ∧ D' = D ∧ u' = u ∧ k = (most : Nat), .bool (srtN D u most x)) | _ => none), (153, l2Sorted_F), (102, l8Moves_F), (103, l8Move_F)], [(93, l8Pours_F)], true, true, 0, [], []⟩) fn_118
        ⟨tys_ok, .cons (fun args H p v h hp => ?_) (.cons l2Sorted_T (.cons l8Moves_T (.cons l8Move_T .nil))), .cons l8Pours_T .nil, mixed⟩ (n0 := 0) (Nat.le_of_ble_eq_true rfl) (by simp [wfL, SV.wf]) (wfH_spec (by simp [wfH, SObj.wf])) (Nat.le_refl _) (fun _ => by simp [SV.wf]) ?_
      · split at h
        · cases h
          obtain ⟨⟨h1, h2⟩, rfl, rfl, rfl⟩ := hp
          exact (ih _ h1 h2).any _
        · cases h
      obtain ⟨np, hnp, hnp36⟩ := GL_even (pbB R D u) 36
      have ehp : (GL (pbB R D u) 36).length / 2 = np := by omega
      have pairs := GL_pairB (pbB R D u) 36 (by omega)
      have esn : sucN R D u = np := by unfold sucN; omega
      have sgd := fun q (hq : q < sucN R D u) => sucL_getD D u R hq
      have sl := sucL_len D u R
      generalize hP : GL (pbB R D u) 36 = P at *
      rw [esn] at sgd sl
      cases hs : sortB R
      · simp -implicitDefEqProofs only [Try.f118, Option.getD_some, argS, l2Sorted_F, l8Moves_F, l8Move_F, l8Pours_F, hR, hD, tkR, tkD, rr, hs, hf, hu, hP, ehp, ne0, freshK, Wrap.ap, ZB, Int.reduceToNat, Nat.reduceLT, Nat.reduceLeDiff, Int.reduceLE, Int.reduceLT, Nat.reduceEqDiff, Nat.reduceSub, SB, SV.known, packR, ne_eq, reduceCtorEq, Nat.reduceEqDiff, ↓reduceIte, if_true, if_false, eq_self, Nat.reduceAdd, Nat.reduceMul, Nat.reduceSub, forall_const, oneCellS, litOne, flat1, Kd.isSca, flat, TYB]
        refine fun cp jp hjp => ?_
        have lenP : (P ++ jp).length = cp * 2 := by rw [List.length_append]; omega
        simp only [Bool.false_or]
        refine loop_intro (fun q : Nat => [(10, .int q), (9, .slice 2 0 np cp), (5, .ptr 1 0), (4, .ptr 0 0), (2, .int u), (3, .int (most + 1 : Nat))])
          (fun q => [(2, .ints (P ++ jp) 44), (1, .ints D 51), (0, .ints R 27)]) 3
          (fun q => q ≤ np ∧ ∀ k, k < q → srtN D u most ((sucL D u R).getD k []) = false) (fun q => np - q) ?_ ?_
        · refine ⟨0, ⟨by omega, by simp⟩, Sub.mk_id ?_ ?_ ?_ ?_ ?_⟩
          all_goals (simp only [LB, subS, subH, wfS, wfH, SV.ren, renL, SObj.ren, SV.wf, SObj.wf, wfL, SV.known, Nat.reduceEqDiff, ↓reduceIte, if_true, if_false, eq_self, Nat.reduceAdd, Nat.reduceLT, Nat.reduceLeDiff, implies_true, reduceCtorEq, forall_const] <;> simp)
        · rintro q ⟨hq, hno⟩
          by_cases hqn : q < np
          · have hql : (q : Int) < np := by omega
            obtain ⟨a, b, ha, hb, hc, ga, gb⟩ := pairs q (by omega)
            have eP : List.take 2 (List.drop (q * 2) (P ++ jp)) = [(a : Int), (b : Int)] := by
              rw [take2_drop _ _ (by rw [List.length_append]; omega), getD_app _ _ _ (by omega), getD_app _ _ _ (by omega), ga, gb]
            have eP0 : (P ++ jp).getD (q * 2) 0 = (a : Int) := by rw [getD_app _ _ _ (by omega), ga]
            have eP1 : (P ++ jp).getD (q * 2 + 1) 0 = (b : Int) := by rw [getD_app _ _ _ (by omega), gb]
            obtain ⟨x24, xf, mp, mne, m1, m2⟩ := for_suc hR hD hf ha hb hc
            have ex := sgd q hqn
            rw [ga, gb] at ex
            have a0 : 0 ≤ (a : Int) ∧ (a : Int) ≤ 5 := by omega
            have b0 : 0 ≤ (b : Int) ∧ (b : Int) ≤ 5 := by omega
            have m0 : 0 ≤ movF R D u a b := by omega
            have exx : mvR R a b (movF R D u a b).toNat = sucP R D u a b := by unfold sucP; simp only [Int.toNat_natCast]
            have tkx : List.take 24 (sucP R D u a b) = sucP R D u a b := List.take_of_length_le (by omega)
            generalize hx : sucP R D u a b = x at *
            have hin : x ∈ sucL D u R := by
              have hl : q < (sucL D u R).length := by omega
              rw [← ex]; exact getD_mem hl
            cases hsx : srtN D u most x
            · simp -implicitDefEqProofs only [lk_normal, l8Moves_F, l8Move_F, hql, eP, eP0, eP1, lenP, hR, hf, rr, hu, tkR, hD, tkD, a0, b0, mne, m0, m1, m2, exx, x24, xf, tkx, e1, hsx, List.getD_cons_zero, List.getD_cons_succ, Int.toNat_natCast, ZB, Int.reduceToNat, Nat.reduceLT, Nat.reduceLeDiff, Int.reduceLE, Int.reduceLT, Nat.reduceEqDiff, Nat.reduceSub, SB, SV.known, packR, ne_eq, reduceCtorEq, Nat.reduceEqDiff, ↓reduceIte, if_true, if_false, eq_self, Nat.reduceAdd, Nat.reduceMul, Nat.reduceSub, forall_const, oneCellS, litOne, flat1, Kd.isSca, flat, TYB]
              refine ⟨by omega, by omega, by omega, by omega, by unfold In64; omega, by unfold In64; omega, q + 1, ⟨by omega, fun k hk => ?_⟩, by omega, Sub.mk_id ?_ ?_ ?_ ?_ ?_⟩
              · by_cases hkq : k = q
                · subst hkq; rw [ex]; exact hsx
                · exact hno k (by omega)
              all_goals (simp only [LB, subS, subH, wfS, wfH, SV.ren, renL, SObj.ren, SV.wf, SObj.wf, wfL, SV.known, Nat.reduceEqDiff, ↓reduceIte, if_true, if_false, eq_self, Nat.reduceAdd, Nat.reduceLT, Nat.reduceLeDiff, implies_true, reduceCtorEq, forall_const] <;> simp)
            · simp -implicitDefEqProofs only [lk_normal, l8Moves_F, l8Move_F, hql, eP, eP0, eP1, lenP, hR, hf, rr, hu, tkR, hD, tkD, a0, b0, mne, m0, m1, m2, exx, x24, xf, tkx, e1, hsx, List.getD_cons_zero, List.getD_cons_succ, Int.toNat_natCast, ZB, Int.reduceToNat, Nat.reduceLT, Nat.reduceLeDiff, Int.reduceLE, Int.reduceLT, Nat.reduceEqDiff, Nat.reduceSub, SB, SV.known, packR, ne_eq, reduceCtorEq, Nat.reduceEqDiff, ↓reduceIte, if_true, if_false, eq_self, Nat.reduceAdd, Nat.reduceMul, Nat.reduceSub, forall_const, oneCellS, litOne, flat1, Kd.isSca, flat, TYB]
              refine ⟨by omega, by omega, by omega, by omega, by unfold In64; omega, ?_⟩
              symm
              rw [List.any_eq_true]
              exact ⟨x, hin, hsx⟩
          · have hql : ¬ (q : Int) < np := by omega
            obtain rfl : q = np := by omega
            simp -implicitDefEqProofs only [lk_normal, hql, ZB, Int.reduceToNat, Nat.reduceLT, Nat.reduceLeDiff, Int.reduceLE, Int.reduceLT, Nat.reduceEqDiff, Nat.reduceSub, SB, SV.known, packR, ne_eq, reduceCtorEq, Nat.reduceEqDiff, ↓reduceIte, if_true, if_false, eq_self, Nat.reduceAdd, Nat.reduceMul, Nat.reduceSub, forall_const, oneCellS, litOne, flat1, Kd.isSca, flat, TYB]
            symm
            rw [List.any_eq_false]
            intro y hy
            obtain ⟨k, hk, rfl⟩ := List.mem_iff_getElem.1 hy
            have := hno k (by omega)
            rw [List.getD_eq_getElem?_getD, List.getElem?_eq_getElem hk] at this
            simpa using this
      · simp -implicitDefEqProofs only [Try.f118, Option.getD_some, argS, l2Sorted_F, l8Moves_F, l8Move_F, l8Pours_F, hR, hD, tkR, tkD, rr, hs, hf, hu, hP, ehp, ne0, freshK, Wrap.ap, Bool.true_or, ZB, Int.reduceToNat, Nat.reduceLT, Nat.reduceLeDiff, Int.reduceLE, Int.reduceLT, Nat.reduceEqDiff, Nat.reduceSub, SB, SV.known, packR, ne_eq, reduceCtorEq, Nat.reduceEqDiff, ↓reduceIte, if_true, if_false, eq_self, Nat.reduceAdd, Nat.reduceMul, Nat.reduceSub, forall_const, oneCellS, litOne, flat1, Kd.isSca, flat, TYB]
theorem l8Sorts_ok2 (R D : List Int) (u k : Int) (h1 : R.length = 24 ∧ forB R D = true) (hD : D.length = 6) (hu : ruF u = true) (h0 : 0 ≤ k) (hk : k ≤ 100) : PureH Try.prog 118 [.arr R, .arr D, .int u, .int k] [] (.bool (srtN D u k.toNat R)) := by
  have h2 := l8Sorts_ok D u hD hu k.toNat (by omega) R h1.1 h1.2
  rw [show ((k.toNat : Nat) : Int) = k by omega] at h2
  exact h2
def l8Sorts_F : List SV → Heap → Option (Prop × SV)
  | [.arr R, .arr D, .int u, .int k], _ => some ((R.length = 24 ∧ forB R D = true) ∧ D.length = 6 ∧ ruF u = true ∧ 0 ≤ k ∧ k ≤ 100, .bool (srtN D u k.toNat R))
  | _, _ => none
theorem l8Sorts_T : ∀ args H p v, l8Sorts_F args H = some (p, v) → p → PureH Try.prog 118 args H v := by
  intro args H p v h hp
  unfold l8Sorts_F at h
  split at h
  · cases h; exact (l8Sorts_ok2 _ _ _ _ hp.1 hp.2.1 hp.2.2.1 hp.2.2.2.1 hp.2.2.2.2).any _
  · cases h
--@tbl l8Sorts = spec.l8Sorts
/-! ContainsFunc over racks. -/
theorem containsFuncR_ok (g : Nat) (caps : List SV) (H Hc : Heap) (pr : List Int → Bool) (n0 b : Nat) (L : List Int) (e len cap : Nat) (hb : hget H b = some (.ints L e)) (hl : len * 24 ≤ L.length) (hm : len ≤ 9223372036854775806)
    (Q : List Int → Prop) (hQ : ∀ i, i < len → Q ((L.drop (i * 24)).take 24)) (hc : ∀ x : List Int, Q x → PureH Try.prog g (.arr x :: caps) Hc (.bool (pr x))) (hE : Ext Hc H) (hw : wfL n0 caps) (hwH : hwf n0 H) :
    PureH Try.prog 115 [.slice b 0 len cap, .fn g caps] H (.bool ((chkR L 0 len).any pr)) := by
  have h00 : b < n0 := (hwH b _ hb).1
  refine pure_of_vc (X := ⟨Try.prog, tys, [(151, fun args H' => some (args = [.slice b 0 len cap, .fn g caps] ∧ H' = H, .int (idxG pr (chkR L 0 len))))], [], true, true, n0, [], []⟩) fn_115
    ⟨tys_ok, .cons (fun args H p v h hp => ?_) .nil, .nil, mixed⟩ (n0 := n0) (Nat.le_of_ble_eq_true rfl) ⟨by simpa [SV.wf] using h00, by simpa [SV.wf] using hw, trivial⟩ hwH (Nat.le_refl _) (fun _ => trivial) ?_
  · cases h
    obtain ⟨rfl, rfl⟩ := hp
    exact indexFuncR_ok g caps _ Hc pr n0 b L e len cap hb hl hm Q hQ hc hE hw hwH
  simp -implicitDefEqProofs only [Try.f115, Option.getD_some, argS, SB, SV.known, packR, ne_eq, reduceCtorEq, Nat.reduceEqDiff, ↓reduceIte, if_true, if_false, eq_self, Nat.reduceAdd, Nat.reduceMul, Nat.reduceSub, forall_const, oneCellS, litOne, flat1, Kd.isSca, flat, TYB, idxG_any]
theorem containsFuncR_nil (g : Nat) : PureH Try.prog 115 [.nils, .fn g []] [] (.bool false) := by
  have hi : PureH Try.prog 151 [.nils, .fn g []] [] (.int (-1)) := by
    refine pure_of_vc (X := ⟨Try.prog, tys, [], [], true, true, 0, [], []⟩) fn_151 ⟨tys_ok, .nil, .nil, mixed⟩ (n0 := 0) (Nat.le_of_ble_eq_true rfl) (by simp [wfL, SV.wf]) (wfH_spec (by simp [wfH, SObj.wf])) (Nat.le_refl _) (fun _ => by simp [SV.wf, wfL]) ?_
    simp -implicitDefEqProofs only [Try.f151, Option.getD_some, argS, Int.lt_irrefl, ZB, Int.reduceToNat, Nat.reduceLT, Nat.reduceLeDiff, Int.reduceLE, Int.reduceLT, Nat.reduceEqDiff, Nat.reduceSub, SB, SV.known, packR, ne_eq, reduceCtorEq, Nat.reduceEqDiff, ↓reduceIte, if_true, if_false, eq_self, Nat.reduceAdd, Nat.reduceMul, Nat.reduceSub, forall_const, oneCellS, litOne, flat1, Kd.isSca, flat, TYB]
    refine loop_intro (fun i : Unit => [(0, .nils), (1, .fn g []), (7, .int 0), (8, .int 0)]) (fun i => []) 0 (fun i => True) (fun i => 0) ?_ ?_
    · refine ⟨(), trivial, Sub.mk_id ?_ ?_ ?_ ?_ ?_⟩
      all_goals (simp only [LB, subS, subH, wfS, wfH, SV.ren, renL, SObj.ren, SV.wf, SObj.wf, wfL, SV.known, Nat.reduceEqDiff, ↓reduceIte, if_true, if_false, eq_self, Nat.reduceAdd, Nat.reduceLT, Nat.reduceLeDiff, implies_true, reduceCtorEq, forall_const] <;> simp)
    · intro _ _
      simp -implicitDefEqProofs only [lk_normal, SB, SV.known, packR, ne_eq, reduceCtorEq, Nat.reduceEqDiff, ↓reduceIte, if_true, if_false, eq_self, Nat.reduceAdd, Nat.reduceMul, Nat.reduceSub, forall_const, oneCellS, litOne, flat1, Kd.isSca, flat, TYB]
      simp
  refine pure_of_vc (X := ⟨Try.prog, tys, [(151, fun args H' => some (args = [.nils, .fn g []], .int (-1)))], [], true, true, 0, [], []⟩) fn_115 ⟨tys_ok, .cons (fun args H' p v h hp => ?_) .nil, .nil, mixed⟩ (n0 := 0) (Nat.le_of_ble_eq_true rfl) (by simp [wfL, SV.wf]) (wfH_spec (by simp [wfH, SObj.wf])) (Nat.le_refl _) (fun _ => trivial) ?_
  · cases h
    subst hp
    exact hi.any _
  simp -implicitDefEqProofs only [Try.f115, Option.getD_some, argS, SB, SV.known, packR, ne_eq, reduceCtorEq, Nat.reduceEqDiff, ↓reduceIte, if_true, if_false, eq_self, Nat.reduceAdd, Nat.reduceMul, Nat.reduceSub, forall_const, oneCellS, litOne, flat1, Kd.isSca, flat, TYB]
  all_goals simp
/-! isSorted over a list of racks. -/
def srtAny_F : List SV → Heap → Option (Prop × SV)
  | [.slice b 0 len _, .fn g []], H => match hget H b with
    | some (.ints L _) => some (g = 116 ∧ len * 24 ≤ L.length ∧ len ≤ 9223372036854775806 ∧ (∀ i, i < len → rackB ((L.drop (i * 24)).take 24) = true), .bool ((chkR L 0 len).any sortB))
    | _ => none
  | [.nils, .fn _ []], _ => some (True, .bool false)
  | _, _ => none
--@tbl srtAny = slices.ContainsFunc[[]impl.Rack,impl.Rack]
theorem srtAny_T : ∀ args H p v, srtAny_F args H = some (p, v) → p → PureH Try.prog 115 args H v := by
  intro args H p v h hp
  unfold srtAny_F at h
  split at h
  · rename_i b len cap g
    split at h
    · rename_i L e hb
      cases h
      obtain ⟨rfl, hl, hm, hr⟩ := hp
      have h0 : PureH Try.prog 115 [.slice 0 0 len cap, .fn 116 []] [(0, .ints L e)] (.bool ((chkR L 0 len).any sortB)) :=
        containsFuncR_ok 116 [] _ [] sortB 1 0 L e len cap rfl hl hm (fun x => x.length = 24 ∧ rackB x = true) (fun i hi => ⟨by rw [List.length_take, List.length_drop]; omega, hr i hi⟩)
          (fun x hx => (isSorted_ok x hx.1 hx.2).any _) (fun k o h => by cases h) (by simp [wfL]) (wfH_spec (by simp [wfH, SObj.wf]))
      exact h0.sub (H := H) (fun _ => b) (fun j o' hj => by
        simp only [hget_cons] at hj
        split at hj
        · rename_i h0; cases hj; exact ⟨hb, fun h => Nat.zero_le _, by simp [h0]⟩
        · cases hj) (fun x hx y hy _ => by simp at hx hy; omega) (fun _ => trivial)
    · cases h
  · cases h
    exact (containsFuncR_nil _).any _
  · cases h
/-! The lists of racks. -/
def bsN (D : List Int) (u : Int) (R : List Int) : Nat → List (List Int) × List (List Int)
  | 0 => ([R], [R])
  | n + 1 => (nwL D u (bsN D u R n).1 (bsN D u R n).2, (bsN D u R n).2 ++ nwL D u (bsN D u R n).1 (bsN D u R n).2)
theorem bsN_ok {R D : List Int} {u : Int} (hD : D.length = 6) (hu : ruF u = true) (hR : R.length = 24) (hf : forB R D = true) : ∀ i, okR D (bsN D u R i).1 ∧ okR D (bsN D u R i).2
  | 0 => ⟨fun x hx => by simp [bsN] at hx; subst hx; exact ⟨hR, hf⟩, fun x hx => by simp [bsN] at hx; subst hx; exact ⟨hR, hf⟩⟩
  | i + 1 => by
    obtain ⟨h1, h2⟩ := bsN_ok hD hu hR hf i
    have h3 : okR D (nwL D u (bsN D u R i).1 (bsN D u R i).2) := okR_nw (okR_suc hD h1)
    exact ⟨h3, okR_app h2 h3⟩
theorem nwL_len (D : List Int) (u : Int) (Q K : List (List Int)) : (nwL D u Q K).length ≤ 36 * Q.length := Nat.le_trans (nwF_len _ _) (fm_len D u Q)
theorem bsN_len (D : List Int) (u : Int) (R : List Int) : ∀ i, (bsN D u R i).1.length ≤ 36 ^ i
  | 0 => by simp [bsN]
  | i + 1 => by
    have h1 := bsN_len D u R i
    have h2 := nwL_len D u (bsN D u R i).1 (bsN D u R i).2
    show (nwL D u (bsN D u R i).1 (bsN D u R i).2).length ≤ _
    rw [Nat.pow_succ]
    omega
theorem bsN_zero {D : List Int} {u : Int} {R : List Int} {i : Nat} (h : (bsN D u R i).1.length = 0) : bsN D u R (i + 1) = ([], (bsN D u R i).2) := by
  have h1 : (bsN D u R i).1 = [] := List.length_eq_zero_iff.1 h
  show (nwL D u (bsN D u R i).1 (bsN D u R i).2, (bsN D u R i).2 ++ nwL D u (bsN D u R i).1 (bsN D u R i).2) = _
  rw [h1]
  simp [nwL, nwF]
def rbB (R D : List Int) (u n : Int) : Bool := forB R D && ruF u && decide (0 ≤ n ∧ n ≤ 2)
def rbF (R D : List Int) (u n : Int) : Int := if rbB R D u n = true then ((bsN D u R n.toNat).2.length : Nat) else 0
theorem ReachBy_ok (R D : List Int) (u n : Int) (hR : R.length = 24) (hD : D.length = 6) : PureH Try.prog 47 [.arr R, .arr D, .int u, .int n] [] (.tup [.int (rbF R D u n), .bool (rbB R D u n)]) := by
  have tkR : R.take 24 = R := List.take_of_length_le (by omega)
  have tkD : D.take 6 = D := List.take_of_length_le (by omega)
  have kI := keyI_rack
  unfold rbF rbB
  cases hf : forB R D
  · refine pure_of_vc (X := ⟨Try.prog, tys, [(95, isFor_F), (96, isRule_F), (108, within_F)], [(117, behind_F)], true, true, 0, [], [(3, .tree (.one 3 (.alt 0 (.alt 1 (.one 2 (.one 4 (.one 5 (.one 6 (.one 7 .done))))) (.alt 2 (.alt 1 (.one 4 (.one 5 (.one 6 (.one 7 .done)))) (.alt 4 (.one 1 (.one 5 (.one 6 (.one 7 .done)))) .stop)) .stop)) (.alt 2 (.alt 0 (.alt 1 (.one 4 (.one 5 (.one 6 (.one 7 .done)))) (.alt 4 (.one 1 (.one 5 (.one 6 (.one 7 .done)))) .stop)) (.alt 4 (.one 0 (.one 1 (.one 5 (.one 6 (.one 7 .done))))) .stop)) .stop))))]⟩) fn_47 ⟨tys_ok, (.cons isFor_T (.cons isRule_T (.cons within_T .nil))), (.cons behind_T .nil), mixed⟩ (n0 := 0) (Nat.le_of_ble_eq_true rfl) (by simp [wfL, SV.wf]) (wfH_spec (by simp [wfH, SObj.wf])) (Nat.le_refl _) (fun _ => by simp [SV.wf, wfL]) ?_
    simp -implicitDefEqProofs only [Try.f47, Option.getD_some, argS, isFor_F, isRule_F, within_F, behind_F, hR, hD, tkR, tkD, hf, ZB, Int.reduceToNat, Nat.reduceLT, Nat.reduceLeDiff, Int.reduceLE, Int.reduceLT, Nat.reduceEqDiff, Nat.reduceSub, SB, SV.known, packR, ne_eq, reduceCtorEq, Nat.reduceEqDiff, ↓reduceIte, if_true, if_false, eq_self, Nat.reduceAdd, Nat.reduceMul, Nat.reduceSub, forall_const, oneCellS, litOne, flat1, Kd.isSca, flat, TYB]
  cases hu : ruF u
  · refine pure_of_vc (X := ⟨Try.prog, tys, [(95, isFor_F), (96, isRule_F), (108, within_F)], [(117, behind_F)], true, true, 0, [], [(3, .tree (.one 3 (.alt 0 (.alt 1 (.one 2 (.one 4 (.one 5 (.one 6 (.one 7 .done))))) (.alt 2 (.alt 1 (.one 4 (.one 5 (.one 6 (.one 7 .done)))) (.alt 4 (.one 1 (.one 5 (.one 6 (.one 7 .done)))) .stop)) .stop)) (.alt 2 (.alt 0 (.alt 1 (.one 4 (.one 5 (.one 6 (.one 7 .done)))) (.alt 4 (.one 1 (.one 5 (.one 6 (.one 7 .done)))) .stop)) (.alt 4 (.one 0 (.one 1 (.one 5 (.one 6 (.one 7 .done))))) .stop)) .stop))))]⟩) fn_47 ⟨tys_ok, (.cons isFor_T (.cons isRule_T (.cons within_T .nil))), (.cons behind_T .nil), mixed⟩ (n0 := 0) (Nat.le_of_ble_eq_true rfl) (by simp [wfL, SV.wf]) (wfH_spec (by simp [wfH, SObj.wf])) (Nat.le_refl _) (fun _ => by simp [SV.wf, wfL]) ?_
    simp -implicitDefEqProofs only [Try.f47, Option.getD_some, argS, isFor_F, isRule_F, within_F, behind_F, hR, hD, tkR, tkD, hf, hu, ZB, Int.reduceToNat, Nat.reduceLT, Nat.reduceLeDiff, Int.reduceLE, Int.reduceLT, Nat.reduceEqDiff, Nat.reduceSub, SB, SV.known, packR, ne_eq, reduceCtorEq, Nat.reduceEqDiff, ↓reduceIte, if_true, if_false, eq_self, Nat.reduceAdd, Nat.reduceMul, Nat.reduceSub, forall_const, oneCellS, litOne, flat1, Kd.isSca, flat, TYB]
  by_cases hn : 0 ≤ n ∧ n ≤ 2
  · refine pure_of_vc (X := ⟨Try.prog, tys, [(95, isFor_F), (96, isRule_F), (108, within_F)], [(117, behind_F)], true, true, 0, [], [(3, .tree (.one 3 (.alt 0 (.alt 1 (.one 2 (.one 4 (.one 5 (.one 6 (.one 7 .done))))) (.alt 2 (.alt 1 (.one 4 (.one 5 (.one 6 (.one 7 .done)))) (.alt 4 (.one 1 (.one 5 (.one 6 (.one 7 .done)))) .stop)) .stop)) (.alt 2 (.alt 0 (.alt 1 (.one 4 (.one 5 (.one 6 (.one 7 .done)))) (.alt 4 (.one 1 (.one 5 (.one 6 (.one 7 .done)))) .stop)) (.alt 4 (.one 0 (.one 1 (.one 5 (.one 6 (.one 7 .done))))) .stop)) .stop))))]⟩) fn_47 ⟨tys_ok, (.cons isFor_T (.cons isRule_T (.cons within_T .nil))), (.cons behind_T .nil), mixed⟩ (n0 := 0) (Nat.le_of_ble_eq_true rfl) (by simp [wfL, SV.wf]) (wfH_spec (by simp [wfH, SObj.wf])) (Nat.le_refl _) (fun _ => by simp [SV.wf, wfL]) ?_
    simp -implicitDefEqProofs only [Try.f47, Option.getD_some, argS, isFor_F, isRule_F, within_F, behind_F, hR, hD, tkR, tkD, hf, hu, hn, ZB, Int.reduceToNat, Nat.reduceLT, Nat.reduceLeDiff, Int.reduceLE, Int.reduceLT, Nat.reduceEqDiff, Nat.reduceSub, SB, SV.known, packR, ne_eq, reduceCtorEq, Nat.reduceEqDiff, ↓reduceIte, if_true, if_false, eq_self, Nat.reduceAdd, Nat.reduceMul, Nat.reduceSub, forall_const, oneCellS, litOne, flat1, Kd.isSca, flat, TYB]
    have k24 : keysOK ([] : List (List Int × Int)) 24 := fun q hq => by simp at hq
    refine ⟨Unit, fun _ => [(10, .slice 2 0 1 1), (11, .mp 3), (5, .ptr 1 0), (2, .int u), (3, .int n)], fun _ => [(2, .ints R 27), (3, .mp true (mk1 [R])), (1, .ints D 51), (0, .ints R 27)], fun _ => 4, ?_, fun _ => ?_⟩
    · simp -implicitDefEqProofs only [kI, k24, hR, tkR, ZB, Int.reduceToNat, Nat.reduceLT, Nat.reduceLeDiff, Int.reduceLE, Int.reduceLT, Nat.reduceEqDiff, Nat.reduceSub, SB, SV.known, packR, ne_eq, reduceCtorEq, Nat.reduceEqDiff, ↓reduceIte, if_true, if_false, eq_self, Nat.reduceAdd, Nat.reduceMul, Nat.reduceSub, forall_const, oneCellS, litOne, flat1, Kd.isSca, flat, TYB]
      have em : mset [] R 1 = mk1 [R] := rfl
      simp only [em]
      refine ⟨⟨⟨(), Sub.mk_id ?_ ?_ ?_ ?_ ?_⟩, ⟨(), Sub.mk_to2 2 3 3 2 ?_ ?_ ?_ ?_ ?_ ?_ ?_ ?_⟩, ⟨(), Sub.mk_to2 2 3 3 2 ?_ ?_ ?_ ?_ ?_ ?_ ?_ ?_⟩⟩, ⟨⟨(), Sub.mk_to2 2 3 3 2 ?_ ?_ ?_ ?_ ?_ ?_ ?_ ?_⟩, ⟨(), Sub.mk_to2 2 3 3 2 ?_ ?_ ?_ ?_ ?_ ?_ ?_ ?_⟩⟩, ⟨(), Sub.mk_to2 2 3 3 2 ?_ ?_ ?_ ?_ ?_ ?_ ?_ ?_⟩⟩
      all_goals ((try simp only [LB, subS, subH, wfS, wfH, SV.ren, renL, SObj.ren, SV.wf, SObj.wf, wfL, SV.known, Nat.reduceEqDiff, ↓reduceIte, if_true, if_false, eq_self, Nat.reduceAdd, Nat.reduceLT, Nat.reduceLeDiff, implies_true, reduceCtorEq, forall_const]) <;> simp)
    · simp -implicitDefEqProofs only [lk_normal, hn, ZB, Int.reduceToNat, Nat.reduceLT, Nat.reduceLeDiff, Int.reduceLE, Int.reduceLT, Nat.reduceEqDiff, Nat.reduceSub, SB, SV.known, packR, ne_eq, reduceCtorEq, Nat.reduceEqDiff, ↓reduceIte, if_true, if_false, eq_self, Nat.reduceAdd, Nat.reduceMul, Nat.reduceSub, forall_const, oneCellS, litOne, flat1, Kd.isSca, flat, TYB]
      obtain ⟨N, rfl⟩ : ∃ N : Nat, n = N := ⟨n.toNat, by omega⟩
      refine loop_intro (fun s : Nat × Nat × List Int => [(32, .int s.1), (31, .int N), (10, outVn 2 (bsN D u R s.1).1.length (bsN D u R s.1).1.length s.2.1), (11, .mp 3), (5, .ptr 1 0), (2, .int u)])
        (fun s => outHn 2 (bsN D u R s.1).1.length ((bsN D u R s.1).1.flatten ++ s.2.2) 27 [(3, .mp true (mk1 (bsN D u R s.1).2)), (1, .ints D 51)]) 4
        (fun s => s.1 ≤ N ∧ s.2.2.length + (bsN D u R s.1).1.length * 24 = s.2.1 * 24) (fun s => N - s.1) ?_ ?_
      · refine ⟨(0, 1, []), ⟨by simp, by simp [bsN]⟩, Sub.mk_id ?_ ?_ ?_ ?_ ?_⟩
        all_goals simp only [bsN, List.length_cons, List.length_nil, Nat.zero_add, outVn_succ, outHn_succ, List.flatten_cons, List.flatten_nil, List.append_nil, LB, subS, subH, wfS, wfH, SV.ren, renL, SObj.ren, SV.wf, SObj.wf, wfL, SV.known, Nat.reduceEqDiff, ↓reduceIte, if_true, if_false, eq_self, Nat.reduceAdd, Nat.reduceLT, Nat.reduceLeDiff, implies_true, reduceCtorEq, forall_const]
        all_goals (try simp)
      · rintro ⟨i, c, j⟩ ⟨hi, hj⟩
        simp only at hi hj
        have hQ := bsN_ok hD hu hR hf i
        by_cases hlt : i < N
        · have hil : (i : Int) < N := by omega
          have hlen := bsN_len D u R i
          have p36 : 36 ^ i ≤ 1296 := by
            have : i ≤ 1 := by omega
            obtain rfl | rfl : i = 0 ∨ i = 1 := by omega
            · decide
            · decide
          cases hl : (bsN D u R i).1.length with
          | zero =>
            have e1 := bsN_zero (D := D) (u := u) (R := R) (i := i) hl
            simp -implicitDefEqProofs only [lk_normal, behind_F, hil, hD, tkD, outVn_zero, outHn_zero, ZB, Int.reduceToNat, Nat.reduceLT, Nat.reduceLeDiff, Int.reduceLE, Int.reduceLT, Nat.reduceEqDiff, Nat.reduceSub, SB, SV.known, packR, ne_eq, reduceCtorEq, Nat.reduceEqDiff, ↓reduceIte, if_true, if_false, eq_self, Nat.reduceAdd, Nat.reduceMul, Nat.reduceSub, forall_const, oneCellS, litOne, flat1, Kd.isSca, flat, TYB]
            refine ⟨by unfold In64; omega, (i + 1, 0, []), ⟨by simp only; omega, by simp only [e1]; simp⟩, by simp only; omega, Sub.mk_id ?_ ?_ ?_ ?_ ?_⟩
            all_goals (try simp only [e1, List.length_nil, outVn_zero, outHn_zero])
            all_goals ((try simp only [LB, subS, subH, wfS, wfH, SV.ren, renL, SObj.ren, SV.wf, SObj.wf, wfL, SV.known, Nat.reduceEqDiff, ↓reduceIte, if_true, if_false, eq_self, Nat.reduceAdd, Nat.reduceLT, Nat.reduceLeDiff, implies_true, reduceCtorEq, forall_const]) <;> simp)
          | succ l =>
            simp -implicitDefEqProofs only [lk_normal, behind_F, hil, hD, tkD, hu, outVn_succ, outHn_succ, ZB, Int.reduceToNat, Nat.reduceLT, Nat.reduceLeDiff, Int.reduceLE, Int.reduceLT, Nat.reduceEqDiff, Nat.reduceSub, SB, SV.known, packR, ne_eq, reduceCtorEq, Nat.reduceEqDiff, ↓reduceIte, if_true, if_false, eq_self, Nat.reduceAdd, Nat.reduceMul, Nat.reduceSub, forall_const, oneCellS, litOne, flat1, Kd.isSca, flat, TYB]
            refine ⟨by omega, (bsN D u R i).1, j, (bsN D u R i).2, rfl, hl, rfl, hQ.1, hQ.2.all24, fun c' j' hj' => ?_⟩
            refine ⟨by unfold In64; omega, (i + 1, c', j'), ⟨by simp only; omega, hj'⟩, by simp only; omega, Sub.mk_to 2 4 ?_ ?_ ?_ ?_ ?_ ?_ ?_⟩
            all_goals (try simp only [bsN])
            all_goals (cases (nwL D u (bsN D u R i).1 (bsN D u R i).2).length <;> simp only [outVn_zero, outVn_succ, outHn_zero, outHn_succ, LB, subS, subH, wfS, wfH, SV.ren, renL, SObj.ren, SV.wf, SObj.wf, wfL, SV.known, Nat.reduceEqDiff, ↓reduceIte, if_true, if_false, eq_self, Nat.reduceAdd, Nat.reduceLT, Nat.reduceLeDiff, implies_true, reduceCtorEq, forall_const] <;> simp)
        · have hil : ¬ (i : Int) < N := by omega
          obtain rfl : i = N := by omega
          simp -implicitDefEqProofs only [lk_normal, hget_outHn, known_outVn, hil, ZB, Int.reduceToNat, Nat.reduceLT, Nat.reduceLeDiff, Int.reduceLE, Int.reduceLT, Nat.reduceEqDiff, Nat.reduceSub, SB, SV.known, packR, ne_eq, reduceCtorEq, Nat.reduceEqDiff, ↓reduceIte, if_true, if_false, eq_self, Nat.reduceAdd, Nat.reduceMul, Nat.reduceSub, forall_const, oneCellS, litOne, flat1, Kd.isSca, flat, TYB]
          rw [mk1_len]
  · refine pure_of_vc (X := ⟨Try.prog, tys, [(95, isFor_F), (96, isRule_F), (108, within_F)], [(117, behind_F)], true, true, 0, [], [(3, .tree (.one 3 (.alt 0 (.alt 1 (.one 2 (.one 4 (.one 5 (.one 6 (.one 7 .done))))) (.alt 2 (.alt 1 (.one 4 (.one 5 (.one 6 (.one 7 .done)))) (.alt 4 (.one 1 (.one 5 (.one 6 (.one 7 .done)))) .stop)) .stop)) (.alt 2 (.alt 0 (.alt 1 (.one 4 (.one 5 (.one 6 (.one 7 .done)))) (.alt 4 (.one 1 (.one 5 (.one 6 (.one 7 .done)))) .stop)) (.alt 4 (.one 0 (.one 1 (.one 5 (.one 6 (.one 7 .done))))) .stop)) .stop))))]⟩) fn_47 ⟨tys_ok, (.cons isFor_T (.cons isRule_T (.cons within_T .nil))), (.cons behind_T .nil), mixed⟩ (n0 := 0) (Nat.le_of_ble_eq_true rfl) (by simp [wfL, SV.wf]) (wfH_spec (by simp [wfH, SObj.wf])) (Nat.le_refl _) (fun _ => by simp [SV.wf, wfL]) ?_
    simp -implicitDefEqProofs only [Try.f47, Option.getD_some, argS, isFor_F, isRule_F, within_F, behind_F, hR, hD, tkR, tkD, hf, hu, hn, ZB, Int.reduceToNat, Nat.reduceLT, Nat.reduceLeDiff, Int.reduceLE, Int.reduceLT, Nat.reduceEqDiff, Nat.reduceSub, SB, SV.known, packR, ne_eq, reduceCtorEq, Nat.reduceEqDiff, ↓reduceIte, if_true, if_false, eq_self, Nat.reduceAdd, Nat.reduceMul, Nat.reduceSub, forall_const, oneCellS, litOne, flat1, Kd.isSca, flat, TYB]

/-! Every known rack is looked at anew: nothing else comes of it. -/
def akN (D : List Int) (u : Int) (R : List Int) : Nat → List (List Int)
  | 0 => [R]
  | n + 1 => akN D u R n ++ nwL D u (akN D u R n) (akN D u R n)
theorem akN_ok {R D : List Int} {u : Int} (hD : D.length = 6) (hR : R.length = 24) (hf : forB R D = true) : ∀ i, okR D (akN D u R i)
  | 0 => fun x hx => by simp [akN] at hx; subst hx; exact ⟨hR, hf⟩
  | i + 1 => okR_app (akN_ok hD hR hf i) (okR_nw (okR_suc hD (akN_ok hD hR hf i)))
theorem akN_len (D : List Int) (u : Int) (R : List Int) : ∀ i, (akN D u R i).length ≤ 37 ^ i
  | 0 => by simp [akN]
  | i + 1 => by
    have h1 := akN_len D u R i
    have h2 := nwL_len D u (akN D u R i) (akN D u R i)
    show (akN D u R i ++ nwL D u (akN D u R i) (akN D u R i)).length ≤ _
    rw [Nat.pow_succ, List.length_append]
    omega
theorem akN_pos (D : List Int) (u : Int) (R : List Int) : ∀ i, 0 < (akN D u R i).length
  | 0 => by simp [akN]
  | i + 1 => by
    have := akN_pos D u R i
    show 0 < (akN D u R i ++ nwL D u (akN D u R i) (akN D u R i)).length
    rw [List.length_append]; omega
theorem nwL_skip (D : List Int) (u : Int) (A Q K : List (List Int)) (h : ∀ y ∈ A.flatMap (sucL D u), y ∈ K) : nwL D u (A ++ Q) K = nwL D u Q K := by
  unfold nwL
  rw [List.flatMap_append]
  exact nwF_skip K _ _ h
theorem nwL_all (D : List Int) (u : Int) (Q K : List (List Int)) : ∀ y ∈ Q.flatMap (sucL D u), y ∈ K ++ nwL D u Q K := nwF_all K _
/-- The last round's racks end the list, and what lies behind the others is known. -/
theorem bsN_split (D : List Int) (u : Int) (R : List Int) : ∀ i, ∃ A, (bsN D u R i).2 = A ++ (bsN D u R i).1 ∧ ∀ y ∈ A.flatMap (sucL D u), y ∈ (bsN D u R i).2
  | 0 => ⟨[], rfl, fun y hy => by simp at hy⟩
  | i + 1 => by
    obtain ⟨A, h1, h2⟩ := bsN_split D u R i
    refine ⟨(bsN D u R i).2, rfl, fun y hy => ?_⟩
    show y ∈ (bsN D u R i).2 ++ nwL D u (bsN D u R i).1 (bsN D u R i).2
    rw [h1, List.flatMap_append] at hy
    rcases List.mem_append.1 hy with hy | hy
    · exact List.mem_append_left _ (h2 y hy)
    · exact nwL_all D u _ _ y hy
theorem akN_eq (D : List Int) (u : Int) (R : List Int) : ∀ i, akN D u R i = (bsN D u R i).2
  | 0 => rfl
  | i + 1 => by
    show akN D u R i ++ nwL D u (akN D u R i) (akN D u R i) = (bsN D u R i).2 ++ nwL D u (bsN D u R i).1 (bsN D u R i).2
    obtain ⟨A, h1, h2⟩ := bsN_split D u R i
    rw [akN_eq D u R i]
    congr 1
    have h3 := nwL_skip D u A (bsN D u R i).1 (bsN D u R i).2 h2
    rw [← h1] at h3
    exact h3
theorem sReachBy_ok (R D : List Int) (u n : Int) (hR : R.length = 24) (hD : D.length = 6) : PureH Try.prog 48 [.arr R, .arr D, .int u, .int n] [] (.tup [.int (rbF R D u n), .bool (rbB R D u n)]) := by
  have tkR : R.take 24 = R := List.take_of_length_le (by omega)
  have tkD : D.take 6 = D := List.take_of_length_le (by omega)
  unfold rbF rbB
  cases hf : forB R D
  · refine pure_of_vc (X := ⟨Try.prog, tys, [(91, l8Fits2_F), (100, l8Rule_F), (120, l1In_F)], [(121, l8Next_F)], true, true, 0, [], []⟩) fn_48 ⟨tys_ok, (.cons l8Fits2_T (.cons l8Rule_T (.cons l1In_T .nil))), (.cons l8Next_T .nil), mixed⟩ (n0 := 0) (Nat.le_of_ble_eq_true rfl) (by simp [wfL, SV.wf]) (wfH_spec (by simp [wfH, SObj.wf])) (Nat.le_refl _) (fun _ => by simp [SV.wf, wfL]) ?_
    simp -implicitDefEqProofs only [Try.f48, Option.getD_some, argS, l8Fits2_F, l8Rule_F, l1In_F, l8Next_F, hR, hD, tkR, tkD, hf, ZB, Int.reduceToNat, Nat.reduceLT, Nat.reduceLeDiff, Int.reduceLE, Int.reduceLT, Nat.reduceEqDiff, Nat.reduceSub, SB, SV.known, packR, ne_eq, reduceCtorEq, Nat.reduceEqDiff, ↓reduceIte, if_true, if_false, eq_self, Nat.reduceAdd, Nat.reduceMul, Nat.reduceSub, forall_const, oneCellS, litOne, flat1, Kd.isSca, flat, TYB]
  cases hu : ruF u
  · refine pure_of_vc (X := ⟨Try.prog, tys, [(91, l8Fits2_F), (100, l8Rule_F), (120, l1In_F)], [(121, l8Next_F)], true, true, 0, [], []⟩) fn_48 ⟨tys_ok, (.cons l8Fits2_T (.cons l8Rule_T (.cons l1In_T .nil))), (.cons l8Next_T .nil), mixed⟩ (n0 := 0) (Nat.le_of_ble_eq_true rfl) (by simp [wfL, SV.wf]) (wfH_spec (by simp [wfH, SObj.wf])) (Nat.le_refl _) (fun _ => by simp [SV.wf, wfL]) ?_
    simp -implicitDefEqProofs only [Try.f48, Option.getD_some, argS, l8Fits2_F, l8Rule_F, l1In_F, l8Next_F, hR, hD, tkR, tkD, hf, hu, ZB, Int.reduceToNat, Nat.reduceLT, Nat.reduceLeDiff, Int.reduceLE, Int.reduceLT, Nat.reduceEqDiff, Nat.reduceSub, SB, SV.known, packR, ne_eq, reduceCtorEq, Nat.reduceEqDiff, ↓reduceIte, if_true, if_false, eq_self, Nat.reduceAdd, Nat.reduceMul, Nat.reduceSub, forall_const, oneCellS, litOne, flat1, Kd.isSca, flat, TYB]
  by_cases hn : 0 ≤ n ∧ n ≤ 2
  · obtain ⟨N, rfl⟩ : ∃ N : Nat, n = N := ⟨n.toNat, by omega⟩
    refine pure_of_vc (X := ⟨Try.prog, tys, [(91, l8Fits2_F), (100, l8Rule_F), (120, l1In_F)], [(121, l8Next_F)], true, true, 0, [], []⟩) fn_48 ⟨tys_ok, (.cons l8Fits2_T (.cons l8Rule_T (.cons l1In_T .nil))), (.cons l8Next_T .nil), mixed⟩ (n0 := 0) (Nat.le_of_ble_eq_true rfl) (by simp [wfL, SV.wf]) (wfH_spec (by simp [wfH, SObj.wf])) (Nat.le_refl _) (fun _ => by simp [SV.wf, wfL]) ?_
    simp -implicitDefEqProofs only [Try.f48, Option.getD_some, argS, l8Fits2_F, l8Rule_F, l1In_F, l8Next_F, hR, hD, tkR, tkD, hf, hu, hn, ZB, Int.reduceToNat, Nat.reduceLT, Nat.reduceLeDiff, Int.reduceLE, Int.reduceLT, Nat.reduceEqDiff, Nat.reduceSub, SB, SV.known, packR, ne_eq, reduceCtorEq, Nat.reduceEqDiff, ↓reduceIte, if_true, if_false, eq_self, Nat.reduceAdd, Nat.reduceMul, Nat.reduceSub, forall_const, oneCellS, litOne, flat1, Kd.isSca, flat, TYB]
    refine loop_intro (fun s : Nat × Nat × List Int => [(11, .int s.1), (10, .slice 2 0 (akN D u R s.1).length s.2.1), (5, .ptr 1 0), (2, .int u), (3, .int N)])
      (fun s => [(2, .ints ((akN D u R s.1).flatten ++ s.2.2) 27), (1, .ints D 51)]) 3
      (fun s => s.1 ≤ N ∧ s.2.2.length + (akN D u R s.1).length * 24 = s.2.1 * 24) (fun s => N - s.1) ?_ ?_
    · refine ⟨(0, 1, []), ⟨by simp, by simp [akN]⟩, Sub.mk_id ?_ ?_ ?_ ?_ ?_⟩
      all_goals simp only [akN, List.length_cons, List.length_nil, Nat.zero_add, List.flatten_cons, List.flatten_nil, List.append_nil, LB, subS, subH, wfS, wfH, SV.ren, renL, SObj.ren, SV.wf, SObj.wf, wfL, SV.known, Nat.reduceEqDiff, ↓reduceIte, if_true, if_false, eq_self, Nat.reduceAdd, Nat.reduceLT, Nat.reduceLeDiff, implies_true, reduceCtorEq, forall_const]
      all_goals (try simp)
    · rintro ⟨i, c, j⟩ ⟨hi, hj⟩
      simp only at hi hj
      have hQ := akN_ok (u := u) hD hR hf i
      have hfl := flat_len hQ.all24
      by_cases hlt : i < N
      · have hil : (i : Int) < N := by omega
        have hlen := akN_len D u R i
        have p37 : 37 ^ i ≤ 37 := by
          obtain rfl | rfl : i = 0 ∨ i = 1 := by omega
          · decide
          · decide
        have hpos := akN_pos D u R i
        have lJ : ((akN D u R i).flatten ++ j).length = c * 24 := by rw [List.length_append]; omega
        simp -implicitDefEqProofs only [lk_normal, l8Next_F, hil, hD, tkD, hu, lJ, freshK, Wrap.ap, ZB, Int.reduceToNat, Nat.reduceLT, Nat.reduceLeDiff, Int.reduceLE, Int.reduceLT, Nat.reduceEqDiff, Nat.reduceSub, SB, SV.known, packR, ne_eq, reduceCtorEq, Nat.reduceEqDiff, ↓reduceIte, if_true, if_false, eq_self, Nat.reduceAdd, Nat.reduceMul, Nat.reduceSub, forall_const, oneCellS, litOne, flat1, Kd.isSca, flat, TYB]
        refine ⟨hpos, by omega, akN D u R i, j, rfl, rfl, hQ, fun c' j' hj' => ?_⟩
        have e1 : akN D u R i ++ nwL D u (akN D u R i) (akN D u R i) = akN D u R (i + 1) := rfl
        have hf1 := flat_len (akN_ok (u := u) hD hR hf (i + 1)).all24
        simp only [e1] at hj' ⊢
        refine ⟨by unfold In64; omega, (i + 1, c', j'), ⟨by simp only; omega, by simp only; omega⟩, by simp only; omega, Sub.mk_to 2 3 ?_ ?_ ?_ ?_ ?_ ?_ ?_⟩
        all_goals ((try simp only [LB, subS, subH, wfS, wfH, SV.ren, renL, SObj.ren, SV.wf, SObj.wf, wfL, SV.known, Nat.reduceEqDiff, ↓reduceIte, if_true, if_false, eq_self, Nat.reduceAdd, Nat.reduceLT, Nat.reduceLeDiff, implies_true, reduceCtorEq, forall_const]) <;> simp)
      · have hil : ¬ (i : Int) < N := by omega
        obtain rfl : i = N := by omega
        simp -implicitDefEqProofs only [lk_normal, hil, akN_eq, ZB, Int.reduceToNat, Nat.reduceLT, Nat.reduceLeDiff, Int.reduceLE, Int.reduceLT, Nat.reduceEqDiff, Nat.reduceSub, SB, SV.known, packR, ne_eq, reduceCtorEq, Nat.reduceEqDiff, ↓reduceIte, if_true, if_false, eq_self, Nat.reduceAdd, Nat.reduceMul, Nat.reduceSub, forall_const, oneCellS, litOne, flat1, Kd.isSca, flat, TYB]
  · refine pure_of_vc (X := ⟨Try.prog, tys, [(91, l8Fits2_F), (100, l8Rule_F), (120, l1In_F)], [(121, l8Next_F)], true, true, 0, [], []⟩) fn_48 ⟨tys_ok, (.cons l8Fits2_T (.cons l8Rule_T (.cons l1In_T .nil))), (.cons l8Next_T .nil), mixed⟩ (n0 := 0) (Nat.le_of_ble_eq_true rfl) (by simp [wfL, SV.wf]) (wfH_spec (by simp [wfH, SObj.wf])) (Nat.le_refl _) (fun _ => by simp [SV.wf, wfL]) ?_
    simp -implicitDefEqProofs only [Try.f48, Option.getD_some, argS, l8Fits2_F, l8Rule_F, l1In_F, l8Next_F, hR, hD, tkR, tkD, hf, hu, hn, ZB, Int.reduceToNat, Nat.reduceLT, Nat.reduceLeDiff, Int.reduceLE, Int.reduceLT, Nat.reduceEqDiff, Nat.reduceSub, SB, SV.known, packR, ne_eq, reduceCtorEq, Nat.reduceEqDiff, ↓reduceIte, if_true, if_false, eq_self, Nat.reduceAdd, Nat.reduceMul, Nat.reduceSub, forall_const, oneCellS, litOne, flat1, Kd.isSca, flat, TYB]
/-! FewestBy. -/
theorem srtN_sort {D : List Int} {u : Int} {x : List Int} (h : sortB x = true) : ∀ m, srtN D u m x = true
  | 0 => h
  | m + 1 => by show (sortB x || _) = true; rw [h]; rfl
theorem srtN_mono {D : List Int} {u : Int} : ∀ {m : Nat} {x : List Int}, srtN D u m x = true → srtN D u (m + 1) x = true
  | 0, x, h => by
    have h' : sortB x = true := h
    show (sortB x || _) = true; rw [h']; rfl
  | m + 1, x, h => by
    have h' : (sortB x || (sucL D u x).any (srtN D u m)) = true := h
    show (sortB x || (sucL D u x).any (srtN D u (m + 1))) = true
    rw [Bool.or_eq_true] at h' ⊢
    rcases h' with h' | h'
    · exact .inl h'
    · rw [List.any_eq_true] at h' ⊢
      obtain ⟨z, hz, h2⟩ := h'
      exact .inr ⟨z, hz, srtN_mono h2⟩
theorem akN_srt (D : List Int) (u : Int) (R : List Int) : ∀ n m, (akN D u R n).any (srtN D u m) = srtN D u (n + m) R
  | 0, m => by simp [akN]
  | n + 1, m => by
    rw [show n + 1 + m = n + (m + 1) by omega, ← akN_srt D u R n (m + 1)]
    apply Bool.eq_iff_iff.2
    rw [List.any_eq_true, List.any_eq_true]
    constructor
    · rintro ⟨x, hx, h⟩
      rcases List.mem_append.1 (show x ∈ akN D u R n ++ nwL D u (akN D u R n) (akN D u R n) from hx) with hx | hx
      · exact ⟨x, hx, srtN_mono h⟩
      · have := (nwF_sub _ _ x hx).1
        obtain ⟨z, hz, hxz⟩ := List.mem_flatMap.1 this
        refine ⟨z, hz, ?_⟩
        show (sortB z || (sucL D u z).any (srtN D u m)) = true
        rw [Bool.or_eq_true, List.any_eq_true]
        exact .inr ⟨x, hxz, h⟩
    · rintro ⟨x, hx, h⟩
      have h' : (sortB x || (sucL D u x).any (srtN D u m)) = true := h
      rw [Bool.or_eq_true, List.any_eq_true] at h'
      rcases h' with h' | ⟨z, hz, h2⟩
      · exact ⟨x, List.mem_append_left _ hx, srtN_sort h' m⟩
      · exact ⟨z, nwL_all D u _ _ z (List.mem_flatMap.2 ⟨x, hx, hz⟩), h2⟩
def fwA (D : List Int) (u : Int) (R : List Int) (i : Nat) : Bool := (bsN D u R i).1.any sortB
theorem srt_fwA (D : List Int) (u : Int) (R : List Int) (i : Nat) : srtN D u i R = (akN D u R i).any sortB := by
  have := akN_srt D u R i 0
  rw [Nat.add_zero] at this
  rw [← this]; rfl
theorem srt_zero (D : List Int) (u : Int) (R : List Int) : srtN D u 0 R = fwA D u R 0 := by rw [srt_fwA]; rfl
theorem srt_succ (D : List Int) (u : Int) (R : List Int) (i : Nat) : srtN D u (i + 1) R = (srtN D u i R || fwA D u R (i + 1)) := by
  rw [srt_fwA, srt_fwA, akN_eq, akN_eq]
  show ((bsN D u R i).2 ++ (bsN D u R (i + 1)).1).any sortB = _
  rw [List.any_append]; rfl
theorem srt_fst {D : List Int} {u : Int} {R : List Int} : ∀ {i : Nat}, (∀ k, k < i → srtN D u k R = false) → (∀ k, k < i → fwA D u R k = false) ∧ srtN D u i R = fwA D u R i
  | 0, _ => ⟨fun k h => by omega, srt_zero D u R⟩
  | i + 1, h => by
    obtain ⟨h1, h2⟩ := srt_fst (i := i) fun k hk => h k (by omega)
    have h3 := h i (by omega)
    refine ⟨fun k hk => ?_, by rw [srt_succ, h3, Bool.false_or]⟩
    by_cases hki : k = i
    · subst hki; rw [← h2]; exact h3
    · exact h1 k (by omega)
def fwO (R D : List Int) (u : Int) : Option Nat := if (forB R D && ruF u) = true then (List.range 4).find? (fwA D u R) else none
theorem fw_hit {f : Nat → Bool} {i m : Nat} (hm : i < m) (h : f i = true) (h2 : ∀ k, k < i → f k = false) : (List.range m).find? f = some i := by
  rw [List.find?_range_eq_some]
  exact ⟨h, List.mem_range.2 hm, fun k hk => by simp [h2 k hk]⟩
theorem fw_none {f : Nat → Bool} {m : Nat} (h2 : ∀ k, k < m → f k = false) : (List.range m).find? f = none := by
  rw [List.find?_eq_none]
  intro x hx
  rw [h2 x (List.mem_range.1 hx)]; simp
def fwF (o : Option Nat) : Int := match o with
  | some i => (i : Nat)
  | none => 0
theorem sFewestBy_ok (R D : List Int) (u : Int) (hR : R.length = 24) (hD : D.length = 6) : PureH Try.prog 45 [.arr R, .arr D, .int u] [] (.tup [.int (fwF (fwO R D u)), .bool (fwO R D u).isSome]) := by
  have tkR : R.take 24 = R := List.take_of_length_le (by omega)
  have tkD : D.take 6 = D := List.take_of_length_le (by omega)
  unfold fwO
  cases hf : forB R D
  · refine pure_of_vc (X := ⟨Try.prog, tys, [(91, l8Fits2_F), (100, l8Rule_F), (118, l8Sorts_F)], [], true, true, 0, [], []⟩) fn_45 ⟨tys_ok, (.cons l8Fits2_T (.cons l8Rule_T (.cons l8Sorts_T .nil))), .nil, mixed⟩ (n0 := 0) (Nat.le_of_ble_eq_true rfl) (by simp [wfL, SV.wf]) (wfH_spec (by simp [wfH, SObj.wf])) (Nat.le_refl _) (fun _ => by simp [SV.wf, wfL]) ?_
    simp -implicitDefEqProofs only [Try.f45, Option.getD_some, argS, l8Fits2_F, l8Rule_F, l8Sorts_F, hR, hD, tkR, tkD, hf, ZB, Int.reduceToNat, Nat.reduceLT, Nat.reduceLeDiff, Int.reduceLE, Int.reduceLT, Nat.reduceEqDiff, Nat.reduceSub, SB, SV.known, packR, ne_eq, reduceCtorEq, Nat.reduceEqDiff, ↓reduceIte, if_true, if_false, eq_self, Nat.reduceAdd, Nat.reduceMul, Nat.reduceSub, forall_const, oneCellS, litOne, flat1, Kd.isSca, flat, TYB]
    exact ⟨rfl, rfl⟩
  cases hu : ruF u
  · refine pure_of_vc (X := ⟨Try.prog, tys, [(91, l8Fits2_F), (100, l8Rule_F), (118, l8Sorts_F)], [], true, true, 0, [], []⟩) fn_45 ⟨tys_ok, (.cons l8Fits2_T (.cons l8Rule_T (.cons l8Sorts_T .nil))), .nil, mixed⟩ (n0 := 0) (Nat.le_of_ble_eq_true rfl) (by simp [wfL, SV.wf]) (wfH_spec (by simp [wfH, SObj.wf])) (Nat.le_refl _) (fun _ => by simp [SV.wf, wfL]) ?_
    simp -implicitDefEqProofs only [Try.f45, Option.getD_some, argS, l8Fits2_F, l8Rule_F, l8Sorts_F, hR, hD, tkR, tkD, hf, hu, ZB, Int.reduceToNat, Nat.reduceLT, Nat.reduceLeDiff, Int.reduceLE, Int.reduceLT, Nat.reduceEqDiff, Nat.reduceSub, SB, SV.known, packR, ne_eq, reduceCtorEq, Nat.reduceEqDiff, ↓reduceIte, if_true, if_false, eq_self, Nat.reduceAdd, Nat.reduceMul, Nat.reduceSub, forall_const, oneCellS, litOne, flat1, Kd.isSca, flat, TYB]
    exact ⟨rfl, rfl⟩
  · refine pure_of_vc (X := ⟨Try.prog, tys, [(91, l8Fits2_F), (100, l8Rule_F), (118, l8Sorts_F)], [], true, true, 0, [], []⟩) fn_45 ⟨tys_ok, (.cons l8Fits2_T (.cons l8Rule_T (.cons l8Sorts_T .nil))), .nil, mixed⟩ (n0 := 0) (Nat.le_of_ble_eq_true rfl) (by simp [wfL, SV.wf]) (wfH_spec (by simp [wfH, SObj.wf])) (Nat.le_refl _) (fun _ => by simp [SV.wf, wfL]) ?_
    simp -implicitDefEqProofs only [Try.f45, Option.getD_some, argS, l8Fits2_F, l8Rule_F, l8Sorts_F, hR, hD, tkR, tkD, hf, hu, ZB, Int.reduceToNat, Nat.reduceLT, Nat.reduceLeDiff, Int.reduceLE, Int.reduceLT, Nat.reduceEqDiff, Nat.reduceSub, SB, SV.known, packR, ne_eq, reduceCtorEq, Nat.reduceEqDiff, ↓reduceIte, if_true, if_false, eq_self, Nat.reduceAdd, Nat.reduceMul, Nat.reduceSub, forall_const, oneCellS, litOne, flat1, Kd.isSca, flat, TYB]
    refine loop_intro (fun i : Nat => [(8, .int i), (4, .ptr 1 0), (3, .ptr 0 0), (2, .int u)]) (fun _ => [(1, .ints D 51), (0, .ints R 27)]) 2
      (fun i => i ≤ 4 ∧ ∀ k, k < i → srtN D u k R = false) (fun i => 4 - i) ?_ ?_
    · refine ⟨0, ⟨by omega, by simp⟩, Sub.mk_id ?_ ?_ ?_ ?_ ?_⟩
      all_goals ((try simp only [LB, subS, subH, wfS, wfH, SV.ren, renL, SObj.ren, SV.wf, SObj.wf, wfL, SV.known, Nat.reduceEqDiff, ↓reduceIte, if_true, if_false, eq_self, Nat.reduceAdd, Nat.reduceLT, Nat.reduceLeDiff, implies_true, reduceCtorEq, forall_const]) <;> simp)
    · rintro i ⟨hi, hno⟩
      obtain ⟨s1, s2⟩ := srt_fst hno
      by_cases hlt : i < 4
      · have hil : (i : Int) ≤ 3 := by omega
        cases hs : srtN D u i R
        · simp -implicitDefEqProofs only [lk_normal, l8Sorts_F, hil, hR, hD, tkR, tkD, hf, hu, hs, Int.toNat_natCast, ZB, Int.reduceToNat, Nat.reduceLT, Nat.reduceLeDiff, Int.reduceLE, Int.reduceLT, Nat.reduceEqDiff, Nat.reduceSub, SB, SV.known, packR, ne_eq, reduceCtorEq, Nat.reduceEqDiff, ↓reduceIte, if_true, if_false, eq_self, Nat.reduceAdd, Nat.reduceMul, Nat.reduceSub, forall_const, oneCellS, litOne, flat1, Kd.isSca, flat, TYB]
          refine ⟨by omega, by unfold In64; omega, i + 1, ⟨by omega, fun k hk => ?_⟩, by omega, Sub.mk_id ?_ ?_ ?_ ?_ ?_⟩
          · by_cases hki : k = i
            · subst hki; exact hs
            · exact hno k (by omega)
          all_goals ((try simp only [LB, subS, subH, wfS, wfH, SV.ren, renL, SObj.ren, SV.wf, SObj.wf, wfL, SV.known, Nat.reduceEqDiff, ↓reduceIte, if_true, if_false, eq_self, Nat.reduceAdd, Nat.reduceLT, Nat.reduceLeDiff, implies_true, reduceCtorEq, forall_const]) <;> simp)
        · simp -implicitDefEqProofs only [lk_normal, l8Sorts_F, hil, hR, hD, tkR, tkD, hf, hu, hs, Int.toNat_natCast, ZB, Int.reduceToNat, Nat.reduceLT, Nat.reduceLeDiff, Int.reduceLE, Int.reduceLT, Nat.reduceEqDiff, Nat.reduceSub, SB, SV.known, packR, ne_eq, reduceCtorEq, Nat.reduceEqDiff, ↓reduceIte, if_true, if_false, eq_self, Nat.reduceAdd, Nat.reduceMul, Nat.reduceSub, forall_const, oneCellS, litOne, flat1, Kd.isSca, flat, TYB]
          rw [fw_hit hlt (s2 ▸ hs) s1]
          exact ⟨by omega, rfl, rfl⟩
      · have hil : ¬ (i : Int) ≤ 3 := by omega
        obtain rfl : i = 4 := by omega
        rw [fw_none s1]
        simp -implicitDefEqProofs only [lk_normal, hil, ZB, Int.reduceToNat, Nat.reduceLT, Nat.reduceLeDiff, Int.reduceLE, Int.reduceLT, Nat.reduceEqDiff, Nat.reduceSub, SB, SV.known, packR, ne_eq, reduceCtorEq, Nat.reduceEqDiff, ↓reduceIte, if_true, if_false, eq_self, Nat.reduceAdd, Nat.reduceMul, Nat.reduceSub, forall_const, oneCellS, litOne, flat1, Kd.isSca, flat, TYB]
        exact ⟨rfl, rfl⟩
theorem chkR_flat2 {Q : List (List Int)} (h : all24 Q) (J : List Int) : chkR (Q.flatten ++ J) 0 Q.length = Q := by
  apply List.ext_getElem
  · rw [chkR_len]
  · intro i h1 h2
    simp only [chkR, List.getElem_map, List.getElem_range, Nat.zero_add]
    rw [flat_get h h2 J, List.getD_eq_getElem?_getD, List.getElem?_eq_getElem h2]; rfl
theorem FewestBy_ok (R D : List Int) (u : Int) (hR : R.length = 24) (hD : D.length = 6) : PureH Try.prog 44 [.arr R, .arr D, .int u] [] (.tup [.int (fwF (fwO R D u)), .bool (fwO R D u).isSome]) := by
  have tkR : R.take 24 = R := List.take_of_length_le (by omega)
  have tkD : D.take 6 = D := List.take_of_length_le (by omega)
  have kI := keyI_rack
  have k24 : keysOK ([] : List (List Int × Int)) 24 := fun q hq => by simp at hq
  unfold fwO
  cases hf : forB R D
  · refine pure_of_vc (X := ⟨Try.prog, tys, [(95, isFor_F), (96, isRule_F), (115, srtAny_F)], [(117, behind_F)], true, true, 0, [], [(3, .tree (.one 3 (.alt 0 (.alt 1 (.one 2 (.one 4 (.one 5 (.one 6 (.one 7 .done))))) (.alt 2 (.alt 1 (.one 4 (.one 5 (.one 6 (.one 7 .done)))) (.alt 4 (.one 1 (.one 5 (.one 6 (.one 7 .done)))) .stop)) .stop)) (.alt 2 (.alt 0 (.alt 1 (.one 4 (.one 5 (.one 6 (.one 7 .done)))) (.alt 4 (.one 1 (.one 5 (.one 6 (.one 7 .done)))) .stop)) (.alt 4 (.one 0 (.one 1 (.one 5 (.one 6 (.one 7 .done))))) .stop)) .stop))))]⟩) fn_44 ⟨tys_ok, (.cons isFor_T (.cons isRule_T (.cons srtAny_T .nil))), (.cons behind_T .nil), mixed⟩ (n0 := 0) (Nat.le_of_ble_eq_true rfl) (by simp [wfL, SV.wf]) (wfH_spec (by simp [wfH, SObj.wf])) (Nat.le_refl _) (fun _ => by simp [SV.wf, wfL]) ?_
    simp -implicitDefEqProofs only [Try.f44, Option.getD_some, argS, isFor_F, isRule_F, srtAny_F, behind_F, hR, hD, tkR, tkD, hf, ZB, Int.reduceToNat, Nat.reduceLT, Nat.reduceLeDiff, Int.reduceLE, Int.reduceLT, Nat.reduceEqDiff, Nat.reduceSub, SB, SV.known, packR, ne_eq, reduceCtorEq, Nat.reduceEqDiff, ↓reduceIte, if_true, if_false, eq_self, Nat.reduceAdd, Nat.reduceMul, Nat.reduceSub, forall_const, oneCellS, litOne, flat1, Kd.isSca, flat, TYB]
    exact ⟨rfl, rfl⟩
  cases hu : ruF u
  · refine pure_of_vc (X := ⟨Try.prog, tys, [(95, isFor_F), (96, isRule_F), (115, srtAny_F)], [(117, behind_F)], true, true, 0, [], [(3, .tree (.one 3 (.alt 0 (.alt 1 (.one 2 (.one 4 (.one 5 (.one 6 (.one 7 .done))))) (.alt 2 (.alt 1 (.one 4 (.one 5 (.one 6 (.one 7 .done)))) (.alt 4 (.one 1 (.one 5 (.one 6 (.one 7 .done)))) .stop)) .stop)) (.alt 2 (.alt 0 (.alt 1 (.one 4 (.one 5 (.one 6 (.one 7 .done)))) (.alt 4 (.one 1 (.one 5 (.one 6 (.one 7 .done)))) .stop)) (.alt 4 (.one 0 (.one 1 (.one 5 (.one 6 (.one 7 .done))))) .stop)) .stop))))]⟩) fn_44 ⟨tys_ok, (.cons isFor_T (.cons isRule_T (.cons srtAny_T .nil))), (.cons behind_T .nil), mixed⟩ (n0 := 0) (Nat.le_of_ble_eq_true rfl) (by simp [wfL, SV.wf]) (wfH_spec (by simp [wfH, SObj.wf])) (Nat.le_refl _) (fun _ => by simp [SV.wf, wfL]) ?_
    simp -implicitDefEqProofs only [Try.f44, Option.getD_some, argS, isFor_F, isRule_F, srtAny_F, behind_F, hR, hD, tkR, tkD, hf, hu, ZB, Int.reduceToNat, Nat.reduceLT, Nat.reduceLeDiff, Int.reduceLE, Int.reduceLT, Nat.reduceEqDiff, Nat.reduceSub, SB, SV.known, packR, ne_eq, reduceCtorEq, Nat.reduceEqDiff, ↓reduceIte, if_true, if_false, eq_self, Nat.reduceAdd, Nat.reduceMul, Nat.reduceSub, forall_const, oneCellS, litOne, flat1, Kd.isSca, flat, TYB]
    exact ⟨rfl, rfl⟩
  · refine pure_of_vc (X := ⟨Try.prog, tys, [(95, isFor_F), (96, isRule_F), (115, srtAny_F)], [(117, behind_F)], true, true, 0, [], [(3, .tree (.one 3 (.alt 0 (.alt 1 (.one 2 (.one 4 (.one 5 (.one 6 (.one 7 .done))))) (.alt 2 (.alt 1 (.one 4 (.one 5 (.one 6 (.one 7 .done)))) (.alt 4 (.one 1 (.one 5 (.one 6 (.one 7 .done)))) .stop)) .stop)) (.alt 2 (.alt 0 (.alt 1 (.one 4 (.one 5 (.one 6 (.one 7 .done)))) (.alt 4 (.one 1 (.one 5 (.one 6 (.one 7 .done)))) .stop)) (.alt 4 (.one 0 (.one 1 (.one 5 (.one 6 (.one 7 .done))))) .stop)) .stop))))]⟩) fn_44 ⟨tys_ok, (.cons isFor_T (.cons isRule_T (.cons srtAny_T .nil))), (.cons behind_T .nil), mixed⟩ (n0 := 0) (Nat.le_of_ble_eq_true rfl) (by simp [wfL, SV.wf]) (wfH_spec (by simp [wfH, SObj.wf])) (Nat.le_refl _) (fun _ => by simp [SV.wf, wfL]) ?_
    simp -implicitDefEqProofs only [Try.f44, Option.getD_some, argS, isFor_F, isRule_F, srtAny_F, behind_F, hR, hD, tkR, tkD, hf, hu, ZB, Int.reduceToNat, Nat.reduceLT, Nat.reduceLeDiff, Int.reduceLE, Int.reduceLT, Nat.reduceEqDiff, Nat.reduceSub, SB, SV.known, packR, ne_eq, reduceCtorEq, Nat.reduceEqDiff, ↓reduceIte, if_true, if_false, eq_self, Nat.reduceAdd, Nat.reduceMul, Nat.reduceSub, forall_const, oneCellS, litOne, flat1, Kd.isSca, flat, TYB]
    refine ⟨Unit, fun _ => [(8, .slice 2 0 1 1), (9, .mp 3), (4, .ptr 1 0), (2, .int u)], fun _ => [(2, .ints R 27), (3, .mp true (mk1 [R])), (1, .ints D 51), (0, .ints R 27)], fun _ => 4, ?_, fun _ => ?_⟩
    · simp -implicitDefEqProofs only [kI, k24, hR, tkR, ZB, Int.reduceToNat, Nat.reduceLT, Nat.reduceLeDiff, Int.reduceLE, Int.reduceLT, Nat.reduceEqDiff, Nat.reduceSub, SB, SV.known, packR, ne_eq, reduceCtorEq, Nat.reduceEqDiff, ↓reduceIte, if_true, if_false, eq_self, Nat.reduceAdd, Nat.reduceMul, Nat.reduceSub, forall_const, oneCellS, litOne, flat1, Kd.isSca, flat, TYB]
      have em : mset [] R 1 = mk1 [R] := rfl
      simp only [em]
      refine ⟨⟨⟨(), Sub.mk_id ?_ ?_ ?_ ?_ ?_⟩, ⟨(), Sub.mk_to2 2 3 3 2 ?_ ?_ ?_ ?_ ?_ ?_ ?_ ?_⟩, ⟨(), Sub.mk_to2 2 3 3 2 ?_ ?_ ?_ ?_ ?_ ?_ ?_ ?_⟩⟩, ⟨⟨(), Sub.mk_to2 2 3 3 2 ?_ ?_ ?_ ?_ ?_ ?_ ?_ ?_⟩, ⟨(), Sub.mk_to2 2 3 3 2 ?_ ?_ ?_ ?_ ?_ ?_ ?_ ?_⟩⟩, ⟨(), Sub.mk_to2 2 3 3 2 ?_ ?_ ?_ ?_ ?_ ?_ ?_ ?_⟩⟩
      all_goals ((try simp only [LB, subS, subH, wfS, wfH, SV.ren, renL, SObj.ren, SV.wf, SObj.wf, wfL, SV.known, Nat.reduceEqDiff, ↓reduceIte, if_true, if_false, eq_self, Nat.reduceAdd, Nat.reduceLT, Nat.reduceLeDiff, implies_true, reduceCtorEq, forall_const]) <;> simp)
    · simp -implicitDefEqProofs only [lk_normal, ZB, Int.reduceToNat, Nat.reduceLT, Nat.reduceLeDiff, Int.reduceLE, Int.reduceLT, Nat.reduceEqDiff, Nat.reduceSub, SB, SV.known, packR, ne_eq, reduceCtorEq, Nat.reduceEqDiff, ↓reduceIte, if_true, if_false, eq_self, Nat.reduceAdd, Nat.reduceMul, Nat.reduceSub, forall_const, oneCellS, litOne, flat1, Kd.isSca, flat, TYB]
      refine loop_intro (fun s : Nat × Nat × List Int => [(25, .int s.1), (8, outVn 2 (bsN D u R (min s.1 3)).1.length (bsN D u R (min s.1 3)).1.length s.2.1), (9, .mp 3), (4, .ptr 1 0), (2, .int u)])
        (fun s => outHn 2 (bsN D u R (min s.1 3)).1.length ((bsN D u R (min s.1 3)).1.flatten ++ s.2.2) 27 [(3, .mp true (mk1 (bsN D u R (min s.1 3)).2)), (1, .ints D 51)]) 4
        (fun s => (s.1 ≤ 4 ∧ ∀ k, k < s.1 → fwA D u R k = false) ∧ s.2.2.length + (bsN D u R (min s.1 3)).1.length * 24 = s.2.1 * 24) (fun s => 4 - s.1) ?_ ?_
      · refine ⟨(0, 1, []), ⟨⟨by simp, by simp⟩, by simp [bsN]⟩, Sub.mk_id ?_ ?_ ?_ ?_ ?_⟩
        all_goals simp only [Nat.zero_min, bsN, List.length_cons, List.length_nil, Nat.zero_add, outVn_succ, outHn_succ, List.flatten_cons, List.flatten_nil, List.append_nil, LB, subS, subH, wfS, wfH, SV.ren, renL, SObj.ren, SV.wf, SObj.wf, wfL, SV.known, Nat.reduceEqDiff, ↓reduceIte, if_true, if_false, eq_self, Nat.reduceAdd, Nat.reduceLT, Nat.reduceLeDiff, implies_true, reduceCtorEq, forall_const]
        all_goals (try simp)
      · rintro ⟨i, c, j⟩ ⟨⟨hi, hno⟩, hj⟩
        simp only at hi hj hno
        by_cases hlt : i < 4
        · have hil : (i : Int) < 4 := by omega
          have emi : min i 3 = i := by omega
          have hQ := bsN_ok hD hu hR hf i
          have hA := hQ.1.all24
          have hlen := bsN_len D u R i
          have hfl := flat_len hA
          have hck := chkR_flat2 hA j
          simp only [emi] at hj ⊢
          have fwe : fwA D u R i = (bsN D u R i).1.any sortB := rfl
          have nxt : fwA D u R i = false → ∀ k, k < i + 1 → fwA D u R k = false := fun h k hk => by
            by_cases hki : k = i
            · subst hki; exact h
            · exact hno k (by omega)
          have hgt : ∀ k, k < (bsN D u R i).1.length → rackB (((bsN D u R i).1.flatten ++ j).drop (k * 24) |>.take 24) = true := fun k hk => by
            rw [flat_get hA hk j]
            exact (forB_facts hD (hQ.1 _ (getD_mem hk)).2).1
          have p36 : 36 ^ i ≤ 46656 := by
            obtain rfl | rfl | rfl | rfl : i = 0 ∨ i = 1 ∨ i = 2 ∨ i = 3 := by omega
            all_goals decide
          have p362 : i < 3 → 36 ^ i ≤ 1296 := fun h => by
            obtain rfl | rfl | rfl : i = 0 ∨ i = 1 ∨ i = 2 := by omega
            all_goals decide
          cases hl : (bsN D u R i).1.length with
          | zero =>
            have e1 := bsN_zero (D := D) (u := u) (R := R) (i := i) hl
            have h0 : fwA D u R i = false := by
              rw [fwe, List.length_eq_zero_iff.1 hl]; rfl
            by_cases h3 : i < 3
            · have h3i : (i : Int) < 3 := by omega
              have em2 : min (i + 1) 3 = i + 1 := by omega
              simp -implicitDefEqProofs only [lk_normal, behind_F, srtAny_F, hil, h3i, hD, tkD, outVn_zero, outHn_zero, ZB, Int.reduceToNat, Nat.reduceLT, Nat.reduceLeDiff, Int.reduceLE, Int.reduceLT, Nat.reduceEqDiff, Nat.reduceSub, SB, SV.known, packR, ne_eq, reduceCtorEq, Nat.reduceEqDiff, ↓reduceIte, if_true, if_false, eq_self, Nat.reduceAdd, Nat.reduceMul, Nat.reduceSub, forall_const, oneCellS, litOne, flat1, Kd.isSca, flat, TYB]
              refine ⟨by unfold In64; omega, (i + 1, 0, []), ⟨⟨by simp only; omega, nxt h0⟩, by simp only [em2, e1]; simp⟩, by simp only; omega, Sub.mk_id ?_ ?_ ?_ ?_ ?_⟩
              all_goals (try simp only [em2, e1, List.length_nil, outVn_zero, outHn_zero])
              all_goals ((try simp only [LB, subS, subH, wfS, wfH, SV.ren, renL, SObj.ren, SV.wf, SObj.wf, wfL, SV.known, Nat.reduceEqDiff, ↓reduceIte, if_true, if_false, eq_self, Nat.reduceAdd, Nat.reduceLT, Nat.reduceLeDiff, implies_true, reduceCtorEq, forall_const]) <;> simp)
            · have h3i : ¬ (i : Int) < 3 := by omega
              have em2 : min (i + 1) 3 = i := by omega
              simp -implicitDefEqProofs only [lk_normal, behind_F, srtAny_F, hil, h3i, hD, tkD, outVn_zero, outHn_zero, ZB, Int.reduceToNat, Nat.reduceLT, Nat.reduceLeDiff, Int.reduceLE, Int.reduceLT, Nat.reduceEqDiff, Nat.reduceSub, SB, SV.known, packR, ne_eq, reduceCtorEq, Nat.reduceEqDiff, ↓reduceIte, if_true, if_false, eq_self, Nat.reduceAdd, Nat.reduceMul, Nat.reduceSub, forall_const, oneCellS, litOne, flat1, Kd.isSca, flat, TYB]
              refine ⟨by unfold In64; omega, (i + 1, c, j), ⟨⟨by simp only; omega, nxt h0⟩, by simp only [em2]; exact hj⟩, by simp only; omega, Sub.mk_id ?_ ?_ ?_ ?_ ?_⟩
              all_goals (try simp only [em2, hl, outVn_zero, outHn_zero])
              all_goals ((try simp only [LB, subS, subH, wfS, wfH, SV.ren, renL, SObj.ren, SV.wf, SObj.wf, wfL, SV.known, Nat.reduceEqDiff, ↓reduceIte, if_true, if_false, eq_self, Nat.reduceAdd, Nat.reduceLT, Nat.reduceLeDiff, implies_true, reduceCtorEq, forall_const]) <;> simp)
          | succ l =>
            rw [hl] at hck hgt
            have hl24 : (l + 1) * 24 ≤ ((bsN D u R i).1.flatten ++ j).length := by rw [List.length_append, hfl, hl]; omega
            cases h0 : fwA D u R i
            · rw [fwe] at h0
              by_cases h3 : i < 3
              · have h3i : (i : Int) < 3 := by omega
                have em2 : min (i + 1) 3 = i + 1 := by omega
                simp -implicitDefEqProofs only [lk_normal, behind_F, srtAny_F, hil, h3i, hD, tkD, hu, hck, h0, outVn_succ, outHn_succ, ZB, Int.reduceToNat, Nat.reduceLT, Nat.reduceLeDiff, Int.reduceLE, Int.reduceLT, Nat.reduceEqDiff, Nat.reduceSub, SB, SV.known, packR, ne_eq, reduceCtorEq, Nat.reduceEqDiff, ↓reduceIte, if_true, if_false, eq_self, Nat.reduceAdd, Nat.reduceMul, Nat.reduceSub, forall_const, oneCellS, litOne, flat1, Kd.isSca, flat, TYB]
                refine ⟨⟨hl24, by omega, hgt⟩, by have := p362 h3; omega, (bsN D u R i).1, j, (bsN D u R i).2, rfl, hl, rfl, hQ.1, hQ.2.all24, fun c' j' hj' => ?_⟩
                refine ⟨by unfold In64; omega, (i + 1, c', j'), ⟨⟨by simp only; omega, nxt h0⟩, by simp only [em2]; exact hj'⟩, by simp only; omega, Sub.mk_to 2 4 ?_ ?_ ?_ ?_ ?_ ?_ ?_⟩
                all_goals (try simp only [em2, bsN])
                all_goals (cases (nwL D u (bsN D u R i).1 (bsN D u R i).2).length <;> simp only [outVn_zero, outVn_succ, outHn_zero, outHn_succ, LB, subS, subH, wfS, wfH, SV.ren, renL, SObj.ren, SV.wf, SObj.wf, wfL, SV.known, Nat.reduceEqDiff, ↓reduceIte, if_true, if_false, eq_self, Nat.reduceAdd, Nat.reduceLT, Nat.reduceLeDiff, implies_true, reduceCtorEq, forall_const] <;> simp)
              · have h3i : ¬ (i : Int) < 3 := by omega
                have em2 : min (i + 1) 3 = i := by omega
                simp -implicitDefEqProofs only [lk_normal, behind_F, srtAny_F, hil, h3i, hD, tkD, hu, hck, h0, outVn_succ, outHn_succ, ZB, Int.reduceToNat, Nat.reduceLT, Nat.reduceLeDiff, Int.reduceLE, Int.reduceLT, Nat.reduceEqDiff, Nat.reduceSub, SB, SV.known, packR, ne_eq, reduceCtorEq, Nat.reduceEqDiff, ↓reduceIte, if_true, if_false, eq_self, Nat.reduceAdd, Nat.reduceMul, Nat.reduceSub, forall_const, oneCellS, litOne, flat1, Kd.isSca, flat, TYB]
                refine ⟨⟨hl24, by omega, hgt⟩, by unfold In64; omega, (i + 1, c, j), ⟨⟨by simp only; omega, nxt h0⟩, by simp only [em2]; exact hj⟩, by simp only; omega, Sub.mk_id ?_ ?_ ?_ ?_ ?_⟩
                all_goals (try simp only [em2, hl, outVn_succ, outHn_succ])
                all_goals ((try simp only [LB, subS, subH, wfS, wfH, SV.ren, renL, SObj.ren, SV.wf, SObj.wf, wfL, SV.known, Nat.reduceEqDiff, ↓reduceIte, if_true, if_false, eq_self, Nat.reduceAdd, Nat.reduceLT, Nat.reduceLeDiff, implies_true, reduceCtorEq, forall_const]) <;> simp)
            · rw [fw_hit hlt h0 hno]
              rw [fwe] at h0
              simp -implicitDefEqProofs only [lk_normal, behind_F, srtAny_F, hil, hD, tkD, hu, hck, h0, outVn_succ, outHn_succ, ZB, Int.reduceToNat, Nat.reduceLT, Nat.reduceLeDiff, Int.reduceLE, Int.reduceLT, Nat.reduceEqDiff, Nat.reduceSub, SB, SV.known, packR, ne_eq, reduceCtorEq, Nat.reduceEqDiff, ↓reduceIte, if_true, if_false, eq_self, Nat.reduceAdd, Nat.reduceMul, Nat.reduceSub, forall_const, oneCellS, litOne, flat1, Kd.isSca, flat, TYB]
              exact ⟨⟨hl24, by omega, hgt⟩, rfl, rfl⟩
        · have hil : ¬ (i : Int) < 4 := by omega
          obtain rfl : i = 4 := by omega
          rw [fw_none hno]
          simp -implicitDefEqProofs only [lk_normal, hget_outHn, known_outVn, hil, ZB, Int.reduceToNat, Nat.reduceLT, Nat.reduceLeDiff, Int.reduceLE, Int.reduceLT, Nat.reduceEqDiff, Nat.reduceSub, SB, SV.known, packR, ne_eq, reduceCtorEq, Nat.reduceEqDiff, ↓reduceIte, if_true, if_false, eq_self, Nat.reduceAdd, Nat.reduceMul, Nat.reduceSub, forall_const, oneCellS, litOne, flat1, Kd.isSca, flat, TYB]
          exact ⟨rfl, rfl⟩
--@tbl ReachBy = impl.ReachBy
--@tbl sReachBy = spec.ReachBy
--@tbl FewestBy = impl.FewestBy
--@tbl sFewestBy = spec.FewestBy
def ReachBy_F : List SV → Heap → Option (Prop × SV)
  | [.arr R, .arr D, .int u, .int n], _ => some (R.length = 24 ∧ D.length = 6, .tup [.int (rbF R D u n), .bool (rbB R D u n)])
  | _, _ => none
theorem ReachBy_T : ∀ args H p v, ReachBy_F args H = some (p, v) → p → PureH Try.prog 47 args H v := by
  intro args H p v h hp
  unfold ReachBy_F at h
  split at h
  · cases h; exact (ReachBy_ok _ _ _ _ hp.1 hp.2).any _
  · cases h
def sReachBy_F : List SV → Heap → Option (Prop × SV)
  | [.arr R, .arr D, .int u, .int n], _ => some (R.length = 24 ∧ D.length = 6, .tup [.int (rbF R D u n), .bool (rbB R D u n)])
  | _, _ => none
theorem sReachBy_T : ∀ args H p v, sReachBy_F args H = some (p, v) → p → PureH Try.prog 48 args H v := by
  intro args H p v h hp
  unfold sReachBy_F at h
  split at h
  · cases h; exact (sReachBy_ok _ _ _ _ hp.1 hp.2).any _
  · cases h
def FewestBy_F : List SV → Heap → Option (Prop × SV)
  | [.arr R, .arr D, .int u], _ => some (R.length = 24 ∧ D.length = 6, .tup [.int (fwF (fwO R D u)), .bool (fwO R D u).isSome])
  | _, _ => none
theorem FewestBy_T : ∀ args H p v, FewestBy_F args H = some (p, v) → p → PureH Try.prog 44 args H v := by
  intro args H p v h hp
  unfold FewestBy_F at h
  split at h
  · cases h; exact (FewestBy_ok _ _ _ hp.1 hp.2).any _
  · cases h
def sFewestBy_F : List SV → Heap → Option (Prop × SV)
  | [.arr R, .arr D, .int u], _ => some (R.length = 24 ∧ D.length = 6, .tup [.int (fwF (fwO R D u)), .bool (fwO R D u).isSome])
  | _, _ => none
theorem sFewestBy_T : ∀ args H p v, sFewestBy_F args H = some (p, v) → p → PureH Try.prog 45 args H v := by
  intro args H p v h hp
  unfold sFewestBy_F at h
  split at h
  · cases h; exact (sFewestBy_ok _ _ _ hp.1 hp.2).any _
  · cases h
end Go.Proofs.Ytopfnkmlgcjpbaa
set_option maxRecDepth 100000
set_option linter.unusedSimpArgs false
set_option linter.unusedVariables false
namespace Go.Proofs.Ytopfnkmlgcjpbaa
open Go Go.RowKit
theorem srt_no {D : List Int} {u : Int} {R : List Int} : ∀ {k : Nat}, (∀ j, j ≤ k → fwA D u R j = false) → srtN D u k R = false
  | 0, h => by rw [srt_zero]; exact h 0 (Nat.le_refl 0)
  | k + 1, h => by
    rw [srt_succ, srt_no fun j hj => h j (by omega), h (k + 1) (Nat.le_refl _)]; rfl
theorem srt_of {D : List Int} {u : Int} {R : List Int} {k : Nat} (h : fwA D u R k = true) : srtN D u k R = true := by
  cases k with
  | zero => rw [srt_zero]; exact h
  | succ k => rw [srt_succ, h, Bool.or_true]
theorem fw_some {R D : List Int} {u : Int} {i : Nat} (h : fwO R D u = some i) : forB R D = true ∧ ruF u = true ∧ i < 4 ∧ srtN D u i R = true ∧ ∀ k, k < i → srtN D u k R = false := by
  unfold fwO at h
  split at h
  · rename_i hc
    simp only [Bool.and_eq_true] at hc
    rw [List.find?_range_eq_some] at h
    obtain ⟨h1, h2, h3⟩ := h
    refine ⟨hc.1, hc.2, List.mem_range.1 h2, srt_of h1, fun k hk => srt_no fun j hj => ?_⟩
    have := h3 j (by omega)
    simpa using this
  · cases h
theorem fw_of {R D : List Int} {u : Int} {m : Nat} (hf : forB R D = true) (hu : ruF u = true) (hm : m < 4) (h : srtN D u m R = true) : ∃ i, i ≤ m ∧ fwO R D u = some i := by
  cases he : fwO R D u with
  | none =>
    unfold fwO at he
    rw [hf, hu] at he
    rw [if_pos (show (true && true) = true from rfl), List.find?_eq_none] at he
    have : srtN D u m R = false := srt_no fun j hj => by
      have := he j (List.mem_range.2 (by omega))
      simpa using this
    rw [this] at h; cases h
  | some i =>
    obtain ⟨_, _, _, _, h5⟩ := fw_some he
    refine ⟨i, ?_, rfl⟩
    refine Nat.le_of_not_lt fun hc => ?_
    rw [h5 m hc] at h; cases h
/-- Sorted racks alone need no pour. -/
theorem few_sort {R D : List Int} {u : Int} {i : Nat} (h : fwO R D u = some i) : sortB R = decide ((i : Int) = 0) := by
  obtain ⟨_, _, _, h4, h5⟩ := fw_some h
  cases i with
  | zero => have h4' : sortB R = true := h4; rw [h4']; rfl
  | succ i =>
    have : sortB R = false := h5 0 (by omega)
    rw [this]
    symm; exact decide_eq_false (by omega)
/-- The least so far. -/
def stB (D : List Int) (u : Int) (b : Int) (x : List Int) : Int := if (fwO x D u).isSome = true ∧ fwF (fwO x D u) < b then fwF (fwO x D u) else b
theorem fold_ge {D : List Int} {u lo : Int} : ∀ (L : List (List Int)) (b : Int), lo ≤ b → (∀ x ∈ L, (fwO x D u).isSome = true → lo ≤ fwF (fwO x D u)) → lo ≤ L.foldl (stB D u) b
  | [], b, h, _ => h
  | x :: L, b, h, hL => by
    refine fold_ge L (stB D u b x) ?_ fun y hy => hL y (List.mem_cons_of_mem _ hy)
    unfold stB
    split
    · rename_i hc; exact hL x (List.mem_cons_self ..) hc.1
    · exact h
theorem stB_le (D : List Int) (u b : Int) (x : List Int) : stB D u b x ≤ b := by
  unfold stB; split
  · rename_i h; omega
  · omega
theorem fold_le {D : List Int} {u : Int} : ∀ (L : List (List Int)) (b : Int), L.foldl (stB D u) b ≤ b
  | [], b => Int.le_refl b
  | x :: L, b => Int.le_trans (fold_le L (stB D u b x)) (stB_le D u b x)
theorem fold_in {D : List Int} {u : Int} : ∀ (L : List (List Int)) (b : Int) (x : List Int), x ∈ L → (fwO x D u).isSome = true → L.foldl (stB D u) b ≤ fwF (fwO x D u)
  | y :: L, b, x, hx, hs => by
    rcases List.mem_cons.1 hx with rfl | hx
    · refine Int.le_trans (fold_le L _) ?_
      unfold stB; split
      · omega
      · rename_i h
        have : ¬ fwF (fwO x D u) < b := fun hc => h ⟨hs, hc⟩
        omega
    · exact fold_in L _ x hx hs
theorem few_best {R D : List Int} {u : Int} {i : Nat} (hR : R.length = 24) (hD : D.length = 6) (h : fwO R D u = some i) (hi : 1 ≤ i) : (sucL D u R).foldl (stB D u) (i : Int) = (i : Int) - 1 := by
  obtain ⟨hf, hu, h3, h4, h5⟩ := fw_some h
  have ok : okR D (sucL D u R) := by
    have := okR_suc (u := u) hD (Q := [R]) (fun x hx => by simp at hx; subst hx; exact ⟨hR, hf⟩)
    simpa using this
  have lo : (i : Int) - 1 ≤ (sucL D u R).foldl (stB D u) (i : Int) := fold_ge _ _ (by omega) fun x hx hs => by
    cases hm : fwO x D u with
    | none => rw [hm] at hs; cases hs
    | some m =>
      obtain ⟨_, _, _, g4, _⟩ := fw_some hm
      have : srtN D u (m + 1) R = true := by
        show (sortB R || (sucL D u R).any (srtN D u m)) = true
        rw [Bool.or_eq_true, List.any_eq_true]
        exact .inr ⟨x, hx, g4⟩
      have hle : i ≤ m + 1 := Nat.le_of_not_lt fun hc => by rw [h5 _ hc] at this; cases this
      show (i : Int) - 1 ≤ (m : Nat)
      omega
  obtain ⟨k, rfl⟩ : ∃ k, i = k + 1 := ⟨i - 1, by omega⟩
  have h0 : sortB R = false := h5 0 (by omega)
  have h4' : (sortB R || (sucL D u R).any (srtN D u k)) = true := h4
  rw [h0, Bool.false_or, List.any_eq_true] at h4'
  obtain ⟨x, hx, hs⟩ := h4'
  obtain ⟨m, hm, he⟩ := fw_of (ok x hx).2 hu (by omega) hs
  have := fold_in (D := D) (u := u) _ ((k + 1 : Nat) : Int) x hx (by rw [he]; rfl)
  rw [he] at this
  have hh : fwF (some m) = (m : Int) := rfl
  rw [hh] at this
  omega
theorem few_bd (D : List Int) (u : Int) (L : List (List Int)) (i : Nat) (hi : i < 4) : -4 ≤ L.foldl (stB D u) (i : Int) ∧ L.foldl (stB D u) (i : Int) ≤ 4 := by
  have h1 := fold_le (D := D) (u := u) L (i : Int)
  have h2 := fold_ge (D := D) (u := u) (lo := 0) L (i : Int) (by omega) fun x _ _ => by unfold fwF; split <;> omega
  omega
theorem fold_next (D : List Int) (u b : Int) {L : List (List Int)} {q : Nat} (h : q < L.length) : (L.take (q + 1)).foldl (stB D u) b = stB D u ((L.take q).foldl (stB D u) b) (L.getD q []) := by
  have e : L.take (q + 1) = L.take q ++ [L.getD q []] := by
    rw [List.take_add_one, List.getD_eq_getElem?_getD, List.getElem?_eq_getElem h]; rfl
  rw [e, List.foldl_append]; rfl
/-- Reached racks grow. -/
theorem reach_grow {R D : List Int} {u n : Int} (h : rbB R D u n = true) (h0 : 0 < n) : rbB R D u (n - 1) = true ∧ rbF R D u (n - 1) ≤ rbF R D u n ∧ 1 ≤ rbF R D u (n - 1) ∧ In64 (n - 1) := by
  have hb : 0 ≤ n ∧ n ≤ 2 := by
    unfold rbB at h
    simp only [Bool.and_eq_true] at h
    exact of_decide_eq_true h.2
  have h1 : rbB R D u (n - 1) = true := by
    unfold rbB at h ⊢
    simp only [Bool.and_eq_true] at h ⊢
    exact ⟨h.1, decide_eq_true (by omega)⟩
  obtain ⟨k, rfl⟩ : ∃ k : Nat, n = ((k + 1 : Nat) : Int) := ⟨n.toNat - 1, by omega⟩
  have e1 : ((k + 1 : Nat) : Int) - 1 = (k : Nat) := by omega
  rw [e1] at h1 ⊢
  refine ⟨h1, ?_, ?_, by unfold In64; omega⟩
  · unfold rbF
    rw [if_pos h1, if_pos h, Int.toNat_natCast, Int.toNat_natCast]
    have : (bsN D u R (k + 1)).2.length = (bsN D u R k).2.length + (nwL D u (bsN D u R k).1 (bsN D u R k).2).length := by
      show ((bsN D u R k).2 ++ nwL D u (bsN D u R k).1 (bsN D u R k).2).length = _
      rw [List.length_append]
    omega
  · unfold rbF
    rw [if_pos h1, Int.toNat_natCast, ← akN_eq]
    have := akN_pos D u R k
    omega
theorem pbyB_of {R D : List Int} {u : Int} {a b : Nat} (h1 : forB R D = true) (h2 : ruF u = true) (ha : a < 6) (hb : b < 6) (h : 0 < movF R D u a b) : pbyB R D u a b = true ∧ pbyT R D u a b = sucP R D u a b := by
  have e : pbyB R D u a b = true := by
    unfold pbyB plF
    rw [h1, h2, decide_eq_true (show 0 ≤ (a : Int) ∧ (a : Int) ≤ 5 by omega), decide_eq_true (show 0 ≤ (b : Int) ∧ (b : Int) ≤ 5 by omega), decide_eq_false (by omega)]; rfl
  refine ⟨e, ?_⟩
  unfold pbyT sucP
  rw [if_pos e]
end Go.Proofs.Ytopfnkmlgcjpbaa
set_option maxRecDepth 100000
set_option linter.unusedSimpArgs false
set_option linter.unusedVariables false
namespace Go.Proofs.Ytopfnkmlgcjpbaa
open Go Go.RowKit
end Go.Proofs.Ytopfnkmlgcjpbaa
set_option maxRecDepth 100000
set_option linter.unusedSimpArgs false
set_option linter.unusedVariables false
namespace Go.Proofs.Ytopfnkmlgcjpbaa
open Go Go.RowKit
/-! Colors counted. -/
--@tbl countColors = impl.countColors
--@tbl l2Counts = spec.l2Counts
/-! Views. -/
end Go.Proofs.Ytopfnkmlgcjpbaa
set_option maxRecDepth 100000
set_option linter.unusedSimpArgs false
set_option linter.unusedVariables false
namespace Go.Proofs.Ytopfnkmlgcjpbaa
open Go Go.RowKit
theorem IsSorted_ok (R : List Int) (hR : R.length = 24) : PureH Try.prog 51 [.arr R] [] (.tup [.bool (rackB R && sortB R), .bool (rackB R)]) := by
  have tkR : R.take 24 = R := List.take_of_length_le (by omega)
  cases hr : rackB R
  all_goals
    refine pure_of_vc (X := ⟨Try.prog, tys, [(11, IsRack_F), (116, isSorted_F)], [], true, true, 0, [], []⟩) fn_51 ⟨tys_ok, (.cons IsRack_T (.cons isSorted_T .nil)), .nil, mixed⟩ (n0 := 0) (Nat.le_of_ble_eq_true rfl) (by simp [wfL, SV.wf]) (wfH_spec (by simp [wfH, SObj.wf])) (Nat.le_refl _) (fun _ => by simp [SV.wf, wfL]) ?_
    simp -implicitDefEqProofs only [Try.f51, Option.getD_some, argS, IsRack_F, isSorted_F, hR, tkR, hr, ZB, Int.reduceToNat, Nat.reduceLT, Nat.reduceLeDiff, Int.reduceLE, Int.reduceLT, Nat.reduceEqDiff, Nat.reduceSub, SB, SV.known, packR, ne_eq, reduceCtorEq, Nat.reduceEqDiff, ↓reduceIte, if_true, if_false, eq_self, Nat.reduceAdd, Nat.reduceMul, Nat.reduceSub, forall_const, oneCellS, litOne, flat1, Kd.isSca, flat, TYB]
def IsSorted_F : List SV → Heap → Option (Prop × SV)
  | [.arr R], _ => some (R.length = 24, .tup [.bool (rackB R && sortB R), .bool (rackB R)])
  | _, _ => none
theorem IsSorted_T : ∀ args H p v, IsSorted_F args H = some (p, v) → p → PureH Try.prog 51 args H v := by
  intro args H p v h hp
  unfold IsSorted_F at h
  split at h
  · cases h; exact (IsSorted_ok _ hp).any _
  · cases h
end Go.Proofs.Ytopfnkmlgcjpbaa
set_option maxRecDepth 100000
set_option linter.unusedSimpArgs false
set_option linter.unusedVariables false
namespace Go.Proofs.Ytopfnkmlgcjpbaa
open Go Go.RowKit
/-! A pour exchanges cells. -/
/-! Sorted racks. -/
end Go.Proofs.Ytopfnkmlgcjpbaa
set_option maxRecDepth 100000
set_option linter.unusedSimpArgs false
set_option linter.unusedVariables false
namespace Go.Proofs.Ytopfnkmlgcjpbaa
open Go Go.RowKit
theorem eqI_p2 : EqI Try.prog 44 2 := eqI_of (D := 2) (by omega) (eqA_ints (i := (Try.prog.info? 3).getD default) Try.underlying44 (by kernel_rfl) (by kernel_rfl) rfl Try.underlying3) (by kernel_rfl)
--@tbl rPairs = laws.rPairs
--@tbl rIn = laws.rIn
--@tbl rPart = laws.rPart
theorem rPairs_ok (L1 L2 : List Int) (e1 e2 c1 c2 m : Nat) (h1 : m * 2 ≤ L1.length) (h2 : m * 2 ≤ L2.length) (h : L1.take (m * 2) = L2.take (m * 2)) (hm : m ≤ 4611686018427387903) :
    PureH Try.prog 12 [.slice 0 0 m c1, .slice 1 0 m c2] [(0, .ints L1 e1), (1, .ints L2 e2)] (.bool true) := by
  refine pure_of_vc (X := ⟨Try.prog, tys, [], [], true, true, 2, [], []⟩) fn_12 ⟨tys_ok, .nil, .nil, mixed⟩ (n0 := 2) (Nat.le_of_ble_eq_true rfl) (by simp [wfL, SV.wf]) (wfH_spec (by simp [wfH, SObj.wf])) (Nat.le_refl _) (fun _ => by simp [SV.wf, wfL]) ?_
  simp -implicitDefEqProofs only [Try.f12, Option.getD_some, argS, ZB, Int.reduceToNat, Nat.reduceLT, Nat.reduceLeDiff, Int.reduceLE, Int.reduceLT, Nat.reduceEqDiff, Nat.reduceSub, SB, SV.known, packR, ne_eq, reduceCtorEq, Nat.reduceEqDiff, ↓reduceIte, if_true, if_false, eq_self, Nat.reduceAdd, Nat.reduceMul, Nat.reduceSub, forall_const, oneCellS, litOne, flat1, Kd.isSca, flat, TYB]
  refine loop_intro (fun i : Nat => [(5, .int i), (0, .slice 0 0 m c1), (1, .slice 1 0 m c2)]) (fun _ => [(0, .ints L1 e1), (1, .ints L2 e2)]) 2 (fun i => i ≤ m) (fun i => m - i) ?_ ?_
  · refine ⟨0, ?_, Sub.mk_id ?_ ?_ ?_ ?_ ?_⟩
    all_goals (try (simp only [LB, subS, subH, wfS, wfH, SV.ren, renL, SObj.ren, SV.wf, SObj.wf, wfL, SV.known, Nat.reduceEqDiff, ↓reduceIte, if_true, if_false, eq_self, Nat.reduceAdd, Nat.reduceLT, Nat.reduceLeDiff, implies_true, reduceCtorEq, forall_const]; done))
    all_goals (try (simp only [LB, subS, subH, wfS, wfH, SV.ren, renL, SObj.ren, SV.wf, SObj.wf, wfL, SV.known, Nat.reduceEqDiff, ↓reduceIte, if_true, if_false, eq_self, Nat.reduceAdd, Nat.reduceLT, Nat.reduceLeDiff, implies_true, reduceCtorEq, forall_const]; simp; done))
    all_goals (try (simp only [LB, subS, subH, wfS, wfH, SV.ren, renL, SObj.ren, SV.wf, SObj.wf, wfL, SV.known, Nat.reduceEqDiff, ↓reduceIte, if_true, if_false, eq_self, Nat.reduceAdd, Nat.reduceLT, Nat.reduceLeDiff, implies_true, reduceCtorEq, forall_const]; (and_intros <;> (first | omega | rfl | (simp; done) | (simp; omega))); done))
    all_goals (try dsimp only)
    all_goals (and_intros <;> try (first | omega | (unfold In64; omega) | trivial | assumption))
  · intro i hi
    by_cases hlt : i < m
    · have hil : (i : Int) < m := by omega
      have ee : (L1.drop (i * 2)).take 2 = (L2.drop (i * 2)).take 2 := by
        have := congrArg (fun l => (List.drop (i * 2) l).take 2) h
        simp only [List.drop_take, List.take_take] at this
        rw [Nat.min_eq_left (by omega)] at this
        exact this
      have l2 : ((L2.drop (i * 2)).take 2).length = 2 := by rw [List.length_take, List.length_drop]; omega
      simp -implicitDefEqProofs only [lk_normal, hil, ee, l2, eqI_p2, ZB, Int.reduceToNat, Nat.reduceLT, Nat.reduceLeDiff, Int.reduceLE, Int.reduceLT, Nat.reduceEqDiff, Nat.reduceSub, SB, SV.known, packR, ne_eq, reduceCtorEq, Nat.reduceEqDiff, ↓reduceIte, if_true, if_false, eq_self, Nat.reduceAdd, Nat.reduceMul, Nat.reduceSub, forall_const, oneCellS, litOne, flat1, Kd.isSca, flat, TYB]
      (try (and_intros <;> try (first | omega | (unfold In64; omega) | trivial | assumption)))
      refine ⟨i + 1, ?_, ?_, Sub.mk_id ?_ ?_ ?_ ?_ ?_⟩
      all_goals (try (simp only [LB, subS, subH, wfS, wfH, SV.ren, renL, SObj.ren, SV.wf, SObj.wf, wfL, SV.known, Nat.reduceEqDiff, ↓reduceIte, if_true, if_false, eq_self, Nat.reduceAdd, Nat.reduceLT, Nat.reduceLeDiff, implies_true, reduceCtorEq, forall_const]; done))
      all_goals (try (simp only [LB, subS, subH, wfS, wfH, SV.ren, renL, SObj.ren, SV.wf, SObj.wf, wfL, SV.known, Nat.reduceEqDiff, ↓reduceIte, if_true, if_false, eq_self, Nat.reduceAdd, Nat.reduceLT, Nat.reduceLeDiff, implies_true, reduceCtorEq, forall_const]; simp; done))
      all_goals (try (simp only [LB, subS, subH, wfS, wfH, SV.ren, renL, SObj.ren, SV.wf, SObj.wf, wfL, SV.known, Nat.reduceEqDiff, ↓reduceIte, if_true, if_false, eq_self, Nat.reduceAdd, Nat.reduceLT, Nat.reduceLeDiff, implies_true, reduceCtorEq, forall_const]; (and_intros <;> (first | omega | rfl | (simp; done) | (simp; omega))); done))
      all_goals (try dsimp only)
      all_goals (and_intros <;> try (first | omega | (unfold In64; omega) | trivial | assumption))
    · have hil : ¬ (i : Int) < m := by omega
      simp -implicitDefEqProofs only [lk_normal, hil, ZB, Int.reduceToNat, Nat.reduceLT, Nat.reduceLeDiff, Int.reduceLE, Int.reduceLT, Nat.reduceEqDiff, Nat.reduceSub, SB, SV.known, packR, ne_eq, reduceCtorEq, Nat.reduceEqDiff, ↓reduceIte, if_true, if_false, eq_self, Nat.reduceAdd, Nat.reduceMul, Nat.reduceSub, forall_const, oneCellS, litOne, flat1, Kd.isSca, flat, TYB]
theorem rPairs_ns (L2 : List Int) (e2 c2 : Nat) : PureH Try.prog 12 [.nils, .slice 0 0 0 c2] [(0, .ints L2 e2)] (.bool true) := by
  refine pure_of_vc (X := ⟨Try.prog, tys, [], [], true, true, 1, [], []⟩) fn_12 ⟨tys_ok, .nil, .nil, mixed⟩ (n0 := 1) (Nat.le_of_ble_eq_true rfl) (by simp [wfL, SV.wf]) (wfH_spec (by simp [wfH, SObj.wf])) (Nat.le_refl _) (fun _ => by simp [SV.wf, wfL]) ?_
  simp -implicitDefEqProofs only [Try.f12, Option.getD_some, argS, ZB, Int.reduceToNat, Nat.reduceLT, Nat.reduceLeDiff, Int.reduceLE, Int.reduceLT, Nat.reduceEqDiff, Nat.reduceSub, SB, SV.known, packR, ne_eq, reduceCtorEq, Nat.reduceEqDiff, ↓reduceIte, if_true, if_false, eq_self, Nat.reduceAdd, Nat.reduceMul, Nat.reduceSub, forall_const, oneCellS, litOne, flat1, Kd.isSca, flat, TYB]
  refine loop_intro (fun i : Nat => [(5, .int 0), (0, .nils), (1, .slice 0 0 0 c2)]) (fun _ => [(0, .ints L2 e2)]) 1 (fun i => True) (fun i => 0) ?_ ?_
  · refine ⟨0, ?_, Sub.mk_id ?_ ?_ ?_ ?_ ?_⟩
    all_goals (try (simp only [LB, subS, subH, wfS, wfH, SV.ren, renL, SObj.ren, SV.wf, SObj.wf, wfL, SV.known, Nat.reduceEqDiff, ↓reduceIte, if_true, if_false, eq_self, Nat.reduceAdd, Nat.reduceLT, Nat.reduceLeDiff, implies_true, reduceCtorEq, forall_const]; done))
    all_goals (try (simp only [LB, subS, subH, wfS, wfH, SV.ren, renL, SObj.ren, SV.wf, SObj.wf, wfL, SV.known, Nat.reduceEqDiff, ↓reduceIte, if_true, if_false, eq_self, Nat.reduceAdd, Nat.reduceLT, Nat.reduceLeDiff, implies_true, reduceCtorEq, forall_const]; simp; done))
    all_goals (try (simp only [LB, subS, subH, wfS, wfH, SV.ren, renL, SObj.ren, SV.wf, SObj.wf, wfL, SV.known, Nat.reduceEqDiff, ↓reduceIte, if_true, if_false, eq_self, Nat.reduceAdd, Nat.reduceLT, Nat.reduceLeDiff, implies_true, reduceCtorEq, forall_const]; (and_intros <;> (first | omega | rfl | (simp; done) | (simp; omega))); done))
    all_goals (try dsimp only)
    all_goals (and_intros <;> try (first | omega | (unfold In64; omega) | trivial | assumption))
  · intro i hi
    simp -implicitDefEqProofs only [lk_normal, ZB, Int.reduceToNat, Nat.reduceLT, Nat.reduceLeDiff, Int.reduceLE, Int.reduceLT, Nat.reduceEqDiff, Nat.reduceSub, SB, SV.known, packR, ne_eq, reduceCtorEq, Nat.reduceEqDiff, ↓reduceIte, if_true, if_false, eq_self, Nat.reduceAdd, Nat.reduceMul, Nat.reduceSub, forall_const, oneCellS, litOne, flat1, Kd.isSca, flat, TYB]
def rPairs_F : List SV → Heap → Option (Prop × SV)
  | [.slice a 0 l1 _, .slice b 0 l2 _], H => match hget H a, hget H b with
    | some (.ints L1 _), some (.ints L2 _) => some (a ≠ b ∧ l1 = l2 ∧ l1 * 2 ≤ L1.length ∧ l2 * 2 ≤ L2.length ∧ L1.take (l1 * 2) = L2.take (l2 * 2) ∧ l1 ≤ 4611686018427387903, .bool true)
    | _, _ => none
  | [.nils, .slice b 0 l2 _], H => match hget H b with
    | some (.ints _ _) => some (l2 = 0, .bool true)
    | _ => none
  | _, _ => none
theorem rPairs_T : ∀ args H p v, rPairs_F args H = some (p, v) → p → PureH Try.prog 12 args H v := by
  intro args H p v h hp
  unfold rPairs_F at h
  split at h
  · rename_i a l1 c1 b l2 c2
    split at h
    · rename_i L1 e1 L2 e2 g1 g2
      cases h
      obtain ⟨hab, rfl, q1, q2, q3, q4⟩ := hp
      have := (rPairs_ok L1 L2 e1 e2 c1 c2 l1 q1 q2 q3 q4).sub (H := H) (fun j => if j = 0 then a else b) (fun j o hj => by
        simp only [hget_cons] at hj
        split at hj
        · rename_i hj0; cases hj; refine ⟨?_, fun _ => by omega, by simp [hj0]⟩; show hget H (if j = 0 then a else b) = _; rw [if_pos hj0]; exact g1
        · rename_i hj0
          split at hj
          · rename_i hj1; cases hj; refine ⟨?_, fun _ => by omega, by simp [hj1]⟩; show hget H (if j = 0 then a else b) = _; rw [if_neg hj0]; exact g2
          · cases hj) (fun x hx y hy he => by
        simp at hx hy
        rcases hx with rfl | rfl <;> rcases hy with rfl | rfl <;> simp at he <;> omega) (fun _ => trivial)
      simpa [renL, SV.ren] using this
    · cases h
  · rename_i b l2 c2
    split at h
    · rename_i L2 e2 g2
      cases h
      subst hp
      exact one_block (rPairs_ns L2 e2 c2) g2 rfl (fun _ => trivial)
    · cases h
  · cases h
end Go.Proofs.Ytopfnkmlgcjpbaa
set_option maxRecDepth 100000
set_option linter.unusedSimpArgs false
set_option linter.unusedVariables false
namespace Go.Proofs.Ytopfnkmlgcjpbaa
open Go Go.RowKit
theorem freshK_nil (wr : Wrap) (len es e : Nat) (H : Heap) (n : Nat) (κ : K1) : freshK wr [] len es e true H n κ = κ (wr.ap .nils) H n := by
  unfold freshK
  refine propext ⟨fun h => h.1 rfl rfl, fun h => ⟨fun _ _ => h, fun h2 => absurd rfl (h2 rfl)⟩⟩
theorem freshK_ne (wr : Wrap) (L : List Int) (len es e : Nat) (H : Heap) (n : Nat) (κ : K1) (hL : (L = []) = False) : freshK wr L len es e true H n κ = ∀ (cap : Nat) (junk : List Int), junk.length + L.length = cap * es → κ (wr.ap (.slice n 0 len cap)) ((n, .ints (L ++ junk) e) :: H) (n + 1) := by
  unfold freshK
  refine propext ⟨fun h => h.2 fun _ h2 => by rw [hL] at h2; exact h2, fun h => ⟨fun _ h2 => by rw [hL] at h2; exact h2.elim, fun _ => h⟩⟩
theorem freshK_f (wr : Wrap) (L : List Int) (len es e : Nat) (H : Heap) (n : Nat) (κ : K1) : freshK wr L len es e false H n κ = ∀ (cap : Nat) (junk : List Int), junk.length + L.length = cap * es → κ (wr.ap (.slice n 0 len cap)) ((n, .ints (L ++ junk) e) :: H) (n + 1) := by
  unfold freshK
  refine propext ⟨fun h => h.2 (fun h2 => by cases h2), fun h => ⟨(fun h2 => by cases h2), fun _ => h⟩⟩
--@tbl rPairs3 = laws.rPairs
--@tbl rPart3 = laws.rPart
theorem rPairs_sn (L1 : List Int) (e1 c1 : Nat) : PureH Try.prog 12 [.slice 0 0 0 c1, .nils] [(0, .ints L1 e1)] (.bool true) := by
  refine pure_of_vc (X := ⟨Try.prog, tys, [], [], true, true, 1, [], []⟩) fn_12 ⟨tys_ok, .nil, .nil, mixed⟩ (n0 := 1) (Nat.le_of_ble_eq_true rfl) (by simp [wfL, SV.wf]) (wfH_spec (by simp [wfH, SObj.wf])) (Nat.le_refl _) (fun _ => by simp [SV.wf, wfL]) ?_
  simp -implicitDefEqProofs only [Try.f12, Option.getD_some, argS, ZB, Int.reduceToNat, Nat.reduceLT, Nat.reduceLeDiff, Int.reduceLE, Int.reduceLT, Nat.reduceEqDiff, Nat.reduceSub, SB, SV.known, packR, ne_eq, reduceCtorEq, Nat.reduceEqDiff, ↓reduceIte, if_true, if_false, eq_self, Nat.reduceAdd, Nat.reduceMul, Nat.reduceSub, forall_const, oneCellS, litOne, flat1, Kd.isSca, flat, TYB]
  refine loop_intro (fun i : Nat => [(5, .int 0), (0, .slice 0 0 0 c1), (1, .nils)]) (fun _ => [(0, .ints L1 e1)]) 1 (fun i => True) (fun i => 0) ?_ ?_
  · refine ⟨0, ?_, Sub.mk_id ?_ ?_ ?_ ?_ ?_⟩
    all_goals (try (simp only [LB, subS, subH, wfS, wfH, SV.ren, renL, SObj.ren, SV.wf, SObj.wf, wfL, SV.known, Nat.reduceEqDiff, ↓reduceIte, if_true, if_false, eq_self, Nat.reduceAdd, Nat.reduceLT, Nat.reduceLeDiff, implies_true, reduceCtorEq, forall_const]; done))
    all_goals (try (simp only [LB, subS, subH, wfS, wfH, SV.ren, renL, SObj.ren, SV.wf, SObj.wf, wfL, SV.known, Nat.reduceEqDiff, ↓reduceIte, if_true, if_false, eq_self, Nat.reduceAdd, Nat.reduceLT, Nat.reduceLeDiff, implies_true, reduceCtorEq, forall_const]; simp; done))
    all_goals (try (simp only [LB, subS, subH, wfS, wfH, SV.ren, renL, SObj.ren, SV.wf, SObj.wf, wfL, SV.known, Nat.reduceEqDiff, ↓reduceIte, if_true, if_false, eq_self, Nat.reduceAdd, Nat.reduceLT, Nat.reduceLeDiff, implies_true, reduceCtorEq, forall_const]; (and_intros <;> (first | omega | rfl | (simp; done) | (simp; omega))); done))
    all_goals (try dsimp only)
    all_goals (and_intros <;> try (first | omega | (unfold In64; omega) | trivial | assumption))
  · intro i hi
    simp -implicitDefEqProofs only [lk_normal, ZB, Int.reduceToNat, Nat.reduceLT, Nat.reduceLeDiff, Int.reduceLE, Int.reduceLT, Nat.reduceEqDiff, Nat.reduceSub, SB, SV.known, packR, ne_eq, reduceCtorEq, Nat.reduceEqDiff, ↓reduceIte, if_true, if_false, eq_self, Nat.reduceAdd, Nat.reduceMul, Nat.reduceSub, forall_const, oneCellS, litOne, flat1, Kd.isSca, flat, TYB]
theorem rPairs_nn (H : Heap) : PureH Try.prog 12 [.nils, .nils] H (.bool true) := by
  refine PureH.any ?_ H
  refine pure_of_vc (X := ⟨Try.prog, tys, [], [], true, true, 0, [], []⟩) fn_12 ⟨tys_ok, .nil, .nil, mixed⟩ (n0 := 0) (Nat.le_of_ble_eq_true rfl) (by simp [wfL, SV.wf]) (wfH_spec (by simp [wfH, SObj.wf])) (Nat.le_refl _) (fun _ => by simp [SV.wf, wfL]) ?_
  simp -implicitDefEqProofs only [Try.f12, Option.getD_some, argS, ZB, Int.reduceToNat, Nat.reduceLT, Nat.reduceLeDiff, Int.reduceLE, Int.reduceLT, Nat.reduceEqDiff, Nat.reduceSub, SB, SV.known, packR, ne_eq, reduceCtorEq, Nat.reduceEqDiff, ↓reduceIte, if_true, if_false, eq_self, Nat.reduceAdd, Nat.reduceMul, Nat.reduceSub, forall_const, oneCellS, litOne, flat1, Kd.isSca, flat, TYB]
  refine loop_intro (fun i : Nat => [(5, .int 0), (0, .nils), (1, .nils)]) (fun _ => []) 0 (fun i => True) (fun i => 0) ?_ ?_
  · refine ⟨0, ?_, Sub.mk_id ?_ ?_ ?_ ?_ ?_⟩
    all_goals (try (simp only [LB, subS, subH, wfS, wfH, SV.ren, renL, SObj.ren, SV.wf, SObj.wf, wfL, SV.known, Nat.reduceEqDiff, ↓reduceIte, if_true, if_false, eq_self, Nat.reduceAdd, Nat.reduceLT, Nat.reduceLeDiff, implies_true, reduceCtorEq, forall_const]; done))
    all_goals (try (simp only [LB, subS, subH, wfS, wfH, SV.ren, renL, SObj.ren, SV.wf, SObj.wf, wfL, SV.known, Nat.reduceEqDiff, ↓reduceIte, if_true, if_false, eq_self, Nat.reduceAdd, Nat.reduceLT, Nat.reduceLeDiff, implies_true, reduceCtorEq, forall_const]; simp; done))
    all_goals (try (simp only [LB, subS, subH, wfS, wfH, SV.ren, renL, SObj.ren, SV.wf, SObj.wf, wfL, SV.known, Nat.reduceEqDiff, ↓reduceIte, if_true, if_false, eq_self, Nat.reduceAdd, Nat.reduceLT, Nat.reduceLeDiff, implies_true, reduceCtorEq, forall_const]; (and_intros <;> (first | omega | rfl | (simp; done) | (simp; omega))); done))
    all_goals (try dsimp only)
    all_goals (and_intros <;> try (first | omega | (unfold In64; omega) | trivial | assumption))
  · intro i hi
    simp -implicitDefEqProofs only [lk_normal, ZB, Int.reduceToNat, Nat.reduceLT, Nat.reduceLeDiff, Int.reduceLE, Int.reduceLT, Nat.reduceEqDiff, Nat.reduceSub, SB, SV.known, packR, ne_eq, reduceCtorEq, Nat.reduceEqDiff, ↓reduceIte, if_true, if_false, eq_self, Nat.reduceAdd, Nat.reduceMul, Nat.reduceSub, forall_const, oneCellS, litOne, flat1, Kd.isSca, flat, TYB]
def rPairs3_F : List SV → Heap → Option (Prop × SV)
  | [.slice a 0 l1 _, .slice b 0 l2 _], H => match hget H a, hget H b with
    | some (.ints L1 _), some (.ints L2 _) => some (a ≠ b ∧ l1 = l2 ∧ l1 * 2 ≤ L1.length ∧ l2 * 2 ≤ L2.length ∧ L1.take (l1 * 2) = L2.take (l2 * 2) ∧ l1 ≤ 4611686018427387903, .bool true)
    | _, _ => none
  | [.nils, .slice b 0 l2 _], H => match hget H b with
    | some (.ints _ _) => some (l2 = 0, .bool true)
    | _ => none
  | [.slice a 0 l1 _, .nils], H => match hget H a with
    | some (.ints _ _) => some (l1 = 0, .bool true)
    | _ => none
  | [.nils, .nils], _ => some (True, .bool true)
  | _, _ => none
theorem rPairs3_T : ∀ args H p v, rPairs3_F args H = some (p, v) → p → PureH Try.prog 12 args H v := by
  intro args H p v h hp
  unfold rPairs3_F at h
  split at h
  · rename_i a l1 c1 b l2 c2
    split at h
    · rename_i L1 e1 L2 e2 g1 g2
      cases h
      exact rPairs_T [.slice a 0 l1 c1, .slice b 0 l2 c2] H _ _ (by simp only [rPairs_F, g1, g2]) hp
    · cases h
  · rename_i b l2 c2
    split at h
    · rename_i L2 e2 g2
      cases h
      subst hp
      exact one_block (rPairs_ns L2 e2 c2) g2 rfl (fun _ => trivial)
    · cases h
  · rename_i a l1 c1
    split at h
    · rename_i L1 e1 g1
      cases h
      subst hp
      exact one_block (rPairs_sn L1 e1 c1) g1 rfl (fun _ => trivial)
    · cases h
  · cases h
    exact rPairs_nn H
  · cases h
end Go.Proofs.Ytopfnkmlgcjpbaa
set_option maxRecDepth 100000
set_option linter.unusedSimpArgs false
set_option linter.unusedVariables false
namespace Go.Proofs.Ytopfnkmlgcjpbaa
open Go Go.RowKit
/-- A code of bytes: nil, or a window of a block. -/
def BytV (kc : Nat) (v : SV) (H : Heap) : Prop := (v = .nils ∧ ∃ o, hget H kc = some o) ∨ ∃ (off len cap : Nat) (L : List Int), v = .slice kc off len cap ∧ hget H kc = some (.winU off L) ∧ L.length = len ∧ len ≤ 1000000000 ∧ ∀ x ∈ L, 0 ≤ x ∧ x ≤ 255
theorem BytV.wf {kc n : Nat} {v : SV} {H : Heap} (h : BytV kc v H) (hw : hwf n H) : v.wf n ∧ kc < n := by
  rcases h with ⟨rfl, o, h⟩ | ⟨off, len, cap, L, rfl, h, _⟩
  · exact ⟨trivial, (hw _ _ h).1⟩
  · exact ⟨(hw _ _ h).1, (hw _ _ h).1⟩
theorem BytV.one {kc : Nat} {v : SV} {H : Heap} (h : BytV kc v H) : oneCellS v = true := by
  rcases h with ⟨rfl, o, h⟩ | ⟨off, len, cap, L, rfl, h, _⟩ <;> rfl
theorem BytV.at {kc : Nat} {v : SV} {H H' : Heap} (h : BytV kc v H) (hf : ∀ o, hget H kc = some o → hget H' kc = some o) : BytV kc v H' := by
  rcases h with ⟨rfl, o, h⟩ | ⟨off, len, cap, L, rfl, h, h2⟩
  · exact .inl ⟨rfl, o, hf _ h⟩
  · exact .inr ⟨off, len, cap, L, rfl, hf _ h, h2⟩
/-- A cursor, its bytes, and the number of draws. -/
def CurH (c kc a : Nat) (H : Heap) : Prop := ∃ (v : SV) (s : Int), hget H c = some (.cells [v, .int a, .lit (.int .u64 s)] 88) ∧ BytV kc v H ∧ kc ≠ c
/-- What draws leave. -/
structure Drawn (c kc a k n : Nat) (H H' : Heap) (n' : Nat) : Prop where
  le : n ≤ n'
  wf : hwf n' H'
  cur : ∃ a', a ≤ a' ∧ a' ≤ a + k ∧ CurH c kc a' H'
  fr : ∀ i o, i < n → i ≠ c → hget H i = some o → hget H' i = some o
theorem u8_in {x : Int} (h : 0 ≤ x ∧ x ≤ 255) : In64 x := by unfold In64; omega
theorem and_255 (x : Int) : 0 ≤ IntKind.u64.wrap ((BitVec.ofInt IntKind.u64.bits x &&& BitVec.ofInt IntKind.u64.bits 255).toNat : Int) ∧ IntKind.u64.wrap ((BitVec.ofInt IntKind.u64.bits x &&& BitVec.ofInt IntKind.u64.bits 255).toNat : Int) ≤ 255 := by
  have h : (BitVec.ofInt IntKind.u64.bits x &&& BitVec.ofInt IntKind.u64.bits 255).toNat ≤ 255 := by
    rw [BitVec.toNat_and]
    exact Nat.le_trans Nat.and_le_right (by decide)
  generalize (BitVec.ofInt IntKind.u64.bits x &&& BitVec.ofInt IntKind.u64.bits 255).toNat = y at h ⊢
  have e : IntKind.u64.wrap (y : Int) = y := by
    unfold IntKind.wrap
    have h2 : ((y : Int) % (2 ^ IntKind.u64.bits : Int)) = y := Int.emod_eq_of_lt (by omega) (by show (y : Int) < 18446744073709551616; omega)
    simp only [h2]
    rfl
  rw [e]; omega
def next_F : List SV → Heap → Nat → Nat → K1 → Prop
  | [.ptr c 0], H, n, m, κ => ∃ kc a, CurH c kc a H ∧ m ≤ c ∧ a ≤ 1000000 ∧ ∀ x H', 0 ≤ x → x ≤ 255 → Drawn c kc a 1 n H H' n → κ (.int x) H' n
  | _, _, _, _, _ => False
theorem next_vc (c kc a m n : Nat) (H : Heap) (hC : CurH c kc a H) (hm : m ≤ c) (ha : a ≤ 1000000) (hwH : hwf n H) :
    codeVC (⟨Try.prog, tys, [], [], true, true, m, [], []⟩ : Cx) n (Try.f147.body.getD .skip) (argS 0 [.ptr c 0]) H n
      (retK tys Try.f147.results.toList fun v H' n' => ∃ x : Int, v = .int x ∧ 0 ≤ x ∧ x ≤ 255 ∧ Drawn c kc a 1 n H H' n ∧ n' = n) := by
  obtain ⟨v, s, h1, h2, h6⟩ := hC
  have hc := (hwH _ _ h1).1
  obtain ⟨hvw, hk⟩ := h2.wf hwH
  have fin : ∀ s', Drawn c kc a 1 n H ((c, .cells [v, .int ((a : Int) + 1), .lit (.int .u64 s')] 88) :: (c, .cells [v, .int ((a : Int) + 1), .lit (.int .u64 s)] 88) :: H) n := fun s' =>
    ⟨Nat.le_refl _, hwf_cons (hwf_cons hwH hc (by simp [SObj.wf, wfL, SV.wf]; exact hvw)) hc (by simp [SObj.wf, wfL, SV.wf]; exact hvw),
      ⟨a + 1, by omega, by omega, v, s', by simp [hget_cons], h2.at (fun o ho => by rw [hget_cons, if_neg h6, hget_cons, if_neg h6]; exact ho), h6⟩,
      fun i o _ hi ho => by rw [hget_cons, if_neg hi, hget_cons, if_neg hi]; exact ho⟩
  rcases h2 with ⟨rfl, o, h2⟩ | ⟨off, len, cap, L, rfl, h2, h3, h4, h5⟩
  · have hil : ¬ (a : Int) < 0 := by omega
    have hil2 : ¬ (a : Int) + 1 ≤ 0 := by omega
    simp -implicitDefEqProofs only [Try.f147, Option.getD_some, argS, h1, hil, hil2, ZB, Int.reduceToNat, Nat.reduceLT, Nat.reduceLeDiff, Int.reduceLE, Int.reduceLT, Nat.reduceEqDiff, Nat.reduceSub, SB, SV.known, packR, ne_eq, reduceCtorEq, Nat.reduceEqDiff, ↓reduceIte, if_true, if_false, eq_self, Nat.reduceAdd, Nat.reduceMul, Nat.reduceSub, forall_const, oneCellS, litOne, flat1, Kd.isSca, flat, TYB]
    exact ⟨by unfold In64; omega, hm, hm, u8_in (and_255 _), _, rfl, (and_255 _).1, (and_255 _).2, fin _⟩
  by_cases hal : a < len
  · have hil : (a : Int) < len := by omega
    have hil2 : (a : Int) + 1 ≤ len := by omega
    have gL : off ≤ off + a ∧ off + a < off + L.length := by omega
    have ga : off + a - off = a := by omega
    have bL : 0 ≤ L.getD a 0 ∧ L.getD a 0 ≤ 255 := by
      rw [List.getD_eq_getElem?_getD, List.getElem?_eq_getElem (by omega)]
      exact h5 _ (List.getElem_mem _)
    have iL := u8_in bL
    simp -implicitDefEqProofs only [Try.f147, Option.getD_some, argS, h1, h2, hil, hil2, gL, ga, iL, ZB, Int.reduceToNat, Nat.reduceLT, Nat.reduceLeDiff, Int.reduceLE, Int.reduceLT, Nat.reduceEqDiff, Nat.reduceSub, SB, SV.known, packR, ne_eq, reduceCtorEq, Nat.reduceEqDiff, ↓reduceIte, if_true, if_false, eq_self, Nat.reduceAdd, Nat.reduceMul, Nat.reduceSub, forall_const, oneCellS, litOne, flat1, Kd.isSca, flat, TYB]
    exact ⟨by omega, by unfold In64; omega, hm, hm, _, rfl, bL.1, bL.2, fin _⟩
  · have hil : ¬ (a : Int) < len := by omega
    have hil2 : ¬ (a : Int) + 1 ≤ len := by omega
    simp -implicitDefEqProofs only [Try.f147, Option.getD_some, argS, h1, h2, hil, hil2, ZB, Int.reduceToNat, Nat.reduceLT, Nat.reduceLeDiff, Int.reduceLE, Int.reduceLT, Nat.reduceEqDiff, Nat.reduceSub, SB, SV.known, packR, ne_eq, reduceCtorEq, Nat.reduceEqDiff, ↓reduceIte, if_true, if_false, eq_self, Nat.reduceAdd, Nat.reduceMul, Nat.reduceSub, forall_const, oneCellS, litOne, flat1, Kd.isSca, flat, TYB]
    exact ⟨by unfold In64; omega, hm, hm, u8_in (and_255 _), _, rfl, (and_255 _).1, (and_255 _).2, fin _⟩
theorem fnx_next : FnOK Try.prog 147 Try.f147 (Try.f147.body.getD .skip) [] [] := ⟨Try.func147, rfl, by kernel_rfl, by kernel_rfl⟩
theorem next_T : ∀ args H n m κ, next_F args H n m κ → GenOK Try.prog 147 args H n m κ := by
  intro args H n m κ h
  unfold next_F at h
  split at h
  · rename_i c
    obtain ⟨kc, a, hC, hm, ha, h1⟩ := h
    exact gen_direct (X := ⟨Try.prog, tys, [], [], true, true, m, [], []⟩) fnx_next ⟨tys_ok, .nil, .nil, mixed⟩ rfl (Nat.le_of_ble_eq_true rfl) (fun hwH hwa => next_vc c kc a m n H hC hm ha hwH) fun hwH v H' n' hψ h3 h4 h5 => by
      obtain ⟨x, rfl, g1, g2, g3, rfl⟩ := hψ
      exact h1 x H' g1 g2 g3
  · exact h.elim
theorem Drawn.trans {c kc a k a' k' n n1 n2 : Nat} {H H1 H2 : Heap} (h1 : Drawn c kc a k n H H1 n1) (h2 : Drawn c kc a' k' n1 H1 H2 n2) (h : a' ≤ a + k) (h' : a ≤ a') : Drawn c kc a (k + k') n H H2 n2 :=
  ⟨Nat.le_trans h1.le h2.le, h2.wf, by
    obtain ⟨b, g1, g2, g3⟩ := h2.cur
    exact ⟨b, by omega, by omega, g3⟩, fun i o hi hc ho => h2.fr i o (Nat.lt_of_lt_of_le hi h1.le) hc (h1.fr i o hi hc ho)⟩
theorem Drawn.more {c kc a k k' n n1 : Nat} {H H1 : Heap} (h1 : Drawn c kc a k n H H1 n1) (h : k ≤ k') : Drawn c kc a k' n H H1 n1 :=
  ⟨h1.le, h1.wf, by
    obtain ⟨b, g1, g2, g3⟩ := h1.cur
    exact ⟨b, g1, by omega, g3⟩, h1.fr⟩
/-- A number below another one. -/
def pick_F : List SV → Heap → Nat → Nat → K1 → Prop
  | [.ptr c 0, .int k], H, n, m, κ => ∃ kc a, CurH c kc a H ∧ m ≤ c ∧ a ≤ 999990 ∧ ∀ (x : Int) H', 0 ≤ x → (x < k ∨ x = 0) → Drawn c kc a 2 n H H' n → κ (.int x) H' n
  | _, _, _, _, _ => False
theorem pick_vc (c kc a m n : Nat) (k : Int) (H : Heap) (hC : CurH c kc a H) (hm : m ≤ c) (ha : a ≤ 999990) (hwH : hwf n H) :
    codeVC (⟨Try.prog, tys, [], [(147, next_F)], true, true, m, [147], []⟩ : Cx) n (Try.f94.body.getD .skip) (argS 0 [.ptr c 0, .int k]) H n
      (retK tys Try.f94.results.toList fun v H' n' => ∃ x : Int, v = .int x ∧ 0 ≤ x ∧ (x < k ∨ x = 0) ∧ Drawn c kc a 2 n H H' n ∧ n' = n) := by
  have d0 : Drawn c kc a 2 n H H n := ⟨Nat.le_refl _, hwH, ⟨a, Nat.le_refl _, by omega, hC⟩, fun i o _ _ h => h⟩
  by_cases hk : k ≤ 1
  · simp -implicitDefEqProofs only [Try.f94, Option.getD_some, argS, hk, ZB, Int.reduceToNat, Nat.reduceLT, Nat.reduceLeDiff, Int.reduceLE, Int.reduceLT, Nat.reduceEqDiff, Nat.reduceSub, SB, SV.known, packR, ne_eq, reduceCtorEq, Nat.reduceEqDiff, ↓reduceIte, if_true, if_false, eq_self, Nat.reduceAdd, Nat.reduceMul, Nat.reduceSub, forall_const, oneCellS, litOne, flat1, Kd.isSca, flat, TYB]
    exact ⟨0, rfl, Int.le_refl _, .inr rfl, d0⟩
  · simp -implicitDefEqProofs only [Try.f94, Option.getD_some, argS, next_F, hk, ZB, Int.reduceToNat, Nat.reduceLT, Nat.reduceLeDiff, Int.reduceLE, Int.reduceLT, Nat.reduceEqDiff, Nat.reduceSub, SB, SV.known, packR, ne_eq, reduceCtorEq, Nat.reduceEqDiff, ↓reduceIte, if_true, if_false, eq_self, Nat.reduceAdd, Nat.reduceMul, Nat.reduceSub, forall_const, oneCellS, litOne, flat1, Kd.isSca, flat, TYB]
    refine ⟨kc, a, hC, hm, by omega, fun x H1 hx0 hx1 hd1 => ?_⟩
    obtain ⟨a1, ha1, ha1', hC1⟩ := hd1.cur
    by_cases hk2 : 200 < k
    · simp -implicitDefEqProofs only [next_F, hk2, ZB, Int.reduceToNat, Nat.reduceLT, Nat.reduceLeDiff, Int.reduceLE, Int.reduceLT, Nat.reduceEqDiff, Nat.reduceSub, SB, SV.known, packR, ne_eq, reduceCtorEq, Nat.reduceEqDiff, ↓reduceIte, if_true, if_false, eq_self, Nat.reduceAdd, Nat.reduceMul, Nat.reduceSub, forall_const, oneCellS, litOne, flat1, Kd.isSca, flat, TYB]
      refine ⟨⟨by unfold In64; omega, kc, a1, hC1, hm, by omega, fun y H2 hy0 hy1 hd2 => ?_⟩, fun h => absurd trivial h⟩
      have hr := Int.tmod_lt_of_pos (x * 256 + y) (show 0 < k by omega)
      have hr0 := Int.tmod_nonneg k (show 0 ≤ x * 256 + y by omega)
      exact ⟨by unfold In64; omega, by omega, _, rfl, hr0, .inl hr, hd1.trans hd2 ha1' ha1⟩
    · simp -implicitDefEqProofs only [next_F, hk2, ZB, Int.reduceToNat, Nat.reduceLT, Nat.reduceLeDiff, Int.reduceLE, Int.reduceLT, Nat.reduceEqDiff, Nat.reduceSub, SB, SV.known, packR, ne_eq, reduceCtorEq, Nat.reduceEqDiff, ↓reduceIte, if_true, if_false, eq_self, Nat.reduceAdd, Nat.reduceMul, Nat.reduceSub, forall_const, oneCellS, litOne, flat1, Kd.isSca, flat, TYB]
      exact ⟨by omega, _, rfl, Int.tmod_nonneg k hx0, .inl (Int.tmod_lt_of_pos x (show 0 < k by omega)), hd1.more (by omega)⟩
theorem fnx_pick : FnOK Try.prog 94 Try.f94 (Try.f94.body.getD .skip) [147] [] := ⟨Try.func94, rfl, by kernel_rfl, by kernel_rfl⟩
theorem pick_T : ∀ args H n m κ, pick_F args H n m κ → GenOK Try.prog 94 args H n m κ := by
  intro args H n m κ h
  unfold pick_F at h
  split at h
  · rename_i c k
    obtain ⟨kc, a, hC, hm, ha, h1⟩ := h
    exact gen_direct (X := ⟨Try.prog, tys, [], [(147, next_F)], true, true, m, [147], []⟩) fnx_pick ⟨tys_ok, .nil, .cons next_T .nil, mixed⟩ rfl (Nat.le_of_ble_eq_true rfl) (fun hwH hwa => pick_vc c kc a m n k H hC hm ha hwH) fun hwH v H' n' hψ h3 h4 h5 => by
      obtain ⟨x, rfl, g1, g2, g3, rfl⟩ := hψ
      exact h1 x H' g1 g2 g3
  · exact h.elim
def one_F : List SV → Heap → Nat → Nat → K1 → Prop
  | [.ptr c 0, .int _], H, n, m, κ => ∃ kc a, CurH c kc a H ∧ m ≤ c ∧ a ≤ 999990 ∧ ∀ (b : Bool) H', Drawn c kc a 2 n H H' n → κ (.bool b) H' n
  | _, _, _, _, _ => False
theorem one_vc (c kc a m n : Nat) (k : Int) (H : Heap) (hC : CurH c kc a H) (hm : m ≤ c) (ha : a ≤ 999990) (hwH : hwf n H) :
    codeVC (⟨Try.prog, tys, [], [(94, pick_F)], true, true, m, [94], []⟩ : Cx) n (Try.f92.body.getD .skip) (argS 0 [.ptr c 0, .int k]) H n
      (retK tys Try.f92.results.toList fun v H' n' => ∃ b : Bool, v = .bool b ∧ Drawn c kc a 2 n H H' n ∧ n' = n) := by
  simp -implicitDefEqProofs only [Try.f92, Option.getD_some, argS, pick_F, ZB, Int.reduceToNat, Nat.reduceLT, Nat.reduceLeDiff, Int.reduceLE, Int.reduceLT, Nat.reduceEqDiff, Nat.reduceSub, SB, SV.known, packR, ne_eq, reduceCtorEq, Nat.reduceEqDiff, ↓reduceIte, if_true, if_false, eq_self, Nat.reduceAdd, Nat.reduceMul, Nat.reduceSub, forall_const, oneCellS, litOne, flat1, Kd.isSca, flat, TYB]
  exact ⟨kc, a, hC, hm, ha, fun x H1 _ _ hd1 => ⟨_, rfl, hd1⟩⟩
theorem fnx_one : FnOK Try.prog 92 Try.f92 (Try.f92.body.getD .skip) [94] [] := ⟨Try.func92, rfl, by kernel_rfl, by kernel_rfl⟩
theorem one_T : ∀ args H n m κ, one_F args H n m κ → GenOK Try.prog 92 args H n m κ := by
  intro args H n m κ h
  unfold one_F at h
  split at h
  · rename_i c k
    obtain ⟨kc, a, hC, hm, ha, h1⟩ := h
    exact gen_direct (X := ⟨Try.prog, tys, [], [(94, pick_F)], true, true, m, [94], []⟩) fnx_one ⟨tys_ok, .nil, .cons pick_T .nil, mixed⟩ rfl (Nat.le_of_ble_eq_true rfl) (fun hwH hwa => one_vc c kc a m n k H hC hm ha hwH) fun hwH v H' n' hψ h3 h4 h5 => by
      obtain ⟨b, rfl, g3, rfl⟩ := hψ
      exact h1 b H' g3
  · exact h.elim
/-- One of some numbers. -/
def among_F : List SV → Heap → Nat → Nat → K1 → Prop
  | [.ptr c 0, .slice b 0 len _], H, n, m, κ => match hget H b with
    | some (.ints L _) => 0 < len ∧ len ≤ L.length ∧ len ≤ 1000 ∧ b < n ∧ b ≠ c ∧ ∃ kc a, CurH c kc a H ∧ m ≤ c ∧ a ≤ 999990 ∧ ∀ (i : Nat) H', i < len → Drawn c kc a 2 n H H' n → κ (.int (L.getD i 0)) H' n
    | _ => False
  | _, _, _, _, _ => False
theorem among_vc (c kc a m n b len cap e : Nat) (L : List Int) (H : Heap) (hb : hget H b = some (.ints L e)) (hl : 0 < len ∧ len ≤ L.length) (hl2 : len ≤ 1000) (hbn : b < n) (hbc : b ≠ c) (hC : CurH c kc a H) (hm : m ≤ c) (ha : a ≤ 999990) (hwH : hwf n H) :
    codeVC (⟨Try.prog, tys, [], [(94, pick_F)], true, true, m, [94], []⟩ : Cx) n (Try.f119.body.getD .skip) (argS 0 [.ptr c 0, .slice b 0 len cap]) H n
      (retK tys Try.f119.results.toList fun v H' n' => ∃ i : Nat, v = .int (L.getD i 0) ∧ i < len ∧ Drawn c kc a 2 n H H' n ∧ n' = n) := by
  simp -implicitDefEqProofs only [Try.f119, Option.getD_some, argS, pick_F, hb, ZB, Int.reduceToNat, Nat.reduceLT, Nat.reduceLeDiff, Int.reduceLE, Int.reduceLT, Nat.reduceEqDiff, Nat.reduceSub, SB, SV.known, packR, ne_eq, reduceCtorEq, Nat.reduceEqDiff, ↓reduceIte, if_true, if_false, eq_self, Nat.reduceAdd, Nat.reduceMul, Nat.reduceSub, forall_const, oneCellS, litOne, flat1, Kd.isSca, flat, TYB]
  refine ⟨kc, a, hC, hm, ha, fun x H1 hx0 hx1 hd1 => ?_⟩
  obtain ⟨i, rfl⟩ : ∃ i : Nat, x = i := ⟨x.toNat, by omega⟩
  have hi : i < len := by omega
  have hil : (i : Int) < len := by omega
  have hb1 := hd1.fr b _ hbn hbc hb
  simp -implicitDefEqProofs only [hb1, hil, ZB, Int.reduceToNat, Nat.reduceLT, Nat.reduceLeDiff, Int.reduceLE, Int.reduceLT, Nat.reduceEqDiff, Nat.reduceSub, SB, SV.known, packR, ne_eq, reduceCtorEq, Nat.reduceEqDiff, ↓reduceIte, if_true, if_false, eq_self, Nat.reduceAdd, Nat.reduceMul, Nat.reduceSub, forall_const, oneCellS, litOne, flat1, Kd.isSca, flat, TYB]
  exact ⟨by omega, by omega, i, rfl, hi, hd1⟩
theorem fnx_among : FnOK Try.prog 119 Try.f119 (Try.f119.body.getD .skip) [94] [] := ⟨Try.func119, rfl, by kernel_rfl, by kernel_rfl⟩
theorem among_T : ∀ args H n m κ, among_F args H n m κ → GenOK Try.prog 119 args H n m κ := by
  intro args H n m κ h
  unfold among_F at h
  split at h
  · rename_i c b len cap
    split at h
    · rename_i L e hb
      obtain ⟨g1, g2, g3, g4, g5, kc, a, hC, hm, ha, h1⟩ := h
      exact gen_direct (X := ⟨Try.prog, tys, [], [(94, pick_F)], true, true, m, [94], []⟩) fnx_among ⟨tys_ok, .nil, .cons pick_T .nil, mixed⟩ rfl (Nat.le_of_ble_eq_true rfl) (fun hwH hwa => among_vc c kc a m n b len cap e L H hb ⟨g1, g2⟩ g3 g4 g5 hC hm ha hwH) fun hwH v H' n' hψ h3 h4 h5 => by
        obtain ⟨i, rfl, hi, g6, rfl⟩ := hψ
        exact h1 i H' hi g6
    · exact h.elim
  · exact h.elim
theorem CurH.lt {c kc a n : Nat} {H : Heap} (h : CurH c kc a H) (hw : hwf n H) : c < n ∧ kc < n ∧ kc ≠ c := by
  obtain ⟨v, s, h1, h2, h6⟩ := h
  exact ⟨(hw _ _ h1).1, (h2.wf hw).2, h6⟩
theorem CurH.cons {c kc a k : Nat} {H : Heap} (h : CurH c kc a H) (o : SObj) (h1 : k ≠ c) (h2 : k ≠ kc) : CurH c kc a ((k, o) :: H) := by
  obtain ⟨v, s, g1, g2, g6⟩ := h
  exact ⟨v, s, by rw [hget_cons, if_neg (fun e => h1 e.symm)]; exact g1, g2.at (fun o ho => by rw [hget_cons, if_neg (fun e => h2 e.symm)]; exact ho), g6⟩
/-- A block put beside. -/
theorem Drawn.put {c kc a k n0 n n' k0 : Nat} {H0 H : Heap} (h : Drawn c kc a k n0 H0 H n) (hc : c < n0 ∧ kc < n0 ∧ kc ≠ c) (o : SObj) (h0 : n0 ≤ k0) (hk : k0 < n') (hn : n ≤ n') (ho : o.wf n') : Drawn c kc a k n0 H0 ((k0, o) :: H) n' := by
  obtain ⟨b, g1, g2, g3⟩ := h.cur
  exact ⟨Nat.le_trans h.le hn, hwf_cons (hwf_mono hn h.wf) hk ho, ⟨b, g1, g2, g3.cons o (by omega) (by omega)⟩, fun i o' hi hic ho' => by
    rw [hget_cons, if_neg (by omega)]
    exact h.fr i o' hi hic ho'⟩
theorem Drawn.start {c kc a n : Nat} {H : Heap} (h : CurH c kc a H) (hw : hwf n H) : Drawn c kc a 0 n H H n := ⟨Nat.le_refl _, hw, ⟨a, Nat.le_refl _, Nat.le_refl _, h⟩, fun _ _ _ _ h => h⟩
/-- One of a few numbers, drawn from a list just made. -/
theorem among_new {c kc a k n0 n m : Nat} {H0 H : Heap} {κ : K1} (h : Drawn c kc a k n0 H0 H n) (hC : CurH c kc a H0) (hw0 : hwf n0 H0) (hm : m ≤ c) (ha : a + k ≤ 999980) (L : List Int) (e len cap : Nat) (hl : 0 < len ∧ len ≤ L.length) (hl2 : len ≤ 1000)
    (hκ : ∀ (i : Nat) H', i < len → Drawn c kc a (k + 2) n0 H0 H' (n + 1) → κ (.int (L.getD i 0)) H' (n + 1)) : among_F [.ptr c 0, .slice n 0 len cap] ((n, .ints L e) :: H) (n + 1) m κ := by
  obtain ⟨q1, q2, q3⟩ := hC.lt hw0
  have h2 := h.put (hC.lt hw0) (k0 := n) (n' := n + 1) (.ints L e) h.le (by omega) (by omega) trivial
  obtain ⟨b, g1, g2, g3⟩ := h2.cur
  have hle := h.le
  simp only [among_F, hget_cons, if_true]
  exact ⟨hl.1, hl.2, hl2, by omega, by omega, kc, b, g3, hm, by omega, fun i H' hi hd => hκ i H' hi (h2.trans hd g2 g1)⟩
def place_F : List SV → Heap → Nat → Nat → K1 → Prop
  | [.ptr c 0], H, n, m, κ => ∃ kc a, CurH c kc a H ∧ m ≤ c ∧ a ≤ 999900 ∧ ∀ (x : Int) H' n', In64 x → Drawn c kc a 4 n H H' n' → κ (.int x) H' n'
  | _, _, _, _, _ => False
theorem place_vc (c kc a m n : Nat) (H : Heap) (hC : CurH c kc a H) (hm : m ≤ c) (ha : a ≤ 999900) (hwH : hwf n H) :
    codeVC (⟨Try.prog, tys, [], [(94, pick_F), (92, one_F), (119, among_F)], true, true, m, [94, 92, 119], []⟩ : Cx) n (Try.f146.body.getD .skip) (argS 0 [.ptr c 0]) H n
      (retK tys Try.f146.results.toList fun v H' n' => ∃ x : Int, v = .int x ∧ In64 x ∧ Drawn c kc a 4 n H H' n') := by
  simp -implicitDefEqProofs only [Try.f146, Option.getD_some, argS, one_F, ZB, Int.reduceToNat, Nat.reduceLT, Nat.reduceLeDiff, Int.reduceLE, Int.reduceLT, Nat.reduceEqDiff, Nat.reduceSub, SB, SV.known, packR, ne_eq, reduceCtorEq, Nat.reduceEqDiff, ↓reduceIte, if_true, if_false, eq_self, Nat.reduceAdd, Nat.reduceMul, Nat.reduceSub, forall_const, oneCellS, litOne, flat1, Kd.isSca, flat, TYB]
  refine ⟨kc, a, hC, hm, by omega, fun b H1 hd1 => ?_⟩
  obtain ⟨a1, ha1, ha1', hC1⟩ := hd1.cur
  cases b
  · simp -implicitDefEqProofs only [pick_F, ZB, Int.reduceToNat, Nat.reduceLT, Nat.reduceLeDiff, Int.reduceLE, Int.reduceLT, Nat.reduceEqDiff, Nat.reduceSub, SB, SV.known, packR, ne_eq, reduceCtorEq, Nat.reduceEqDiff, ↓reduceIte, if_true, if_false, eq_self, Nat.reduceAdd, Nat.reduceMul, Nat.reduceSub, forall_const, oneCellS, litOne, flat1, Kd.isSca, flat, TYB]
    exact ⟨kc, a1, hC1, hm, by omega, fun x H2 hx0 hx1 hd2 => ⟨x, rfl, by unfold In64; omega, hd1.trans hd2 ha1' ha1⟩⟩
  · simp -implicitDefEqProofs only [ZB, Int.reduceToNat, Nat.reduceLT, Nat.reduceLeDiff, Int.reduceLE, Int.reduceLT, Nat.reduceEqDiff, Nat.reduceSub, SB, SV.known, packR, ne_eq, reduceCtorEq, Nat.reduceEqDiff, ↓reduceIte, if_true, if_false, eq_self, Nat.reduceAdd, Nat.reduceMul, Nat.reduceSub, forall_const, oneCellS, litOne, flat1, Kd.isSca, flat, TYB]
    refine among_new hd1 hC hwH hm (by omega) _ _ _ _ (by simp) (by omega) fun i H' hi hd => ?_
    have hI : In64 (([-1, 6, 4611686018427387904] : List Int).getD i 0) := by
      match i, hi with
      | 0, _ => simp [In64]
      | 1, _ => simp [In64]
      | 2, _ => simp [In64]
    simp -implicitDefEqProofs only [ZB, Int.reduceToNat, Nat.reduceLT, Nat.reduceLeDiff, Int.reduceLE, Int.reduceLT, Nat.reduceEqDiff, Nat.reduceSub, SB, SV.known, packR, ne_eq, reduceCtorEq, Nat.reduceEqDiff, ↓reduceIte, if_true, if_false, eq_self, Nat.reduceAdd, Nat.reduceMul, Nat.reduceSub, forall_const, oneCellS, litOne, flat1, Kd.isSca, flat, TYB]
    exact ⟨_, rfl, hI, hd⟩
theorem fnx_place : FnOK Try.prog 146 Try.f146 (Try.f146.body.getD .skip) [94, 92, 119] [] := ⟨Try.func146, rfl, by kernel_rfl, by kernel_rfl⟩
theorem place_T : ∀ args H n m κ, place_F args H n m κ → GenOK Try.prog 146 args H n m κ := by
  intro args H n m κ h
  unfold place_F at h
  split at h
  · rename_i c
    obtain ⟨kc, a, hC, hm, ha, h1⟩ := h
    exact gen_direct (X := ⟨Try.prog, tys, [], [(94, pick_F), (92, one_F), (119, among_F)], true, true, m, [94, 92, 119], []⟩) fnx_place ⟨tys_ok, .nil, .cons pick_T (.cons one_T (.cons among_T .nil)), mixed⟩ rfl (Nat.le_of_ble_eq_true rfl) (fun hwH hwa => place_vc c kc a m n H hC hm ha hwH) fun hwH v H' n' hψ h3 h4 h5 => by
      obtain ⟨x, rfl, hI, g3⟩ := hψ
      exact h1 x H' n' hI g3
  · exact h.elim
theorem Drawn.push {c kc a k n0 n : Nat} {H0 H : Heap} (h : Drawn c kc a k n0 H0 H n) (hc : c < n0 ∧ kc < n0 ∧ kc ≠ c) (o : SObj) (ho : o.wf (n + 1)) : Drawn c kc a k n0 H0 ((n, o) :: H) (n + 1) := h.put hc o h.le (by omega) (by omega) ho
theorem Drawn.pushI {c kc a k n0 n : Nat} {H0 H : Heap} (h : Drawn c kc a k n0 H0 H n) (hc : c < n0 ∧ kc < n0 ∧ kc ≠ c) {L : List Int} {e : Nat} : Drawn c kc a k n0 H0 ((n, .ints L e) :: H) (n + 1) := h.push hc _ trivial
theorem Drawn.putI {c kc a k n0 n k0 : Nat} {H0 H : Heap} (h : Drawn c kc a k n0 H0 H n) (hc : c < n0 ∧ kc < n0 ∧ kc ≠ c) {L : List Int} {e : Nat} (h0 : n0 ≤ k0) (hk : k0 < n) : Drawn c kc a k n0 H0 ((k0, .ints L e) :: H) n := h.put hc _ h0 hk (Nat.le_refl _) trivial
/-- What is kept of one's own blocks. -/
def Fr (n0 n : Nat) (H H' : Heap) : Prop := ∀ j o, n0 ≤ j → j < n → hget H j = some o → hget H' j = some o
theorem Fr.use {n0 n j : Nat} {H H' : Heap} {o : SObj} (h : Fr n0 n H H') (h1 : n0 ≤ j) (h2 : j < n) (h3 : hget H j = some o) : hget H' j = some o := h j o h1 h2 h3
theorem Drawn.own {c kc a k n0 n n' : Nat} {H H' : Heap} (h : Drawn c kc a k n H H' n') (hc : c < n0) : Fr n0 n H H' := fun j o h1 h2 h3 => h.fr j o h2 (by omega) h3
theorem among_use {c kc a k n0 n m b len cap e : Nat} {H0 H : Heap} {κ : K1} {L : List Int} (h : Drawn c kc a k n0 H0 H n) (hc : c < n0 ∧ kc < n0 ∧ kc ≠ c) (hm : m ≤ c) (ha : a + k ≤ 999980) (hb : hget H b = some (.ints L e)) (h0 : n0 ≤ b) (hl : 0 < len ∧ len ≤ L.length ∧ len ≤ 1000)
    (hκ : ∀ (x : Int) H', x ∈ L → Drawn c kc a (k + 2) n0 H0 H' n → Fr n0 n H H' → κ (.int x) H' n) : among_F [.ptr c 0, .slice b 0 len cap] H n m κ := by
  obtain ⟨b', g1, g2, g3⟩ := h.cur
  have hbn := (h.wf _ _ hb).1
  simp only [among_F, hb]
  refine ⟨hl.1, hl.2.1, hl.2.2, hbn, by omega, kc, b', g3, hm, by omega, fun i H' hi hd => hκ _ H' ?_ (h.trans hd g2 g1) (hd.own hc.1)⟩
  rw [List.getD_eq_getElem?_getD, List.getElem?_eq_getElem (by omega)]
  exact List.getElem_mem _
theorem pick_use {c kc a k n0 n m : Nat} {H0 H : Heap} {κ : K1} (h : Drawn c kc a k n0 H0 H n) (hc : c < n0 ∧ kc < n0 ∧ kc ≠ c) (hm : m ≤ c) (ha : a + k ≤ 999980) {z : Int}
    (hκ : ∀ (x : Int) H', 0 ≤ x → (x < z ∨ x = 0) → Drawn c kc a (k + 2) n0 H0 H' n → Fr n0 n H H' → κ (.int x) H' n) : pick_F [.ptr c 0, .int z] H n m κ := by
  obtain ⟨b', g1, g2, g3⟩ := h.cur
  exact ⟨kc, b', g3, hm, by omega, fun x H' h1 h2 hd => hκ x H' h1 h2 (h.trans hd g2 g1) (hd.own hc.1)⟩
theorem one_use {c kc a k n0 n m : Nat} {H0 H : Heap} {κ : K1} (h : Drawn c kc a k n0 H0 H n) (hc : c < n0 ∧ kc < n0 ∧ kc ≠ c) (hm : m ≤ c) (ha : a + k ≤ 999980) {z : Int}
    (hκ : ∀ (x : Bool) H', Drawn c kc a (k + 2) n0 H0 H' n → Fr n0 n H H' → κ (.bool x) H' n) : one_F [.ptr c 0, .int z] H n m κ := by
  obtain ⟨b', g1, g2, g3⟩ := h.cur
  exact ⟨kc, b', g3, hm, by omega, fun x H' hd => hκ x H' (h.trans hd g2 g1) (hd.own hc.1)⟩
theorem place_use {c kc a k n0 n m : Nat} {H0 H : Heap} {κ : K1} (h : Drawn c kc a k n0 H0 H n) (hc : c < n0 ∧ kc < n0 ∧ kc ≠ c) (hm : m ≤ c) (ha : a + k ≤ 999900)
    (hκ : ∀ (x : Int) H' n', In64 x → Drawn c kc a (k + 4) n0 H0 H' n' → n ≤ n' → Fr n0 n H H' → κ (.int x) H' n') : place_F [.ptr c 0] H n m κ := by
  obtain ⟨b', g1, g2, g3⟩ := h.cur
  exact ⟨kc, b', g3, hm, by omega, fun x H' n' hI hd => hκ x H' n' hI (h.trans hd g2 g1) hd.le (hd.own hc.1)⟩
end Go.Proofs.Ytopfnkmlgcjpbaa
