/- Walks: ReachBy, FewestBy. -/
import Derived.Test.YtfdpeenamkpcbaaBeh
import Derived.Test.YtfdpeenamkpcbaaAlong
set_option maxRecDepth 100000
set_option linter.unusedSimpArgs false
set_option linter.unusedVariables false
namespace Go.Proofs.Ytfdpeenamkpcbaa
open Go Go.RowKit
theorem outVn_ren (n i l c : Nat) : (outVn 2 i l c).ren (ext (fun k => k) 2 n) = outVn n i l c := by
  cases i with
  | zero => rfl
  | succ i => simp [outVn_succ, SV.ren, ext_ge]
theorem outVn_ren2 (ρ : Nat → Nat) (n i l c : Nat) : (outVn 2 i l c).ren (ext ρ 2 n) = outVn n i l c := by
  cases i with
  | zero => rfl
  | succ i => simp [outVn_succ, SV.ren, ext_ge]
theorem renH_outHn (ρ : Nat → Nat) (n i : Nat) (L : List Int) (e : Nat) (l : List (List Int × Int)) (H : Heap) : renH (ext ρ 2 n) (outHn 2 i L e [(1, .mp true l)]) ++ H = outHn n i L e ((ρ 1, .mp true l) :: H) := by
  cases i with
  | zero => simp [outHn_zero, renH, SObj.ren, ext_lt]
  | succ i => simp [outHn_succ, renH, SObj.ren, ext_lt, ext_ge]
def nwL (D : List Int) (u : Int) (Q K : List (List Int)) : List (List Int) := nwF K (Q.flatMap (sucL D u))
def behind_F : List SV → Heap → Nat → Nat → K1 → Prop
  | [.slice b 0 len _, .arr D, .int u, .mp k], H, n, m, κ => match hget H b, hget H k with
    | some (.ints L _), some (.mp true l) => D.length = 6 ∧ ruF u = true ∧ b ≠ k ∧ m ≤ k ∧ len ≤ 2000 ∧ ∃ Q J K, L = Q.flatten ++ J ∧ Q.length = len ∧ l = mk1 K ∧ okR D Q ∧ all24 K ∧
        ∀ c j, j.length + (nwL D u Q K).length * 24 = c * 24 → κ (outVn n (nwL D u Q K).length (nwL D u Q K).length c) (outHn n (nwL D u Q K).length ((nwL D u Q K).flatten ++ j) 28 ((k, .mp true (mk1 (K ++ nwL D u Q K))) :: H)) (n + 1)
    | _, _ => False
  | [.nils, .arr D, .int u, .mp k], H, n, _, κ => match hget H k with
    | some (.mp true _) => D.length = 6 ∧ κ .nils H n
    | _ => False
  | _, _, _, _, _ => False
theorem behind_nil (D : List Int) (u : Int) (hD : D.length = 6) (l : List (List Int × Int)) : PureH Try.prog 73 [.nils, .arr D, .int u, .mp 0] [(0, .mp true l)] .nils := by
  have tkD : D.take 6 = D := List.take_of_length_le (by omega)
  refine pure_of_vc (X := ⟨Try.prog, tys, [], [], true, true, 1, [], []⟩) fn_73 ⟨tys_ok, .nil, .nil, mixed⟩ (n0 := 1) (Nat.le_of_ble_eq_true rfl) (by simp [wfL, SV.wf]) (wfH_spec (by simp [wfH, SObj.wf])) (Nat.le_refl _) (fun _ => by simp [SV.wf, wfL]) ?_
  simp -implicitDefEqProofs only [Try.f73, Option.getD_some, argS, hD, tkD, ZB, Int.reduceToNat, Nat.reduceLT, Nat.reduceLeDiff, Int.reduceLE, Int.reduceLT, Nat.reduceEqDiff, Nat.reduceSub, SB, SV.known, packR, ne_eq, reduceCtorEq, Nat.reduceEqDiff, ↓reduceIte, if_true, if_false, eq_self, Nat.reduceAdd, Nat.reduceMul, Nat.reduceSub, forall_const, oneCellS, Kd.isSca, flat, TYB]
  refine loop_intro (fun _ : Unit => [(17, SV.int 0), (16, SV.int 0), (15, SV.nils), (9, SV.nils), (5, SV.ptr 1 0), (2, SV.int u), (3, SV.mp 0)]) (fun _ => [(1, SObj.ints D 39), (0, SObj.mp true l)]) 2 (fun _ => True) (fun _ => 0) ?_ ?_
  · refine ⟨(), trivial, Sub.mk_id ?_ ?_ ?_ ?_ ?_⟩
    all_goals (simp only [LB, subS, subH, wfS, wfH, SV.ren, renL, SObj.ren, SV.wf, SObj.wf, wfL, SV.known, Nat.reduceEqDiff, ↓reduceIte, if_true, if_false, eq_self, Nat.reduceAdd, Nat.reduceLT, Nat.reduceLeDiff, implies_true, reduceCtorEq, forall_const] <;> simp)
  · intro _ _
    simp -implicitDefEqProofs only [lk_normal, Int.lt_irrefl, SB, SV.known, packR, ne_eq, reduceCtorEq, Nat.reduceEqDiff, ↓reduceIte, if_true, if_false, eq_self, Nat.reduceAdd, Nat.reduceMul, Nat.reduceSub, forall_const, oneCellS, Kd.isSca, flat, TYB]
    trace_state
theorem behind_T : ∀ args H n m κ, behind_F args H n m κ → GenOK Try.prog 73 args H n m κ := by
  intro args H n m κ h
  unfold behind_F at h
  split at h
  · rename_i b len cap D u k
    split at h
    · rename_i L e l h1 h2
      obtain ⟨hD, hu, hbk, hmk, hsm, Q, J, K, rfl, hl, rfl, hQ, hK, h⟩ := h
      have hw := behind_ok D u Q K J e len cap hD hu hQ hK hl hsm
      have := gen_of_vc (H := H) (n := n) (m := m) (κ := κ) fn_73 ⟨tys_ok, .cons movedBy_T (.cons move_T .nil), .cons poursBy_T .nil, mixed⟩ (Nat.le_of_ble_eq_true rfl) (by simp [wfL, SV.wf]) (wfH_spec (by simp [wfH, SObj.wf])) (by show 1 ≤ 2; omega) hw
        (fun j => if j = 1 then k else b) (fun j hj => by
          obtain rfl | rfl : j = 0 ∨ j = 1 := by omega
          · exact ⟨_, rfl⟩
          · exact ⟨_, rfl⟩) (fun a1 a2 h3 h4 he => by
          obtain rfl | rfl : a1 = 0 ∨ a1 = 1 := by omega
          all_goals obtain rfl | rfl : a2 = 0 ∨ a2 = 1 := by omega
          all_goals simp at he ⊢
          all_goals omega) ?_ ?_ ?_ ?_
      · simpa [renL, SV.ren] using this
      · intro j o hj
        simp only [hget_cons] at hj
        split at hj
        · rename_i h0; cases hj; subst h0; exact h1
        · split at hj
          · rename_i h0; cases hj; subst h0; exact h2
          · cases hj
      · intro j o hj h1j
        simp only [hget_cons] at hj
        split at hj
        · rename_i h0; subst h0; exact absurd h1j (by show ¬ 1 ≤ 0; omega)
        · split at hj
          · rename_i h0; subst h0; exact hmk
          · cases hj
      · rintro v H' n' ⟨c, j, rfl, rfl, rfl, _⟩
        refine ⟨fun i o hi _ h1i => ?_, fun i o hi _ h1i => ?_⟩
        · simp only [hget_cons] at hi
          split at hi
          · rename_i h0; subst h0; exact absurd h1i (by show ¬ 1 ≤ 0; omega)
          · split at hi
            · rename_i h0; subst h0
              rw [hget_outHn, if_neg (by omega)]; rfl
            · cases hi
        · obtain rfl : i = 0 := by
            have : i < 1 := h1i
            omega
          rw [hget_outHn, if_neg (by omega)] at hi
          cases hi
      · rintro v H' n' ⟨c, j, rfl, rfl, rfl, hj⟩ _
        rw [outVn_ren2, renH_outHn]
        exact h c j hj
    · exact h.elim
  · rename_i D u k
    split at h
    · rename_i l h1
      obtain ⟨hD, h⟩ := h
      have hp := behind_nil D u hD l
      have hq : PureH Try.prog 73 [.nils, .arr D, .int u, .mp k] H .nils := hp.sub (H := H) (fun _ => k) (fun j o hj => by
        simp only [hget_cons] at hj
        split at hj
        · rename_i h0; cases hj; exact ⟨h1, fun h => Nat.zero_le _, by simp [h0]⟩
        · cases hj) (fun x hx y hy _ => by simp at hx hy; omega) (fun _ => trivial)
      exact gen_of_pure hq h
    · exact h.elim
  · exact h.elim
theorem memT (G : List (List Int)) (x : List Int) (m : Nat) (hm : m < G.length) : decide (x ∈ G.take (m + 1)) = (decide (x ∈ G.take m) || decide (G.getD m [] = x)) := by
  rw [take_succ_getD G m hm]
  by_cases h : x ∈ G.take m
  · simp only [List.mem_append, h, true_or, decide_true, Bool.true_or]
  · by_cases h2 : G.getD m [] = x
    · rw [h2]; simp
    · have h3 : ¬ x = G.getD m [] := fun e => h2 e.symm
      simp only [List.mem_append, h, List.mem_singleton, h3, h2, or_self, decide_false, Bool.or_self]
theorem l8Next_ok (D : List Int) (u : Int) (Q : List (List Int)) (J : List Int) (e len cap : Nat) (hD : D.length = 6) (hu : ruF u = true) (hQ : okR D Q) (hl : Q.length = len) (h0 : 0 < len) (hJ : (Q.flatten ++ J).length = cap * 24) (hsm : len ≤ 2000) :
    FreshP Try.prog 69 [.slice 0 0 len cap, .arr D, .int u] [(0, .ints (Q.flatten ++ J) e)] (Q ++ nwL D u Q Q).flatten (Q ++ nwL D u Q Q).length 24 28 false .one := by
  have tkD : D.take 6 = D := List.take_of_length_le (by omega)
  have hA := hQ.all24
  have hfl := flat_len hA
  have tkQ : (Q.flatten ++ J).take (len * 24) = Q.flatten := List.take_left' (by rw [hfl, hl])
  have eqr := eqI_rack
  unfold nwL
  generalize hX : Q.flatMap (sucL D u) = X at *
  have hsr : srcE (.slice 0 0 len cap) = false := by
    cases len with
    | zero => omega
    | succ n => rfl
  have lJ : len * 24 ≤ (Q.flatten ++ J).length := by rw [List.length_append, hfl, hl]; omega
  refine fresh_of_vc (X := ⟨Try.prog, tys, [(112, l8Moves_F), (111, l8Move_F)], [(110, l8Pours_F)], true, true, 1, [110], []⟩) (show FnOK Try.prog 69 Try.f69 (Try.f69.body.getD .skip) [110] [] from ⟨Try.func69, rfl, by kernel_rfl, by kernel_rfl⟩) ⟨tys_ok, (.cons l8Moves_T (.cons l8Move_T .nil)), (.cons l8Pours_T .nil), mixed⟩ (n0 := 1) rfl (Nat.le_of_ble_eq_true rfl) (by simp [wfL, SV.wf]) (wfH_spec (by simp [wfH, SObj.wf])) (Nat.le_refl _) ?_
  simp -implicitDefEqProofs only [Try.f69, Option.getD_some, argS, l8Moves_F, l8Move_F, l8Pours_F, hD, tkD, lJ, tkQ, hsr, ZB, Int.reduceToNat, Nat.reduceLT, Nat.reduceLeDiff, Int.reduceLE, Int.reduceLT, Nat.reduceEqDiff, Nat.reduceSub, SB, SV.known, packR, ne_eq, reduceCtorEq, Nat.reduceEqDiff, ↓reduceIte, if_true, if_false, eq_self, Nat.reduceAdd, Nat.reduceMul, Nat.reduceSub, forall_const, oneCellS, Kd.isSca, flat, TYB]
  refine ⟨h0, by omega, by omega, fun junk0 cap0 hj0 => ?_⟩
  refine loop_intro (fun s : Nat × Nat × List Int => [(8, .int s.1), (7, .slice 3 0 (Q ++ nwF Q (upto D u Q s.1 0)).length s.2.1), (4, .ptr 1 0), (0, .slice 0 0 len cap), (2, .int u)])
    (fun s => [(3, .ints ((Q ++ nwF Q (upto D u Q s.1 0)).flatten ++ s.2.2) 28), (1, .ints D 39), (0, .ints (Q.flatten ++ J) e)]) 4
    (fun s => s.1 ≤ len ∧ s.2.2.length + (Q ++ nwF Q (upto D u Q s.1 0)).length * 24 = s.2.1 * 24) (fun s => len - s.1) ?_ ?_
  · refine ⟨(0, cap0, junk0), ⟨by simp, by simp only [upto_zero, nwF_nil, List.append_nil, hl]; exact hj0⟩, Sub.mk_id ?_ ?_ ?_ ?_ ?_⟩
    all_goals simp only [upto_zero, nwF_nil, List.append_nil, hl, LB, subS, subH, wfS, wfH, SV.ren, renL, SObj.ren, SV.wf, SObj.wf, wfL, SV.known, Nat.reduceEqDiff, ↓reduceIte, if_true, if_false, eq_self, Nat.reduceAdd, Nat.reduceLT, Nat.reduceLeDiff, implies_true, reduceCtorEq, forall_const]
    all_goals simp
  · rintro ⟨i, c, j⟩ ⟨hi, hj⟩
    simp only at hi hj
    by_cases hlt : i < len
    · have hil : (i : Int) < len := by omega
      have hiQ : i < Q.length := by omega
      have eR : List.take 24 (List.drop (i * 24) (Q.flatten ++ J)) = Q.getD i [] := flat_get hA hiQ J
      obtain ⟨r24, rf⟩ := hQ _ (getD_mem hiQ)
      have tkR : List.take 24 (Q.getD i []) = Q.getD i [] := List.take_of_length_le (by omega)
      have lQ : i * 24 + 24 ≤ (Q.flatten ++ J).length := by rw [List.length_append, hfl]; omega
      have unext := upto_next D u Q hiQ
      have usn := fun q (hq : q < sucN (Q.getD i []) D u) => upto_snoc D u Q hq
      have sgd := fun q (hq : q < sucN (Q.getD i []) D u) => sucL_getD D u (Q.getD i []) hq
      generalize hR : Q.getD i [] = R at *
      obtain ⟨np, hnp, hnp36⟩ := GL_even (pbB R D u) 36
      have esn : sucN R D u = np := by unfold sucN; omega
      have ehp : (GL (pbB R D u) 36).length / 2 = np := by omega
      have pairs := GL_pairB (pbB R D u) 36 (by omega)
      rw [esn] at unext usn sgd
      generalize hP : GL (pbB R D u) 36 = P at *
      have okU := fun q => upto_ok (u := u) hD hQ (j := q) (.inl hiQ)
      simp -implicitDefEqProofs only [lk_normal, l8Pours_F, hil, eR, r24, rf, hu, tkR, lQ, hD, tkD, hP, ehp, freshK, Wrap.ap, ZB, Int.reduceToNat, Nat.reduceLT, Nat.reduceLeDiff, Int.reduceLE, Int.reduceLT, Nat.reduceEqDiff, Nat.reduceSub, SB, SV.known, packR, ne_eq, reduceCtorEq, Nat.reduceEqDiff, ↓reduceIte, if_true, if_false, eq_self, Nat.reduceAdd, Nat.reduceMul, Nat.reduceSub, forall_const, oneCellS, Kd.isSca, flat, TYB]
      refine ⟨by omega, fun cp jp hjp => ?_⟩
      have lenP : (P ++ jp).length = cp * 2 := by rw [List.length_append]; omega
      refine loop_intro (fun s : Nat × Nat × List Int => [(10, .int s.1), (9, .slice 4 0 np cp), (8, .int i), (7, .slice 3 0 (Q ++ nwF Q (upto D u Q i s.1)).length s.2.1), (4, .ptr 1 0), (0, .slice 0 0 len cap), (2, .int u)])
        (fun s => [(3, .ints ((Q ++ nwF Q (upto D u Q i s.1)).flatten ++ s.2.2) 28), (4, .ints (P ++ jp) 50), (1, .ints D 39), (0, .ints (Q.flatten ++ J) e)]) 5
        (fun s => s.1 ≤ np ∧ s.2.2.length + (Q ++ nwF Q (upto D u Q i s.1)).length * 24 = s.2.1 * 24) (fun s => np - s.1) ?_ ?_
      · refine ⟨(0, c, j), ⟨by simp only; omega, by simp only; exact hj⟩, Sub.mk_id ?_ ?_ ?_ ?_ ?_⟩
        all_goals (simp only [LB, subS, subH, wfS, wfH, SV.ren, renL, SObj.ren, SV.wf, SObj.wf, wfL, SV.known, Nat.reduceEqDiff, ↓reduceIte, if_true, if_false, eq_self, Nat.reduceAdd, Nat.reduceLT, Nat.reduceLeDiff, implies_true, reduceCtorEq, forall_const] <;> simp)
      · rintro ⟨q, c, j⟩ ⟨hq, hj⟩
        simp only at hq hj
        have hOk := okU q
        have hNk := (okR_nw (K := Q) hOk).all24
        have hG : all24 (Q ++ nwF Q (upto D u Q i q)) := fun y hy => by
          rcases List.mem_append.1 hy with hy | hy
          · exact hA y hy
          · exact hNk y hy
        have hfO := flat_len hG
        by_cases hqn : q < np
        · have hql : (q : Int) < np := by omega
          obtain ⟨a, b, ha, hb, hc, ga, gb⟩ := pairs q (by omega)
          have eP : List.take 2 (List.drop (q * 2) (P ++ jp)) = [(a : Int), (b : Int)] := by
            rw [take2_drop _ _ (by rw [List.length_append]; omega), getD_app _ _ _ (by omega), getD_app _ _ _ (by omega), ga, gb]
          have eP0 : (P ++ jp).getD (q * 2) 0 = (a : Int) := by rw [getD_app _ _ _ (by omega), ga]
          have eP1 : (P ++ jp).getD (q * 2 + 1) 0 = (b : Int) := by rw [getD_app _ _ _ (by omega), gb]
          obtain ⟨x24, xf, mp, mne, m1, m2⟩ := for_suc r24 hD rf ha hb hc
          have us := usn q hqn
          have ex := sgd q hqn
          rw [ga, gb] at ex
          rw [ex] at us
          have a0 : 0 ≤ (a : Int) ∧ (a : Int) ≤ 5 := by omega
          have b0 : 0 ≤ (b : Int) ∧ (b : Int) ≤ 5 := by omega
          have rr := (forB_facts hD rf).1
          have m0 : 0 ≤ movF R D u a b := by omega
          have exx : mvR R a b (movF R D u a b).toNat = sucP R D u a b := by unfold sucP; simp only [Int.toNat_natCast]
          have bound : (nwF Q (upto D u Q i q)).length ≤ 100000 := by
            have := nwF_len Q (upto D u Q i q)
            have := upto_len D u Q i q
            omega
          have tkx : List.take 24 (sucP R D u a b) = sucP R D u a b := List.take_of_length_le (by omega)
          generalize hx : sucP R D u a b = x at *
          generalize hGd : Q ++ nwF Q (upto D u Q i q) = G at *
          simp -implicitDefEqProofs only [lk_normal, l8Moves_F, l8Move_F, hql, eP, eP0, eP1, lenP, r24, rf, rr, hu, eR, lQ, tkR, hD, tkD, a0, b0, mne, m0, m1, m2, exx, x24, tkx, List.getD_cons_zero, List.getD_cons_succ, Int.toNat_natCast, ZB, Int.reduceToNat, Nat.reduceLT, Nat.reduceLeDiff, Int.reduceLE, Int.reduceLT, Nat.reduceEqDiff, Nat.reduceSub, SB, SV.known, packR, ne_eq, reduceCtorEq, Nat.reduceEqDiff, ↓reduceIte, if_true, if_false, eq_self, Nat.reduceAdd, Nat.reduceMul, Nat.reduceSub, forall_const, oneCellS, Kd.isSca, flat, TYB]
          have lG : (G.flatten ++ j).length = c * 24 := by rw [List.length_append, hfO]; omega
          have gB : G.length ≤ 102000 := by rw [← hGd, List.length_append]; omega
          refine ⟨by omega, by omega, by omega, by omega, by omega, hil, by omega, hil, ?_⟩
          refine loop_intro (fun m : Nat => [(15, .int m), (14, .bool (decide (x ∈ G.take m))), (13, .ptr 5 0), (10, .int q), (9, .slice 4 0 np cp), (8, .int i), (7, .slice 3 0 G.length c), (4, .ptr 1 0), (0, .slice 0 0 len cap), (2, .int u)])
            (fun _ => [(5, .ints x 28), (3, .ints (G.flatten ++ j) 28), (4, .ints (P ++ jp) 50), (1, .ints D 39), (0, .ints (Q.flatten ++ J) e)]) 6 (fun m => m ≤ G.length) (fun m => G.length - m) ?_ ?_
          · refine ⟨0, by omega, Sub.mk_id ?_ ?_ ?_ ?_ ?_⟩
            all_goals (simp only [LB, subS, subH, wfS, wfH, SV.ren, renL, SObj.ren, SV.wf, SObj.wf, wfL, SV.known, Nat.reduceEqDiff, ↓reduceIte, if_true, if_false, eq_self, Nat.reduceAdd, Nat.reduceLT, Nat.reduceLeDiff, implies_true, reduceCtorEq, forall_const] <;> simp)
          · intro m hm
            by_cases hmg : m < G.length
            · have hml : (m : Int) < G.length := by omega
              have eG : List.take 24 (List.drop (m * 24) (G.flatten ++ j)) = G.getD m [] := flat_get hG hmg j
              have g24 := hG _ (getD_mem hmg)
              have gB : m * 24 + 24 ≤ (G.flatten ++ j).length := by omega
              have ms := memT G x m hmg
              cases ho : decide (x ∈ G.take m)
              · simp -implicitDefEqProofs only [lk_normal, hml, eG, g24, gB, ho, x24, tkx, eqr, Bool.false_or, ZB, Int.reduceToNat, Nat.reduceLT, Nat.reduceLeDiff, Int.reduceLE, Int.reduceLT, Nat.reduceEqDiff, Nat.reduceSub, SB, SV.known, packR, ne_eq, reduceCtorEq, Nat.reduceEqDiff, ↓reduceIte, if_true, if_false, eq_self, Nat.reduceAdd, Nat.reduceMul, Nat.reduceSub, forall_const, oneCellS, Kd.isSca, flat, TYB]
                refine ⟨by omega, by unfold In64; omega, m + 1, by omega, by omega, Sub.mk_id ?_ ?_ ?_ ?_ ?_⟩
                all_goals (try simp only [ms, ho, Bool.false_or])
                all_goals (simp only [LB, subS, subH, wfS, wfH, SV.ren, renL, SObj.ren, SV.wf, SObj.wf, wfL, SV.known, Nat.reduceEqDiff, ↓reduceIte, if_true, if_false, eq_self, Nat.reduceAdd, Nat.reduceLT, Nat.reduceLeDiff, implies_true, reduceCtorEq, forall_const] <;> simp)
              · simp -implicitDefEqProofs only [lk_normal, hml, eG, g24, gB, ho, x24, tkx, eqr, Bool.true_or, ZB, Int.reduceToNat, Nat.reduceLT, Nat.reduceLeDiff, Int.reduceLE, Int.reduceLT, Nat.reduceEqDiff, Nat.reduceSub, SB, SV.known, packR, ne_eq, reduceCtorEq, Nat.reduceEqDiff, ↓reduceIte, if_true, if_false, eq_self, Nat.reduceAdd, Nat.reduceMul, Nat.reduceSub, forall_const, oneCellS, Kd.isSca, flat, TYB]
                refine ⟨by unfold In64; omega, m + 1, by omega, by omega, Sub.mk_id ?_ ?_ ?_ ?_ ?_⟩
                all_goals (try simp only [ms, ho, Bool.true_or])
                all_goals (simp only [LB, subS, subH, wfS, wfH, SV.ren, renL, SObj.ren, SV.wf, SObj.wf, wfL, SV.known, Nat.reduceEqDiff, ↓reduceIte, if_true, if_false, eq_self, Nat.reduceAdd, Nat.reduceLT, Nat.reduceLeDiff, implies_true, reduceCtorEq, forall_const] <;> simp)
            · have hml : ¬ (m : Int) < G.length := by omega
              obtain rfl : m = G.length := by omega
              rw [List.take_of_length_le (Nat.le_refl _)]
              by_cases hin : x ∈ G
              · have eo : Q ++ nwF Q (upto D u Q i (q + 1)) = G := by
                  rw [us, nwF_old (by rw [hGd]; exact hin), hGd]
                simp -implicitDefEqProofs only [lk_normal, hml, hin, decide_true, ZB, Int.reduceToNat, Nat.reduceLT, Nat.reduceLeDiff, Int.reduceLE, Int.reduceLT, Nat.reduceEqDiff, Nat.reduceSub, SB, SV.known, packR, ne_eq, reduceCtorEq, Nat.reduceEqDiff, ↓reduceIte, if_true, if_false, eq_self, Nat.reduceAdd, Nat.reduceMul, Nat.reduceSub, forall_const, oneCellS, Kd.isSca, flat, TYB]
                refine ⟨by unfold In64; omega, (q + 1, c, j), ⟨by simp only; omega, by simp only [eo]; exact hj⟩, by simp only; omega, Sub.mk_id ?_ ?_ ?_ ?_ ?_⟩
                all_goals (try simp only [eo])
                all_goals (simp only [LB, subS, subH, wfS, wfH, SV.ren, renL, SObj.ren, SV.wf, SObj.wf, wfL, SV.known, Nat.reduceEqDiff, ↓reduceIte, if_true, if_false, eq_self, Nat.reduceAdd, Nat.reduceLT, Nat.reduceLeDiff, implies_true, reduceCtorEq, forall_const] <;> simp)
              · have eo : Q ++ nwF Q (upto D u Q i (q + 1)) = G ++ [x] := by
                  rw [us, nwF_new (by rw [hGd]; exact hin), ← List.append_assoc, hGd]
                have tkG : List.take (G.length * 24) (G.flatten ++ j) = G.flatten := List.take_left' hfO
                simp -implicitDefEqProofs only [lk_normal, hml, hin, decide_false, x24, tkx, lG, tkG, ZB, Int.reduceToNat, Nat.reduceLT, Nat.reduceLeDiff, Int.reduceLE, Int.reduceLT, Nat.reduceEqDiff, Nat.reduceSub, SB, SV.known, packR, ne_eq, reduceCtorEq, Nat.reduceEqDiff, ↓reduceIte, if_true, if_false, eq_self, Nat.reduceAdd, Nat.reduceMul, Nat.reduceSub, forall_const, oneCellS, Kd.isSca, flat, TYB]
                refine ⟨by omega, by omega, by omega, fun junk' cap' hj' => ⟨by unfold In64; omega, (q + 1, cap', junk'), ⟨by simp only; omega, by simp only [eo, List.length_append, List.length_cons, List.length_nil]; exact hj'⟩, by simp only; omega, Sub.mk_to 3 7 ?_ ?_ ?_ ?_ ?_ ?_ ?_⟩⟩
                all_goals (try simp only [eo, List.length_append, List.length_cons, List.length_nil, List.flatten_append, List.flatten_cons, List.flatten_nil, List.append_nil, Nat.zero_add, ← List.append_assoc])
                all_goals ((try simp only [LB, subS, subH, wfS, wfH, SV.ren, renL, SObj.ren, SV.wf, SObj.wf, wfL, SV.known, Nat.reduceEqDiff, ↓reduceIte, if_true, if_false, eq_self, Nat.reduceAdd, Nat.reduceLT, Nat.reduceLeDiff, implies_true, reduceCtorEq, forall_const]) <;> simp)
        · have hql : ¬ (q : Int) < np := by omega
          obtain rfl : q = np := by omega
          simp -implicitDefEqProofs only [lk_normal, hql, ZB, Int.reduceToNat, Nat.reduceLT, Nat.reduceLeDiff, Int.reduceLE, Int.reduceLT, Nat.reduceEqDiff, Nat.reduceSub, SB, SV.known, packR, ne_eq, reduceCtorEq, Nat.reduceEqDiff, ↓reduceIte, if_true, if_false, eq_self, Nat.reduceAdd, Nat.reduceMul, Nat.reduceSub, forall_const, oneCellS, Kd.isSca, flat, TYB]
          rw [unext] at hj ⊢
          refine ⟨by unfold In64; omega, (i + 1, c, j), ⟨by simp only; omega, hj⟩, by simp only; omega, Sub.mk_id ?_ ?_ ?_ ?_ ?_⟩
          all_goals (simp only [LB, subS, subH, wfS, wfH, SV.ren, renL, SObj.ren, SV.wf, SObj.wf, wfL, SV.known, Nat.reduceEqDiff, ↓reduceIte, if_true, if_false, eq_self, Nat.reduceAdd, Nat.reduceLT, Nat.reduceLeDiff, implies_true, reduceCtorEq, forall_const] <;> simp)
    · have hil : ¬ (i : Int) < len := by omega
      obtain rfl : i = len := by omega
      simp -implicitDefEqProofs only [lk_normal, hil, ZB, Int.reduceToNat, Nat.reduceLT, Nat.reduceLeDiff, Int.reduceLE, Int.reduceLT, Nat.reduceEqDiff, Nat.reduceSub, SB, SV.known, packR, ne_eq, reduceCtorEq, Nat.reduceEqDiff, ↓reduceIte, if_true, if_false, eq_self, Nat.reduceAdd, Nat.reduceMul, Nat.reduceSub, forall_const, oneCellS, Kd.isSca, flat, TYB]
      have ue : upto D u Q i 0 = X := by rw [← hX, ← upto_end, hl]
      rw [ue] at hj ⊢
      exact .inr ⟨3, c, j, rfl, rfl, by omega, by rw [flat_len]; omega; exact (fun y hy => by
        rcases List.mem_append.1 hy with hy | hy
        · exact hA y hy
        · exact (okR_nw (K := Q) (hX ▸ okR_suc hD hQ)).all24 y hy), by simp⟩
def l8Next_F : List SV → Heap → Nat → Nat → K1 → Prop
  | [.slice b 0 len cap, .arr D, .int u], H, n, _, κ => match hget H b with
    | some (.ints L _) => D.length = 6 ∧ ruF u = true ∧ L.length = cap * 24 ∧ 0 < len ∧ len ≤ 2000 ∧ ∃ Q J, L = Q.flatten ++ J ∧ Q.length = len ∧ okR D Q ∧ freshK .one (Q ++ nwL D u Q Q).flatten (Q ++ nwL D u Q Q).length 24 28 false H n κ
    | _ => False
  | _, _, _, _, _ => False
--@tbl l8Next = spec.l8Next
theorem l8Next_T : ∀ args H n m κ, l8Next_F args H n m κ → GenOK Try.prog 69 args H n m κ := by
  intro args H n m κ h
  unfold l8Next_F at h
  split at h
  · rename_i b len cap D u
    split at h
    · rename_i L e h1
      obtain ⟨hD, hu, hJ, h0, hsm, Q, J, rfl, hl, hQ, h⟩ := h
      exact gen_of_fresh ((l8Next_ok D u Q J e len cap hD hu hQ hl h0 hJ hsm).one h1 rfl) (fun k o hk => hk) h
    · exact h.elim
  · exact h.elim
end Go.Proofs.Ytfdpeenamkpcbaa
