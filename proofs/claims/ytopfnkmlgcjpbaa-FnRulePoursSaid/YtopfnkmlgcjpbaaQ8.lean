/- Texts of this claim, joined (RP1, Fin, FinS, FinB). -/
import Derived.Test.YtopfnkmlgcjpbaaQ1
import Derived.Test.YtopfnkmlgcjpbaaQ2
import Derived.Test.YtopfnkmlgcjpbaaQ3
import Derived.Test.YtopfnkmlgcjpbaaQ4
import Derived.Test.YtopfnkmlgcjpbaaQ5
import Derived.Test.YtopfnkmlgcjpbaaQ6
import Derived.Test.YtopfnkmlgcjpbaaQ7
import Derived.Test.YtopfnkmlgcjpbaaRows
import Derived.ProofKit
import Derived.OpenShut
set_option maxRecDepth 100000
set_option linter.unusedSimpArgs false
set_option linter.unusedVariables false
namespace Go.Proofs.Ytopfnkmlgcjpbaa
open Go Go.RowKit
theorem eqI_a5 : EqI Try.prog 57 5 := eqI_of (D := 2) (by omega) (eqA_ints (i := (Try.prog.info? 3).getD default) Try.underlying57 (by kernel_rfl) (by kernel_rfl) rfl Try.underlying3) (by kernel_rfl)
theorem pby_mov {R D : List Int} {u i j : Int} (h : pbyB R D u i j = true) : forB R D = true ∧ ruF u = true ∧ (0 ≤ i ∧ i ≤ 5) ∧ (0 ≤ j ∧ j ≤ 5) ∧ ¬ movF R D u i j = 0 := by
  unfold pbyB at h
  simp only [Bool.and_eq_true, Bool.not_eq_true', decide_eq_false_iff_not] at h
  exact ⟨h.1.1.1.1, h.1.1.1.2, of_decide_eq_true h.1.1.2, of_decide_eq_true h.1.2, h.2⟩
theorem pby_of {R D : List Int} {u i j : Int} (h1 : forB R D = true) (h2 : ruF u = true) (hi : 0 ≤ i ∧ i ≤ 5) (hj : 0 ≤ j ∧ j ≤ 5) (h : ¬ movF R D u i j = 0) : pbyB R D u i j = true := by
  unfold pbyB plF
  rw [h1, h2, decide_eq_true hi, decide_eq_true hj, decide_eq_false h]; rfl
theorem pby_u4 {R D : List Int} {u i j : Int} (hR : R.length = 24) (hD : D.length = 6) (h : pbyB R D u i j = true) : pbyB R D 4 i j = true := by
  obtain ⟨h1, h2, hi, hj, h3⟩ := pby_mov h
  refine pby_of h1 rfl hi hj fun h4 => ?_
  have hu : 1 ≤ u ∧ u ≤ 4 := of_decide_eq_true h2
  rcases mov_cases (i := i) (j := j) hR hD h1 hi hj with q | ⟨_, _, _, _, q, _⟩
  · rcases (show u = 1 ∨ u = 2 ∨ u = 3 ∨ u = 4 by omega) with rfl | rfl | rfl | rfl
    · exact h3 q.1
    · exact h3 q.2.1
    · exact h3 q.2.2.1
    · exact h3 q.2.2.2
  · omega
theorem pby_GL {R D : List Int} {u i j : Int} (hR : R.length = 24) (hD : D.length = 6) (h : pbyB R D u i j = true) : GL (pbB R D u) 36 ≠ [] := fun he => by
  obtain ⟨h1, h2, hi, hj, h3⟩ := pby_mov h
  have hb := (movF_bd (u := u) hR hD h1 hi hj).1
  have hc : pbB R D u i.toNat j.toNat = true := by
    unfold pbB
    rw [Int.toNat_of_nonneg hi.1, Int.toNat_of_nonneg hj.1]
    exact decide_eq_true (by omega)
  have := GL_in (n := 0) (show i.toNat < 6 by omega) (show j.toNat < 6 by omega) hc (by rw [he]; rfl) []
  rw [inP_zero] at this; cases this
theorem BytA.up {cv : SV} {H0 H : Heap} (hB : BytA cv H0) (h : ∀ o, hget H0 0 = some o → hget H 0 = some o) (hw : hwf 1 H0) : BytA cv H := by
  rcases hB with rfl | ⟨kc, off, len, cap, L, rfl, h1, h2⟩
  · exact .inl rfl
  · have hk := (hw _ _ h1).1
    obtain rfl : kc = 0 := by omega
    exact .inr ⟨0, off, len, cap, L, rfl, h _ h1, h2⟩
theorem pA {G j j' : List Int} {n : Nat} (h : G.length = n * 2) (hn : n ≤ 36) : n * 2 ≤ (G ++ j).length ∧ n * 2 ≤ (G ++ j').length ∧ List.take (n * 2) (G ++ j) = List.take (n * 2) (G ++ j') ∧ n ≤ 4611686018427387903 :=
  ⟨by rw [List.length_append]; omega, by rw [List.length_append]; omega, by rw [List.take_left' h, List.take_left' h], by omega⟩
theorem pB {G K j j' : List Int} {n k : Nat} (h : G.length = n * 2) (hK : K.length = k * 2) (hP : ∀ i, i < n → inP (K ++ j') k (((G ++ j).drop (i * 2)).take 2) = true) (hn : n ≤ 36) (hk : k ≤ 36) :
    n * 2 ≤ (G ++ j).length ∧ k * 2 ≤ (K ++ j').length ∧ (∀ i, i < n → inP (K ++ j') k (((G ++ j).drop (i * 2)).take 2) = true) ∧ n ≤ 4611686018427387903 ∧ k ≤ 4611686018427387903 :=
  ⟨by rw [List.length_append]; omega, by rw [List.length_append]; omega, hP, by omega, by omega⟩
set_option maxHeartbeats 4000000 in
theorem lawFnRulePours_vc (cv : SV) (H0 : Heap) (hB : BytA cv H0) (hrb : rBig_F [cv] H0 = some (True, .bool false)) (hkn : cv.known = true) (hw0 : hwf 1 H0) :
    codeVC (⟨Try.prog, tys, [(7, rBig_F), (26, PourBy_F), (27, sPourBy_F), (28, FitsDepths_F), (29, sFitsDepths_F), (11, IsRack_F), (30, isDepths_F), (31, CountRules_F), (32, sCountRules_F), (12, rPairs3_F), (42, rPart3_F), (37, DropsFor_F), (38, sDropsFor_F), (39, TurnBack_F), (40, sTurnBack_F), (23, Pour_F)], [(25, DrawPourBy_F), (33, CommonPours_F), (34, sCommonPours_F), (35, SamePours_F), (36, sSamePours_F), (41, PoursBy_F)], true, true, 1, [], []⟩ : Cx) 1 (Try.f4.body.getD .skip) (argS 0 [cv]) H0 1 (retK tys Try.f4.results.toList fun v _ _ => v = .bool true) := by
  have hkm := hkn
  simp only [SV.known] at hkm
  simp -implicitDefEqProofs only [Try.f4, Option.getD_some, argS, PourBy_F, sPourBy_F, FitsDepths_F, sFitsDepths_F, IsRack_F, isDepths_F, CountRules_F, sCountRules_F, rPairs3_F, rPart3_F, DropsFor_F, sDropsFor_F, TurnBack_F, sTurnBack_F, Pour_F, CommonPours_F, sCommonPours_F, SamePours_F, sSamePours_F, PoursBy_F, hrb, hkn, hkm, ZB, Int.reduceToNat, Nat.reduceLT, Nat.reduceLeDiff, Int.reduceLE, Int.reduceLT, Nat.reduceEqDiff, Nat.reduceSub, SB, SV.known, packR, ne_eq, reduceCtorEq, Nat.reduceEqDiff, ↓reduceIte, if_true, if_false, eq_self, Nat.reduceAdd, Nat.reduceMul, Nat.reduceSub, forall_const, oneCellS, litOne, flat1, Kd.isSca, flat, TYB]
  refine drawPB_use hB (Nat.le_refl _) fun R D u x y H' n' hR hRi hD hDi hu hx hy hK => ?_
  have tkR : R.take 24 = R := List.take_of_length_le (by omega)
  have tkD : D.take 6 = D := List.take_of_length_le (by omega)
  have r24 : List.take 24 (List.replicate 24 (0 : Int)) = List.replicate 24 0 := rfl
  have r5 : List.take 5 (List.replicate 5 (0 : Int)) = List.replicate 5 0 := rfl
  have z0 : 0 / 2 = 0 := rfl
  have hle := hK.le
  have lt := pbyT_len hR D u x y
  have tkt : (pbyT R D u x y).take 24 = pbyT R D u x y := List.take_of_length_le (by omega)
  have lb := tbT_len hR D x y
  have tkb : (tbT R D x y).take 24 = tbT R D x y := List.take_of_length_le (by omega)
  have lc := crlF_len R D
  have tkc : (crlF R D).take 5 = crlF R D := List.take_of_length_le (by omega)
  have tor : ∀ p, (True ∨ p) = True := true_or
  have fo : ∀ p, (False ∨ p) = p := false_or
  have e44 : ((((((List.replicate 6 (0 : Int)).set 0 4).set 1 4).set 2 4).set 3 4).set 4 4).set 5 4 = [4, 4, 4, 4, 4, 4] := rfl
  have eSet : ∀ a b c d : Int, (((((List.replicate 5 0).set 0 0).set 1 a).set 2 b).set 3 c).set 4 d = [0, a, b, c, d] := fun _ _ _ _ => rfl
  cases hf : forB R D
  · skip
    have p1 : pbyB R D 1 x y = false := by unfold pbyB; rw [hf]; rfl
    have pu : pbyB R D u x y = false := by unfold pbyB; rw [hf]; rfl
    have p4 : pbyB R D 4 x y = false := by unfold pbyB; rw [hf]; rfl
    have eC : comL R D = [] := by unfold comL; rw [hf]; rfl
    have eS : samL R D = [] := by unfold samL; rw [hf]; rfl
    have efd : fdF R D = false := hf
    cases hr : rackB R
    · have eB : fdB R D = false := by unfold fdB; rw [hr]; rfl
      simp -implicitDefEqProofs only [hr, eB, p1, pu, p4, eC, eS, rBig_F, PourBy_F, sPourBy_F, FitsDepths_F, sFitsDepths_F, IsRack_F, isDepths_F, CountRules_F, sCountRules_F, rPairs3_F, rPart3_F, DropsFor_F, sDropsFor_F, TurnBack_F, sTurnBack_F, Pour_F, CommonPours_F, sCommonPours_F, SamePours_F, sSamePours_F, PoursBy_F, freshK_nil, freshK_ne, freshK_f, Wrap.ap, hkm, hR, tkR, hD, tkD, r24, r5, z0, lt, tkt, lb, tkb, lc, tkc, hf, efd, tor, fo, eSet, e44, eqI_rack, eqI_a5, eqI_a6, Nat.add_assoc, add_self, self_add, add_add, List.getD_cons_zero, List.getD_cons_succ, ZB, Int.reduceToNat, Nat.reduceLT, Nat.reduceLeDiff, Int.reduceLE, Int.reduceLT, Nat.reduceEqDiff, Nat.reduceSub, SB, SV.known, packR, ne_eq, reduceCtorEq, Nat.reduceEqDiff, ↓reduceIte, if_true, if_false, eq_self, Nat.reduceAdd, Nat.reduceMul, Nat.reduceSub, forall_const, oneCellS, litOne, flat1, Kd.isSca, flat, TYB]
      exact ⟨hle, fun _ _ _ _ _ _ => trivial⟩
    · cases hd : D.all isDep
      · have eB : fdB R D = false := by unfold fdB; rw [hr, hd]; rfl
        simp -implicitDefEqProofs only [hr, hd, eB, p1, pu, p4, eC, eS, rBig_F, PourBy_F, sPourBy_F, FitsDepths_F, sFitsDepths_F, IsRack_F, isDepths_F, CountRules_F, sCountRules_F, rPairs3_F, rPart3_F, DropsFor_F, sDropsFor_F, TurnBack_F, sTurnBack_F, Pour_F, CommonPours_F, sCommonPours_F, SamePours_F, sSamePours_F, PoursBy_F, freshK_nil, freshK_ne, freshK_f, Wrap.ap, hkm, hR, tkR, hD, tkD, r24, r5, z0, lt, tkt, lb, tkb, lc, tkc, hf, efd, tor, fo, eSet, e44, eqI_rack, eqI_a5, eqI_a6, Nat.add_assoc, add_self, self_add, add_add, List.getD_cons_zero, List.getD_cons_succ, ZB, Int.reduceToNat, Nat.reduceLT, Nat.reduceLeDiff, Int.reduceLE, Int.reduceLT, Nat.reduceEqDiff, Nat.reduceSub, SB, SV.known, packR, ne_eq, reduceCtorEq, Nat.reduceEqDiff, ↓reduceIte, if_true, if_false, eq_self, Nat.reduceAdd, Nat.reduceMul, Nat.reduceSub, forall_const, oneCellS, litOne, flat1, Kd.isSca, flat, TYB]
        exact ⟨hle, fun _ _ _ _ _ _ => trivial⟩
      · have eB : fdB R D = true := by unfold fdB; rw [hr, hd]; rfl
        simp -implicitDefEqProofs only [hr, hd, eB, p1, pu, p4, eC, eS, rBig_F, PourBy_F, sPourBy_F, FitsDepths_F, sFitsDepths_F, IsRack_F, isDepths_F, CountRules_F, sCountRules_F, rPairs3_F, rPart3_F, DropsFor_F, sDropsFor_F, TurnBack_F, sTurnBack_F, Pour_F, CommonPours_F, sCommonPours_F, SamePours_F, sSamePours_F, PoursBy_F, freshK_nil, freshK_ne, freshK_f, Wrap.ap, hkm, hR, tkR, hD, tkD, r24, r5, z0, lt, tkt, lb, tkb, lc, tkc, hf, efd, tor, fo, eSet, e44, eqI_rack, eqI_a5, eqI_a6, Nat.add_assoc, add_self, self_add, add_add, List.getD_cons_zero, List.getD_cons_succ, ZB, Int.reduceToNat, Nat.reduceLT, Nat.reduceLeDiff, Int.reduceLE, Int.reduceLT, Nat.reduceEqDiff, Nat.reduceSub, SB, SV.known, packR, ne_eq, reduceCtorEq, Nat.reduceEqDiff, ↓reduceIte, if_true, if_false, eq_self, Nat.reduceAdd, Nat.reduceMul, Nat.reduceSub, forall_const, oneCellS, litOne, flat1, Kd.isSca, flat, TYB]
        exact ⟨hle, fun _ _ _ _ _ _ => trivial⟩
  · skip
    have ff := forB_facts hD hf
    have hr := ff.1
    have hd := ff.2.1
    have efd : fdF R D = true := hf
    have eB : fdB R D = true := by unfold fdB; rw [hr, hd]; rfl
    have ru1 : ruF 1 = true := rfl
    have ru2 : ruF 2 = true := rfl
    have ru3 : ruF 3 = true := rfl
    have ru4 : ruF 4 = true := rfl
    obtain ⟨G1, hG1⟩ : ∃ G, GL (pbB R D 1) 36 = G := ⟨_, rfl⟩
    obtain ⟨G3, hG3⟩ : ∃ G, GL (pbB R D 3) 36 = G := ⟨_, rfl⟩
    obtain ⟨G4, hG4⟩ : ∃ G, GL (pbB R D 4) 36 = G := ⟨_, rfl⟩
    obtain ⟨GS, hGS⟩ : ∃ G, GL (samD R D) 36 = G := ⟨_, rfl⟩
    have hG2 : GL (pbB R D 2) 36 = G1 := by rw [← hG1]; exact (GL_congr (fun i j hi hj => pb_12 hR hD hf i j hi hj) 36 (Nat.le_refl _)).symm
    have L1 : pbL R D 1 = G1 := by unfold pbL; rw [if_pos ⟨hf, ru1⟩, hG1]
    have L2 : pbL R D 2 = G1 := by unfold pbL; rw [if_pos ⟨hf, ru2⟩, hG2]
    have L3 : pbL R D 3 = G3 := by unfold pbL; rw [if_pos ⟨hf, ru3⟩, hG3]
    have L4 : pbL R D 4 = G4 := by unfold pbL; rw [if_pos ⟨hf, ru4⟩, hG4]
    have LC : comL R D = G3 := by unfold comL; rw [if_pos hf, ← hG3]; exact GL_congr (fun i j hi hj => com_3 hR hD hf i j hi hj) 36 (Nat.le_refl _)
    have LS : samL R D = GS := by unfold samL; rw [if_pos hf, hGS]
    obtain ⟨n1, hn1, q1⟩ := GL_even (pbB R D 1) 36
    obtain ⟨n3, hn3, q3⟩ := GL_even (pbB R D 3) 36
    obtain ⟨n4, hn4, q4⟩ := GL_even (pbB R D 4) 36
    obtain ⟨ns, hns, qs⟩ := GL_even (samD R D) 36
    have P31 := fun jc jd => GL_part (fun i j hi hj h => (pb_31 hR hD hf i j hi hj h).1) hn3 hn1 jc jd
    have P14 := fun jc jd => GL_part (fun i j hi hj h => pb_14 hR hD hf i j hi hj h) hn1 hn4 jc jd
    have PS3 := fun jc jd => GL_part (fun i j hi hj h => sam_3 i j h) hns hn3 jc jd
    have N14 := GL_sub_nil (fun i j hi hj h => pb_14 hR hD hf i j hi hj h)
    have N31 := GL_sub_nil (fun i j hi hj h => (pb_31 hR hD hf i j hi hj h).1)
    have NS3 := GL_sub_nil (c := samD R D) (d := pbB R D 3) (fun i j hi hj h => sam_3 i j h)
    have eCr := crl_eq hf
    rw [hG1, hG2, hG3, hG4] at eCr
    rw [hG1, hG3] at P31
    rw [hG1, hG4] at P14 N14
    rw [hG3, hG1] at N31
    rw [hG3, hGS] at PS3 NS3
    rw [hG1] at hn1
    rw [hG3] at hn3
    rw [hG4] at hn4
    rw [hGS] at hns
    have m1 : G1.length / 2 = n1 := by omega
    have m3 : G3.length / 2 = n3 := by omega
    have m4 : G4.length / 2 = n4 := by omega
    have ms : GS.length / 2 = ns := by omega
    rw [m1, m3, m4] at eCr
    have hu4 : pbyB R D u x y = true → pbyB R D 4 x y = true := pby_u4 hR hD
    have h14 : pbyB R D 1 x y = true → pbyB R D 4 x y = true := pby_u4 hR hD
    have g1 : pbyB R D 1 x y = true → G1 ≠ [] := fun h => by rw [← hG1]; exact pby_GL hR hD h
    have g4 : pbyB R D 4 x y = true → G4 ≠ [] := fun h => by rw [← hG4]; exact pby_GL hR hD h
    have tb1 : pbyB R D 4 x y = true → tbT R D x y = R := fun h => by unfold tbT; rw [if_pos h]
    have e5 : List.take 5 ([0, (n1 : Int), (n1 : Int), (n3 : Int), (n4 : Int)]) = [0, (n1 : Int), (n1 : Int), (n3 : Int), (n4 : Int)] := rfl
    by_cases e4 : G4 = []
    · skip
      have e1 : G1 = [] := N14 e4
      have e3 : G3 = [] := N31 e1
      have es : GS = [] := NS3 e3
      have w1 : n1 = 0 := by rw [e1] at hn1; simp at hn1; omega
      have w3 : n3 = 0 := by rw [e3] at hn3; simp at hn3; omega
      have w4 : n4 = 0 := by rw [e4] at hn4; simp at hn4; omega
      have ws : ns = 0 := by rw [es] at hns; simp at hns; omega
      subst w1 w3 w4 ws
      have hp1 : pbyB R D 1 x y = false := by
        cases h : pbyB R D 1 x y
        · rfl
        · exact absurd e1 (g1 h)
      have hp4 : pbyB R D 4 x y = false := by
        cases h : pbyB R D 4 x y
        · rfl
        · exact absurd e4 (g4 h)
      have hpu : pbyB R D u x y = false := by
        cases h : pbyB R D u x y
        · rfl
        · rw [hu4 h] at hp4; cases hp4
      simp -implicitDefEqProofs only [e1, e3, e4, es, hp1, hp4, hpu, hf, hr, hd, eB, ru1, ru2, ru3, ru4, hG1, hG3, L1, L2, L3, L4, LC, LS, m1, m3, m4, ms, eCr, rBig_F, PourBy_F, sPourBy_F, FitsDepths_F, sFitsDepths_F, IsRack_F, isDepths_F, CountRules_F, sCountRules_F, rPairs3_F, rPart3_F, DropsFor_F, sDropsFor_F, TurnBack_F, sTurnBack_F, Pour_F, CommonPours_F, sCommonPours_F, SamePours_F, sSamePours_F, PoursBy_F, freshK_nil, freshK_ne, freshK_f, Wrap.ap, hkm, hR, tkR, hD, tkD, r24, r5, z0, lt, tkt, lb, tkb, lc, tkc, hf, efd, tor, fo, eSet, e44, eqI_rack, eqI_a5, eqI_a6, Nat.add_assoc, add_self, self_add, add_add, List.getD_cons_zero, List.getD_cons_succ, ZB, Int.reduceToNat, Nat.reduceLT, Nat.reduceLeDiff, Int.reduceLE, Int.reduceLT, Nat.reduceEqDiff, Nat.reduceSub, SB, SV.known, packR, ne_eq, reduceCtorEq, Nat.reduceEqDiff, ↓reduceIte, if_true, if_false, eq_self, Nat.reduceAdd, Nat.reduceMul, Nat.reduceSub, forall_const, oneCellS, litOne, flat1, Kd.isSca, flat, TYB]
      exact ⟨hle, fun _ _ _ _ _ _ => trivial⟩
    · by_cases e1 : G1 = []
      · skip
        have e3 : G3 = [] := N31 e1
        have es : GS = [] := NS3 e3
        have w1 : n1 = 0 := by rw [e1] at hn1; simp at hn1; omega
        have w3 : n3 = 0 := by rw [e3] at hn3; simp at hn3; omega
        have ws : ns = 0 := by rw [es] at hns; simp at hns; omega
        subst w1 w3 ws
        have hp1 : pbyB R D 1 x y = false := by
          cases h : pbyB R D 1 x y
          · rfl
          · exact absurd e1 (g1 h)
        have e4' : (G4 = []) = False := eq_false e4
        cases hp4 : pbyB R D 4 x y
        · skip
          have hpu : pbyB R D u x y = false := by
            cases h : pbyB R D u x y
            · rfl
            · rw [hu4 h] at hp4; cases hp4
          simp -implicitDefEqProofs only [e1, e3, e4', es, hp1, hp4, hpu, hf, hr, hd, eB, ru1, ru2, ru3, ru4, hG1, hG3, L1, L2, L3, L4, LC, LS, m1, m3, m4, ms, eCr, rBig_F, PourBy_F, sPourBy_F, FitsDepths_F, sFitsDepths_F, IsRack_F, isDepths_F, CountRules_F, sCountRules_F, rPairs3_F, rPart3_F, DropsFor_F, sDropsFor_F, TurnBack_F, sTurnBack_F, Pour_F, CommonPours_F, sCommonPours_F, SamePours_F, sSamePours_F, PoursBy_F, freshK_nil, freshK_ne, freshK_f, Wrap.ap, hkm, hR, tkR, hD, tkD, r24, r5, z0, lt, tkt, lb, tkb, lc, tkc, hf, efd, tor, fo, eSet, e44, eqI_rack, eqI_a5, eqI_a6, Nat.add_assoc, add_self, self_add, add_add, List.getD_cons_zero, List.getD_cons_succ, ZB, Int.reduceToNat, Nat.reduceLT, Nat.reduceLeDiff, Int.reduceLE, Int.reduceLT, Nat.reduceEqDiff, Nat.reduceSub, SB, SV.known, packR, ne_eq, reduceCtorEq, Nat.reduceEqDiff, ↓reduceIte, if_true, if_false, eq_self, Nat.reduceAdd, Nat.reduceMul, Nat.reduceSub, forall_const, oneCellS, litOne, flat1, Kd.isSca, flat, TYB]
          exact ⟨hle, fun _ _ _ _ _ _ _ _ _ => trivial⟩
        · skip
          have tb := tb1 hp4
          cases hpu : pbyB R D u x y
          · skip
            simp -implicitDefEqProofs only [e1, e3, e4', es, hp1, hp4, hpu, tb, hf, hr, hd, eB, ru1, ru2, ru3, ru4, hG1, hG3, L1, L2, L3, L4, LC, LS, m1, m3, m4, ms, eCr, rBig_F, PourBy_F, sPourBy_F, FitsDepths_F, sFitsDepths_F, IsRack_F, isDepths_F, CountRules_F, sCountRules_F, rPairs3_F, rPart3_F, DropsFor_F, sDropsFor_F, TurnBack_F, sTurnBack_F, Pour_F, CommonPours_F, sCommonPours_F, SamePours_F, sSamePours_F, PoursBy_F, freshK_nil, freshK_ne, freshK_f, Wrap.ap, hkm, hR, tkR, hD, tkD, r24, r5, z0, lt, tkt, lb, tkb, lc, tkc, hf, efd, tor, fo, eSet, e44, eqI_rack, eqI_a5, eqI_a6, Nat.add_assoc, add_self, self_add, add_add, List.getD_cons_zero, List.getD_cons_succ, ZB, Int.reduceToNat, Nat.reduceLT, Nat.reduceLeDiff, Int.reduceLE, Int.reduceLT, Nat.reduceEqDiff, Nat.reduceSub, SB, SV.known, packR, ne_eq, reduceCtorEq, Nat.reduceEqDiff, ↓reduceIte, if_true, if_false, eq_self, Nat.reduceAdd, Nat.reduceMul, Nat.reduceSub, forall_const, oneCellS, litOne, flat1, Kd.isSca, flat, TYB]
            exact ⟨hle, fun _ _ _ _ _ _ _ _ _ => trivial⟩
          · skip
            have u1 : (u = 1) = False := eq_false fun h => by
              subst h
              rw [hp1] at hpu; cases hpu
            simp -implicitDefEqProofs only [e1, e3, e4', es, hp1, hp4, hpu, tb, u1, hf, hr, hd, eB, ru1, ru2, ru3, ru4, hG1, hG3, L1, L2, L3, L4, LC, LS, m1, m3, m4, ms, eCr, rBig_F, PourBy_F, sPourBy_F, FitsDepths_F, sFitsDepths_F, IsRack_F, isDepths_F, CountRules_F, sCountRules_F, rPairs3_F, rPart3_F, DropsFor_F, sDropsFor_F, TurnBack_F, sTurnBack_F, Pour_F, CommonPours_F, sCommonPours_F, SamePours_F, sSamePours_F, PoursBy_F, freshK_nil, freshK_ne, freshK_f, Wrap.ap, hkm, hR, tkR, hD, tkD, r24, r5, z0, lt, tkt, lb, tkb, lc, tkc, hf, efd, tor, fo, eSet, e44, eqI_rack, eqI_a5, eqI_a6, Nat.add_assoc, add_self, self_add, add_add, List.getD_cons_zero, List.getD_cons_succ, ZB, Int.reduceToNat, Nat.reduceLT, Nat.reduceLeDiff, Int.reduceLE, Int.reduceLT, Nat.reduceEqDiff, Nat.reduceSub, SB, SV.known, packR, ne_eq, reduceCtorEq, Nat.reduceEqDiff, ↓reduceIte, if_true, if_false, eq_self, Nat.reduceAdd, Nat.reduceMul, Nat.reduceSub, forall_const, oneCellS, litOne, flat1, Kd.isSca, flat, TYB]
            exact ⟨hle, fun _ _ _ _ _ _ _ _ _ => trivial⟩
      · by_cases e3 : G3 = []
        · skip
          have es : GS = [] := NS3 e3
          have w3 : n3 = 0 := by rw [e3] at hn3; simp at hn3; omega
          have ws : ns = 0 := by rw [es] at hns; simp at hns; omega
          subst w3 ws
          have e1' : (G1 = []) = False := eq_false e1
          have e4' : (G4 = []) = False := eq_false fun h => e1 (N14 h)
          cases hp4 : pbyB R D 4 x y
          · skip
            have hpu : pbyB R D u x y = false := by
              cases h : pbyB R D u x y
              · rfl
              · rw [hu4 h] at hp4; cases hp4
            have hp1 : pbyB R D 1 x y = false := by
              cases h : pbyB R D 1 x y
              · rfl
              · rw [h14 h] at hp4; cases hp4
            simp -implicitDefEqProofs only [e1', e3, e4', es, hp1, hp4, hpu, hf, hr, hd, eB, ru1, ru2, ru3, ru4, hG1, hG3, L1, L2, L3, L4, LC, LS, m1, m3, m4, ms, eCr, rBig_F, PourBy_F, sPourBy_F, FitsDepths_F, sFitsDepths_F, IsRack_F, isDepths_F, CountRules_F, sCountRules_F, rPairs3_F, rPart3_F, DropsFor_F, sDropsFor_F, TurnBack_F, sTurnBack_F, Pour_F, CommonPours_F, sCommonPours_F, SamePours_F, sSamePours_F, PoursBy_F, freshK_nil, freshK_ne, freshK_f, Wrap.ap, hkm, hR, tkR, hD, tkD, r24, r5, z0, lt, tkt, lb, tkb, lc, tkc, hf, efd, tor, fo, eSet, e44, eqI_rack, eqI_a5, eqI_a6, Nat.add_assoc, add_self, self_add, add_add, List.getD_cons_zero, List.getD_cons_succ, ZB, Int.reduceToNat, Nat.reduceLT, Nat.reduceLeDiff, Int.reduceLE, Int.reduceLT, Nat.reduceEqDiff, Nat.reduceSub, SB, SV.known, packR, ne_eq, reduceCtorEq, Nat.reduceEqDiff, ↓reduceIte, if_true, if_false, eq_self, Nat.reduceAdd, Nat.reduceMul, Nat.reduceSub, forall_const, oneCellS, litOne, flat1, Kd.isSca, flat, TYB]
            exact ⟨hle, fun _ _ _ _ _ _ _ _ _ _ _ _ _ _ _ _ _ _ => ⟨pA hn1 q1, pB hn1 hn4 (P14 _ _) q1 q4⟩⟩
          · skip
            have tb := tb1 hp4
            cases hp1 : pbyB R D 1 x y
            · skip
              cases hpu : pbyB R D u x y
              · skip
                simp -implicitDefEqProofs only [e1', e3, e4', es, hp1, hp4, hpu, tb, hf, hr, hd, eB, ru1, ru2, ru3, ru4, hG1, hG3, L1, L2, L3, L4, LC, LS, m1, m3, m4, ms, eCr, rBig_F, PourBy_F, sPourBy_F, FitsDepths_F, sFitsDepths_F, IsRack_F, isDepths_F, CountRules_F, sCountRules_F, rPairs3_F, rPart3_F, DropsFor_F, sDropsFor_F, TurnBack_F, sTurnBack_F, Pour_F, CommonPours_F, sCommonPours_F, SamePours_F, sSamePours_F, PoursBy_F, freshK_nil, freshK_ne, freshK_f, Wrap.ap, hkm, hR, tkR, hD, tkD, r24, r5, z0, lt, tkt, lb, tkb, lc, tkc, hf, efd, tor, fo, eSet, e44, eqI_rack, eqI_a5, eqI_a6, Nat.add_assoc, add_self, self_add, add_add, List.getD_cons_zero, List.getD_cons_succ, ZB, Int.reduceToNat, Nat.reduceLT, Nat.reduceLeDiff, Int.reduceLE, Int.reduceLT, Nat.reduceEqDiff, Nat.reduceSub, SB, SV.known, packR, ne_eq, reduceCtorEq, Nat.reduceEqDiff, ↓reduceIte, if_true, if_false, eq_self, Nat.reduceAdd, Nat.reduceMul, Nat.reduceSub, forall_const, oneCellS, litOne, flat1, Kd.isSca, flat, TYB]
                exact ⟨hle, fun _ _ _ _ _ _ _ _ _ _ _ _ _ _ _ _ _ _ => ⟨pA hn1 q1, pB hn1 hn4 (P14 _ _) q1 q4⟩⟩
              · skip
                have u1 : (u = 1) = False := eq_false fun h => by
                  subst h
                  rw [hp1] at hpu; cases hpu
                simp -implicitDefEqProofs only [e1', e3, e4', es, hp1, hp4, hpu, tb, u1, hf, hr, hd, eB, ru1, ru2, ru3, ru4, hG1, hG3, L1, L2, L3, L4, LC, LS, m1, m3, m4, ms, eCr, rBig_F, PourBy_F, sPourBy_F, FitsDepths_F, sFitsDepths_F, IsRack_F, isDepths_F, CountRules_F, sCountRules_F, rPairs3_F, rPart3_F, DropsFor_F, sDropsFor_F, TurnBack_F, sTurnBack_F, Pour_F, CommonPours_F, sCommonPours_F, SamePours_F, sSamePours_F, PoursBy_F, freshK_nil, freshK_ne, freshK_f, Wrap.ap, hkm, hR, tkR, hD, tkD, r24, r5, z0, lt, tkt, lb, tkb, lc, tkc, hf, efd, tor, fo, eSet, e44, eqI_rack, eqI_a5, eqI_a6, Nat.add_assoc, add_self, self_add, add_add, List.getD_cons_zero, List.getD_cons_succ, ZB, Int.reduceToNat, Nat.reduceLT, Nat.reduceLeDiff, Int.reduceLE, Int.reduceLT, Nat.reduceEqDiff, Nat.reduceSub, SB, SV.known, packR, ne_eq, reduceCtorEq, Nat.reduceEqDiff, ↓reduceIte, if_true, if_false, eq_self, Nat.reduceAdd, Nat.reduceMul, Nat.reduceSub, forall_const, oneCellS, litOne, flat1, Kd.isSca, flat, TYB]
                exact ⟨hle, fun _ _ _ _ _ _ _ _ _ _ _ _ _ _ _ _ _ _ => ⟨pA hn1 q1, pB hn1 hn4 (P14 _ _) q1 q4⟩⟩
            · skip
              obtain ⟨b1, b2, bx, by_, b3⟩ := pby_mov hp1
              have bd := (movF_bd (u := 1) hR hD hf bx by_)
              obtain ⟨M, hM⟩ : ∃ M : Nat, movF R D 1 x y = M := ⟨(movF R D 1 x y).toNat, by omega⟩
              have M4 : M ≤ 4 := by omega
              have eN1 : pbyN R D 1 x y = (M : Int) := by unfold pbyN; rw [if_pos hp1, hM]
              have eT1 : pbyT R D 1 x y = mvR R x.toNat y.toNat M := by unfold pbyT; rw [if_pos hp1, hM, Int.toNat_natCast]
              have lm : ∀ k, (mvR R x.toNat y.toNat k).length = 24 := fun k => by rw [mvR_len, hR]
              have tkm : ∀ k, (mvR R x.toNat y.toNat k).take 24 = mvR R x.toNat y.toNat k := fun k => List.take_of_length_le (by rw [lm]; omega)
              have dkm : ∀ k, (mvR R x.toNat y.toNat k).drop 24 = [] := fun k => List.drop_eq_nil_of_le (by rw [lm]; omega)
              have mz : mvR R x.toNat y.toNat 0 = R := rfl
              cases hpu : pbyB R D u x y
              · skip
                simp -implicitDefEqProofs only [e1', e3, e4', es, hp1, hp4, hpu, tb, eN1, eT1, lm, tkm, hf, hr, hd, eB, ru1, ru2, ru3, ru4, hG1, hG3, L1, L2, L3, L4, LC, LS, m1, m3, m4, ms, eCr, rBig_F, PourBy_F, sPourBy_F, FitsDepths_F, sFitsDepths_F, IsRack_F, isDepths_F, CountRules_F, sCountRules_F, rPairs3_F, rPart3_F, DropsFor_F, sDropsFor_F, TurnBack_F, sTurnBack_F, Pour_F, CommonPours_F, sCommonPours_F, SamePours_F, sSamePours_F, PoursBy_F, freshK_nil, freshK_ne, freshK_f, Wrap.ap, hkm, hR, tkR, hD, tkD, r24, r5, z0, lt, tkt, lb, tkb, lc, tkc, hf, efd, tor, fo, eSet, e44, eqI_rack, eqI_a5, eqI_a6, Nat.add_assoc, add_self, self_add, add_add, List.getD_cons_zero, List.getD_cons_succ, ZB, Int.reduceToNat, Nat.reduceLT, Nat.reduceLeDiff, Int.reduceLE, Int.reduceLT, Nat.reduceEqDiff, Nat.reduceSub, SB, SV.known, packR, ne_eq, reduceCtorEq, Nat.reduceEqDiff, ↓reduceIte, if_true, if_false, eq_self, Nat.reduceAdd, Nat.reduceMul, Nat.reduceSub, forall_const, oneCellS, litOne, flat1, Kd.isSca, flat, TYB]
                refine ⟨hle, fun _ _ _ _ _ _ _ _ _ _ _ _ _ _ _ _ _ _ => ⟨pA hn1 q1, pB hn1 hn4 (P14 _ _) q1 q4, ?_⟩⟩
                refine loop_intro (fun k : Nat => [(50, .int k), (49, .ptr (n' + 15) 0), (48, .bool true), (46, .ptr (n' + 14) 0), (30, .int M), (5, .int u), (6, .int x), (7, .int y), (3, .ptr n' 0), (4, .ptr (n' + 1) 0), (8, .ptr (n' + 2) 0), (9, .int (pbyN R D u x y)), (10, .bool false)])
                  (fun k => [(n' + 15, .ints (mvR R x.toNat y.toNat k) 27), (n' + 14, .ints (mvR R x.toNat y.toNat M) 27), (n' + 2, .ints (pbyT R D u x y) 27), (n' + 1, .ints D 51), (n', .ints R 27)]) (n' + 16) (fun k => k ≤ M) (fun k => M - k) ?_ ?_
                · refine ⟨0, Nat.zero_le _, Sub.mk_id ?_ ?_ ?_ ?_ ?_⟩
                  all_goals (simp only [mz, add_self, self_add, add_add, LB, subS, subH, wfS, wfH, SV.ren, renL, SObj.ren, SV.wf, SObj.wf, wfL, SV.known, Nat.reduceEqDiff, ↓reduceIte, if_true, if_false, eq_self, Nat.reduceAdd, Nat.reduceLT, Nat.reduceLeDiff, implies_true, reduceCtorEq, forall_const]; try simp)
                · intro k hk
                  by_cases hkM : k < M
                  · obtain ⟨d1, d2, d3⟩ := drop_step hR hD hf bx by_ (k := k) (by omega)
                    have dp : pbyB (mvR R x.toNat y.toNat k) D 2 x y = true := pby_of d1 rfl bx by_ (by omega)
                    have dn : pbyN (mvR R x.toNat y.toNat k) D 2 x y = 1 := by unfold pbyN; rw [if_pos dp, d2]
                    have dt : pbyT (mvR R x.toNat y.toNat k) D 2 x y = mvR R x.toNat y.toNat (k + 1) := by unfold pbyT; rw [if_pos dp, d2]; exact d3
                    have hkl : (k : Int) < M := by omega
                    simp -implicitDefEqProofs only [lk_normal, hkl, dp, dn, dt, lm, tkm, dkm, hf, hr, hd, eB, ru1, ru2, ru3, ru4, hG1, hG3, L1, L2, L3, L4, LC, LS, m1, m3, m4, ms, eCr, rBig_F, PourBy_F, sPourBy_F, FitsDepths_F, sFitsDepths_F, IsRack_F, isDepths_F, CountRules_F, sCountRules_F, rPairs3_F, rPart3_F, DropsFor_F, sDropsFor_F, TurnBack_F, sTurnBack_F, Pour_F, CommonPours_F, sCommonPours_F, SamePours_F, sSamePours_F, PoursBy_F, freshK_nil, freshK_ne, freshK_f, Wrap.ap, hkm, hR, tkR, hD, tkD, r24, r5, z0, lt, tkt, lb, tkb, lc, tkc, hf, efd, tor, fo, eSet, e44, eqI_rack, eqI_a5, eqI_a6, Nat.add_assoc, add_self, self_add, add_add, List.getD_cons_zero, List.getD_cons_succ, ZB, Int.reduceToNat, Nat.reduceLT, Nat.reduceLeDiff, Int.reduceLE, Int.reduceLT, Nat.reduceEqDiff, Nat.reduceSub, SB, SV.known, packR, ne_eq, reduceCtorEq, Nat.reduceEqDiff, ↓reduceIte, if_true, if_false, eq_self, Nat.reduceAdd, Nat.reduceMul, Nat.reduceSub, forall_const, oneCellS, litOne, flat1, Kd.isSca, flat, TYB]
                    refine ⟨by unfold In64; omega, k + 1, by omega, by omega, Sub.mk_id ?_ ?_ ?_ ?_ ?_⟩
                    all_goals (simp only [add_self, self_add, add_add, LB, subS, subH, wfS, wfH, SV.ren, renL, SObj.ren, SV.wf, SObj.wf, wfL, SV.known, Nat.reduceEqDiff, ↓reduceIte, if_true, if_false, eq_self, Nat.reduceAdd, Nat.reduceLT, Nat.reduceLeDiff, implies_true, reduceCtorEq, forall_const]; try simp)
                  · obtain rfl : k = M := by omega
                    simp -implicitDefEqProofs only [lk_normal, Int.lt_irrefl, lm, tkm, hf, hr, hd, eB, ru1, ru2, ru3, ru4, hG1, hG3, L1, L2, L3, L4, LC, LS, m1, m3, m4, ms, eCr, rBig_F, PourBy_F, sPourBy_F, FitsDepths_F, sFitsDepths_F, IsRack_F, isDepths_F, CountRules_F, sCountRules_F, rPairs3_F, rPart3_F, DropsFor_F, sDropsFor_F, TurnBack_F, sTurnBack_F, Pour_F, CommonPours_F, sCommonPours_F, SamePours_F, sSamePours_F, PoursBy_F, freshK_nil, freshK_ne, freshK_f, Wrap.ap, hkm, hR, tkR, hD, tkD, r24, r5, z0, lt, tkt, lb, tkb, lc, tkc, hf, efd, tor, fo, eSet, e44, eqI_rack, eqI_a5, eqI_a6, Nat.add_assoc, add_self, self_add, add_add, List.getD_cons_zero, List.getD_cons_succ, ZB, Int.reduceToNat, Nat.reduceLT, Nat.reduceLeDiff, Int.reduceLE, Int.reduceLT, Nat.reduceEqDiff, Nat.reduceSub, SB, SV.known, packR, ne_eq, reduceCtorEq, Nat.reduceEqDiff, ↓reduceIte, if_true, if_false, eq_self, Nat.reduceAdd, Nat.reduceMul, Nat.reduceSub, forall_const, oneCellS, litOne, flat1, Kd.isSca, flat, TYB]
              · skip
                simp -implicitDefEqProofs only [e1', e3, e4', es, hp1, hp4, hpu, tb, eN1, eT1, lm, tkm, hf, hr, hd, eB, ru1, ru2, ru3, ru4, hG1, hG3, L1, L2, L3, L4, LC, LS, m1, m3, m4, ms, eCr, rBig_F, PourBy_F, sPourBy_F, FitsDepths_F, sFitsDepths_F, IsRack_F, isDepths_F, CountRules_F, sCountRules_F, rPairs3_F, rPart3_F, DropsFor_F, sDropsFor_F, TurnBack_F, sTurnBack_F, Pour_F, CommonPours_F, sCommonPours_F, SamePours_F, sSamePours_F, PoursBy_F, freshK_nil, freshK_ne, freshK_f, Wrap.ap, hkm, hR, tkR, hD, tkD, r24, r5, z0, lt, tkt, lb, tkb, lc, tkc, hf, efd, tor, fo, eSet, e44, eqI_rack, eqI_a5, eqI_a6, Nat.add_assoc, add_self, self_add, add_add, List.getD_cons_zero, List.getD_cons_succ, ZB, Int.reduceToNat, Nat.reduceLT, Nat.reduceLeDiff, Int.reduceLE, Int.reduceLT, Nat.reduceEqDiff, Nat.reduceSub, SB, SV.known, packR, ne_eq, reduceCtorEq, Nat.reduceEqDiff, ↓reduceIte, if_true, if_false, eq_self, Nat.reduceAdd, Nat.reduceMul, Nat.reduceSub, forall_const, oneCellS, litOne, flat1, Kd.isSca, flat, TYB]
                refine ⟨hle, fun _ _ _ _ _ _ _ _ _ _ _ _ _ _ _ _ _ _ => ⟨pA hn1 q1, pB hn1 hn4 (P14 _ _) q1 q4, ?_⟩⟩
                refine loop_intro (fun k : Nat => [(50, .int k), (49, .ptr (n' + 15) 0), (48, .bool true), (46, .ptr (n' + 14) 0), (30, .int M), (5, .int u), (6, .int x), (7, .int y), (3, .ptr n' 0), (4, .ptr (n' + 1) 0), (8, .ptr (n' + 2) 0), (9, .int (pbyN R D u x y)), (10, .bool true)])
                  (fun k => [(n' + 15, .ints (mvR R x.toNat y.toNat k) 27), (n' + 14, .ints (mvR R x.toNat y.toNat M) 27), (n' + 2, .ints (pbyT R D u x y) 27), (n' + 1, .ints D 51), (n', .ints R 27)]) (n' + 16) (fun k => k ≤ M) (fun k => M - k) ?_ ?_
                · refine ⟨0, Nat.zero_le _, Sub.mk_id ?_ ?_ ?_ ?_ ?_⟩
                  all_goals (simp only [mz, add_self, self_add, add_add, LB, subS, subH, wfS, wfH, SV.ren, renL, SObj.ren, SV.wf, SObj.wf, wfL, SV.known, Nat.reduceEqDiff, ↓reduceIte, if_true, if_false, eq_self, Nat.reduceAdd, Nat.reduceLT, Nat.reduceLeDiff, implies_true, reduceCtorEq, forall_const]; try simp)
                · intro k hk
                  by_cases hkM : k < M
                  · obtain ⟨d1, d2, d3⟩ := drop_step hR hD hf bx by_ (k := k) (by omega)
                    have dp : pbyB (mvR R x.toNat y.toNat k) D 2 x y = true := pby_of d1 rfl bx by_ (by omega)
                    have dn : pbyN (mvR R x.toNat y.toNat k) D 2 x y = 1 := by unfold pbyN; rw [if_pos dp, d2]
                    have dt : pbyT (mvR R x.toNat y.toNat k) D 2 x y = mvR R x.toNat y.toNat (k + 1) := by unfold pbyT; rw [if_pos dp, d2]; exact d3
                    have hkl : (k : Int) < M := by omega
                    simp -implicitDefEqProofs only [lk_normal, hkl, dp, dn, dt, lm, tkm, dkm, hf, hr, hd, eB, ru1, ru2, ru3, ru4, hG1, hG3, L1, L2, L3, L4, LC, LS, m1, m3, m4, ms, eCr, rBig_F, PourBy_F, sPourBy_F, FitsDepths_F, sFitsDepths_F, IsRack_F, isDepths_F, CountRules_F, sCountRules_F, rPairs3_F, rPart3_F, DropsFor_F, sDropsFor_F, TurnBack_F, sTurnBack_F, Pour_F, CommonPours_F, sCommonPours_F, SamePours_F, sSamePours_F, PoursBy_F, freshK_nil, freshK_ne, freshK_f, Wrap.ap, hkm, hR, tkR, hD, tkD, r24, r5, z0, lt, tkt, lb, tkb, lc, tkc, hf, efd, tor, fo, eSet, e44, eqI_rack, eqI_a5, eqI_a6, Nat.add_assoc, add_self, self_add, add_add, List.getD_cons_zero, List.getD_cons_succ, ZB, Int.reduceToNat, Nat.reduceLT, Nat.reduceLeDiff, Int.reduceLE, Int.reduceLT, Nat.reduceEqDiff, Nat.reduceSub, SB, SV.known, packR, ne_eq, reduceCtorEq, Nat.reduceEqDiff, ↓reduceIte, if_true, if_false, eq_self, Nat.reduceAdd, Nat.reduceMul, Nat.reduceSub, forall_const, oneCellS, litOne, flat1, Kd.isSca, flat, TYB]
                    refine ⟨by unfold In64; omega, k + 1, by omega, by omega, Sub.mk_id ?_ ?_ ?_ ?_ ?_⟩
                    all_goals (simp only [add_self, self_add, add_add, LB, subS, subH, wfS, wfH, SV.ren, renL, SObj.ren, SV.wf, SObj.wf, wfL, SV.known, Nat.reduceEqDiff, ↓reduceIte, if_true, if_false, eq_self, Nat.reduceAdd, Nat.reduceLT, Nat.reduceLeDiff, implies_true, reduceCtorEq, forall_const]; try simp)
                  · obtain rfl : k = M := by omega
                    by_cases hu1 : u = 1
                    · by_cases hD4 : D = [4, 4, 4, 4, 4, 4]
                      · have hq := hpu
                        rw [hu1, hD4] at hq
                        obtain ⟨r1, r2, r3⟩ := rule_plain hR hq
                        rw [← hD4, ← hu1] at r2 r3
                        have hu1' : (u = 1) = True := eq_true hu1
                        have hD4' : (D = [4, 4, 4, 4, 4, 4]) = True := eq_true hD4
                        simp -implicitDefEqProofs only [lk_normal, Int.lt_irrefl, lm, tkm, hu1', hD4', r1, r2, r3, hf, hr, hd, eB, ru1, ru2, ru3, ru4, hG1, hG3, L1, L2, L3, L4, LC, LS, m1, m3, m4, ms, eCr, rBig_F, PourBy_F, sPourBy_F, FitsDepths_F, sFitsDepths_F, IsRack_F, isDepths_F, CountRules_F, sCountRules_F, rPairs3_F, rPart3_F, DropsFor_F, sDropsFor_F, TurnBack_F, sTurnBack_F, Pour_F, CommonPours_F, sCommonPours_F, SamePours_F, sSamePours_F, PoursBy_F, freshK_nil, freshK_ne, freshK_f, Wrap.ap, hkm, hR, tkR, hD, tkD, r24, r5, z0, lt, tkt, lb, tkb, lc, tkc, hf, efd, tor, fo, eSet, e44, eqI_rack, eqI_a5, eqI_a6, Nat.add_assoc, add_self, self_add, add_add, List.getD_cons_zero, List.getD_cons_succ, ZB, Int.reduceToNat, Nat.reduceLT, Nat.reduceLeDiff, Int.reduceLE, Int.reduceLT, Nat.reduceEqDiff, Nat.reduceSub, SB, SV.known, packR, ne_eq, reduceCtorEq, Nat.reduceEqDiff, ↓reduceIte, if_true, if_false, eq_self, Nat.reduceAdd, Nat.reduceMul, Nat.reduceSub, forall_const, oneCellS, litOne, flat1, Kd.isSca, flat, TYB]
                      · have hu1' : (u = 1) = True := eq_true hu1
                        simp -implicitDefEqProofs only [lk_normal, Int.lt_irrefl, lm, tkm, hu1', hD4, hf, hr, hd, eB, ru1, ru2, ru3, ru4, hG1, hG3, L1, L2, L3, L4, LC, LS, m1, m3, m4, ms, eCr, rBig_F, PourBy_F, sPourBy_F, FitsDepths_F, sFitsDepths_F, IsRack_F, isDepths_F, CountRules_F, sCountRules_F, rPairs3_F, rPart3_F, DropsFor_F, sDropsFor_F, TurnBack_F, sTurnBack_F, Pour_F, CommonPours_F, sCommonPours_F, SamePours_F, sSamePours_F, PoursBy_F, freshK_nil, freshK_ne, freshK_f, Wrap.ap, hkm, hR, tkR, hD, tkD, r24, r5, z0, lt, tkt, lb, tkb, lc, tkc, hf, efd, tor, fo, eSet, e44, eqI_rack, eqI_a5, eqI_a6, Nat.add_assoc, add_self, self_add, add_add, List.getD_cons_zero, List.getD_cons_succ, ZB, Int.reduceToNat, Nat.reduceLT, Nat.reduceLeDiff, Int.reduceLE, Int.reduceLT, Nat.reduceEqDiff, Nat.reduceSub, SB, SV.known, packR, ne_eq, reduceCtorEq, Nat.reduceEqDiff, ↓reduceIte, if_true, if_false, eq_self, Nat.reduceAdd, Nat.reduceMul, Nat.reduceSub, forall_const, oneCellS, litOne, flat1, Kd.isSca, flat, TYB]
                    · simp -implicitDefEqProofs only [lk_normal, Int.lt_irrefl, lm, tkm, hu1, hf, hr, hd, eB, ru1, ru2, ru3, ru4, hG1, hG3, L1, L2, L3, L4, LC, LS, m1, m3, m4, ms, eCr, rBig_F, PourBy_F, sPourBy_F, FitsDepths_F, sFitsDepths_F, IsRack_F, isDepths_F, CountRules_F, sCountRules_F, rPairs3_F, rPart3_F, DropsFor_F, sDropsFor_F, TurnBack_F, sTurnBack_F, Pour_F, CommonPours_F, sCommonPours_F, SamePours_F, sSamePours_F, PoursBy_F, freshK_nil, freshK_ne, freshK_f, Wrap.ap, hkm, hR, tkR, hD, tkD, r24, r5, z0, lt, tkt, lb, tkb, lc, tkc, hf, efd, tor, fo, eSet, e44, eqI_rack, eqI_a5, eqI_a6, Nat.add_assoc, add_self, self_add, add_add, List.getD_cons_zero, List.getD_cons_succ, ZB, Int.reduceToNat, Nat.reduceLT, Nat.reduceLeDiff, Int.reduceLE, Int.reduceLT, Nat.reduceEqDiff, Nat.reduceSub, SB, SV.known, packR, ne_eq, reduceCtorEq, Nat.reduceEqDiff, ↓reduceIte, if_true, if_false, eq_self, Nat.reduceAdd, Nat.reduceMul, Nat.reduceSub, forall_const, oneCellS, litOne, flat1, Kd.isSca, flat, TYB]
        · skip
          have e1' : (G1 = []) = False := eq_false e1
          have e3' : (G3 = []) = False := eq_false e3
          have e4' : (G4 = []) = False := eq_false fun h => e1 (N14 h)
          cases hp4 : pbyB R D 4 x y
          · skip
            have hpu : pbyB R D u x y = false := by
              cases h : pbyB R D u x y
              · rfl
              · rw [hu4 h] at hp4; cases hp4
            have hp1 : pbyB R D 1 x y = false := by
              cases h : pbyB R D 1 x y
              · rfl
              · rw [h14 h] at hp4; cases hp4
            simp -implicitDefEqProofs only [e1', e3', e4', hp1, hp4, hpu, hf, hr, hd, eB, ru1, ru2, ru3, ru4, hG1, hG3, L1, L2, L3, L4, LC, LS, m1, m3, m4, ms, eCr, rBig_F, PourBy_F, sPourBy_F, FitsDepths_F, sFitsDepths_F, IsRack_F, isDepths_F, CountRules_F, sCountRules_F, rPairs3_F, rPart3_F, DropsFor_F, sDropsFor_F, TurnBack_F, sTurnBack_F, Pour_F, CommonPours_F, sCommonPours_F, SamePours_F, sSamePours_F, PoursBy_F, freshK_nil, freshK_ne, freshK_f, Wrap.ap, hkm, hR, tkR, hD, tkD, r24, r5, z0, lt, tkt, lb, tkb, lc, tkc, hf, efd, tor, fo, eSet, e44, eqI_rack, eqI_a5, eqI_a6, Nat.add_assoc, add_self, self_add, add_add, List.getD_cons_zero, List.getD_cons_succ, ZB, Int.reduceToNat, Nat.reduceLT, Nat.reduceLeDiff, Int.reduceLE, Int.reduceLT, Nat.reduceEqDiff, Nat.reduceSub, SB, SV.known, packR, ne_eq, reduceCtorEq, Nat.reduceEqDiff, ↓reduceIte, if_true, if_false, eq_self, Nat.reduceAdd, Nat.reduceMul, Nat.reduceSub, forall_const, oneCellS, litOne, flat1, Kd.isSca, flat, TYB]
            exact ⟨hle, fun _ _ _ _ _ _ => ⟨pA hn3 q3, fun _ _ _ _ _ _ => ⟨pA hns qs, fun _ _ _ _ _ _ _ _ _ _ _ _ => ⟨pA hn1 q1, pB hn3 hn1 (P31 _ _) q3 q1, pB hn1 hn4 (P14 _ _) q1 q4, pA hn3 q3, pB hns hn3 (PS3 _ _) qs q3⟩⟩⟩⟩
          · skip
            have tb := tb1 hp4
            cases hp1 : pbyB R D 1 x y
            · skip
              cases hpu : pbyB R D u x y
              · skip
                simp -implicitDefEqProofs only [e1', e3', e4', hp1, hp4, hpu, tb, hf, hr, hd, eB, ru1, ru2, ru3, ru4, hG1, hG3, L1, L2, L3, L4, LC, LS, m1, m3, m4, ms, eCr, rBig_F, PourBy_F, sPourBy_F, FitsDepths_F, sFitsDepths_F, IsRack_F, isDepths_F, CountRules_F, sCountRules_F, rPairs3_F, rPart3_F, DropsFor_F, sDropsFor_F, TurnBack_F, sTurnBack_F, Pour_F, CommonPours_F, sCommonPours_F, SamePours_F, sSamePours_F, PoursBy_F, freshK_nil, freshK_ne, freshK_f, Wrap.ap, hkm, hR, tkR, hD, tkD, r24, r5, z0, lt, tkt, lb, tkb, lc, tkc, hf, efd, tor, fo, eSet, e44, eqI_rack, eqI_a5, eqI_a6, Nat.add_assoc, add_self, self_add, add_add, List.getD_cons_zero, List.getD_cons_succ, ZB, Int.reduceToNat, Nat.reduceLT, Nat.reduceLeDiff, Int.reduceLE, Int.reduceLT, Nat.reduceEqDiff, Nat.reduceSub, SB, SV.known, packR, ne_eq, reduceCtorEq, Nat.reduceEqDiff, ↓reduceIte, if_true, if_false, eq_self, Nat.reduceAdd, Nat.reduceMul, Nat.reduceSub, forall_const, oneCellS, litOne, flat1, Kd.isSca, flat, TYB]
                exact ⟨hle, fun _ _ _ _ _ _ => ⟨pA hn3 q3, fun _ _ _ _ _ _ => ⟨pA hns qs, fun _ _ _ _ _ _ _ _ _ _ _ _ => ⟨pA hn1 q1, pB hn3 hn1 (P31 _ _) q3 q1, pB hn1 hn4 (P14 _ _) q1 q4, pA hn3 q3, pB hns hn3 (PS3 _ _) qs q3⟩⟩⟩⟩
              · skip
                have u1 : (u = 1) = False := eq_false fun h => by
                  subst h
                  rw [hp1] at hpu; cases hpu
                simp -implicitDefEqProofs only [e1', e3', e4', hp1, hp4, hpu, tb, u1, hf, hr, hd, eB, ru1, ru2, ru3, ru4, hG1, hG3, L1, L2, L3, L4, LC, LS, m1, m3, m4, ms, eCr, rBig_F, PourBy_F, sPourBy_F, FitsDepths_F, sFitsDepths_F, IsRack_F, isDepths_F, CountRules_F, sCountRules_F, rPairs3_F, rPart3_F, DropsFor_F, sDropsFor_F, TurnBack_F, sTurnBack_F, Pour_F, CommonPours_F, sCommonPours_F, SamePours_F, sSamePours_F, PoursBy_F, freshK_nil, freshK_ne, freshK_f, Wrap.ap, hkm, hR, tkR, hD, tkD, r24, r5, z0, lt, tkt, lb, tkb, lc, tkc, hf, efd, tor, fo, eSet, e44, eqI_rack, eqI_a5, eqI_a6, Nat.add_assoc, add_self, self_add, add_add, List.getD_cons_zero, List.getD_cons_succ, ZB, Int.reduceToNat, Nat.reduceLT, Nat.reduceLeDiff, Int.reduceLE, Int.reduceLT, Nat.reduceEqDiff, Nat.reduceSub, SB, SV.known, packR, ne_eq, reduceCtorEq, Nat.reduceEqDiff, ↓reduceIte, if_true, if_false, eq_self, Nat.reduceAdd, Nat.reduceMul, Nat.reduceSub, forall_const, oneCellS, litOne, flat1, Kd.isSca, flat, TYB]
                exact ⟨hle, fun _ _ _ _ _ _ => ⟨pA hn3 q3, fun _ _ _ _ _ _ => ⟨pA hns qs, fun _ _ _ _ _ _ _ _ _ _ _ _ => ⟨pA hn1 q1, pB hn3 hn1 (P31 _ _) q3 q1, pB hn1 hn4 (P14 _ _) q1 q4, pA hn3 q3, pB hns hn3 (PS3 _ _) qs q3⟩⟩⟩⟩
            · skip
              obtain ⟨b1, b2, bx, by_, b3⟩ := pby_mov hp1
              have bd := (movF_bd (u := 1) hR hD hf bx by_)
              obtain ⟨M, hM⟩ : ∃ M : Nat, movF R D 1 x y = M := ⟨(movF R D 1 x y).toNat, by omega⟩
              have M4 : M ≤ 4 := by omega
              have eN1 : pbyN R D 1 x y = (M : Int) := by unfold pbyN; rw [if_pos hp1, hM]
              have eT1 : pbyT R D 1 x y = mvR R x.toNat y.toNat M := by unfold pbyT; rw [if_pos hp1, hM, Int.toNat_natCast]
              have lm : ∀ k, (mvR R x.toNat y.toNat k).length = 24 := fun k => by rw [mvR_len, hR]
              have tkm : ∀ k, (mvR R x.toNat y.toNat k).take 24 = mvR R x.toNat y.toNat k := fun k => List.take_of_length_le (by rw [lm]; omega)
              have dkm : ∀ k, (mvR R x.toNat y.toNat k).drop 24 = [] := fun k => List.drop_eq_nil_of_le (by rw [lm]; omega)
              have mz : mvR R x.toNat y.toNat 0 = R := rfl
              cases hpu : pbyB R D u x y
              · skip
                simp -implicitDefEqProofs only [e1', e3', e4', hp1, hp4, hpu, tb, eN1, eT1, lm, tkm, hf, hr, hd, eB, ru1, ru2, ru3, ru4, hG1, hG3, L1, L2, L3, L4, LC, LS, m1, m3, m4, ms, eCr, rBig_F, PourBy_F, sPourBy_F, FitsDepths_F, sFitsDepths_F, IsRack_F, isDepths_F, CountRules_F, sCountRules_F, rPairs3_F, rPart3_F, DropsFor_F, sDropsFor_F, TurnBack_F, sTurnBack_F, Pour_F, CommonPours_F, sCommonPours_F, SamePours_F, sSamePours_F, PoursBy_F, freshK_nil, freshK_ne, freshK_f, Wrap.ap, hkm, hR, tkR, hD, tkD, r24, r5, z0, lt, tkt, lb, tkb, lc, tkc, hf, efd, tor, fo, eSet, e44, eqI_rack, eqI_a5, eqI_a6, Nat.add_assoc, add_self, self_add, add_add, List.getD_cons_zero, List.getD_cons_succ, ZB, Int.reduceToNat, Nat.reduceLT, Nat.reduceLeDiff, Int.reduceLE, Int.reduceLT, Nat.reduceEqDiff, Nat.reduceSub, SB, SV.known, packR, ne_eq, reduceCtorEq, Nat.reduceEqDiff, ↓reduceIte, if_true, if_false, eq_self, Nat.reduceAdd, Nat.reduceMul, Nat.reduceSub, forall_const, oneCellS, litOne, flat1, Kd.isSca, flat, TYB]
                refine ⟨hle, fun _ _ _ _ _ _ => ⟨pA hn3 q3, fun _ _ _ _ _ _ => ⟨pA hns qs, fun _ _ _ _ _ _ _ _ _ _ _ _ => ⟨pA hn1 q1, pB hn3 hn1 (P31 _ _) q3 q1, pB hn1 hn4 (P14 _ _) q1 q4, pA hn3 q3, pB hns hn3 (PS3 _ _) qs q3, ?_⟩⟩⟩⟩
                refine loop_intro (fun k : Nat => [(50, .int k), (49, .ptr (n' + 17) 0), (48, .bool true), (46, .ptr (n' + 16) 0), (30, .int M), (5, .int u), (6, .int x), (7, .int y), (3, .ptr n' 0), (4, .ptr (n' + 1) 0), (8, .ptr (n' + 2) 0), (9, .int (pbyN R D u x y)), (10, .bool false)])
                  (fun k => [(n' + 17, .ints (mvR R x.toNat y.toNat k) 27), (n' + 16, .ints (mvR R x.toNat y.toNat M) 27), (n' + 2, .ints (pbyT R D u x y) 27), (n' + 1, .ints D 51), (n', .ints R 27)]) (n' + 18) (fun k => k ≤ M) (fun k => M - k) ?_ ?_
                · refine ⟨0, Nat.zero_le _, Sub.mk_id ?_ ?_ ?_ ?_ ?_⟩
                  all_goals (simp only [mz, add_self, self_add, add_add, LB, subS, subH, wfS, wfH, SV.ren, renL, SObj.ren, SV.wf, SObj.wf, wfL, SV.known, Nat.reduceEqDiff, ↓reduceIte, if_true, if_false, eq_self, Nat.reduceAdd, Nat.reduceLT, Nat.reduceLeDiff, implies_true, reduceCtorEq, forall_const]; try simp)
                · intro k hk
                  by_cases hkM : k < M
                  · obtain ⟨d1, d2, d3⟩ := drop_step hR hD hf bx by_ (k := k) (by omega)
                    have dp : pbyB (mvR R x.toNat y.toNat k) D 2 x y = true := pby_of d1 rfl bx by_ (by omega)
                    have dn : pbyN (mvR R x.toNat y.toNat k) D 2 x y = 1 := by unfold pbyN; rw [if_pos dp, d2]
                    have dt : pbyT (mvR R x.toNat y.toNat k) D 2 x y = mvR R x.toNat y.toNat (k + 1) := by unfold pbyT; rw [if_pos dp, d2]; exact d3
                    have hkl : (k : Int) < M := by omega
                    simp -implicitDefEqProofs only [lk_normal, hkl, dp, dn, dt, lm, tkm, dkm, hf, hr, hd, eB, ru1, ru2, ru3, ru4, hG1, hG3, L1, L2, L3, L4, LC, LS, m1, m3, m4, ms, eCr, rBig_F, PourBy_F, sPourBy_F, FitsDepths_F, sFitsDepths_F, IsRack_F, isDepths_F, CountRules_F, sCountRules_F, rPairs3_F, rPart3_F, DropsFor_F, sDropsFor_F, TurnBack_F, sTurnBack_F, Pour_F, CommonPours_F, sCommonPours_F, SamePours_F, sSamePours_F, PoursBy_F, freshK_nil, freshK_ne, freshK_f, Wrap.ap, hkm, hR, tkR, hD, tkD, r24, r5, z0, lt, tkt, lb, tkb, lc, tkc, hf, efd, tor, fo, eSet, e44, eqI_rack, eqI_a5, eqI_a6, Nat.add_assoc, add_self, self_add, add_add, List.getD_cons_zero, List.getD_cons_succ, ZB, Int.reduceToNat, Nat.reduceLT, Nat.reduceLeDiff, Int.reduceLE, Int.reduceLT, Nat.reduceEqDiff, Nat.reduceSub, SB, SV.known, packR, ne_eq, reduceCtorEq, Nat.reduceEqDiff, ↓reduceIte, if_true, if_false, eq_self, Nat.reduceAdd, Nat.reduceMul, Nat.reduceSub, forall_const, oneCellS, litOne, flat1, Kd.isSca, flat, TYB]
                    refine ⟨by unfold In64; omega, k + 1, by omega, by omega, Sub.mk_id ?_ ?_ ?_ ?_ ?_⟩
                    all_goals (simp only [add_self, self_add, add_add, LB, subS, subH, wfS, wfH, SV.ren, renL, SObj.ren, SV.wf, SObj.wf, wfL, SV.known, Nat.reduceEqDiff, ↓reduceIte, if_true, if_false, eq_self, Nat.reduceAdd, Nat.reduceLT, Nat.reduceLeDiff, implies_true, reduceCtorEq, forall_const]; try simp)
                  · obtain rfl : k = M := by omega
                    simp -implicitDefEqProofs only [lk_normal, Int.lt_irrefl, lm, tkm, hf, hr, hd, eB, ru1, ru2, ru3, ru4, hG1, hG3, L1, L2, L3, L4, LC, LS, m1, m3, m4, ms, eCr, rBig_F, PourBy_F, sPourBy_F, FitsDepths_F, sFitsDepths_F, IsRack_F, isDepths_F, CountRules_F, sCountRules_F, rPairs3_F, rPart3_F, DropsFor_F, sDropsFor_F, TurnBack_F, sTurnBack_F, Pour_F, CommonPours_F, sCommonPours_F, SamePours_F, sSamePours_F, PoursBy_F, freshK_nil, freshK_ne, freshK_f, Wrap.ap, hkm, hR, tkR, hD, tkD, r24, r5, z0, lt, tkt, lb, tkb, lc, tkc, hf, efd, tor, fo, eSet, e44, eqI_rack, eqI_a5, eqI_a6, Nat.add_assoc, add_self, self_add, add_add, List.getD_cons_zero, List.getD_cons_succ, ZB, Int.reduceToNat, Nat.reduceLT, Nat.reduceLeDiff, Int.reduceLE, Int.reduceLT, Nat.reduceEqDiff, Nat.reduceSub, SB, SV.known, packR, ne_eq, reduceCtorEq, Nat.reduceEqDiff, ↓reduceIte, if_true, if_false, eq_self, Nat.reduceAdd, Nat.reduceMul, Nat.reduceSub, forall_const, oneCellS, litOne, flat1, Kd.isSca, flat, TYB]
              · skip
                simp -implicitDefEqProofs only [e1', e3', e4', hp1, hp4, hpu, tb, eN1, eT1, lm, tkm, hf, hr, hd, eB, ru1, ru2, ru3, ru4, hG1, hG3, L1, L2, L3, L4, LC, LS, m1, m3, m4, ms, eCr, rBig_F, PourBy_F, sPourBy_F, FitsDepths_F, sFitsDepths_F, IsRack_F, isDepths_F, CountRules_F, sCountRules_F, rPairs3_F, rPart3_F, DropsFor_F, sDropsFor_F, TurnBack_F, sTurnBack_F, Pour_F, CommonPours_F, sCommonPours_F, SamePours_F, sSamePours_F, PoursBy_F, freshK_nil, freshK_ne, freshK_f, Wrap.ap, hkm, hR, tkR, hD, tkD, r24, r5, z0, lt, tkt, lb, tkb, lc, tkc, hf, efd, tor, fo, eSet, e44, eqI_rack, eqI_a5, eqI_a6, Nat.add_assoc, add_self, self_add, add_add, List.getD_cons_zero, List.getD_cons_succ, ZB, Int.reduceToNat, Nat.reduceLT, Nat.reduceLeDiff, Int.reduceLE, Int.reduceLT, Nat.reduceEqDiff, Nat.reduceSub, SB, SV.known, packR, ne_eq, reduceCtorEq, Nat.reduceEqDiff, ↓reduceIte, if_true, if_false, eq_self, Nat.reduceAdd, Nat.reduceMul, Nat.reduceSub, forall_const, oneCellS, litOne, flat1, Kd.isSca, flat, TYB]
                refine ⟨hle, fun _ _ _ _ _ _ => ⟨pA hn3 q3, fun _ _ _ _ _ _ => ⟨pA hns qs, fun _ _ _ _ _ _ _ _ _ _ _ _ => ⟨pA hn1 q1, pB hn3 hn1 (P31 _ _) q3 q1, pB hn1 hn4 (P14 _ _) q1 q4, pA hn3 q3, pB hns hn3 (PS3 _ _) qs q3, ?_⟩⟩⟩⟩
                refine loop_intro (fun k : Nat => [(50, .int k), (49, .ptr (n' + 17) 0), (48, .bool true), (46, .ptr (n' + 16) 0), (30, .int M), (5, .int u), (6, .int x), (7, .int y), (3, .ptr n' 0), (4, .ptr (n' + 1) 0), (8, .ptr (n' + 2) 0), (9, .int (pbyN R D u x y)), (10, .bool true)])
                  (fun k => [(n' + 17, .ints (mvR R x.toNat y.toNat k) 27), (n' + 16, .ints (mvR R x.toNat y.toNat M) 27), (n' + 2, .ints (pbyT R D u x y) 27), (n' + 1, .ints D 51), (n', .ints R 27)]) (n' + 18) (fun k => k ≤ M) (fun k => M - k) ?_ ?_
                · refine ⟨0, Nat.zero_le _, Sub.mk_id ?_ ?_ ?_ ?_ ?_⟩
                  all_goals (simp only [mz, add_self, self_add, add_add, LB, subS, subH, wfS, wfH, SV.ren, renL, SObj.ren, SV.wf, SObj.wf, wfL, SV.known, Nat.reduceEqDiff, ↓reduceIte, if_true, if_false, eq_self, Nat.reduceAdd, Nat.reduceLT, Nat.reduceLeDiff, implies_true, reduceCtorEq, forall_const]; try simp)
                · intro k hk
                  by_cases hkM : k < M
                  · obtain ⟨d1, d2, d3⟩ := drop_step hR hD hf bx by_ (k := k) (by omega)
                    have dp : pbyB (mvR R x.toNat y.toNat k) D 2 x y = true := pby_of d1 rfl bx by_ (by omega)
                    have dn : pbyN (mvR R x.toNat y.toNat k) D 2 x y = 1 := by unfold pbyN; rw [if_pos dp, d2]
                    have dt : pbyT (mvR R x.toNat y.toNat k) D 2 x y = mvR R x.toNat y.toNat (k + 1) := by unfold pbyT; rw [if_pos dp, d2]; exact d3
                    have hkl : (k : Int) < M := by omega
                    simp -implicitDefEqProofs only [lk_normal, hkl, dp, dn, dt, lm, tkm, dkm, hf, hr, hd, eB, ru1, ru2, ru3, ru4, hG1, hG3, L1, L2, L3, L4, LC, LS, m1, m3, m4, ms, eCr, rBig_F, PourBy_F, sPourBy_F, FitsDepths_F, sFitsDepths_F, IsRack_F, isDepths_F, CountRules_F, sCountRules_F, rPairs3_F, rPart3_F, DropsFor_F, sDropsFor_F, TurnBack_F, sTurnBack_F, Pour_F, CommonPours_F, sCommonPours_F, SamePours_F, sSamePours_F, PoursBy_F, freshK_nil, freshK_ne, freshK_f, Wrap.ap, hkm, hR, tkR, hD, tkD, r24, r5, z0, lt, tkt, lb, tkb, lc, tkc, hf, efd, tor, fo, eSet, e44, eqI_rack, eqI_a5, eqI_a6, Nat.add_assoc, add_self, self_add, add_add, List.getD_cons_zero, List.getD_cons_succ, ZB, Int.reduceToNat, Nat.reduceLT, Nat.reduceLeDiff, Int.reduceLE, Int.reduceLT, Nat.reduceEqDiff, Nat.reduceSub, SB, SV.known, packR, ne_eq, reduceCtorEq, Nat.reduceEqDiff, ↓reduceIte, if_true, if_false, eq_self, Nat.reduceAdd, Nat.reduceMul, Nat.reduceSub, forall_const, oneCellS, litOne, flat1, Kd.isSca, flat, TYB]
                    refine ⟨by unfold In64; omega, k + 1, by omega, by omega, Sub.mk_id ?_ ?_ ?_ ?_ ?_⟩
                    all_goals (simp only [add_self, self_add, add_add, LB, subS, subH, wfS, wfH, SV.ren, renL, SObj.ren, SV.wf, SObj.wf, wfL, SV.known, Nat.reduceEqDiff, ↓reduceIte, if_true, if_false, eq_self, Nat.reduceAdd, Nat.reduceLT, Nat.reduceLeDiff, implies_true, reduceCtorEq, forall_const]; try simp)
                  · obtain rfl : k = M := by omega
                    by_cases hu1 : u = 1
                    · by_cases hD4 : D = [4, 4, 4, 4, 4, 4]
                      · have hq := hpu
                        rw [hu1, hD4] at hq
                        obtain ⟨r1, r2, r3⟩ := rule_plain hR hq
                        rw [← hD4, ← hu1] at r2 r3
                        have hu1' : (u = 1) = True := eq_true hu1
                        have hD4' : (D = [4, 4, 4, 4, 4, 4]) = True := eq_true hD4
                        simp -implicitDefEqProofs only [lk_normal, Int.lt_irrefl, lm, tkm, hu1', hD4', r1, r2, r3, hf, hr, hd, eB, ru1, ru2, ru3, ru4, hG1, hG3, L1, L2, L3, L4, LC, LS, m1, m3, m4, ms, eCr, rBig_F, PourBy_F, sPourBy_F, FitsDepths_F, sFitsDepths_F, IsRack_F, isDepths_F, CountRules_F, sCountRules_F, rPairs3_F, rPart3_F, DropsFor_F, sDropsFor_F, TurnBack_F, sTurnBack_F, Pour_F, CommonPours_F, sCommonPours_F, SamePours_F, sSamePours_F, PoursBy_F, freshK_nil, freshK_ne, freshK_f, Wrap.ap, hkm, hR, tkR, hD, tkD, r24, r5, z0, lt, tkt, lb, tkb, lc, tkc, hf, efd, tor, fo, eSet, e44, eqI_rack, eqI_a5, eqI_a6, Nat.add_assoc, add_self, self_add, add_add, List.getD_cons_zero, List.getD_cons_succ, ZB, Int.reduceToNat, Nat.reduceLT, Nat.reduceLeDiff, Int.reduceLE, Int.reduceLT, Nat.reduceEqDiff, Nat.reduceSub, SB, SV.known, packR, ne_eq, reduceCtorEq, Nat.reduceEqDiff, ↓reduceIte, if_true, if_false, eq_self, Nat.reduceAdd, Nat.reduceMul, Nat.reduceSub, forall_const, oneCellS, litOne, flat1, Kd.isSca, flat, TYB]
                      · have hu1' : (u = 1) = True := eq_true hu1
                        simp -implicitDefEqProofs only [lk_normal, Int.lt_irrefl, lm, tkm, hu1', hD4, hf, hr, hd, eB, ru1, ru2, ru3, ru4, hG1, hG3, L1, L2, L3, L4, LC, LS, m1, m3, m4, ms, eCr, rBig_F, PourBy_F, sPourBy_F, FitsDepths_F, sFitsDepths_F, IsRack_F, isDepths_F, CountRules_F, sCountRules_F, rPairs3_F, rPart3_F, DropsFor_F, sDropsFor_F, TurnBack_F, sTurnBack_F, Pour_F, CommonPours_F, sCommonPours_F, SamePours_F, sSamePours_F, PoursBy_F, freshK_nil, freshK_ne, freshK_f, Wrap.ap, hkm, hR, tkR, hD, tkD, r24, r5, z0, lt, tkt, lb, tkb, lc, tkc, hf, efd, tor, fo, eSet, e44, eqI_rack, eqI_a5, eqI_a6, Nat.add_assoc, add_self, self_add, add_add, List.getD_cons_zero, List.getD_cons_succ, ZB, Int.reduceToNat, Nat.reduceLT, Nat.reduceLeDiff, Int.reduceLE, Int.reduceLT, Nat.reduceEqDiff, Nat.reduceSub, SB, SV.known, packR, ne_eq, reduceCtorEq, Nat.reduceEqDiff, ↓reduceIte, if_true, if_false, eq_self, Nat.reduceAdd, Nat.reduceMul, Nat.reduceSub, forall_const, oneCellS, litOne, flat1, Kd.isSca, flat, TYB]
                    · simp -implicitDefEqProofs only [lk_normal, Int.lt_irrefl, lm, tkm, hu1, hf, hr, hd, eB, ru1, ru2, ru3, ru4, hG1, hG3, L1, L2, L3, L4, LC, LS, m1, m3, m4, ms, eCr, rBig_F, PourBy_F, sPourBy_F, FitsDepths_F, sFitsDepths_F, IsRack_F, isDepths_F, CountRules_F, sCountRules_F, rPairs3_F, rPart3_F, DropsFor_F, sDropsFor_F, TurnBack_F, sTurnBack_F, Pour_F, CommonPours_F, sCommonPours_F, SamePours_F, sSamePours_F, PoursBy_F, freshK_nil, freshK_ne, freshK_f, Wrap.ap, hkm, hR, tkR, hD, tkD, r24, r5, z0, lt, tkt, lb, tkb, lc, tkc, hf, efd, tor, fo, eSet, e44, eqI_rack, eqI_a5, eqI_a6, Nat.add_assoc, add_self, self_add, add_add, List.getD_cons_zero, List.getD_cons_succ, ZB, Int.reduceToNat, Nat.reduceLT, Nat.reduceLeDiff, Int.reduceLE, Int.reduceLT, Nat.reduceEqDiff, Nat.reduceSub, SB, SV.known, packR, ne_eq, reduceCtorEq, Nat.reduceEqDiff, ↓reduceIte, if_true, if_false, eq_self, Nat.reduceAdd, Nat.reduceMul, Nat.reduceSub, forall_const, oneCellS, litOne, flat1, Kd.isSca, flat, TYB]

theorem lawFnRulePours (L : List Int) (off len cap : Nat) (_ : len ≤ cap) (_ : cap ≤ maxLen) (hLl : L.length = len) (hLb : ∀ x ∈ L, 0 ≤ x ∧ x ≤ 255) :
    PureH Try.prog 4 [.slice 0 off len cap] [(0, .winU off L)] (.bool true) := by
  by_cases hbig : (65536 : Int) < (len : Int)
  · refine pure_of_vc (X := ⟨Try.prog, tys, [(7, rBig_F)], [], true, true, 1, [], []⟩) fn_4 ⟨tys_ok, (.cons rBig_T .nil), .nil, mixed⟩ (n0 := 1) (Nat.le_of_ble_eq_true rfl) (by simp [wfL, SV.wf]) (wfH_spec (by simp [wfH, SObj.wf])) (Nat.le_refl _) (fun _ => by simp [SV.wf, wfL]) ?_
    simp -implicitDefEqProofs only [Try.f4, Option.getD_some, argS, rBig_F, hbig, ZB, Int.reduceToNat, Nat.reduceLT, Nat.reduceLeDiff, Int.reduceLE, Int.reduceLT, Nat.reduceEqDiff, Nat.reduceSub, SB, SV.known, packR, ne_eq, reduceCtorEq, Nat.reduceEqDiff, ↓reduceIte, if_true, if_false, eq_self, Nat.reduceAdd, Nat.reduceMul, Nat.reduceSub, forall_const, oneCellS, litOne, flat1, Kd.isSca, flat, TYB]
  · refine pure_of_vc (X := ⟨Try.prog, tys, [(7, rBig_F), (26, PourBy_F), (27, sPourBy_F), (28, FitsDepths_F), (29, sFitsDepths_F), (11, IsRack_F), (30, isDepths_F), (31, CountRules_F), (32, sCountRules_F), (12, rPairs3_F), (42, rPart3_F), (37, DropsFor_F), (38, sDropsFor_F), (39, TurnBack_F), (40, sTurnBack_F), (23, Pour_F)], [(25, DrawPourBy_F), (33, CommonPours_F), (34, sCommonPours_F), (35, SamePours_F), (36, sSamePours_F), (41, PoursBy_F)], true, true, 1, [], []⟩) (show FnOK Try.prog 4 Try.f4 (Try.f4.body.getD .skip) [] [] from ⟨Try.func4, rfl, by kernel_rfl, by kernel_rfl⟩) ⟨tys_ok, (.cons rBig_T (.cons PourBy_T (.cons sPourBy_T (.cons FitsDepths_T (.cons sFitsDepths_T (.cons IsRack_T (.cons isDepths_T (.cons CountRules_T (.cons sCountRules_T (.cons rPairs3_T (.cons rPart3_T (.cons DropsFor_T (.cons sDropsFor_T (.cons TurnBack_T (.cons sTurnBack_T (.cons Pour_T .nil)))))))))))))))), (.cons DrawPourBy_T (.cons CommonPours_T (.cons sCommonPours_T (.cons SamePours_T (.cons sSamePours_T (.cons PoursBy_T .nil)))))), mixed⟩ (n0 := 1) (Nat.le_of_ble_eq_true rfl) (by simp [wfL, SV.wf]) (wfH_spec (by simp [wfH, SObj.wf])) (Nat.le_refl _) (fun _ => by simp [SV.wf, wfL]) ?_
    exact lawFnRulePours_vc _ _ (.inr ⟨0, off, len, cap, L, rfl, by simp [hget_cons], hLl, by omega, hLb⟩) (by simp [rBig_F, hget_cons, hbig]) rfl (wfH_spec (by simp [wfH, SObj.wf]))
theorem lawFnRulePoursN : PureH Try.prog 4 [.nils] [] (.bool true) := by
  · refine pure_of_vc (X := ⟨Try.prog, tys, [(7, rBig_F), (26, PourBy_F), (27, sPourBy_F), (28, FitsDepths_F), (29, sFitsDepths_F), (11, IsRack_F), (30, isDepths_F), (31, CountRules_F), (32, sCountRules_F), (12, rPairs3_F), (42, rPart3_F), (37, DropsFor_F), (38, sDropsFor_F), (39, TurnBack_F), (40, sTurnBack_F), (23, Pour_F)], [(25, DrawPourBy_F), (33, CommonPours_F), (34, sCommonPours_F), (35, SamePours_F), (36, sSamePours_F), (41, PoursBy_F)], true, true, 1, [], []⟩) (show FnOK Try.prog 4 Try.f4 (Try.f4.body.getD .skip) [] [] from ⟨Try.func4, rfl, by kernel_rfl, by kernel_rfl⟩) ⟨tys_ok, (.cons rBig_T (.cons PourBy_T (.cons sPourBy_T (.cons FitsDepths_T (.cons sFitsDepths_T (.cons IsRack_T (.cons isDepths_T (.cons CountRules_T (.cons sCountRules_T (.cons rPairs3_T (.cons rPart3_T (.cons DropsFor_T (.cons sDropsFor_T (.cons TurnBack_T (.cons sTurnBack_T (.cons Pour_T .nil)))))))))))))))), (.cons DrawPourBy_T (.cons CommonPours_T (.cons sCommonPours_T (.cons SamePours_T (.cons sSamePours_T (.cons PoursBy_T .nil)))))), mixed⟩ (n0 := 1) (Nat.le_of_ble_eq_true rfl) (by simp [wfL, SV.wf]) (wfH_spec (by simp [wfH, SObj.wf])) (Nat.le_refl _) (fun _ => by simp [SV.wf, wfL]) ?_
    exact lawFnRulePours_vc _ _ (.inl rfl) (by simp [rBig_F]) rfl (wfH_spec (by simp [wfH, SObj.wf]))
end Go.Proofs.Ytopfnkmlgcjpbaa
set_option maxRecDepth 100000
set_option linter.unusedSimpArgs false
set_option linter.unusedVariables false
namespace Go.Proofs.Ytopfnkmlgcjpbaa
open Go Go.RowKit Go.ChangeShapes Go.WideShapes Go.ChangeAt

theorem own_knob : ownKnob Try.prog.godebug = none := by kernel_rfl
theorem laid_out : laidOutB Try.prog = true := by kernel_rfl

theorem trodAll_below {H : Type} {enc : TypeId × Value → H} {W W' : World} (hb : Below W.heap.size W W') : ∀ {ts : List TypeId} {vs : List Value} {ds : List (DataW H)} {ps : List MemPlace}, DataW.TrodAll enc Try.prog W 0 (fun _ => true) true ts vs ds ps →
    (∀ t ∈ ts, Try.prog.readableRec t = true ∧ t < Try.prog.types.size) → (∀ x ∈ ps, x.block < W.heap.size) → DataW.TrodAll enc Try.prog W' 0 (fun b => decide (b < W.heap.size)) true ts vs ds ps
  | [], vs, ds, ps, h, _, _ => by
    obtain ⟨rfl, rfl, rfl⟩ := trodAll_nil h
    exact trodAll_mk0
  | t :: ts, vs, ds, ps, h, hr, hp => by
    obtain ⟨v0, vs0, d0, ds0, p0, q0, rfl, rfl, rfl, h0, r0⟩ := trodAll_cons h
    exact trodAll_cons_mk (Below.trod laid_out (hr t (by simp)).1 (hr t (by simp)).2 h0 hb fun x hx => hp x (by simp [hx])) (trodAll_below hb r0 (fun t' ht' => hr t' (by simp [ht'])) fun x hx => hp x (by simp [hx]))

theorem law_post {H : Type} {enc : TypeId × Value → H} {f : Func} {s : ChangeSpec} {W W' : World} {args : Array Value} {ds gs : List (DataW H)} {before : List MemPlace} (hb : Below W.heap.size W W') (hW : DataW.Whole enc Try.prog f.params.toList s.vars false W args.toList ds gs before)
    (hv : s.vars = []) (hrt : f.resultTypes = #[4]) (hs1 : (s.fn H (ds ++ gs)).results = [.lit (.bool true)]) (hs2 : (s.fn H (ds ++ gs)).args = ds) (hs3 : (s.fn H (ds ++ gs)).vars = []) (hr : ∀ t ∈ f.params.toList, Try.prog.readableRec t = true ∧ t < Try.prog.types.size) :
    s.post enc Try.prog f false true false false W args (.bool true) W' := by
  have hW' := hW
  obtain ⟨p, q, hA, hV, rfl, hfz, hnd⟩ := hW
  rw [hv] at hV
  obtain ⟨rfl, rfl⟩ := trodVars_none hV
  refine ⟨ds, _, _, [], p, [], hW', ?_, ?_, ?_, hb.frame _, fun h => by cases h⟩
  · rw [hs1, hrt]
    exact trodAll_cons_mk (shut_bool Try.underlying4 true) trodAll_mk0
  · rw [hs2]
    exact trodAll_below hb hA hr fun x hx => by simpa using hW'.lt x (by simpa using hx)
  · rw [hv, hs3]
    rfl
end Go.Proofs.Ytopfnkmlgcjpbaa
set_option maxRecDepth 100000
set_option linter.unusedSimpArgs false
set_option linter.unusedVariables false
namespace Go.Proofs.Ytopfnkmlgcjpbaa
open Go Go.RowKit Go.ChangeShapes Go.WideShapes Go.ChangeAt

theorem add_off (b o n : Nat) : (Addr.mk b o none).add n = ⟨b, o + n, none⟩ := by
  unfold Addr.add
  split
  · rename_i h; rw [h]; rfl
  · rfl
def intOf (v : Option Value) : Int := match v with
  | some (.int _ n) => n
  | _ => 0
end Go.Proofs.Ytopfnkmlgcjpbaa
set_option maxRecDepth 100000
set_option linter.unusedSimpArgs false
set_option linter.unusedVariables false
namespace Go.Proofs.Ytopfnkmlgcjpbaa
open Go Go.RowKit Go.ChangeShapes Go.WideShapes Go.ChangeAt
/-- An argument that is a slice of bytes. -/
theorem open_by {H : Type} {enc : TypeId × Value → H} {W : World} {b0 : Nat} {sp : Nat → Bool} {held : Bool} {t e : Nat} {v : Value} {d : DataW H} {ps : List MemPlace} (ht : Try.prog.underlying t = some (.slice e)) (hc : Try.prog.cellsOf e = 1) (he : Try.prog.underlying e = some (.int .u8))
    (hval : Value.okWide Try.prog W .any b0 t v) (hd : DataW.Trod enc Try.prog W 0 sp held t v d ps) :
    v = .slice none 0 0 ∨ ∃ (b off len cap : Nat) (L : List Int), v = .slice (some ⟨b, off, none⟩) len cap ∧ len ≤ cap ∧ cap ≤ maxLen ∧ L.length = len ∧ (∀ x ∈ L, 0 ≤ x ∧ x ≤ 255) ∧ SObj.sat (fun _ => b) W b (.winU off L) := by
  unfold Value.okWide at hval
  rw [ht] at hval
  simp only [Cell.okWide] at hval
  rw [ht] at hval
  obtain ⟨fuel, hd⟩ := hd
  rcases DataW.trod_slice ht hd with ⟨h0, _⟩ | ⟨a, len, cap, elems, rest, n, _, hcs, _, _, hl, hm, hlen, hel, _⟩
  · left
    cases v <;> simp_all [Value.cells, Cell.ok]
  · right
    have hv : v = .slice (some a) len cap := by
      cases v <;> simp_all [Value.cells, Cell.ok]
    subst hv
    simp only [Cell.ok, ht] at hval
    obtain ⟨_, _, _, hsp, row, cells, hshape, _⟩ := hval
    obtain ⟨b, off, spot⟩ := a
    simp only at hsp hshape
    subst hsp
    unfold World.shape? at hshape
    split at hshape
    · rename_i c el fz hb
      have each : ∀ k, k < len → ∃ n, c[off + k]? = some (.int .u8 n) ∧ (0 ≤ n ∧ n ≤ 255) := by
        intro k hk
        have h1 := hel k hk
        obtain ⟨y, hy⟩ : ∃ y, elems[k]? = some y := ⟨elems[k]'(by omega), List.getElem?_eq_getElem (by omega)⟩
        rw [hy, hc, Option.bind_eq_some_iff] at h1
        obtain ⟨cs, hcs, h1⟩ := h1
        obtain ⟨m, rfl, _, hw⟩ := DataW.trod_int he h1
        have h2 := (World.cells?_some hcs).2.2 0 (by omega)
        rw [add_off, add_off] at h2
        unfold World.cell? at h2
        simp only [hb] at h2
        refine ⟨m, by simpa using h2, by simpa [Lit.wf, IntKind.min, IntKind.max, IntKind.signed, IntKind.bits] using hw⟩
      refine ⟨b, off, len, cap, (List.range len).map fun k => intOf c[off + k]?, rfl, hl, hm, by simp, fun x hx => ?_, c, el, fz, hb, fun i hi => ?_⟩
      · obtain ⟨k, hk, rfl⟩ := List.mem_map.1 hx
        obtain ⟨m, h1, h2⟩ := each k (List.mem_range.1 hk)
        rw [h1]; exact h2
      · simp at hi
        obtain ⟨m, h1, h2⟩ := each i hi
        rw [h1]
        simp [List.getD, hi, h1, intOf]
    · cases hshape
theorem HR.winU_one {b off : Nat} {L : List Int} {W : World} (h : SObj.sat (fun _ => b) W b (.winU off L)) : HR (fun _ => b) [(0, .winU off L)] W where
  at_ := fun k o hk _ => by
    rw [hget_cons] at hk
    split at hk
    · cases hk; exact h
    · cases hk
  inj := fun k j o o' h1 _ h2 _ _ => by
    rw [hget_cons] at h1 h2
    split at h1
    · split at h2
      · omega
      · cases h2
    · cases h1
end Go.Proofs.Ytopfnkmlgcjpbaa
