/- Texts of this claim, joined (Sn2, Fin, FinS, FinB). -/
import Derived.Test.YtckcojgfgcjamaaQ1
import Derived.Test.YtckcojgfgcjamaaQ2
import Derived.Test.YtckcojgfgcjamaaQ3
import Derived.Test.YtckcojgfgcjamaaQ4
import Derived.Test.YtckcojgfgcjamaaQ5
import Derived.Test.YtckcojgfgcjamaaQ6
import Derived.Test.YtckcojgfgcjamaaQ7
import Derived.Test.YtckcojgfgcjamaaQ8
import Derived.Test.YtckcojgfgcjamaaQ9
import Derived.Test.YtckcojgfgcjamaaRows
import Derived.ProofKit
import Derived.OpenShut
set_option maxRecDepth 100000
set_option linter.unusedSimpArgs false
set_option linter.unusedVariables false
namespace Go.Proofs.Ytckcojgfgcjamaa
open Go Go.RowKit
abbrev seQ : KE := retK tys Try.f4.results.toList fun v _ _ => v = .bool true
structure SeS (S : Env) (H : Heap) (n : Nat) (V U R : List Int) (x y a b : Int) (v me u cs r vw : Nat) (vc : SV) : Prop where
  s3 : sget S 3 = .ptr v 0
  s4 : sget S 4 = .int x
  s5 : sget S 5 = .int y
  s10 : sget S 10 = .ptr me 0
  s11 : sget S 11 = .bool (mmB V x y)
  s14 : sget S 14 = vc
  s15 : sget S 15 = .bool (isVF V)
  s18 : sget S 18 = .ptr u 0
  s19 : sget S 19 = .ptr cs 0
  s20 : sget S 20 = .bool (isVF U)
  s23 : sget S 23 = .ptr r 0
  s24 : sget S 24 = .int a
  s25 : sget S 25 = .int b
  s26 : sget S 26 = .ptr vw 0
  s27 : sget S 27 = .int (pourM R a b)
  s28 : sget S 28 = .bool (pourB R a b)
  hv : hget H v = some (.ints V 31)
  hm : hget H me = some (.ints (mmF V x y) 47)
  hu : hget H u = some (.ints U 31)
  hs : hget H cs = some (.ints (chsF U) 47)
  hr : hget H r = some (.ints R 27)
  hw : hget H vw = some (.ints (vbF R a b) 31)
  lc : SlA vc (cpL V) ((cpL V).length / 2) 2 47 0 n H
  lt : v < n ∧ me < n ∧ u < n ∧ cs < n ∧ r < n ∧ vw < n
  wf : hwf n H
  one : 1 ≤ n
theorem SeS.up {S S' : Env} {H H' : Heap} {n n' : Nat} {V U R : List Int} {x y a b : Int} {v me u cs r vw : Nat} {vc : SV} (h : SeS S H n V U R x y a b v me u cs r vw vc) (hs : ∀ t, t ≤ 31 → sget S' t = sget S t) (hK : Kpt n H H' n') : SeS S' H' n' V U R x y a b v me u cs r vw vc := by
  have := h.lt
  have := h.one
  have hh := hK.fr
  have hn := hK.le
  exact ⟨by rw [hs 3 (by omega)]; exact h.s3, by rw [hs 4 (by omega)]; exact h.s4, by rw [hs 5 (by omega)]; exact h.s5, by rw [hs 10 (by omega)]; exact h.s10, by rw [hs 11 (by omega)]; exact h.s11, by rw [hs 14 (by omega)]; exact h.s14, by rw [hs 15 (by omega)]; exact h.s15, by rw [hs 18 (by omega)]; exact h.s18, by rw [hs 19 (by omega)]; exact h.s19, by rw [hs 20 (by omega)]; exact h.s20, by rw [hs 23 (by omega)]; exact h.s23, by rw [hs 24 (by omega)]; exact h.s24, by rw [hs 25 (by omega)]; exact h.s25, by rw [hs 26 (by omega)]; exact h.s26, by rw [hs 27 (by omega)]; exact h.s27, by rw [hs 28 (by omega)]; exact h.s28,
    hh _ _ (by omega) h.hv, hh _ _ (by omega) h.hm, hh _ _ (by omega) h.hu, hh _ _ (by omega) h.hs, hh _ _ (by omega) h.hr, hh _ _ (by omega) h.hw, (h.lc.up hh).wk (Nat.le_refl _) hn, by omega, hK.wf, by omega⟩
theorem SeS.re {S S' : Env} {H H' : Heap} {n n' : Nat} {V U R : List Int} {x y a b : Int} {v me u cs r vw : Nat} {vc : SV} (h : SeS S H n V U R x y a b v me u cs r vw vc) (hK : Kpt n H H' n') (h3 : sget S' 3 = .ptr v 0) (h4 : sget S' 4 = .int x) (h5 : sget S' 5 = .int y) (h10 : sget S' 10 = .ptr me 0) (h11 : sget S' 11 = .bool (mmB V x y)) (h14 : sget S' 14 = vc) (h15 : sget S' 15 = .bool (isVF V)) (h18 : sget S' 18 = .ptr u 0) (h19 : sget S' 19 = .ptr cs 0) (h20 : sget S' 20 = .bool (isVF U)) (h23 : sget S' 23 = .ptr r 0) (h24 : sget S' 24 = .int a) (h25 : sget S' 25 = .int b) (h26 : sget S' 26 = .ptr vw 0) (h27 : sget S' 27 = .int (pourM R a b)) (h28 : sget S' 28 = .bool (pourB R a b)) : SeS S' H' n' V U R x y a b v me u cs r vw vc := by
  have := h.lt
  have := h.one
  have hh := hK.fr
  have hn := hK.le
  exact ⟨h3, h4, h5, h10, h11, h14, h15, h18, h19, h20, h23, h24, h25, h26, h27, h28, hh _ _ (by omega) h.hv, hh _ _ (by omega) h.hm, hh _ _ (by omega) h.hu, hh _ _ (by omega) h.hs, hh _ _ (by omega) h.hr, hh _ _ (by omega) h.hw, (h.lc.up hh).wk (Nat.le_refl _) hn, by omega, hK.wf, by omega⟩
theorem se_up {S S' : Env} (h : ∀ t, t ≤ 31 → sget S' t = sget S t) {k : Nat} {v : SV} (hk : 31 < k) : ∀ t, t ≤ 31 → sget ((k, v) :: S') t = sget S t := fun t ht => by rw [sget_skip _ _ _ _ (by omega)]; exact h t ht
theorem vPr_use {v : SV} {L p : List Int} {len e lo hi : Nat} {H : Heap} (h1 : SlA v L len 2 e lo hi H) (hp : p.length = 2) (hn : len ≤ 4611686018427387903) : ∃ P j, vPour_F [v, .arr p] H = some (P, .bool (inP (L ++ j) len p)) ∧ P = True := by
  rcases h1.at_ with ⟨rfl, h0⟩ | ⟨b, cap, junk, rfl, b1, b2, g1⟩
  · subst h0
    exact ⟨_, [], rfl, eq_true hp⟩
  · have e : vPour_F [.slice b 0 len cap, .arr p] H = some ((len * 2 ≤ (L ++ junk).length ∧ p.length = 2 ∧ len ≤ 4611686018427387903), .bool (inP (L ++ junk) len p)) := by simp only [vPour_F, g1]
    exact ⟨_, junk, e, eq_true ⟨by rw [List.length_append, h1.ln]; omega, hp, hn⟩⟩
set_option maxHeartbeats 1000000 in
theorem se_b19 (S : Env) (H : Heap) (n : Nat) (V U R : List Int) (x y a b : Int) (v me u cs r vw : Nat) (vc : SV) (hE : SeS S H n V U R x y a b v me u cs r vw vc) (hU : U.length = 18) (hUi : I64 U) : codeVC (⟨Try.prog, tys, [(5, vBig_F), (31, CanPourAt_F), (32, sCanPourAt_F), (33, MeanMoved_F), (34, sMeanMoved_F), (38, ChanceSorted_F), (39, sChanceSorted_F), (41, ViewBehind_F), (42, sViewBehind_F), (44, Pour_F), (7, ViewOf_F), (43, vPairs_F), (45, vPour_F), (46, vLess_F), (17, FirstCandidate_F), (15, CountCandidates_F)], [(30, DrawMeanMoved_F), (35, CertainPours_F), (36, sCertainPours_F), (12, vCut_F), (37, DrawChanceSorted_F), (40, DrawViewBehind_F), (47, PoursOf_F)], true, true, 1, [], []⟩ : Cx) 1 (cdN 19 (Try.f4.body.getD .skip)) S H n seQ := by
  obtain ⟨s3, s4, s5, s10, s11, s14, s15, s18, s19, s20, s23, s24, s25, s26, s27, s28, hv, hm, hu, hs, hr, hw, lc, hlt, hwf0, h1n⟩ := hE
  have tkU : U.take 18 = U := List.take_of_length_le (by omega)
  have lC := chs_len U
  simp only [cdN, cd2, Try.f4, Option.getD_some, seQ]
  cases hi : isVF U
  · simp -implicitDefEqProofs only [s20, hi, CanPourAt_F, sCanPourAt_F, MeanMoved_F, sMeanMoved_F, ChanceSorted_F, sChanceSorted_F, ViewBehind_F, sViewBehind_F, Pour_F, ViewOf_F, vLess_F, FirstCandidate_F, CountCandidates_F, CertainPours_F, sCertainPours_F, PoursOf_F, Wrap.ap, eqI_p2, eqI_rack, eqI_view, Nat.add_assoc, add_self, self_add, add_add, List.getD_cons_zero, List.getD_cons_succ, ZB, Int.reduceToNat, Nat.reduceLT, Nat.reduceLeDiff, Int.reduceLE, Int.reduceLT, Nat.reduceEqDiff, Nat.reduceSub, SB, SV.known, packR, ne_eq, reduceCtorEq, Nat.reduceEqDiff, ↓reduceIte, if_true, if_false, eq_self, Nat.reduceAdd, Nat.reduceMul, Nat.reduceSub, forall_const, oneCellS, litOne, flat1, Kd.isSca, flat, TYB]
  · rcases chs_two hi with e | e
    · rw [e] at hs
      simp -implicitDefEqProofs only [s18, s19, s20, hi, hu, hs, hU, hUi, tkU, CanPourAt_F, sCanPourAt_F, MeanMoved_F, sMeanMoved_F, ChanceSorted_F, sChanceSorted_F, ViewBehind_F, sViewBehind_F, Pour_F, ViewOf_F, vLess_F, FirstCandidate_F, CountCandidates_F, CertainPours_F, sCertainPours_F, PoursOf_F, Wrap.ap, eqI_p2, eqI_rack, eqI_view, Nat.add_assoc, add_self, self_add, add_add, List.getD_cons_zero, List.getD_cons_succ, ZB, Int.reduceToNat, Nat.reduceLT, Nat.reduceLeDiff, Int.reduceLE, Int.reduceLT, Nat.reduceEqDiff, Nat.reduceSub, SB, SV.known, packR, ne_eq, reduceCtorEq, Nat.reduceEqDiff, ↓reduceIte, if_true, if_false, eq_self, Nat.reduceAdd, Nat.reduceMul, Nat.reduceSub, forall_const, oneCellS, litOne, flat1, Kd.isSca, flat, TYB]
    · rw [e] at hs
      simp -implicitDefEqProofs only [s18, s19, s20, hi, hu, hs, hU, hUi, tkU, CanPourAt_F, sCanPourAt_F, MeanMoved_F, sMeanMoved_F, ChanceSorted_F, sChanceSorted_F, ViewBehind_F, sViewBehind_F, Pour_F, ViewOf_F, vLess_F, FirstCandidate_F, CountCandidates_F, CertainPours_F, sCertainPours_F, PoursOf_F, Wrap.ap, eqI_p2, eqI_rack, eqI_view, Nat.add_assoc, add_self, self_add, add_add, List.getD_cons_zero, List.getD_cons_succ, ZB, Int.reduceToNat, Nat.reduceLT, Nat.reduceLeDiff, Int.reduceLE, Int.reduceLT, Nat.reduceEqDiff, Nat.reduceSub, SB, SV.known, packR, ne_eq, reduceCtorEq, Nat.reduceEqDiff, ↓reduceIte, if_true, if_false, eq_self, Nat.reduceAdd, Nat.reduceMul, Nat.reduceSub, forall_const, oneCellS, litOne, flat1, Kd.isSca, flat, TYB]
set_option maxHeartbeats 2000000 in
theorem se_b18 (S : Env) (H : Heap) (n : Nat) (V U R : List Int) (x y a b : Int) (v me u cs r vw : Nat) (vc : SV) (hE : SeS S H n V U R x y a b v me u cs r vw vc) (hV : V.length = 18) (hVi : I64 V) (hU : U.length = 18) (hUi : I64 U) : codeVC (⟨Try.prog, tys, [(5, vBig_F), (31, CanPourAt_F), (32, sCanPourAt_F), (33, MeanMoved_F), (34, sMeanMoved_F), (38, ChanceSorted_F), (39, sChanceSorted_F), (41, ViewBehind_F), (42, sViewBehind_F), (44, Pour_F), (7, ViewOf_F), (43, vPairs_F), (45, vPour_F), (46, vLess_F), (17, FirstCandidate_F), (15, CountCandidates_F)], [(30, DrawMeanMoved_F), (35, CertainPours_F), (36, sCertainPours_F), (12, vCut_F), (37, DrawChanceSorted_F), (40, DrawViewBehind_F), (47, PoursOf_F)], true, true, 1, [], []⟩ : Cx) 1 (cdN 18 (Try.f4.body.getD .skip)) S H n seQ := by
  have hE0 := hE
  obtain ⟨s3, s4, s5, s10, s11, s14, s15, s18, s19, s20, s23, s24, s25, s26, s27, s28, hv, hm, hu, hs, hr, hw, lc, hlt, hwf0, h1n⟩ := hE
  have tkV : V.take 18 = V := List.take_of_length_le (by omega)
  rw [cd_cut (show cdN 18 (Try.f4.body.getD .skip) = .seq (cd1 (cdN 18 (Try.f4.body.getD .skip))) (cdN 19 (Try.f4.body.getD .skip)) from rfl)]
  have next := fun S' H' n' (h : SeS S' H' n' V U R x y a b v me u cs r vw vc) => se_b19 S' H' n' V U R x y a b v me u cs r vw vc h hU hUi
  obtain ⟨cn, en⟩ : ∃ c, c = cdN 19 (Try.f4.body.getD .skip) := ⟨_, rfl⟩
  rw [← en] at next ⊢
  simp only [cdN, cd1, cd2, Try.f4, Option.getD_some]
  have kc := lc.kn
  have jc := kc
  simp only [SV.known] at jc
  cases hi : isVF V
  · simp -implicitDefEqProofs only [s15, hi, CanPourAt_F, sCanPourAt_F, MeanMoved_F, sMeanMoved_F, ChanceSorted_F, sChanceSorted_F, ViewBehind_F, sViewBehind_F, Pour_F, ViewOf_F, vLess_F, FirstCandidate_F, CountCandidates_F, CertainPours_F, sCertainPours_F, PoursOf_F, Wrap.ap, eqI_p2, eqI_rack, eqI_view, Nat.add_assoc, add_self, self_add, add_add, List.getD_cons_zero, List.getD_cons_succ, ZB, Int.reduceToNat, Nat.reduceLT, Nat.reduceLeDiff, Int.reduceLE, Int.reduceLT, Nat.reduceEqDiff, Nat.reduceSub, SB, SV.known, packR, ne_eq, reduceCtorEq, Nat.reduceEqDiff, ↓reduceIte, if_true, if_false, eq_self, Nat.reduceAdd, Nat.reduceMul, Nat.reduceSub, forall_const, oneCellS, litOne, flat1, Kd.isSca, flat, TYB]
    exact next _ _ _ (hE0.up (by (repeat (first | refine se_up ?_ (by decide) | exact fun _ _ => rfl))) (Kpt.refl hwf0))
  · obtain ⟨nc, hnc, hnc36, enc⟩ := cp_two V
    obtain ⟨np, hnp, hnp36, enp⟩ := po_two (caF V 0)
    have hle := first_le hV hVi hi
    have hfi := fun k (hk : k < nc) jc jp => first_in hV hVi hi hnc hnp hk jc jp
    have lC := caF_len (r := 0) hV hVi
    have tkC := List.take_of_length_le (Nat.le_of_eq lC)
    have hcb : caB V 0 = true := by rw [caB_zero hV hVi]; exact hi
    have hrk := (first_can hV hVi hi).1
    rw [enc] at lc hle
    rw [enp] at hle
    have P1 : Kpt n H ((n, .ints (caF V 0) 27) :: (n, .ints (List.replicate 24 0) 27) :: H) (n + 1) := (Kpt.refl hwf0).push.put (by omega)
    have wc := lc.wfv (Nat.le_refl n)
    simp -implicitDefEqProofs only [s3, s14, s15, hi, hv, hV, hVi, tkV, lC, tkC, hcb, hrk, kc, jc, enp, CanPourAt_F, sCanPourAt_F, MeanMoved_F, sMeanMoved_F, ChanceSorted_F, sChanceSorted_F, ViewBehind_F, sViewBehind_F, Pour_F, ViewOf_F, vLess_F, FirstCandidate_F, CountCandidates_F, CertainPours_F, sCertainPours_F, PoursOf_F, Wrap.ap, eqI_p2, eqI_rack, eqI_view, Nat.add_assoc, add_self, self_add, add_add, List.getD_cons_zero, List.getD_cons_succ, ZB, Int.reduceToNat, Nat.reduceLT, Nat.reduceLeDiff, Int.reduceLE, Int.reduceLT, Nat.reduceEqDiff, Nat.reduceSub, SB, SV.known, packR, ne_eq, reduceCtorEq, Nat.reduceEqDiff, ↓reduceIte, if_true, if_false, eq_self, Nat.reduceAdd, Nat.reduceMul, Nat.reduceSub, forall_const, oneCellS, litOne, flat1, Kd.isSca, flat, TYB]
    refine ⟨h1n, freshK_sl P1.wf hnp (by omega) fun vp H2 n2 lp hK2 => ?_⟩
    have kp := lp.kn
    have jp := kp
    simp only [SV.known] at jp
    have hle2 := hK2.le
    have T2 : Kpt n H H2 n2 := P1.trans hK2
    have lc2 := (lc.up T2.fr).wk (Nat.le_refl _) T2.le
    have ll1 := fun e s b z H n κ => lc2.len e s b z H n κ
    have ll2 := fun e s b z H n κ => lp.len e s b z H n κ
    have hnl : ¬ (np : Int) < (nc : Int) := by omega
    have hwf2 := T2.wf
    have wc2 := lc2.wfv (Nat.le_refl n2)
    have wp2 := lp.wfv (Nat.le_refl n2)
    simp -implicitDefEqProofs only [s14, ll1, ll2, hnl, kc, jc, kp, jp, CanPourAt_F, sCanPourAt_F, MeanMoved_F, sMeanMoved_F, ChanceSorted_F, sChanceSorted_F, ViewBehind_F, sViewBehind_F, Pour_F, ViewOf_F, vLess_F, FirstCandidate_F, CountCandidates_F, CertainPours_F, sCertainPours_F, PoursOf_F, Wrap.ap, eqI_p2, eqI_rack, eqI_view, Nat.add_assoc, add_self, self_add, add_add, List.getD_cons_zero, List.getD_cons_succ, ZB, Int.reduceToNat, Nat.reduceLT, Nat.reduceLeDiff, Int.reduceLE, Int.reduceLT, Nat.reduceEqDiff, Nat.reduceSub, SB, SV.known, packR, ne_eq, reduceCtorEq, Nat.reduceEqDiff, ↓reduceIte, if_true, if_false, eq_self, Nat.reduceAdd, Nat.reduceMul, Nat.reduceSub, forall_const, oneCellS, litOne, flat1, Kd.isSca, flat, TYB]
    refine loop_introN (fun k : Nat => [(49, .int k), (47, vp), (3, .ptr v 0), (4, .int x), (5, .int y), (10, .ptr me 0), (11, .bool (mmB V x y)), (14, vc), (15, .bool (isVF V)), (18, .ptr u 0), (19, .ptr cs 0), (20, .bool (isVF U)), (23, .ptr r 0), (24, .int a), (25, .int b), (26, .ptr vw 0), (27, .int (pourM R a b)), (28, .bool (pourB R a b))]) (fun _ => H2) (fun _ => n2) (fun k => k ≤ nc) (fun k => nc - k) ?_ ?_
    · exact ⟨0, Nat.zero_le _, Sub.same (by simp only [s3, s4, s5, s10, s11, s14, s15, s18, s19, s20, s23, s24, s25, s26, s27, s28, hi, kc, jc, kp, jp, SV.ren_id, LB, subS, subH, wfS, wfH, SV.ren, renL, SObj.ren, SV.wf, SObj.wf, wfL, SV.known, Nat.reduceEqDiff, ↓reduceIte, if_true, if_false, eq_self, Nat.reduceAdd, Nat.reduceLT, Nat.reduceLeDiff, implies_true, reduceCtorEq, forall_const]; try rfl) (by simp [subS, subH, wfS, wfH, SV.ren, renL, SObj.ren, SV.wf, SObj.wf, wfL, sget_cons, hget_cons, wc2, wp2] <;> omega) hwf2 (by omega)⟩
    · intro k hk
      by_cases hkn : k < nc
      · have hkl : (k : Int) < nc := by omega
        rcases lc2.at_ with ⟨eg, h0⟩ | ⟨bg, cap, junk, eg, b1, b2, gg⟩
        · omega
        · have lQ : k * 2 + 2 ≤ (cpL V ++ junk).length := by rw [List.length_append]; omega
          have lx : (((cpL V ++ junk).drop (k * 2)).take 2).length = 2 := by rw [List.length_take, List.length_drop]; omega
          obtain ⟨Q, j, q1, e1⟩ := vPr_use lp lx (by omega)
          rw [hfi k hkn junk j] at q1
          subst eg
          simp -implicitDefEqProofs only [lk_normal, ll1, hkl, gg, lQ, q1, e1, kp, jp, CanPourAt_F, sCanPourAt_F, MeanMoved_F, sMeanMoved_F, ChanceSorted_F, sChanceSorted_F, ViewBehind_F, sViewBehind_F, Pour_F, ViewOf_F, vLess_F, FirstCandidate_F, CountCandidates_F, CertainPours_F, sCertainPours_F, PoursOf_F, Wrap.ap, eqI_p2, eqI_rack, eqI_view, Nat.add_assoc, add_self, self_add, add_add, List.getD_cons_zero, List.getD_cons_succ, ZB, Int.reduceToNat, Nat.reduceLT, Nat.reduceLeDiff, Int.reduceLE, Int.reduceLT, Nat.reduceEqDiff, Nat.reduceSub, SB, SV.known, packR, ne_eq, reduceCtorEq, Nat.reduceEqDiff, ↓reduceIte, if_true, if_false, eq_self, Nat.reduceAdd, Nat.reduceMul, Nat.reduceSub, forall_const, oneCellS, litOne, flat1, Kd.isSca, flat, TYB]
          exact ⟨by omega, by unfold In64; omega, k + 1, by omega, by omega, Sub.same (by simp only [kp, jp, SV.ren_id, LB, subS, subH, wfS, wfH, SV.ren, renL, SObj.ren, SV.wf, SObj.wf, wfL, SV.known, Nat.reduceEqDiff, ↓reduceIte, if_true, if_false, eq_self, Nat.reduceAdd, Nat.reduceLT, Nat.reduceLeDiff, implies_true, reduceCtorEq, forall_const]; try rfl) (by simp [subS, subH, wfS, wfH, SV.ren, renL, SObj.ren, SV.wf, SObj.wf, wfL, sget_cons, hget_cons, wp2] <;> omega) hwf2 (by omega)⟩
      · have hkl : ¬ (k : Int) < nc := by omega
        simp -implicitDefEqProofs only [lk_normal, ll1, hkl, kc, jc, kp, jp, CanPourAt_F, sCanPourAt_F, MeanMoved_F, sMeanMoved_F, ChanceSorted_F, sChanceSorted_F, ViewBehind_F, sViewBehind_F, Pour_F, ViewOf_F, vLess_F, FirstCandidate_F, CountCandidates_F, CertainPours_F, sCertainPours_F, PoursOf_F, Wrap.ap, eqI_p2, eqI_rack, eqI_view, Nat.add_assoc, add_self, self_add, add_add, List.getD_cons_zero, List.getD_cons_succ, ZB, Int.reduceToNat, Nat.reduceLT, Nat.reduceLeDiff, Int.reduceLE, Int.reduceLT, Nat.reduceEqDiff, Nat.reduceSub, SB, SV.known, packR, ne_eq, reduceCtorEq, Nat.reduceEqDiff, ↓reduceIte, if_true, if_false, eq_self, Nat.reduceAdd, Nat.reduceMul, Nat.reduceSub, forall_const, oneCellS, litOne, flat1, Kd.isSca, flat, TYB]
        exact next _ _ _ (hE0.re T2 rfl rfl rfl rfl rfl rfl (by rw [hi]; rfl) rfl rfl rfl rfl rfl rfl rfl rfl rfl)
set_option maxHeartbeats 2000000 in
theorem se_b17 (S : Env) (H : Heap) (n : Nat) (V U R : List Int) (x y a b : Int) (v me u cs r vw : Nat) (vc : SV) (hE : SeS S H n V U R x y a b v me u cs r vw vc) (hV : V.length = 18) (hVi : I64 V) (hU : U.length = 18) (hUi : I64 U) : codeVC (⟨Try.prog, tys, [(5, vBig_F), (31, CanPourAt_F), (32, sCanPourAt_F), (33, MeanMoved_F), (34, sMeanMoved_F), (38, ChanceSorted_F), (39, sChanceSorted_F), (41, ViewBehind_F), (42, sViewBehind_F), (44, Pour_F), (7, ViewOf_F), (43, vPairs_F), (45, vPour_F), (46, vLess_F), (17, FirstCandidate_F), (15, CountCandidates_F)], [(30, DrawMeanMoved_F), (35, CertainPours_F), (36, sCertainPours_F), (12, vCut_F), (37, DrawChanceSorted_F), (40, DrawViewBehind_F), (47, PoursOf_F)], true, true, 1, [], []⟩ : Cx) 1 (cdN 17 (Try.f4.body.getD .skip)) S H n seQ := by
  have hE0 := hE
  obtain ⟨s3, s4, s5, s10, s11, s14, s15, s18, s19, s20, s23, s24, s25, s26, s27, s28, hv, hm, hu, hs, hr, hw, lc, hlt, hwf0, h1n⟩ := hE
  have tkV : V.take 18 = V := List.take_of_length_le (by omega)
  rw [cd_cut (show cdN 17 (Try.f4.body.getD .skip) = .seq (cd1 (cdN 17 (Try.f4.body.getD .skip))) (cdN 18 (Try.f4.body.getD .skip)) from rfl)]
  have next := fun S' H' n' (h : SeS S' H' n' V U R x y a b v me u cs r vw vc) => se_b18 S' H' n' V U R x y a b v me u cs r vw vc h hV hVi hU hUi
  obtain ⟨cn, en⟩ : ∃ c, c = cdN 18 (Try.f4.body.getD .skip) := ⟨_, rfl⟩
  rw [← en] at next ⊢
  simp only [cdN, cd1, cd2, Try.f4, Option.getD_some]
  cases hi : mmB V x y
  · simp -implicitDefEqProofs only [s11, hi, CanPourAt_F, sCanPourAt_F, MeanMoved_F, sMeanMoved_F, ChanceSorted_F, sChanceSorted_F, ViewBehind_F, sViewBehind_F, Pour_F, ViewOf_F, vLess_F, FirstCandidate_F, CountCandidates_F, CertainPours_F, sCertainPours_F, PoursOf_F, Wrap.ap, eqI_p2, eqI_rack, eqI_view, Nat.add_assoc, add_self, self_add, add_add, List.getD_cons_zero, List.getD_cons_succ, ZB, Int.reduceToNat, Nat.reduceLT, Nat.reduceLeDiff, Int.reduceLE, Int.reduceLT, Nat.reduceEqDiff, Nat.reduceSub, SB, SV.known, packR, ne_eq, reduceCtorEq, Nat.reduceEqDiff, ↓reduceIte, if_true, if_false, eq_self, Nat.reduceAdd, Nat.reduceMul, Nat.reduceSub, forall_const, oneCellS, litOne, flat1, Kd.isSca, flat, TYB]
    exact next _ _ _ (hE0.up (by (repeat (first | refine se_up ?_ (by decide) | exact fun _ _ => rfl))) (Kpt.refl hwf0))
  · obtain ⟨l2, b0, b1, o1, o2, o3, ⟨hx, hy⟩, ui, uj⟩ := mean_bd hV hVi hi
    have tk2 := List.take_of_length_le (Nat.le_of_eq l2)
    have x6 : 6 + x.toNat < 18 := by omega
    have y6 : 6 + y.toNat < 18 := by omega
    generalize hm0 : (mmF V x y).getD 0 0 = m0 at *
    generalize hm1 : (mmF V x y).getD 1 0 = m1 at *
    have mb := mul_bd (x := 4 - V.getD (6 + y.toNat) 0) (y := m1) (a := 4) (b := 1000000000) (by omega) (by omega) b1.1 b1.2
    have mc := mul_bd (x := V.getD (6 + x.toNat) 0) (y := m1) (a := 4) (b := 1000000000) (by omega) (by omega) b1.1 b1.2
    have i1 : In64 (m0 * 1) := by unfold In64; omega
    have i2 : In64 (1 * m1) := by unfold In64; omega
    have i3 : In64 ((4 - V.getD (6 + y.toNat) 0) * m1) := by unfold In64; omega
    have i4 : In64 (V.getD (6 + x.toNat) 0 * m1) := by unfold In64; omega
    have i5 : In64 (4 - V.getD (6 + y.toNat) 0) := by unfold In64; omega
    simp -implicitDefEqProofs only [s3, s4, s5, s10, s11, hi, hv, hm, hV, tkV, l2, tk2, hx, hy, x6, y6, hm0, hm1, i1, i2, i3, i4, i5, o1, o2, o3, CanPourAt_F, sCanPourAt_F, MeanMoved_F, sMeanMoved_F, ChanceSorted_F, sChanceSorted_F, ViewBehind_F, sViewBehind_F, Pour_F, ViewOf_F, vLess_F, FirstCandidate_F, CountCandidates_F, CertainPours_F, sCertainPours_F, PoursOf_F, Wrap.ap, eqI_p2, eqI_rack, eqI_view, Nat.add_assoc, add_self, self_add, add_add, List.getD_cons_zero, List.getD_cons_succ, ZB, Int.reduceToNat, Nat.reduceLT, Nat.reduceLeDiff, Int.reduceLE, Int.reduceLT, Nat.reduceEqDiff, Nat.reduceSub, SB, SV.known, packR, ne_eq, reduceCtorEq, Nat.reduceEqDiff, ↓reduceIte, if_true, if_false, eq_self, Nat.reduceAdd, Nat.reduceMul, Nat.reduceSub, forall_const, oneCellS, litOne, flat1, Kd.isSca, flat, TYB]
    exact next _ _ _ (hE0.up (by (repeat (first | refine se_up ?_ (by decide) | exact fun _ _ => rfl))) (Kpt.refl hwf0))
set_option maxHeartbeats 4000000 in
theorem se_b16 (S : Env) (H : Heap) (n : Nat) (V U R : List Int) (x y a b : Int) (v me u cs r vw : Nat) (vc : SV) (hE : SeS S H n V U R x y a b v me u cs r vw vc) (hV : V.length = 18) (hVi : I64 V) (hU : U.length = 18) (hUi : I64 U) (hR : R.length = 24) (hRi : ∀ z ∈ R, In64 z) : codeVC (⟨Try.prog, tys, [(5, vBig_F), (31, CanPourAt_F), (32, sCanPourAt_F), (33, MeanMoved_F), (34, sMeanMoved_F), (38, ChanceSorted_F), (39, sChanceSorted_F), (41, ViewBehind_F), (42, sViewBehind_F), (44, Pour_F), (7, ViewOf_F), (43, vPairs_F), (45, vPour_F), (46, vLess_F), (17, FirstCandidate_F), (15, CountCandidates_F)], [(30, DrawMeanMoved_F), (35, CertainPours_F), (36, sCertainPours_F), (12, vCut_F), (37, DrawChanceSorted_F), (40, DrawViewBehind_F), (47, PoursOf_F)], true, true, 1, [], []⟩ : Cx) 1 (cdN 16 (Try.f4.body.getD .skip)) S H n seQ := by
  have hE0 := hE
  obtain ⟨s3, s4, s5, s10, s11, s14, s15, s18, s19, s20, s23, s24, s25, s26, s27, s28, hv, hm, hu, hs, hr, hw, lc, hlt, hwf0, h1n⟩ := hE
  have tkR : R.take 24 = R := List.take_of_length_le (by omega)
  rw [cd_cut (show cdN 16 (Try.f4.body.getD .skip) = .seq (cd1 (cdN 16 (Try.f4.body.getD .skip))) (cdN 17 (Try.f4.body.getD .skip)) from rfl)]
  have next := fun S' H' n' (h : SeS S' H' n' V U R x y a b v me u cs r vw vc) => se_b17 S' H' n' V U R x y a b v me u cs r vw vc h hV hVi hU hUi
  obtain ⟨cn, en⟩ : ∃ c, c = cdN 17 (Try.f4.body.getD .skip) := ⟨_, rfl⟩
  rw [← en] at next ⊢
  simp only [cdN, cd1, cd2, Try.f4, Option.getD_some]
  cases hi : pourB R a b
  · simp -implicitDefEqProofs only [s28, hi, CanPourAt_F, sCanPourAt_F, MeanMoved_F, sMeanMoved_F, ChanceSorted_F, sChanceSorted_F, ViewBehind_F, sViewBehind_F, Pour_F, ViewOf_F, vLess_F, FirstCandidate_F, CountCandidates_F, CertainPours_F, sCertainPours_F, PoursOf_F, Wrap.ap, eqI_p2, eqI_rack, eqI_view, Nat.add_assoc, add_self, self_add, add_add, List.getD_cons_zero, List.getD_cons_succ, ZB, Int.reduceToNat, Nat.reduceLT, Nat.reduceLeDiff, Int.reduceLE, Int.reduceLT, Nat.reduceEqDiff, Nat.reduceSub, SB, SV.known, packR, ne_eq, reduceCtorEq, Nat.reduceEqDiff, ↓reduceIte, if_true, if_false, eq_self, Nat.reduceAdd, Nat.reduceMul, Nat.reduceSub, forall_const, oneCellS, litOne, flat1, Kd.isSca, flat, TYB]
    exact next _ _ _ (hE0.up (by (repeat (first | refine se_up ?_ (by decide) | exact fun _ _ => rfl))) (Kpt.refl hwf0))
  · obtain ⟨q1, q2, q3, q4, q5, q6⟩ := seen_two hR hi
    obtain ⟨hr1, _, _, _, _, _⟩ := pourB_x hi
    have lP := pourT_len hR a b
    have tkP := List.take_of_length_le (Nat.le_of_eq lP)
    have lV := viewF_len R
    have tkV := List.take_of_length_le (Nat.le_of_eq lV)
    have lB : (vbF R a b).length = 18 := by rw [← q2]; exact voF_len _
    have tkB := List.take_of_length_le (Nat.le_of_eq lB)
    have vin : I64 (viewF R) := view_in hR hr1
    have hvg := view_good hR hr1
    have d1 : (r = n) = False := by simp; omega
    have d2 : ∀ k, (r = n + k) = False := fun k => by simp; omega
    have d3 : (vw = n) = False := by simp; omega
    have d4 : ∀ k, (vw = n + k) = False := fun k => by simp; omega
    obtain ⟨nc, hnc, hnc36, enc⟩ := cp_two (viewF R)
    have hP : Kpt n H ((n + 2, .ints (viewF R) 31) :: (n + 2, .ints (List.replicate 18 0) 31) :: (n + 1, .ints (vbF R a b) 31) :: (n + 1, .ints (List.replicate 18 0) 31) :: (n, .ints (pourT R a b) 27) :: (n, .ints (List.replicate 24 0) 27) :: H) (n + 3) := (((((Kpt.refl hwf0).push.put (by omega)).push).put (by omega)).push).put (by omega)
    simp -implicitDefEqProofs only [s23, s24, s25, s26, s27, s28, hi, hr, hw, hR, tkR, q1, q2, q3, q4, q5, lP, tkP, lV, tkV, lB, tkB, vin, hvg, hr1, d1, d2, d3, d4, enc, CanPourAt_F, sCanPourAt_F, MeanMoved_F, sMeanMoved_F, ChanceSorted_F, sChanceSorted_F, ViewBehind_F, sViewBehind_F, Pour_F, ViewOf_F, vLess_F, FirstCandidate_F, CountCandidates_F, CertainPours_F, sCertainPours_F, PoursOf_F, Wrap.ap, eqI_p2, eqI_rack, eqI_view, Nat.add_assoc, add_self, self_add, add_add, List.getD_cons_zero, List.getD_cons_succ, ZB, Int.reduceToNat, Nat.reduceLT, Nat.reduceLeDiff, Int.reduceLE, Int.reduceLT, Nat.reduceEqDiff, Nat.reduceSub, SB, SV.known, packR, ne_eq, reduceCtorEq, Nat.reduceEqDiff, ↓reduceIte, if_true, if_false, eq_self, Nat.reduceAdd, Nat.reduceMul, Nat.reduceSub, forall_const, oneCellS, litOne, flat1, Kd.isSca, flat, TYB]
    refine ⟨h1n, freshK_sl hP.wf hnc (by omega) fun vp H2 n2 lp hK2 => ?_⟩
    have kp := lp.kn
    have jp := kp
    simp only [SV.known] at jp
    have hle2 := hK2.le
    have T2 : Kpt n H H2 n2 := hP.trans hK2
    have gv2 := hK2.fr (n + 2) (.ints (viewF R) 31) (by omega) (by simp [hget_cons])
    have lM := mmF_len (viewF R) a b
    have tkM := List.take_of_length_le (Nat.le_of_eq lM)
    have P3 : Kpt n2 H2 ((n2, .ints (mmF (viewF R) a b) 47) :: (n2, .ints (List.replicate 2 0) 47) :: H2) (n2 + 1) := (Kpt.refl hK2.wf).push.put (by omega)
    have T3 := T2.trans P3
    obtain ⟨Q, j, qq, e1⟩ := vPr_use (lp.up P3.fr) (p := [a, b]) rfl (by omega)
    cases hb : inP (cpL (viewF R) ++ j) nc [a, b]
    · rw [hb] at qq
      simp -implicitDefEqProofs only [s23, s24, s25, s26, s27, s28, gv2, lV, tkV, vin, q6, lM, tkM, qq, e1, kp, jp, CanPourAt_F, sCanPourAt_F, MeanMoved_F, sMeanMoved_F, ChanceSorted_F, sChanceSorted_F, ViewBehind_F, sViewBehind_F, Pour_F, ViewOf_F, vLess_F, FirstCandidate_F, CountCandidates_F, CertainPours_F, sCertainPours_F, PoursOf_F, Wrap.ap, eqI_p2, eqI_rack, eqI_view, Nat.add_assoc, add_self, self_add, add_add, List.getD_cons_zero, List.getD_cons_succ, ZB, Int.reduceToNat, Nat.reduceLT, Nat.reduceLeDiff, Int.reduceLE, Int.reduceLT, Nat.reduceEqDiff, Nat.reduceSub, SB, SV.known, packR, ne_eq, reduceCtorEq, Nat.reduceEqDiff, ↓reduceIte, if_true, if_false, eq_self, Nat.reduceAdd, Nat.reduceMul, Nat.reduceSub, forall_const, oneCellS, litOne, flat1, Kd.isSca, flat, TYB]
      exact ⟨by omega, next _ _ _ (hE0.up (by (repeat (first | refine se_up ?_ (by decide) | exact fun _ _ => rfl))) T3)⟩
    · rw [hb] at qq
      have em := seen_mean hR hi hnc j hb
      rw [em] at qq T3
      simp -implicitDefEqProofs only [s23, s24, s25, s26, s27, s28, gv2, lV, tkV, vin, q6, em, qq, e1, kp, jp, CanPourAt_F, sCanPourAt_F, MeanMoved_F, sMeanMoved_F, ChanceSorted_F, sChanceSorted_F, ViewBehind_F, sViewBehind_F, Pour_F, ViewOf_F, vLess_F, FirstCandidate_F, CountCandidates_F, CertainPours_F, sCertainPours_F, PoursOf_F, Wrap.ap, eqI_p2, eqI_rack, eqI_view, Nat.add_assoc, add_self, self_add, add_add, List.getD_cons_zero, List.getD_cons_succ, ZB, Int.reduceToNat, Nat.reduceLT, Nat.reduceLeDiff, Int.reduceLE, Int.reduceLT, Nat.reduceEqDiff, Nat.reduceSub, SB, SV.known, packR, ne_eq, reduceCtorEq, Nat.reduceEqDiff, ↓reduceIte, if_true, if_false, eq_self, Nat.reduceAdd, Nat.reduceMul, Nat.reduceSub, forall_const, oneCellS, litOne, flat1, Kd.isSca, flat, TYB]
      exact ⟨by omega, next _ _ _ (hE0.up (by (repeat (first | refine se_up ?_ (by decide) | exact fun _ _ => rfl))) T3)⟩
theorem mm_cases (V : List Int) (x y : Int) : (cpaF V x y = false ∧ mmB V x y = false) ∨ (cpaF V x y = true ∧ isVF V = true ∧ vcan V x.toNat y.toNat = false ∧ mmB V x y = false) ∨ (cpaF V x y = true ∧ isVF V = true ∧ vcan V x.toNat y.toNat = true ∧ mmB V x y = true) := by
  unfold cpaF mmB
  cases hv : isVF V
  · exact .inl ⟨rfl, rfl⟩
  cases hx : plF x
  · exact .inl ⟨rfl, rfl⟩
  cases hy : plF y
  · exact .inl ⟨rfl, rfl⟩
  cases hc : vcan V x.toNat y.toNat
  · by_cases h : x = y
    · rw [decide_eq_true h]; exact .inl ⟨rfl, rfl⟩
    · rw [decide_eq_false h]; exact .inr (.inl ⟨rfl, rfl, rfl, rfl⟩)
  · have hx' := of_decide_eq_true hx
    have hy' := of_decide_eq_true hy
    by_cases h : x = y
    · exfalso
      subst h
      unfold vcan at hc
      have : ((x.toNat : Nat) : Int) = (x.toNat : Nat) := rfl
      simp at hc
    · rw [decide_eq_false h]; exact .inr (.inr ⟨rfl, rfl, rfl, rfl⟩)
set_option maxHeartbeats 8000000 in
theorem lawFnSeen_vc (cv : SV) (H0 : Heap) (hB : BytA cv H0) (hrb : vBig_F [cv] H0 = some (True, .bool false)) (hkn : cv.known = true) (hw0 : hwf 1 H0) (hcap : capOK cv) :
    codeVC (⟨Try.prog, tys, [(5, vBig_F), (31, CanPourAt_F), (32, sCanPourAt_F), (33, MeanMoved_F), (34, sMeanMoved_F), (38, ChanceSorted_F), (39, sChanceSorted_F), (41, ViewBehind_F), (42, sViewBehind_F), (44, Pour_F), (7, ViewOf_F), (43, vPairs_F), (45, vPour_F), (46, vLess_F), (17, FirstCandidate_F), (15, CountCandidates_F)], [(30, DrawMeanMoved_F), (35, CertainPours_F), (36, sCertainPours_F), (12, vCut_F), (37, DrawChanceSorted_F), (40, DrawViewBehind_F), (47, PoursOf_F)], true, true, 1, [], []⟩ : Cx) 1 (Try.f4.body.getD .skip) (argS 0 [cv]) H0 1 seQ := by
  have hkm := hkn
  simp only [SV.known] at hkm
  rw [show (Try.f4.body.getD .skip) = cdP 16 (Try.f4.body.getD .skip) (cdN 16 (Try.f4.body.getD .skip)) from rfl]
  have next := se_b16
  obtain ⟨c14, e14⟩ : ∃ c, c = cdN 16 (Try.f4.body.getD .skip) := ⟨_, rfl⟩
  rw [← e14] at next ⊢
  simp only [cdP, Try.f4, Option.getD_some, List.append_eq, List.cons_append, List.nil_append]
  simp -implicitDefEqProofs only [argS, hrb, hkn, hkm, CanPourAt_F, sCanPourAt_F, MeanMoved_F, sMeanMoved_F, ChanceSorted_F, sChanceSorted_F, ViewBehind_F, sViewBehind_F, Pour_F, ViewOf_F, vLess_F, FirstCandidate_F, CountCandidates_F, CertainPours_F, sCertainPours_F, PoursOf_F, Wrap.ap, eqI_p2, eqI_rack, eqI_view, Nat.add_assoc, add_self, self_add, add_add, List.getD_cons_zero, List.getD_cons_succ, ZB, Int.reduceToNat, Nat.reduceLT, Nat.reduceLeDiff, Int.reduceLE, Int.reduceLT, Nat.reduceEqDiff, Nat.reduceSub, SB, SV.known, packR, ne_eq, reduceCtorEq, Nat.reduceEqDiff, ↓reduceIte, if_true, if_false, eq_self, Nat.reduceAdd, Nat.reduceMul, Nat.reduceSub, forall_const, oneCellS, litOne, flat1, Kd.isSca, flat, TYB]
  refine drawMM_use hB (Nat.le_refl _) fun V x y H1 n1 hV hVi hx hy hK1 => ?_
  have hle1 := hK1.le
  have tkV : V.take 18 = V := List.take_of_length_le (by omega)
  have lM := mmF_len V x y
  have tkM := List.take_of_length_le (Nat.le_of_eq lM)
  have a1 : (n1 = n1 + 1) = False := by simp
  have P1 : Kpt n1 H1 ((n1 + 2, .ints (mmF V x y) 47) :: (n1 + 2, .ints (List.replicate 2 0) 47) :: (n1 + 1, .ints (mmF V x y) 47) :: (n1 + 1, .ints (List.replicate 2 0) 47) :: (n1, .ints V 31) :: (n1, .ints (List.replicate 18 0) 31) :: H1) (n1 + 3) := (((((Kpt.refl hK1.wf).push.put (by omega)).push).put (by omega)).push).put (by omega)
  obtain ⟨nc, hnc, hnc36, enc⟩ := cp_two V
  simp -implicitDefEqProofs only [hV, tkV, hVi, lM, tkM, a1, hkn, hkm, enc, CanPourAt_F, sCanPourAt_F, MeanMoved_F, sMeanMoved_F, ChanceSorted_F, sChanceSorted_F, ViewBehind_F, sViewBehind_F, Pour_F, ViewOf_F, vLess_F, FirstCandidate_F, CountCandidates_F, CertainPours_F, sCertainPours_F, PoursOf_F, Wrap.ap, eqI_p2, eqI_rack, eqI_view, Nat.add_assoc, add_self, self_add, add_add, List.getD_cons_zero, List.getD_cons_succ, ZB, Int.reduceToNat, Nat.reduceLT, Nat.reduceLeDiff, Int.reduceLE, Int.reduceLT, Nat.reduceEqDiff, Nat.reduceSub, SB, SV.known, packR, ne_eq, reduceCtorEq, Nat.reduceEqDiff, ↓reduceIte, if_true, if_false, eq_self, Nat.reduceAdd, Nat.reduceMul, Nat.reduceSub, forall_const, oneCellS, litOne, flat1, Kd.isSca, flat, TYB]
  refine ⟨hle1, freshK_sl P1.wf hnc (by omega) fun vc H2 n2 lc hK2 => ?_⟩
  have hle2 := hK2.le
  have gv2 := hK2.fr n1 (.ints V 31) (by omega) (by simp [hget_cons])
  have kc := lc.kn
  have jc := kc
  simp only [SV.known] at jc
  simp -implicitDefEqProofs only [hV, tkV, hVi, gv2, kc, jc, hkn, hkm, enc, CanPourAt_F, sCanPourAt_F, MeanMoved_F, sMeanMoved_F, ChanceSorted_F, sChanceSorted_F, ViewBehind_F, sViewBehind_F, Pour_F, ViewOf_F, vLess_F, FirstCandidate_F, CountCandidates_F, CertainPours_F, sCertainPours_F, PoursOf_F, Wrap.ap, eqI_p2, eqI_rack, eqI_view, Nat.add_assoc, add_self, self_add, add_add, List.getD_cons_zero, List.getD_cons_succ, ZB, Int.reduceToNat, Nat.reduceLT, Nat.reduceLeDiff, Int.reduceLE, Int.reduceLT, Nat.reduceEqDiff, Nat.reduceSub, SB, SV.known, packR, ne_eq, reduceCtorEq, Nat.reduceEqDiff, ↓reduceIte, if_true, if_false, eq_self, Nat.reduceAdd, Nat.reduceMul, Nat.reduceSub, forall_const, oneCellS, litOne, flat1, Kd.isSca, flat, TYB]
  refine freshK_sl hK2.wf hnc (by omega) fun vd H3 n3 ld hK3 => ?_
  have hle3 := hK3.le
  have kd := ld.kn
  have jd := kd
  simp only [SV.known] at jd
  have T13 : Kpt n1 H1 H3 n3 := P1.trans (hK2.trans hK3)
  have hB3 := hB.fr hw0 (fun i o hi ho => (hK1.trans T13).fr i o hi ho)
  simp -implicitDefEqProofs only [kc, jc, kd, jd, hkn, hkm, CanPourAt_F, sCanPourAt_F, MeanMoved_F, sMeanMoved_F, ChanceSorted_F, sChanceSorted_F, ViewBehind_F, sViewBehind_F, Pour_F, ViewOf_F, vLess_F, FirstCandidate_F, CountCandidates_F, CertainPours_F, sCertainPours_F, PoursOf_F, Wrap.ap, eqI_p2, eqI_rack, eqI_view, Nat.add_assoc, add_self, self_add, add_add, List.getD_cons_zero, List.getD_cons_succ, ZB, Int.reduceToNat, Nat.reduceLT, Nat.reduceLeDiff, Int.reduceLE, Int.reduceLT, Nat.reduceEqDiff, Nat.reduceSub, SB, SV.known, packR, ne_eq, reduceCtorEq, Nat.reduceEqDiff, ↓reduceIte, if_true, if_false, eq_self, Nat.reduceAdd, Nat.reduceMul, Nat.reduceSub, forall_const, oneCellS, litOne, flat1, Kd.isSca, flat, TYB]
  refine cut_use hB3 hcap (.inl rfl) (by omega) fun b4 l4 c4 H4 n4 hB4 hK4 => ?_
  have hle4 := hK4.le
  simp -implicitDefEqProofs only [kc, jc, kd, jd, hkn, hkm, CanPourAt_F, sCanPourAt_F, MeanMoved_F, sMeanMoved_F, ChanceSorted_F, sChanceSorted_F, ViewBehind_F, sViewBehind_F, Pour_F, ViewOf_F, vLess_F, FirstCandidate_F, CountCandidates_F, CertainPours_F, sCertainPours_F, PoursOf_F, Wrap.ap, eqI_p2, eqI_rack, eqI_view, Nat.add_assoc, add_self, self_add, add_add, List.getD_cons_zero, List.getD_cons_succ, ZB, Int.reduceToNat, Nat.reduceLT, Nat.reduceLeDiff, Int.reduceLE, Int.reduceLT, Nat.reduceEqDiff, Nat.reduceSub, SB, SV.known, packR, ne_eq, reduceCtorEq, Nat.reduceEqDiff, ↓reduceIte, if_true, if_false, eq_self, Nat.reduceAdd, Nat.reduceMul, Nat.reduceSub, forall_const, oneCellS, litOne, flat1, Kd.isSca, flat, TYB]
  refine drawCS_use hB4 (by omega) fun U H5 n5 hU hUi hK5 => ?_
  have hle5 := hK5.le
  have tkU : U.take 18 = U := List.take_of_length_le (by omega)
  have lC := chs_len U
  have tkC := List.take_of_length_le (Nat.le_of_eq lC)
  have a5 : (n5 = n5 + 1) = False := by simp
  have P5 : Kpt n5 H5 ((n5 + 2, .ints (chsF U) 47) :: (n5 + 2, .ints (List.replicate 2 0) 47) :: (n5 + 1, .ints (chsF U) 47) :: (n5 + 1, .ints (List.replicate 2 0) 47) :: (n5, .ints U 31) :: (n5, .ints (List.replicate 18 0) 31) :: H5) (n5 + 3) := (((((Kpt.refl hK5.wf).push.put (by omega)).push).put (by omega)).push).put (by omega)
  have T35 : Kpt n3 H3 _ (n5 + 3) := hK4.trans (hK5.trans P5)
  have hB5 := hB3.fr hK3.wf (fun i o hi ho => T35.fr i o hi ho)
  simp -implicitDefEqProofs only [hU, hUi, tkU, lC, tkC, a5, kc, jc, kd, jd, hkn, hkm, CanPourAt_F, sCanPourAt_F, MeanMoved_F, sMeanMoved_F, ChanceSorted_F, sChanceSorted_F, ViewBehind_F, sViewBehind_F, Pour_F, ViewOf_F, vLess_F, FirstCandidate_F, CountCandidates_F, CertainPours_F, sCertainPours_F, PoursOf_F, Wrap.ap, eqI_p2, eqI_rack, eqI_view, Nat.add_assoc, add_self, self_add, add_add, List.getD_cons_zero, List.getD_cons_succ, ZB, Int.reduceToNat, Nat.reduceLT, Nat.reduceLeDiff, Int.reduceLE, Int.reduceLT, Nat.reduceEqDiff, Nat.reduceSub, SB, SV.known, packR, ne_eq, reduceCtorEq, Nat.reduceEqDiff, ↓reduceIte, if_true, if_false, eq_self, Nat.reduceAdd, Nat.reduceMul, Nat.reduceSub, forall_const, oneCellS, litOne, flat1, Kd.isSca, flat, TYB]
  refine ⟨by omega, cut_use hB5 hcap (.inr rfl) (by omega) fun b6 l6 c6 H6 n6 hB6 hK6 => ?_⟩
  have hle6 := hK6.le
  simp -implicitDefEqProofs only [kc, jc, kd, jd, hkn, hkm, CanPourAt_F, sCanPourAt_F, MeanMoved_F, sMeanMoved_F, ChanceSorted_F, sChanceSorted_F, ViewBehind_F, sViewBehind_F, Pour_F, ViewOf_F, vLess_F, FirstCandidate_F, CountCandidates_F, CertainPours_F, sCertainPours_F, PoursOf_F, Wrap.ap, eqI_p2, eqI_rack, eqI_view, Nat.add_assoc, add_self, self_add, add_add, List.getD_cons_zero, List.getD_cons_succ, ZB, Int.reduceToNat, Nat.reduceLT, Nat.reduceLeDiff, Int.reduceLE, Int.reduceLT, Nat.reduceEqDiff, Nat.reduceSub, SB, SV.known, packR, ne_eq, reduceCtorEq, Nat.reduceEqDiff, ↓reduceIte, if_true, if_false, eq_self, Nat.reduceAdd, Nat.reduceMul, Nat.reduceSub, forall_const, oneCellS, litOne, flat1, Kd.isSca, flat, TYB]
  refine drawVB_use hB6 (by omega) fun R a b H7 n7 hR hRi hai hbi hK7 => ?_
  have hle7 := hK7.le
  have tkR : R.take 24 = R := List.take_of_length_le (by omega)
  have lB : (vbF R a b).length = 18 := by
    unfold vbF
    split
    · exact viewF_len _
    · simp
  have tkB := List.take_of_length_le (Nat.le_of_eq lB)
  have a7 : (n7 = n7 + 1) = False := by simp
  have P7 : Kpt n7 H7 ((n7 + 2, .ints (vbF R a b) 31) :: (n7 + 2, .ints (List.replicate 18 0) 31) :: (n7 + 1, .ints (vbF R a b) 31) :: (n7 + 1, .ints (List.replicate 18 0) 31) :: (n7, .ints R 27) :: (n7, .ints (List.replicate 24 0) 27) :: H7) (n7 + 3) := (((((Kpt.refl hK7.wf).push.put (by omega)).push).put (by omega)).push).put (by omega)
  have S5 : Kpt (n5 + 3) _ _ (n7 + 3) := hK6.trans (hK7.trans P7)
  have S3 : Kpt n3 H3 _ (n7 + 3) := T35.trans S5
  have S2 : Kpt n2 H2 _ (n7 + 3) := hK3.trans S3
  have S1 : Kpt (n1 + 3) _ _ (n7 + 3) := hK2.trans S2
  have lc1 := lc.up (fun i o hi ho => S2.fr i o hi ho)
  have ld1 := ld.up (fun i o hi ho => S3.fr i o hi ho)
  obtain ⟨Q1, q1, e1⟩ := vP_use lc1 ld1 (Nat.le_refl _) (by omega)
  have R5 : Kpt (n5 + 3) _ H7 n7 := hK6.trans hK7
  have R1 : Kpt (n1 + 3) _ H7 n7 := hK2.trans (hK3.trans (T35.trans R5))
  have gm := R1.fr (n1 + 1) (.ints (mmF V x y) 47) (by omega) (by simp [hget_cons])
  have gm' := R1.fr (n1 + 2) (.ints (mmF V x y) 47) (by omega) (by simp [hget_cons])
  have gs := R5.fr (n5 + 1) (.ints (chsF U) 47) (by omega) (by simp [hget_cons])
  have gs' := R5.fr (n5 + 2) (.ints (chsF U) 47) (by omega) (by simp [hget_cons])
  have c1 : ∀ k, (n1 + 1 = n7 + k) = False := fun k => by simp; omega
  have c2 : (n1 + 1 = n7) = False := by simp; omega
  have c3 : ∀ k, (n1 + 2 = n7 + k) = False := fun k => by simp; omega
  have c4 : (n1 + 2 = n7) = False := by simp; omega
  have c5 : ∀ k, (n5 + 1 = n7 + k) = False := fun k => by simp; omega
  have c6 : (n5 + 1 = n7) = False := by simp; omega
  have c7 : ∀ k, (n5 + 2 = n7 + k) = False := fun k => by simp; omega
  have c8 : (n5 + 2 = n7) = False := by simp; omega
  have c9 : (n7 + 1 = n7 + 2) = False := by simp
  have zv := S1.fr n1 (.ints V 31) (by omega) (by simp [hget_cons])
  have zm := S1.fr (n1 + 1) (.ints (mmF V x y) 47) (by omega) (by simp [hget_cons])
  have zu := S5.fr n5 (.ints U 31) (by omega) (by simp [hget_cons])
  have zs := S5.fr (n5 + 1) (.ints (chsF U) 47) (by omega) (by simp [hget_cons])
  rw [← enc] at lc1
  rcases mm_cases V x y with ⟨m1, m2⟩ | ⟨m1, m2, m3, m4⟩ | ⟨m1, m2, m3, m4⟩
  · simp -implicitDefEqProofs only [m1, m2, hR, tkR, lB, tkB, lM, tkM, lC, tkC, gm, gm', gs, gs', a7, c1, c2, c3, c4, c5, c6, c7, c8, c9, q1, e1, kc, jc, kd, jd, hkn, hkm, CanPourAt_F, sCanPourAt_F, MeanMoved_F, sMeanMoved_F, ChanceSorted_F, sChanceSorted_F, ViewBehind_F, sViewBehind_F, Pour_F, ViewOf_F, vLess_F, FirstCandidate_F, CountCandidates_F, CertainPours_F, sCertainPours_F, PoursOf_F, Wrap.ap, eqI_p2, eqI_rack, eqI_view, Nat.add_assoc, add_self, self_add, add_add, List.getD_cons_zero, List.getD_cons_succ, ZB, Int.reduceToNat, Nat.reduceLT, Nat.reduceLeDiff, Int.reduceLE, Int.reduceLT, Nat.reduceEqDiff, Nat.reduceSub, SB, SV.known, packR, ne_eq, reduceCtorEq, Nat.reduceEqDiff, ↓reduceIte, if_true, if_false, eq_self, Nat.reduceAdd, Nat.reduceMul, Nat.reduceSub, forall_const, oneCellS, litOne, flat1, Kd.isSca, flat, TYB]
    exact ⟨by omega, next _ _ _ V U R x y a b n1 (n1 + 1) n5 (n5 + 1) n7 (n7 + 1) vc ⟨rfl, rfl, rfl, rfl, (by rw [m2]; rfl), rfl, rfl, rfl, rfl, rfl, rfl, rfl, rfl, rfl, rfl, rfl, zv, zm, zu, zs, by simp [hget_cons], by simp [hget_cons], lc1.wk (Nat.zero_le _) (by omega), by omega, P7.wf, by omega⟩ hV hVi hU hUi hR hRi⟩
  · simp -implicitDefEqProofs only [m1, m2, m3, m4, hR, tkR, lB, tkB, lM, tkM, lC, tkC, gm, gm', gs, gs', a7, c1, c2, c3, c4, c5, c6, c7, c8, c9, q1, e1, kc, jc, kd, jd, hkn, hkm, CanPourAt_F, sCanPourAt_F, MeanMoved_F, sMeanMoved_F, ChanceSorted_F, sChanceSorted_F, ViewBehind_F, sViewBehind_F, Pour_F, ViewOf_F, vLess_F, FirstCandidate_F, CountCandidates_F, CertainPours_F, sCertainPours_F, PoursOf_F, Wrap.ap, eqI_p2, eqI_rack, eqI_view, Nat.add_assoc, add_self, self_add, add_add, List.getD_cons_zero, List.getD_cons_succ, ZB, Int.reduceToNat, Nat.reduceLT, Nat.reduceLeDiff, Int.reduceLE, Int.reduceLT, Nat.reduceEqDiff, Nat.reduceSub, SB, SV.known, packR, ne_eq, reduceCtorEq, Nat.reduceEqDiff, ↓reduceIte, if_true, if_false, eq_self, Nat.reduceAdd, Nat.reduceMul, Nat.reduceSub, forall_const, oneCellS, litOne, flat1, Kd.isSca, flat, TYB]
    exact ⟨by omega, next _ _ _ V U R x y a b n1 (n1 + 1) n5 (n5 + 1) n7 (n7 + 1) vc ⟨rfl, rfl, rfl, rfl, (by rw [m4]; rfl), rfl, (by rw [m2]; rfl), rfl, rfl, rfl, rfl, rfl, rfl, rfl, rfl, rfl, zv, zm, zu, zs, by simp [hget_cons], by simp [hget_cons], lc1.wk (Nat.zero_le _) (by omega), by omega, P7.wf, by omega⟩ hV hVi hU hUi hR hRi⟩
  · simp -implicitDefEqProofs only [m1, m2, m3, m4, hR, tkR, lB, tkB, lM, tkM, lC, tkC, gm, gm', gs, gs', a7, c1, c2, c3, c4, c5, c6, c7, c8, c9, q1, e1, kc, jc, kd, jd, hkn, hkm, CanPourAt_F, sCanPourAt_F, MeanMoved_F, sMeanMoved_F, ChanceSorted_F, sChanceSorted_F, ViewBehind_F, sViewBehind_F, Pour_F, ViewOf_F, vLess_F, FirstCandidate_F, CountCandidates_F, CertainPours_F, sCertainPours_F, PoursOf_F, Wrap.ap, eqI_p2, eqI_rack, eqI_view, Nat.add_assoc, add_self, self_add, add_add, List.getD_cons_zero, List.getD_cons_succ, ZB, Int.reduceToNat, Nat.reduceLT, Nat.reduceLeDiff, Int.reduceLE, Int.reduceLT, Nat.reduceEqDiff, Nat.reduceSub, SB, SV.known, packR, ne_eq, reduceCtorEq, Nat.reduceEqDiff, ↓reduceIte, if_true, if_false, eq_self, Nat.reduceAdd, Nat.reduceMul, Nat.reduceSub, forall_const, oneCellS, litOne, flat1, Kd.isSca, flat, TYB]
    exact ⟨by omega, next _ _ _ V U R x y a b n1 (n1 + 1) n5 (n5 + 1) n7 (n7 + 1) vc ⟨rfl, rfl, rfl, rfl, (by rw [m4]; rfl), rfl, (by rw [m2]; rfl), rfl, rfl, rfl, rfl, rfl, rfl, rfl, rfl, rfl, zv, zm, zu, zs, by simp [hget_cons], by simp [hget_cons], lc1.wk (Nat.zero_le _) (by omega), by omega, P7.wf, by omega⟩ hV hVi hU hUi hR hRi⟩
theorem fn_4 : FnOK Try.prog 4 Try.f4 (Try.f4.body.getD .skip) [] [] := ⟨Try.func4, rfl, by kernel_rfl, by kernel_rfl⟩
theorem lawFnSeen (L : List Int) (off len cap : Nat) (hlc : len ≤ cap) (_ : cap ≤ maxLen) (hLl : L.length = len) (hLb : ∀ x ∈ L, 0 ≤ x ∧ x ≤ 255) :
    PureH Try.prog 4 [.slice 0 off len cap] [(0, .winU off L)] (.bool true) := by
  by_cases hbig : (65536 : Int) < (len : Int)
  · refine pure_of_vc (X := ⟨Try.prog, tys, [(5, vBig_F)], [], true, true, 1, [], []⟩) fn_4 ⟨tys_ok, (.cons vBig_T .nil), .nil, mixed⟩ (n0 := 1) (Nat.le_of_ble_eq_true rfl) (by simp [wfL, SV.wf]) (wfH_spec (by simp [wfH, SObj.wf, wfL, SV.wf])) (Nat.le_refl _) (fun _ => by simp [SV.wf, wfL]) ?_
    simp -implicitDefEqProofs only [Try.f4, Option.getD_some, argS, vBig_F, hbig, ZB, Int.reduceToNat, Nat.reduceLT, Nat.reduceLeDiff, Int.reduceLE, Int.reduceLT, Nat.reduceEqDiff, Nat.reduceSub, SB, SV.known, packR, ne_eq, reduceCtorEq, Nat.reduceEqDiff, ↓reduceIte, if_true, if_false, eq_self, Nat.reduceAdd, Nat.reduceMul, Nat.reduceSub, forall_const, oneCellS, litOne, flat1, Kd.isSca, flat, TYB]
  · refine pure_of_vc (X := ⟨Try.prog, tys, [(5, vBig_F), (31, CanPourAt_F), (32, sCanPourAt_F), (33, MeanMoved_F), (34, sMeanMoved_F), (38, ChanceSorted_F), (39, sChanceSorted_F), (41, ViewBehind_F), (42, sViewBehind_F), (44, Pour_F), (7, ViewOf_F), (43, vPairs_F), (45, vPour_F), (46, vLess_F), (17, FirstCandidate_F), (15, CountCandidates_F)], [(30, DrawMeanMoved_F), (35, CertainPours_F), (36, sCertainPours_F), (12, vCut_F), (37, DrawChanceSorted_F), (40, DrawViewBehind_F), (47, PoursOf_F)], true, true, 1, [], []⟩) (show FnOK Try.prog 4 Try.f4 (Try.f4.body.getD .skip) [] [] from ⟨Try.func4, rfl, by kernel_rfl, by kernel_rfl⟩) ⟨tys_ok, (.cons vBig_T (.cons CanPourAt_T (.cons sCanPourAt_T (.cons MeanMoved_T (.cons sMeanMoved_T (.cons ChanceSorted_T (.cons sChanceSorted_T (.cons ViewBehind_T (.cons sViewBehind_T (.cons Pour_T (.cons ViewOf_T (.cons vPairs_T (.cons vPour_T (.cons vLess_T (.cons FirstCandidate_T (.cons CountCandidates_T .nil)))))))))))))))), (.cons DrawMeanMoved_T (.cons CertainPours_T (.cons sCertainPours_T (.cons vCut_T (.cons DrawChanceSorted_T (.cons DrawViewBehind_T (.cons PoursOf_T .nil))))))), mixed⟩ (n0 := 1) (Nat.le_of_ble_eq_true rfl) (by simp [wfL, SV.wf]) (wfH_spec (by simp [wfH, SObj.wf, wfL, SV.wf])) (Nat.le_refl _) (fun _ => by simp [SV.wf, wfL]) ?_
    exact lawFnSeen_vc _ _ (.inr ⟨0, off, len, cap, L, rfl, by simp [hget_cons], hLl, by omega, hLb⟩) (by simp [vBig_F, hget_cons, hbig]) rfl (wfH_spec (by simp [wfH, SObj.wf])) hlc
theorem lawFnSeenN : PureH Try.prog 4 [.nils] [] (.bool true) := by
  · refine pure_of_vc (X := ⟨Try.prog, tys, [(5, vBig_F), (31, CanPourAt_F), (32, sCanPourAt_F), (33, MeanMoved_F), (34, sMeanMoved_F), (38, ChanceSorted_F), (39, sChanceSorted_F), (41, ViewBehind_F), (42, sViewBehind_F), (44, Pour_F), (7, ViewOf_F), (43, vPairs_F), (45, vPour_F), (46, vLess_F), (17, FirstCandidate_F), (15, CountCandidates_F)], [(30, DrawMeanMoved_F), (35, CertainPours_F), (36, sCertainPours_F), (12, vCut_F), (37, DrawChanceSorted_F), (40, DrawViewBehind_F), (47, PoursOf_F)], true, true, 1, [], []⟩) (show FnOK Try.prog 4 Try.f4 (Try.f4.body.getD .skip) [] [] from ⟨Try.func4, rfl, by kernel_rfl, by kernel_rfl⟩) ⟨tys_ok, (.cons vBig_T (.cons CanPourAt_T (.cons sCanPourAt_T (.cons MeanMoved_T (.cons sMeanMoved_T (.cons ChanceSorted_T (.cons sChanceSorted_T (.cons ViewBehind_T (.cons sViewBehind_T (.cons Pour_T (.cons ViewOf_T (.cons vPairs_T (.cons vPour_T (.cons vLess_T (.cons FirstCandidate_T (.cons CountCandidates_T .nil)))))))))))))))), (.cons DrawMeanMoved_T (.cons CertainPours_T (.cons sCertainPours_T (.cons vCut_T (.cons DrawChanceSorted_T (.cons DrawViewBehind_T (.cons PoursOf_T .nil))))))), mixed⟩ (n0 := 1) (Nat.le_of_ble_eq_true rfl) (by simp [wfL, SV.wf]) (wfH_spec (by simp [wfH, SObj.wf, wfL, SV.wf])) (Nat.le_refl _) (fun _ => by simp [SV.wf, wfL]) ?_
    exact lawFnSeen_vc _ _ (.inl rfl) (by simp [vBig_F]) rfl (wfH_spec (by simp [wfH, SObj.wf])) trivial
end Go.Proofs.Ytckcojgfgcjamaa
set_option maxRecDepth 100000
set_option linter.unusedSimpArgs false
set_option linter.unusedVariables false
namespace Go.Proofs.Ytckcojgfgcjamaa
open Go Go.RowKit Go.ChangeShapes Go.WideShapes Go.ChangeAt

theorem own_knob : ownKnob Try.prog.godebug = none := by kernel_rfl
theorem laid_out : laidOutB Try.prog = true := by kernel_rfl

theorem trodAll_below {H : Type} {enc : TypeId × Value → H} {W W' : World} (hb : Below W.heap.size W W') : ∀ {ts : List TypeId} {vs : List Value} {ds : List (DataW H)} {ps : List MemPlace}, DataW.TrodAll enc Try.prog W 0 (fun _ => true) true ts vs ds ps →
    (∀ t ∈ ts, Try.prog.readableRec t = true ∧ t < Try.prog.types.size) → (∀ x ∈ ps, x.block < W.heap.size) → DataW.TrodAll enc Try.prog W' 0 (fun b => decide (b < W.heap.size)) true ts vs ds ps
  | [], vs, ds, ps, h, _, _ => by
    obtain ⟨rfl, rfl, rfl⟩ := trodAll_nil h
    exact trodAll_mk0
  | t :: ts, vs, ds, ps, h, hr, hp => by
    obtain ⟨v0, vs0, d0, ds0, p0, q0, rfl, rfl, rfl, h0, r0⟩ := trodAll_cons h
    exact trodAll_cons_mk (Below.trod laid_out (hr t (by simp)).1 (hr t (by simp)).2 h0 hb fun x hx => hp x (by simp [hx])) (trodAll_below hb r0 (fun t' ht' => hr t' (by simp [ht'])) fun x hx => hp x (by simp [hx]))

theorem law_post {H : Type} {enc : TypeId × Value → H} {f : Func} {s : ChangeSpec} {W W' : World} {args : Array Value} {ds gs : List (DataW H)} {before : List MemPlace} (hb : Below W.heap.size W W') (hW : DataW.Whole enc Try.prog f.params.toList s.vars false W args.toList ds gs before)
    (hv : s.vars = []) (hrt : f.resultTypes = #[4]) (hs1 : (s.fn H (ds ++ gs)).results = [.lit (.bool true)]) (hs2 : (s.fn H (ds ++ gs)).args = ds) (hs3 : (s.fn H (ds ++ gs)).vars = []) (hr : ∀ t ∈ f.params.toList, Try.prog.readableRec t = true ∧ t < Try.prog.types.size) :
    s.post enc Try.prog f false true false false W args (.bool true) W' := by
  have hW' := hW
  obtain ⟨p, q, hA, hV, rfl, hfz, hnd⟩ := hW
  rw [hv] at hV
  obtain ⟨rfl, rfl⟩ := trodVars_none hV
  refine ⟨ds, _, _, [], p, [], hW', ?_, ?_, ?_, hb.frame _, fun h => by cases h⟩
  · rw [hs1, hrt]
    exact trodAll_cons_mk (shut_bool Try.underlying4 true) trodAll_mk0
  · rw [hs2]
    exact trodAll_below hb hA hr fun x hx => by simpa using hW'.lt x (by simpa using hx)
  · rw [hv, hs3]
    rfl
end Go.Proofs.Ytckcojgfgcjamaa
set_option maxRecDepth 100000
set_option linter.unusedSimpArgs false
set_option linter.unusedVariables false
namespace Go.Proofs.Ytckcojgfgcjamaa
open Go Go.RowKit Go.ChangeShapes Go.WideShapes Go.ChangeAt

theorem add_off (b o n : Nat) : (Addr.mk b o none).add n = ⟨b, o + n, none⟩ := by
  unfold Addr.add
  split
  · rename_i h; rw [h]; rfl
  · rfl
def intOf (v : Option Value) : Int := match v with
  | some (.int _ n) => n
  | _ => 0
end Go.Proofs.Ytckcojgfgcjamaa
set_option maxRecDepth 100000
set_option linter.unusedSimpArgs false
set_option linter.unusedVariables false
namespace Go.Proofs.Ytckcojgfgcjamaa
open Go Go.RowKit Go.ChangeShapes Go.WideShapes Go.ChangeAt
/-- An argument that is a slice of bytes. -/
theorem open_by {H : Type} {enc : TypeId × Value → H} {W : World} {b0 : Nat} {sp : Nat → Bool} {held : Bool} {t e : Nat} {v : Value} {d : DataW H} {ps : List MemPlace} (ht : Try.prog.underlying t = some (.slice e)) (hc : Try.prog.cellsOf e = 1) (he : Try.prog.underlying e = some (.int .u8))
    (hval : Value.okWide Try.prog W .any b0 t v) (hd : DataW.Trod enc Try.prog W 0 sp held t v d ps) :
    v = .slice none 0 0 ∨ ∃ (b off len cap : Nat) (L : List Int), v = .slice (some ⟨b, off, none⟩) len cap ∧ len ≤ cap ∧ cap ≤ maxLen ∧ L.length = len ∧ (∀ x ∈ L, 0 ≤ x ∧ x ≤ 255) ∧ SObj.sat (fun _ => b) W b (.winU off L) := by
  unfold Value.okWide at hval
  rw [ht] at hval
  simp only [Cell.okWide] at hval
  rw [ht] at hval
  obtain ⟨fuel, hd⟩ := hd
  rcases DataW.trod_slice ht hd with ⟨h0, _⟩ | ⟨a, len, cap, elems, rest, n, _, hcs, _, _, hl, hm, hlen, hel, _⟩
  · left
    cases v <;> simp_all [Value.cells, Cell.ok]
  · right
    have hv : v = .slice (some a) len cap := by
      cases v <;> simp_all [Value.cells, Cell.ok]
    subst hv
    simp only [Cell.ok, ht] at hval
    obtain ⟨_, _, _, hsp, row, cells, hshape, _⟩ := hval
    obtain ⟨b, off, spot⟩ := a
    simp only at hsp hshape
    subst hsp
    unfold World.shape? at hshape
    split at hshape
    · rename_i c el fz hb
      have each : ∀ k, k < len → ∃ n, c[off + k]? = some (.int .u8 n) ∧ (0 ≤ n ∧ n ≤ 255) := by
        intro k hk
        have h1 := hel k hk
        obtain ⟨y, hy⟩ : ∃ y, elems[k]? = some y := ⟨elems[k]'(by omega), List.getElem?_eq_getElem (by omega)⟩
        rw [hy, hc, Option.bind_eq_some_iff] at h1
        obtain ⟨cs, hcs, h1⟩ := h1
        obtain ⟨m, rfl, _, hw⟩ := DataW.trod_int he h1
        have h2 := (World.cells?_some hcs).2.2 0 (by omega)
        rw [add_off, add_off] at h2
        unfold World.cell? at h2
        simp only [hb] at h2
        refine ⟨m, by simpa using h2, by simpa [Lit.wf, IntKind.min, IntKind.max, IntKind.signed, IntKind.bits] using hw⟩
      refine ⟨b, off, len, cap, (List.range len).map fun k => intOf c[off + k]?, rfl, hl, hm, by simp, fun x hx => ?_, c, el, fz, hb, fun i hi => ?_⟩
      · obtain ⟨k, hk, rfl⟩ := List.mem_map.1 hx
        obtain ⟨m, h1, h2⟩ := each k (List.mem_range.1 hk)
        rw [h1]; exact h2
      · simp at hi
        obtain ⟨m, h1, h2⟩ := each i hi
        rw [h1]
        simp [List.getD, hi, h1, intOf]
    · cases hshape
theorem HR.winU_one {b off : Nat} {L : List Int} {W : World} (h : SObj.sat (fun _ => b) W b (.winU off L)) : HR (fun _ => b) [(0, .winU off L)] W where
  at_ := fun k o hk _ => by
    rw [hget_cons] at hk
    split at hk
    · cases hk; exact h
    · cases hk
  inj := fun k j o o' h1 _ h2 _ _ => by
    rw [hget_cons] at h1 h2
    split at h1
    · split at h2
      · omega
      · cases h2
    · cases h1
end Go.Proofs.Ytckcojgfgcjamaa
