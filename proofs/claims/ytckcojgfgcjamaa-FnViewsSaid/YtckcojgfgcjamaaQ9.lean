/- Texts of this claim, joined (VwA, VwB, Fin, FinS, FinB). -/
import Derived.Test.YtckcojgfgcjamaaQ1
import Derived.Test.YtckcojgfgcjamaaQ2
import Derived.Test.YtckcojgfgcjamaaQ3
import Derived.Test.YtckcojgfgcjamaaQ4
import Derived.Test.YtckcojgfgcjamaaQ5
import Derived.Test.YtckcojgfgcjamaaQ6
import Derived.Test.YtckcojgfgcjamaaQ7
import Derived.Test.YtckcojgfgcjamaaQ8
import Derived.Test.YtckcojgfgcjamaaRows
import Derived.ProofKit
import Derived.OpenShut
set_option maxRecDepth 100000
set_option linter.unusedSimpArgs false
set_option linter.unusedVariables false
namespace Go.Proofs.Ytckcojgfgcjamaa
open Go Go.RowKit
abbrev vwQ : KE := retK tys Try.f3.results.toList fun v _ _ => v = .bool true
structure VwS (S : Env) (H : Heap) (n : Nat) (V W Y R : List Int) (x i c k m : Int) (r vw v a fi hc w y : Nat) : Prop where
  s3 : sget S 3 = .ptr r 0
  s4 : sget S 4 = .ptr vw 0
  s5 : sget S 5 = .bool (rackB R)
  s8 : sget S 8 = .int (rankF R)
  s12 : sget S 12 = .ptr v 0
  s13 : sget S 13 = .int x
  s14 : sget S 14 = .ptr a 0
  s15 : sget S 15 = .bool (caB V x)
  s18 : sget S 18 = .int (ccV V)
  s19 : sget S 19 = .bool (isVF V)
  s22 : sget S 22 = .ptr fi 0
  s26 : sget S 26 = .int (hcN V)
  s27 : sget S 27 = .ptr hc 0
  s32 : sget S 32 = .ptr w 0
  s33 : sget S 33 = .int i
  s36 : sget S 36 = .bool (cbB W i c)
  s39 : sget S 39 = .ptr y 0
  s40 : sget S 40 = .int k
  s43 : sget S 43 = .bool (ctB Y k m)
  hr : hget H r = some (.ints R 27)
  hvw : hget H vw = some (.ints (voF R) 31)
  hv : hget H v = some (.ints V 31)
  ha : hget H a = some (.ints (caF V x) 27)
  hf : hget H fi = some (.ints (caF V 0) 27)
  hh : hget H hc = some (.ints (hcL V) 29)
  hw : hget H w = some (.ints W 31)
  hy : hget H y = some (.ints Y 31)
  lt : r < n ∧ vw < n ∧ v < n ∧ a < n ∧ fi < n ∧ hc < n ∧ w < n ∧ y < n
  wf : hwf n H
  one : 1 ≤ n
theorem VwS.up {S S' : Env} {H H' : Heap} {n n' : Nat} {V W Y R : List Int} {x i c k m : Int} {r vw v a fi hc w y : Nat} (h : VwS S H n V W Y R x i c k m r vw v a fi hc w y) (hs : ∀ t, t ≤ 45 → sget S' t = sget S t) (hK : Kpt n H H' n') : VwS S' H' n' V W Y R x i c k m r vw v a fi hc w y := by
  have := h.lt
  have := h.one
  have hh := hK.fr
  have hn := hK.le
  exact ⟨by rw [hs 3 (by omega)]; exact h.s3, by rw [hs 4 (by omega)]; exact h.s4, by rw [hs 5 (by omega)]; exact h.s5, by rw [hs 8 (by omega)]; exact h.s8, by rw [hs 12 (by omega)]; exact h.s12, by rw [hs 13 (by omega)]; exact h.s13, by rw [hs 14 (by omega)]; exact h.s14, by rw [hs 15 (by omega)]; exact h.s15, by rw [hs 18 (by omega)]; exact h.s18, by rw [hs 19 (by omega)]; exact h.s19, by rw [hs 22 (by omega)]; exact h.s22, by rw [hs 26 (by omega)]; exact h.s26, by rw [hs 27 (by omega)]; exact h.s27, by rw [hs 32 (by omega)]; exact h.s32, by rw [hs 33 (by omega)]; exact h.s33, by rw [hs 36 (by omega)]; exact h.s36, by rw [hs 39 (by omega)]; exact h.s39, by rw [hs 40 (by omega)]; exact h.s40, by rw [hs 43 (by omega)]; exact h.s43,
    hh _ _ (by omega) h.hr, hh _ _ (by omega) h.hvw, hh _ _ (by omega) h.hv, hh _ _ (by omega) h.ha, hh _ _ (by omega) h.hf, hh _ _ (by omega) h.hh, hh _ _ (by omega) h.hw, hh _ _ (by omega) h.hy, by omega, hK.wf, by omega⟩
theorem VwS.re {S S' : Env} {H H' : Heap} {n n' : Nat} {V W Y R : List Int} {x i c k m : Int} {r vw v a fi hc w y : Nat} (h : VwS S H n V W Y R x i c k m r vw v a fi hc w y) (hK : Kpt n H H' n') (h3 : sget S' 3 = .ptr r 0) (h4 : sget S' 4 = .ptr vw 0) (h5 : sget S' 5 = .bool (rackB R)) (h8 : sget S' 8 = .int (rankF R)) (h12 : sget S' 12 = .ptr v 0) (h13 : sget S' 13 = .int x) (h14 : sget S' 14 = .ptr a 0) (h15 : sget S' 15 = .bool (caB V x)) (h18 : sget S' 18 = .int (ccV V)) (h19 : sget S' 19 = .bool (isVF V)) (h22 : sget S' 22 = .ptr fi 0) (h26 : sget S' 26 = .int (hcN V)) (h27 : sget S' 27 = .ptr hc 0) (h32 : sget S' 32 = .ptr w 0) (h33 : sget S' 33 = .int i) (h36 : sget S' 36 = .bool (cbB W i c)) (h39 : sget S' 39 = .ptr y 0) (h40 : sget S' 40 = .int k) (h43 : sget S' 43 = .bool (ctB Y k m)) : VwS S' H' n' V W Y R x i c k m r vw v a fi hc w y := by
  have := h.lt
  have := h.one
  have hh := hK.fr
  have hn := hK.le
  exact ⟨h3, h4, h5, h8, h12, h13, h14, h15, h18, h19, h22, h26, h27, h32, h33, h36, h39, h40, h43, hh _ _ (by omega) h.hr, hh _ _ (by omega) h.hvw, hh _ _ (by omega) h.hv, hh _ _ (by omega) h.ha, hh _ _ (by omega) h.hf, hh _ _ (by omega) h.hh, hh _ _ (by omega) h.hw, hh _ _ (by omega) h.hy, by omega, hK.wf, by omega⟩
theorem vw_up {S S' : Env} (h : ∀ t, t ≤ 45 → sget S' t = sget S t) {k : Nat} {v : SV} (hk : 45 < k) : ∀ t, t ≤ 45 → sget ((k, v) :: S') t = sget S t := fun t ht => by rw [sget_skip _ _ _ _ (by omega)]; exact h t ht
set_option maxHeartbeats 2000000 in
theorem vw_b27 (S : Env) (H : Heap) (n : Nat) (V W Y R : List Int) (x i c k m : Int) (r vw v a fi hc w y : Nat) (hE : VwS S H n V W Y R x i c k m r vw v a fi hc w y) (hY : Y.length = 18) (hYi : I64 Y) : codeVC (⟨Try.prog, tys, [(5, vBig_F), (7, ViewOf_F), (8, sViewOf_F), (9, RankOfRack_F), (10, sRankOfRack_F), (13, CandidateAt_F), (14, sCandidateAt_F), (15, CountCandidates_F), (16, sCountCandidates_F), (17, FirstCandidate_F), (18, sFirstCandidate_F), (19, CountHidden_F), (20, sCountHidden_F), (22, ChanceBelow_F), (23, sChanceBelow_F), (25, ChanceTop_F), (26, sChanceTop_F), (27, IsView_F), (28, sIsView_F), (29, vPlus_F)], [(6, DrawRankOfRack_F), (12, vCut_F), (11, DrawCandidateAt_F), (21, DrawChanceBelow_F), (24, DrawChanceTop_F)], true, true, 1, [], []⟩ : Cx) 1 (cdN 27 (Try.f3.body.getD .skip)) S H n vwQ := by
  obtain ⟨s3, s4, s5, s8, s12, s13, s14, s15, s18, s19, s22, s26, s27, s32, s33, s36, s39, s40, s43, hr, hvw, hv, ha, hf, hh, hw, hy, hlt, hwf0, h1n⟩ := hE
  have tkY : Y.take 18 = Y := List.take_of_length_le (by omega)
  simp only [cdN, cd2, Try.f3, Option.getD_some, vwQ]
  cases hi : ctB Y k m
  · simp -implicitDefEqProofs only [s43, hi, ViewOf_F, sViewOf_F, RankOfRack_F, sRankOfRack_F, CandidateAt_F, sCandidateAt_F, CountCandidates_F, sCountCandidates_F, FirstCandidate_F, sFirstCandidate_F, CountHidden_F, sCountHidden_F, ChanceBelow_F, sChanceBelow_F, ChanceTop_F, sChanceTop_F, IsView_F, sIsView_F, vPlus_F, Wrap.ap, eqI_p2, eqI_rack, eqI_view, eqI_a6v, Nat.add_assoc, add_self, self_add, add_add, List.getD_cons_zero, List.getD_cons_succ, ZB, Int.reduceToNat, Nat.reduceLT, Nat.reduceLeDiff, Int.reduceLE, Int.reduceLT, Nat.reduceEqDiff, Nat.reduceSub, SB, SV.known, packR, ne_eq, reduceCtorEq, Nat.reduceEqDiff, ↓reduceIte, if_true, if_false, eq_self, Nat.reduceAdd, Nat.reduceMul, Nat.reduceSub, forall_const, oneCellS, litOne, flat1, Kd.isSca, flat, TYB]
  · obtain ⟨A, hq⟩ := tops_adds hY hYi hi
    generalize hN : chP (al Y) 0 (mm Y k.toNat - 1) = N at *
    obtain ⟨f, hf⟩ : ∃ f : Nat → Int, f = fun q => tv Y k.toNat q := ⟨_, rfl⟩
    rw [← hf] at A
    have hq : ∀ q : Nat, 1 ≤ q → q ≤ 4 → ctB Y k q = true ∧ ctF Y k q = fracF (f q) N := fun q a b => by rw [hf]; exact hq q a b
    clear hf
    simp -implicitDefEqProofs only [s43, hi, ViewOf_F, sViewOf_F, RankOfRack_F, sRankOfRack_F, CandidateAt_F, sCandidateAt_F, CountCandidates_F, sCountCandidates_F, FirstCandidate_F, sFirstCandidate_F, CountHidden_F, sCountHidden_F, ChanceBelow_F, sChanceBelow_F, ChanceTop_F, sChanceTop_F, IsView_F, sIsView_F, vPlus_F, Wrap.ap, eqI_p2, eqI_rack, eqI_view, eqI_a6v, Nat.add_assoc, add_self, self_add, add_add, List.getD_cons_zero, List.getD_cons_succ, ZB, Int.reduceToNat, Nat.reduceLT, Nat.reduceLeDiff, Int.reduceLE, Int.reduceLT, Nat.reduceEqDiff, Nat.reduceSub, SB, SV.known, packR, ne_eq, reduceCtorEq, Nat.reduceEqDiff, ↓reduceIte, if_true, if_false, eq_self, Nat.reduceAdd, Nat.reduceMul, Nat.reduceSub, forall_const, oneCellS, litOne, flat1, Kd.isSca, flat, TYB]
    refine ⟨h1n, ?_⟩
    have P0 : Kpt n H ((n, .ints [0, 1] 47) :: (n, .ints (List.replicate 2 0) 47) :: H) (n + 1) := (Kpt.refl hwf0).push.put (by omega)
    refine loop_introN (fun s : Nat × Heap × Nat => [(63, .int ((s.1 : Int) + 1)), (62, .ptr n 0), (39, .ptr y 0), (40, .int k)]) (fun s => s.2.1) (fun s => s.2.2)
      (fun s => s.1 ≤ 4 ∧ hget s.2.1 n = some (.ints (fracF (fS f s.1) N) 47) ∧ Kpt n H s.2.1 s.2.2 ∧ n + 1 ≤ s.2.2) (fun s => 4 - s.1) ?_ ?_
    · exact ⟨(0, _, n + 1), ⟨Nat.zero_le _, by rw [A.zero]; simp [hget_cons], P0, Nat.le_refl _⟩, Sub.same (by simp only [s39, s40, LB, subS, subH, wfS, wfH, SV.ren, renL, SObj.ren, SV.wf, SObj.wf, wfL, SV.known, Nat.reduceEqDiff, ↓reduceIte, if_true, if_false, eq_self, Nat.reduceAdd, Nat.reduceLT, Nat.reduceLeDiff, implies_true, reduceCtorEq, forall_const]; try rfl) (by simp [subS, subH, wfS, wfH, SV.ren, renL, SObj.ren, SV.wf, SObj.wf, wfL, sget_cons, hget_cons] <;> omega) P0.wf (by show 1 ≤ n + 1; omega)⟩
    · rintro ⟨q, H1, n1⟩ ⟨hq4, hsum, hK, hn1⟩
      simp only at hq4 hsum hK hn1
      by_cases hlt4 : q < 4
      · have ql : (q : Int) + 1 ≤ 4 := by omega
        obtain ⟨g1, g2⟩ := hq (q + 1) (by omega) (by omega)
        have ec : ((q + 1 : Nat) : Int) = (q : Int) + 1 := by omega
        rw [ec] at g1 g2
        obtain ⟨t1, t2, t3⟩ := A.step (k := q) (by omega)
        have gy := hK.fr y _ (by omega) hy
        have d1 : (y = n1) = False := by simp; omega
        have d2 : (n = n1) = False := by simp; omega
        have l1 : (fracF (fS f q) N).length = 2 := rfl
        have l2 : (fracF (f (q + 1)) N).length = 2 := rfl
        have l3 : (fracF (fS f (q + 1)) N).length = 2 := rfl
        have k1 := List.take_of_length_le (Nat.le_of_eq l1)
        have k2 := List.take_of_length_le (Nat.le_of_eq l2)
        have k3 := List.take_of_length_le (Nat.le_of_eq l3)
        have k4 := List.drop_of_length_le (Nat.le_of_eq l1)
        simp -implicitDefEqProofs only [lk_normal, ql, gy, hsum, hY, hYi, tkY, g1, g2, t1, t2, t3, d1, d2, l1, l2, l3, k1, k2, k3, k4, List.append_nil, ViewOf_F, sViewOf_F, RankOfRack_F, sRankOfRack_F, CandidateAt_F, sCandidateAt_F, CountCandidates_F, sCountCandidates_F, FirstCandidate_F, sFirstCandidate_F, CountHidden_F, sCountHidden_F, ChanceBelow_F, sChanceBelow_F, ChanceTop_F, sChanceTop_F, IsView_F, sIsView_F, vPlus_F, Wrap.ap, eqI_p2, eqI_rack, eqI_view, eqI_a6v, Nat.add_assoc, add_self, self_add, add_add, List.getD_cons_zero, List.getD_cons_succ, ZB, Int.reduceToNat, Nat.reduceLT, Nat.reduceLeDiff, Int.reduceLE, Int.reduceLT, Nat.reduceEqDiff, Nat.reduceSub, SB, SV.known, packR, ne_eq, reduceCtorEq, Nat.reduceEqDiff, ↓reduceIte, if_true, if_false, eq_self, Nat.reduceAdd, Nat.reduceMul, Nat.reduceSub, forall_const, oneCellS, litOne, flat1, Kd.isSca, flat, TYB]
        exact ⟨by omega, h1n, by unfold In64; omega, (q + 1, _, n1 + 1), ⟨by show q + 1 ≤ 4; omega, by simp [hget_cons], ((hK.push).put (by omega)).put (by omega), by show n + 1 ≤ n1 + 1; omega⟩, by show 4 - (q + 1) < 4 - q; omega, Sub.same (by simp only [LB, subS, subH, wfS, wfH, SV.ren, renL, SObj.ren, SV.wf, SObj.wf, wfL, SV.known, Nat.reduceEqDiff, ↓reduceIte, if_true, if_false, eq_self, Nat.reduceAdd, Nat.reduceLT, Nat.reduceLeDiff, implies_true, reduceCtorEq, forall_const]; try rfl) (by simp [subS, subH, wfS, wfH, SV.ren, renL, SObj.ren, SV.wf, SObj.wf, wfL, sget_cons, hget_cons] <;> omega) (((hK.push).put (by omega)).put (by omega) : Kpt n H _ (n1 + 1)).wf (by show 1 ≤ n1 + 1; omega)⟩
      · have eq4 : q = 4 := by omega
        have ql : ¬ (q : Int) + 1 ≤ 4 := by omega
        rw [eq4, A.one] at hsum
        simp -implicitDefEqProofs only [lk_normal, ql, hsum, ViewOf_F, sViewOf_F, RankOfRack_F, sRankOfRack_F, CandidateAt_F, sCandidateAt_F, CountCandidates_F, sCountCandidates_F, FirstCandidate_F, sFirstCandidate_F, CountHidden_F, sCountHidden_F, ChanceBelow_F, sChanceBelow_F, ChanceTop_F, sChanceTop_F, IsView_F, sIsView_F, vPlus_F, Wrap.ap, eqI_p2, eqI_rack, eqI_view, eqI_a6v, Nat.add_assoc, add_self, self_add, add_add, List.getD_cons_zero, List.getD_cons_succ, ZB, Int.reduceToNat, Nat.reduceLT, Nat.reduceLeDiff, Int.reduceLE, Int.reduceLT, Nat.reduceEqDiff, Nat.reduceSub, SB, SV.known, packR, ne_eq, reduceCtorEq, Nat.reduceEqDiff, ↓reduceIte, if_true, if_false, eq_self, Nat.reduceAdd, Nat.reduceMul, Nat.reduceSub, forall_const, oneCellS, litOne, flat1, Kd.isSca, flat, TYB]
set_option maxHeartbeats 4000000 in
theorem vw_b26 (S : Env) (H : Heap) (n : Nat) (V W Y R : List Int) (x i c k m : Int) (r vw v a fi hc w y : Nat) (hE : VwS S H n V W Y R x i c k m r vw v a fi hc w y) (hY : Y.length = 18) (hYi : I64 Y) (hW : W.length = 18) (hWi : I64 W) : codeVC (⟨Try.prog, tys, [(5, vBig_F), (7, ViewOf_F), (8, sViewOf_F), (9, RankOfRack_F), (10, sRankOfRack_F), (13, CandidateAt_F), (14, sCandidateAt_F), (15, CountCandidates_F), (16, sCountCandidates_F), (17, FirstCandidate_F), (18, sFirstCandidate_F), (19, CountHidden_F), (20, sCountHidden_F), (22, ChanceBelow_F), (23, sChanceBelow_F), (25, ChanceTop_F), (26, sChanceTop_F), (27, IsView_F), (28, sIsView_F), (29, vPlus_F)], [(6, DrawRankOfRack_F), (12, vCut_F), (11, DrawCandidateAt_F), (21, DrawChanceBelow_F), (24, DrawChanceTop_F)], true, true, 1, [], []⟩ : Cx) 1 (cdN 26 (Try.f3.body.getD .skip)) S H n vwQ := by
  have hE0 := hE
  obtain ⟨s3, s4, s5, s8, s12, s13, s14, s15, s18, s19, s22, s26, s27, s32, s33, s36, s39, s40, s43, hr, hvw, hv, ha, hf, hh, hw, hy, hlt, hwf0, h1n⟩ := hE
  have tkW : W.take 18 = W := List.take_of_length_le (by omega)
  rw [cd_cut (show cdN 26 (Try.f3.body.getD .skip) = .seq (cd1 (cdN 26 (Try.f3.body.getD .skip))) (cdN 27 (Try.f3.body.getD .skip)) from rfl)]
  have next := fun S' H' n' (h : VwS S' H' n' V W Y R x i c k m r vw v a fi hc w y) => vw_b27 S' H' n' V W Y R x i c k m r vw v a fi hc w y h hY hYi
  obtain ⟨cn, en⟩ : ∃ c, c = cdN 27 (Try.f3.body.getD .skip) := ⟨_, rfl⟩
  rw [← en] at next ⊢
  simp only [cdN, cd1, cd2, Try.f3, Option.getD_some]
  cases hi : cbB W i c
  · simp -implicitDefEqProofs only [s36, hi, ViewOf_F, sViewOf_F, RankOfRack_F, sRankOfRack_F, CandidateAt_F, sCandidateAt_F, CountCandidates_F, sCountCandidates_F, FirstCandidate_F, sFirstCandidate_F, CountHidden_F, sCountHidden_F, ChanceBelow_F, sChanceBelow_F, ChanceTop_F, sChanceTop_F, IsView_F, sIsView_F, vPlus_F, Wrap.ap, eqI_p2, eqI_rack, eqI_view, eqI_a6v, Nat.add_assoc, add_self, self_add, add_add, List.getD_cons_zero, List.getD_cons_succ, ZB, Int.reduceToNat, Nat.reduceLT, Nat.reduceLeDiff, Int.reduceLE, Int.reduceLT, Nat.reduceEqDiff, Nat.reduceSub, SB, SV.known, packR, ne_eq, reduceCtorEq, Nat.reduceEqDiff, ↓reduceIte, if_true, if_false, eq_self, Nat.reduceAdd, Nat.reduceMul, Nat.reduceSub, forall_const, oneCellS, litOne, flat1, Kd.isSca, flat, TYB]
    exact next _ _ _ (hE0.up (by (repeat (first | refine vw_up ?_ (by decide) | exact fun _ _ => rfl))) (Kpt.refl hwf0))
  · obtain ⟨A, hq⟩ := below_adds hW hWi hi
    generalize hN : al W = N at *
    obtain ⟨f, hf⟩ : ∃ f : Nat → Int, f = fun q => (hidV W).getD q 0 := ⟨_, rfl⟩
    rw [← hf] at A
    have hq : ∀ q : Nat, 1 ≤ q → q ≤ 5 → cbB W i q = true ∧ cbF W i q = fracF (f q) N := fun q a b => by rw [hf]; exact hq q a b
    clear hf
    simp -implicitDefEqProofs only [s36, hi, ViewOf_F, sViewOf_F, RankOfRack_F, sRankOfRack_F, CandidateAt_F, sCandidateAt_F, CountCandidates_F, sCountCandidates_F, FirstCandidate_F, sFirstCandidate_F, CountHidden_F, sCountHidden_F, ChanceBelow_F, sChanceBelow_F, ChanceTop_F, sChanceTop_F, IsView_F, sIsView_F, vPlus_F, Wrap.ap, eqI_p2, eqI_rack, eqI_view, eqI_a6v, Nat.add_assoc, add_self, self_add, add_add, List.getD_cons_zero, List.getD_cons_succ, ZB, Int.reduceToNat, Nat.reduceLT, Nat.reduceLeDiff, Int.reduceLE, Int.reduceLT, Nat.reduceEqDiff, Nat.reduceSub, SB, SV.known, packR, ne_eq, reduceCtorEq, Nat.reduceEqDiff, ↓reduceIte, if_true, if_false, eq_self, Nat.reduceAdd, Nat.reduceMul, Nat.reduceSub, forall_const, oneCellS, litOne, flat1, Kd.isSca, flat, TYB]
    refine ⟨h1n, ?_⟩
    have P0 : Kpt n H ((n, .ints [0, 1] 47) :: (n, .ints (List.replicate 2 0) 47) :: H) (n + 1) := (Kpt.refl hwf0).push.put (by omega)
    refine loop_introN (fun s : Nat × Heap × Nat => [(59, .int ((s.1 : Int) + 1)), (58, .ptr n 0), (3, .ptr r 0), (4, .ptr vw 0), (5, .bool (rackB R)), (8, .int (rankF R)), (12, .ptr v 0), (13, .int x), (14, .ptr a 0), (15, .bool (caB V x)), (18, .int (ccV V)), (19, .bool (isVF V)), (22, .ptr fi 0), (26, .int (hcN V)), (27, .ptr hc 0), (32, .ptr w 0), (33, .int i), (36, .bool (cbB W i c)), (39, .ptr y 0), (40, .int k), (43, .bool (ctB Y k m))]) (fun s => s.2.1) (fun s => s.2.2)
      (fun s => s.1 ≤ 5 ∧ hget s.2.1 n = some (.ints (fracF (fS f s.1) N) 47) ∧ Kpt n H s.2.1 s.2.2 ∧ n + 1 ≤ s.2.2) (fun s => 5 - s.1) ?_ ?_
    · exact ⟨(0, _, n + 1), ⟨Nat.zero_le _, by rw [A.zero]; simp [hget_cons], P0, Nat.le_refl _⟩, Sub.same (by simp only [s3, s4, s5, s8, s12, s13, s14, s15, s18, s19, s22, s26, s27, s32, s33, s36, s39, s40, s43, hi, LB, subS, subH, wfS, wfH, SV.ren, renL, SObj.ren, SV.wf, SObj.wf, wfL, SV.known, Nat.reduceEqDiff, ↓reduceIte, if_true, if_false, eq_self, Nat.reduceAdd, Nat.reduceLT, Nat.reduceLeDiff, implies_true, reduceCtorEq, forall_const]; try rfl) (by simp [subS, subH, wfS, wfH, SV.ren, renL, SObj.ren, SV.wf, SObj.wf, wfL, sget_cons, hget_cons] <;> omega) P0.wf (by show 1 ≤ n + 1; omega)⟩
    · rintro ⟨q, H1, n1⟩ ⟨hq4, hsum, hK, hn1⟩
      simp only at hq4 hsum hK hn1
      by_cases hlt4 : q < 5
      · have ql : (q : Int) + 1 ≤ 5 := by omega
        obtain ⟨g1, g2⟩ := hq (q + 1) (by omega) (by omega)
        have ec : ((q + 1 : Nat) : Int) = (q : Int) + 1 := by omega
        rw [ec] at g1 g2
        obtain ⟨t1, t2, t3⟩ := A.step (k := q) (by omega)
        have gy := hK.fr w _ (by omega) hw
        have d1 : (w = n1) = False := by simp; omega
        have d2 : (n = n1) = False := by simp; omega
        have l1 : (fracF (fS f q) N).length = 2 := rfl
        have l2 : (fracF (f (q + 1)) N).length = 2 := rfl
        have l3 : (fracF (fS f (q + 1)) N).length = 2 := rfl
        have k1 := List.take_of_length_le (Nat.le_of_eq l1)
        have k2 := List.take_of_length_le (Nat.le_of_eq l2)
        have k3 := List.take_of_length_le (Nat.le_of_eq l3)
        have k4 := List.drop_of_length_le (Nat.le_of_eq l1)
        simp -implicitDefEqProofs only [lk_normal, ql, gy, hsum, hW, hWi, tkW, g1, g2, t1, t2, t3, d1, d2, l1, l2, l3, k1, k2, k3, k4, List.append_nil, ViewOf_F, sViewOf_F, RankOfRack_F, sRankOfRack_F, CandidateAt_F, sCandidateAt_F, CountCandidates_F, sCountCandidates_F, FirstCandidate_F, sFirstCandidate_F, CountHidden_F, sCountHidden_F, ChanceBelow_F, sChanceBelow_F, ChanceTop_F, sChanceTop_F, IsView_F, sIsView_F, vPlus_F, Wrap.ap, eqI_p2, eqI_rack, eqI_view, eqI_a6v, Nat.add_assoc, add_self, self_add, add_add, List.getD_cons_zero, List.getD_cons_succ, ZB, Int.reduceToNat, Nat.reduceLT, Nat.reduceLeDiff, Int.reduceLE, Int.reduceLT, Nat.reduceEqDiff, Nat.reduceSub, SB, SV.known, packR, ne_eq, reduceCtorEq, Nat.reduceEqDiff, ↓reduceIte, if_true, if_false, eq_self, Nat.reduceAdd, Nat.reduceMul, Nat.reduceSub, forall_const, oneCellS, litOne, flat1, Kd.isSca, flat, TYB]
        exact ⟨by omega, h1n, by unfold In64; omega, (q + 1, _, n1 + 1), ⟨by show q + 1 ≤ 5; omega, by simp [hget_cons], ((hK.push).put (by omega)).put (by omega), by show n + 1 ≤ n1 + 1; omega⟩, by show 5 - (q + 1) < 5 - q; omega, Sub.same (by simp only [LB, subS, subH, wfS, wfH, SV.ren, renL, SObj.ren, SV.wf, SObj.wf, wfL, SV.known, Nat.reduceEqDiff, ↓reduceIte, if_true, if_false, eq_self, Nat.reduceAdd, Nat.reduceLT, Nat.reduceLeDiff, implies_true, reduceCtorEq, forall_const]; try rfl) (by simp [subS, subH, wfS, wfH, SV.ren, renL, SObj.ren, SV.wf, SObj.wf, wfL, sget_cons, hget_cons] <;> omega) (((hK.push).put (by omega)).put (by omega) : Kpt n H _ (n1 + 1)).wf (by show 1 ≤ n1 + 1; omega)⟩
      · have eq4 : q = 5 := by omega
        have ql : ¬ (q : Int) + 1 ≤ 5 := by omega
        rw [eq4, A.one] at hsum
        simp -implicitDefEqProofs only [lk_normal, ql, hsum, ViewOf_F, sViewOf_F, RankOfRack_F, sRankOfRack_F, CandidateAt_F, sCandidateAt_F, CountCandidates_F, sCountCandidates_F, FirstCandidate_F, sFirstCandidate_F, CountHidden_F, sCountHidden_F, ChanceBelow_F, sChanceBelow_F, ChanceTop_F, sChanceTop_F, IsView_F, sIsView_F, vPlus_F, Wrap.ap, eqI_p2, eqI_rack, eqI_view, eqI_a6v, Nat.add_assoc, add_self, self_add, add_add, List.getD_cons_zero, List.getD_cons_succ, ZB, Int.reduceToNat, Nat.reduceLT, Nat.reduceLeDiff, Int.reduceLE, Int.reduceLT, Nat.reduceEqDiff, Nat.reduceSub, SB, SV.known, packR, ne_eq, reduceCtorEq, Nat.reduceEqDiff, ↓reduceIte, if_true, if_false, eq_self, Nat.reduceAdd, Nat.reduceMul, Nat.reduceSub, forall_const, oneCellS, litOne, flat1, Kd.isSca, flat, TYB]
        exact next _ _ _ (hE0.re hK rfl rfl rfl rfl rfl rfl rfl rfl rfl rfl rfl rfl rfl rfl rfl (by first | rfl | (rw [hi]; rfl)) rfl rfl rfl)
set_option maxHeartbeats 4000000 in
theorem vw_b25 (S : Env) (H : Heap) (n : Nat) (V W Y R : List Int) (x i c k m : Int) (r vw v a fi hc w y : Nat) (hE : VwS S H n V W Y R x i c k m r vw v a fi hc w y) (hY : Y.length = 18) (hYi : I64 Y) (hW : W.length = 18) (hWi : I64 W) (hV : V.length = 18) (hVi : I64 V) : codeVC (⟨Try.prog, tys, [(5, vBig_F), (7, ViewOf_F), (8, sViewOf_F), (9, RankOfRack_F), (10, sRankOfRack_F), (13, CandidateAt_F), (14, sCandidateAt_F), (15, CountCandidates_F), (16, sCountCandidates_F), (17, FirstCandidate_F), (18, sFirstCandidate_F), (19, CountHidden_F), (20, sCountHidden_F), (22, ChanceBelow_F), (23, sChanceBelow_F), (25, ChanceTop_F), (26, sChanceTop_F), (27, IsView_F), (28, sIsView_F), (29, vPlus_F)], [(6, DrawRankOfRack_F), (12, vCut_F), (11, DrawCandidateAt_F), (21, DrawChanceBelow_F), (24, DrawChanceTop_F)], true, true, 1, [], []⟩ : Cx) 1 (cdN 25 (Try.f3.body.getD .skip)) S H n vwQ := by
  have hE0 := hE
  obtain ⟨s3, s4, s5, s8, s12, s13, s14, s15, s18, s19, s22, s26, s27, s32, s33, s36, s39, s40, s43, hr, hvw, hv, ha, hf, hh, hw, hy, hlt, hwf0, h1n⟩ := hE
  rw [cd_cut (show cdN 25 (Try.f3.body.getD .skip) = .seq (cd1 (cdN 25 (Try.f3.body.getD .skip))) (cdN 26 (Try.f3.body.getD .skip)) from rfl)]
  have next := fun S' H' n' (h : VwS S' H' n' V W Y R x i c k m r vw v a fi hc w y) => vw_b26 S' H' n' V W Y R x i c k m r vw v a fi hc w y h hY hYi hW hWi
  obtain ⟨cn, en⟩ : ∃ c, c = cdN 26 (Try.f3.body.getD .skip) := ⟨_, rfl⟩
  rw [← en] at next ⊢
  simp only [cdN, cd1, cd2, Try.f3, Option.getD_some]
  cases hi : isVF V
  · simp -implicitDefEqProofs only [s19, hi, ViewOf_F, sViewOf_F, RankOfRack_F, sRankOfRack_F, CandidateAt_F, sCandidateAt_F, CountCandidates_F, sCountCandidates_F, FirstCandidate_F, sFirstCandidate_F, CountHidden_F, sCountHidden_F, ChanceBelow_F, sChanceBelow_F, ChanceTop_F, sChanceTop_F, IsView_F, sIsView_F, vPlus_F, Wrap.ap, eqI_p2, eqI_rack, eqI_view, eqI_a6v, Nat.add_assoc, add_self, self_add, add_add, List.getD_cons_zero, List.getD_cons_succ, ZB, Int.reduceToNat, Nat.reduceLT, Nat.reduceLeDiff, Int.reduceLE, Int.reduceLT, Nat.reduceEqDiff, Nat.reduceSub, SB, SV.known, packR, ne_eq, reduceCtorEq, Nat.reduceEqDiff, ↓reduceIte, if_true, if_false, eq_self, Nat.reduceAdd, Nat.reduceMul, Nat.reduceSub, forall_const, oneCellS, litOne, flat1, Kd.isSca, flat, TYB]
    exact next _ _ _ (hE0.up (by (repeat (first | refine vw_up ?_ (by decide) | exact fun _ _ => rfl))) (Kpt.refl hwf0))
  · obtain ⟨q1, q2, q3, q4, q5⟩ := st_first hV hVi hi
    have lF := caF_len (r := 0) hV hVi
    have tkF := List.take_of_length_le (Nat.le_of_eq lF)
    have lC := hcL_len hV
    simp -implicitDefEqProofs only [s22, s19, hi, hf, lF, tkF, q1, q2, ViewOf_F, sViewOf_F, RankOfRack_F, sRankOfRack_F, CandidateAt_F, sCandidateAt_F, CountCandidates_F, sCountCandidates_F, FirstCandidate_F, sFirstCandidate_F, CountHidden_F, sCountHidden_F, ChanceBelow_F, sChanceBelow_F, ChanceTop_F, sChanceTop_F, IsView_F, sIsView_F, vPlus_F, Wrap.ap, eqI_p2, eqI_rack, eqI_view, eqI_a6v, Nat.add_assoc, add_self, self_add, add_add, List.getD_cons_zero, List.getD_cons_succ, ZB, Int.reduceToNat, Nat.reduceLT, Nat.reduceLeDiff, Int.reduceLE, Int.reduceLT, Nat.reduceEqDiff, Nat.reduceSub, SB, SV.known, packR, ne_eq, reduceCtorEq, Nat.reduceEqDiff, ↓reduceIte, if_true, if_false, eq_self, Nat.reduceAdd, Nat.reduceMul, Nat.reduceSub, forall_const, oneCellS, litOne, flat1, Kd.isSca, flat, TYB]
    refine loop_introN (fun q : Nat => [(57, .int q), (56, .int ((hcL V).take q).sum), (55, .bool true), (54, .int 0), (3, .ptr r 0), (4, .ptr vw 0), (5, .bool (rackB R)), (8, .int (rankF R)), (12, .ptr v 0), (13, .int x), (14, .ptr a 0), (15, .bool (caB V x)), (18, .int (ccV V)), (19, .bool (isVF V)), (22, .ptr fi 0), (26, .int (hcN V)), (27, .ptr hc 0), (32, .ptr w 0), (33, .int i), (36, .bool (cbB W i c)), (39, .ptr y 0), (40, .int k), (43, .bool (ctB Y k m))]) (fun _ => H) (fun _ => n) (fun q => q ≤ 6) (fun q => 6 - q) ?_ ?_
    · exact ⟨0, Nat.zero_le _, Sub.same (by simp only [s3, s4, s5, s8, s12, s13, s14, s15, s18, s19, s22, s26, s27, s32, s33, s36, s39, s40, s43, hi, List.take_zero, List.sum_nil, LB, subS, subH, wfS, wfH, SV.ren, renL, SObj.ren, SV.wf, SObj.wf, wfL, SV.known, Nat.reduceEqDiff, ↓reduceIte, if_true, if_false, eq_self, Nat.reduceAdd, Nat.reduceLT, Nat.reduceLeDiff, implies_true, reduceCtorEq, forall_const]; try rfl) (by simp [subS, subH, wfS, wfH, SV.ren, renL, SObj.ren, SV.wf, SObj.wf, wfL, sget_cons, hget_cons] <;> omega) hwf0 h1n⟩
    · intro q hq
      by_cases hlt6 : q < 6
      · have ql : (q : Int) < 6 := by omega
        have bq := q5.getD (k := q) (by omega)
        have sb := sum_bd _ (q5.take q)
        rw [List.length_take] at sb
        have es := sum_take_succ (hcL V) q (by omega)
        have i1 : In64 (((hcL V).take q).sum + (hcL V).getD q 0) := by unfold In64; omega
        have q0 : 0 ≤ (q : Int) := by omega
        simp -implicitDefEqProofs only [lk_normal, ql, hh, lC, hlt6, i1, ViewOf_F, sViewOf_F, RankOfRack_F, sRankOfRack_F, CandidateAt_F, sCandidateAt_F, CountCandidates_F, sCountCandidates_F, FirstCandidate_F, sFirstCandidate_F, CountHidden_F, sCountHidden_F, ChanceBelow_F, sChanceBelow_F, ChanceTop_F, sChanceTop_F, IsView_F, sIsView_F, vPlus_F, Wrap.ap, eqI_p2, eqI_rack, eqI_view, eqI_a6v, Nat.add_assoc, add_self, self_add, add_add, List.getD_cons_zero, List.getD_cons_succ, ZB, Int.reduceToNat, Nat.reduceLT, Nat.reduceLeDiff, Int.reduceLE, Int.reduceLT, Nat.reduceEqDiff, Nat.reduceSub, SB, SV.known, packR, ne_eq, reduceCtorEq, Nat.reduceEqDiff, ↓reduceIte, if_true, if_false, eq_self, Nat.reduceAdd, Nat.reduceMul, Nat.reduceSub, forall_const, oneCellS, litOne, flat1, Kd.isSca, flat, TYB]
        exact ⟨by omega, by unfold In64; omega, q + 1, by omega, by omega, Sub.same (by simp only [es, LB, subS, subH, wfS, wfH, SV.ren, renL, SObj.ren, SV.wf, SObj.wf, wfL, SV.known, Nat.reduceEqDiff, ↓reduceIte, if_true, if_false, eq_self, Nat.reduceAdd, Nat.reduceLT, Nat.reduceLeDiff, implies_true, reduceCtorEq, forall_const]; try rfl) (by simp [subS, subH, wfS, wfH, SV.ren, renL, SObj.ren, SV.wf, SObj.wf, wfL, sget_cons, hget_cons] <;> omega) hwf0 h1n⟩
      · have eq6 : q = 6 := by omega
        have ql : ¬ (q : Int) < 6 := by omega
        have tk : (hcL V).take q = hcL V := List.take_of_length_le (by omega)
        have n1 : ¬ ccV V < 1 := by omega
        simp -implicitDefEqProofs only [lk_normal, ql, tk, q4, n1, ViewOf_F, sViewOf_F, RankOfRack_F, sRankOfRack_F, CandidateAt_F, sCandidateAt_F, CountCandidates_F, sCountCandidates_F, FirstCandidate_F, sFirstCandidate_F, CountHidden_F, sCountHidden_F, ChanceBelow_F, sChanceBelow_F, ChanceTop_F, sChanceTop_F, IsView_F, sIsView_F, vPlus_F, Wrap.ap, eqI_p2, eqI_rack, eqI_view, eqI_a6v, Nat.add_assoc, add_self, self_add, add_add, List.getD_cons_zero, List.getD_cons_succ, ZB, Int.reduceToNat, Nat.reduceLT, Nat.reduceLeDiff, Int.reduceLE, Int.reduceLT, Nat.reduceEqDiff, Nat.reduceSub, SB, SV.known, packR, ne_eq, reduceCtorEq, Nat.reduceEqDiff, ↓reduceIte, if_true, if_false, eq_self, Nat.reduceAdd, Nat.reduceMul, Nat.reduceSub, forall_const, oneCellS, litOne, flat1, Kd.isSca, flat, TYB]
        exact next _ _ _ (hE0.re (Kpt.refl hwf0) rfl rfl rfl rfl rfl rfl rfl rfl rfl (by first | rfl | (rw [hi]; rfl)) rfl rfl rfl rfl rfl rfl rfl rfl rfl)
set_option maxHeartbeats 4000000 in
theorem vw_b24 (S : Env) (H : Heap) (n : Nat) (V W Y R : List Int) (x i c k m : Int) (r vw v a fi hc w y : Nat) (hE : VwS S H n V W Y R x i c k m r vw v a fi hc w y) (hY : Y.length = 18) (hYi : I64 Y) (hW : W.length = 18) (hWi : I64 W) (hV : V.length = 18) (hVi : I64 V) : codeVC (⟨Try.prog, tys, [(5, vBig_F), (7, ViewOf_F), (8, sViewOf_F), (9, RankOfRack_F), (10, sRankOfRack_F), (13, CandidateAt_F), (14, sCandidateAt_F), (15, CountCandidates_F), (16, sCountCandidates_F), (17, FirstCandidate_F), (18, sFirstCandidate_F), (19, CountHidden_F), (20, sCountHidden_F), (22, ChanceBelow_F), (23, sChanceBelow_F), (25, ChanceTop_F), (26, sChanceTop_F), (27, IsView_F), (28, sIsView_F), (29, vPlus_F)], [(6, DrawRankOfRack_F), (12, vCut_F), (11, DrawCandidateAt_F), (21, DrawChanceBelow_F), (24, DrawChanceTop_F)], true, true, 1, [], []⟩ : Cx) 1 (cdN 24 (Try.f3.body.getD .skip)) S H n vwQ := by
  have hE0 := hE
  obtain ⟨s3, s4, s5, s8, s12, s13, s14, s15, s18, s19, s22, s26, s27, s32, s33, s36, s39, s40, s43, hr, hvw, hv, ha, hf, hh, hw, hy, hlt, hwf0, h1n⟩ := hE
  have tkV : V.take 18 = V := List.take_of_length_le (by omega)
  rw [cd_cut (show cdN 24 (Try.f3.body.getD .skip) = .seq (cd1 (cdN 24 (Try.f3.body.getD .skip))) (cdN 25 (Try.f3.body.getD .skip)) from rfl)]
  have next := fun S' H' n' (h : VwS S' H' n' V W Y R x i c k m r vw v a fi hc w y) => vw_b25 S' H' n' V W Y R x i c k m r vw v a fi hc w y h hY hYi hW hWi hV hVi
  obtain ⟨cn, en⟩ : ∃ c, c = cdN 25 (Try.f3.body.getD .skip) := ⟨_, rfl⟩
  rw [← en] at next ⊢
  simp only [cdN, cd1, cd2, Try.f3, Option.getD_some]
  cases hi : caB V x
  · simp -implicitDefEqProofs only [s15, hi, ViewOf_F, sViewOf_F, RankOfRack_F, sRankOfRack_F, CandidateAt_F, sCandidateAt_F, CountCandidates_F, sCountCandidates_F, FirstCandidate_F, sFirstCandidate_F, CountHidden_F, sCountHidden_F, ChanceBelow_F, sChanceBelow_F, ChanceTop_F, sChanceTop_F, IsView_F, sIsView_F, vPlus_F, Wrap.ap, eqI_p2, eqI_rack, eqI_view, eqI_a6v, Nat.add_assoc, add_self, self_add, add_add, List.getD_cons_zero, List.getD_cons_succ, ZB, Int.reduceToNat, Nat.reduceLT, Nat.reduceLeDiff, Int.reduceLE, Int.reduceLT, Nat.reduceEqDiff, Nat.reduceSub, SB, SV.known, packR, ne_eq, reduceCtorEq, Nat.reduceEqDiff, ↓reduceIte, if_true, if_false, eq_self, Nat.reduceAdd, Nat.reduceMul, Nat.reduceSub, forall_const, oneCellS, litOne, flat1, Kd.isSca, flat, TYB]
    exact next _ _ _ (hE0.up (by (repeat (first | refine vw_up ?_ (by decide) | exact fun _ _ => rfl))) (Kpt.refl hwf0))
  · obtain ⟨q1, q2, q3⟩ := st_made hV hVi hi
    have lF := caF_len (r := x) hV hVi
    have tkF := List.take_of_length_le (Nat.le_of_eq lF)
    have d1 : (a = n) = False := by simp; omega
    have d2 : (v = n) = False := by simp; omega
    have P1 : Kpt n H ((n, .ints V 31) :: (n, .ints (List.replicate 18 0) 31) :: H) (n + 1) := (Kpt.refl hwf0).push.put (by omega)
    simp -implicitDefEqProofs only [s3, s4, s5, s8, s12, s13, s14, s15, s18, s19, s22, s26, s27, s32, s33, s36, s39, s40, s43, hi, ha, hv, lF, tkF, q1, q2, q3, hV, tkV, d1, d2, ViewOf_F, sViewOf_F, RankOfRack_F, sRankOfRack_F, CandidateAt_F, sCandidateAt_F, CountCandidates_F, sCountCandidates_F, FirstCandidate_F, sFirstCandidate_F, CountHidden_F, sCountHidden_F, ChanceBelow_F, sChanceBelow_F, ChanceTop_F, sChanceTop_F, IsView_F, sIsView_F, vPlus_F, Wrap.ap, eqI_p2, eqI_rack, eqI_view, eqI_a6v, Nat.add_assoc, add_self, self_add, add_add, List.getD_cons_zero, List.getD_cons_succ, ZB, Int.reduceToNat, Nat.reduceLT, Nat.reduceLeDiff, Int.reduceLE, Int.reduceLT, Nat.reduceEqDiff, Nat.reduceSub, SB, SV.known, packR, ne_eq, reduceCtorEq, Nat.reduceEqDiff, ↓reduceIte, if_true, if_false, eq_self, Nat.reduceAdd, Nat.reduceMul, Nat.reduceSub, forall_const, oneCellS, litOne, flat1, Kd.isSca, flat, TYB]
    exact ⟨h1n, next _ _ _ (hE0.up (by (repeat (first | refine vw_up ?_ (by decide) | exact fun _ _ => rfl))) P1)⟩
set_option maxHeartbeats 4000000 in
theorem vw_b23 (S : Env) (H : Heap) (n : Nat) (V W Y R : List Int) (x i c k m : Int) (r vw v a fi hc w y : Nat) (hE : VwS S H n V W Y R x i c k m r vw v a fi hc w y) (hY : Y.length = 18) (hYi : I64 Y) (hW : W.length = 18) (hWi : I64 W) (hV : V.length = 18) (hVi : I64 V) (hR : R.length = 24) : codeVC (⟨Try.prog, tys, [(5, vBig_F), (7, ViewOf_F), (8, sViewOf_F), (9, RankOfRack_F), (10, sRankOfRack_F), (13, CandidateAt_F), (14, sCandidateAt_F), (15, CountCandidates_F), (16, sCountCandidates_F), (17, FirstCandidate_F), (18, sFirstCandidate_F), (19, CountHidden_F), (20, sCountHidden_F), (22, ChanceBelow_F), (23, sChanceBelow_F), (25, ChanceTop_F), (26, sChanceTop_F), (27, IsView_F), (28, sIsView_F), (29, vPlus_F)], [(6, DrawRankOfRack_F), (12, vCut_F), (11, DrawCandidateAt_F), (21, DrawChanceBelow_F), (24, DrawChanceTop_F)], true, true, 1, [], []⟩ : Cx) 1 (cdN 23 (Try.f3.body.getD .skip)) S H n vwQ := by
  have hE0 := hE
  obtain ⟨s3, s4, s5, s8, s12, s13, s14, s15, s18, s19, s22, s26, s27, s32, s33, s36, s39, s40, s43, hr, hvw, hv, ha, hf, hh, hw, hy, hlt, hwf0, h1n⟩ := hE
  have tkR : R.take 24 = R := List.take_of_length_le (by omega)
  rw [cd_cut (show cdN 23 (Try.f3.body.getD .skip) = .seq (cd1 (cdN 23 (Try.f3.body.getD .skip))) (cdN 24 (Try.f3.body.getD .skip)) from rfl)]
  have next := fun S' H' n' (h : VwS S' H' n' V W Y R x i c k m r vw v a fi hc w y) => vw_b24 S' H' n' V W Y R x i c k m r vw v a fi hc w y h hY hYi hW hWi hV hVi
  obtain ⟨cn, en⟩ : ∃ c, c = cdN 24 (Try.f3.body.getD .skip) := ⟨_, rfl⟩
  rw [← en] at next ⊢
  simp only [cdN, cd1, cd2, Try.f3, Option.getD_some]
  cases hi : rackB R
  · simp -implicitDefEqProofs only [s5, hi, ViewOf_F, sViewOf_F, RankOfRack_F, sRankOfRack_F, CandidateAt_F, sCandidateAt_F, CountCandidates_F, sCountCandidates_F, FirstCandidate_F, sFirstCandidate_F, CountHidden_F, sCountHidden_F, ChanceBelow_F, sChanceBelow_F, ChanceTop_F, sChanceTop_F, IsView_F, sIsView_F, vPlus_F, Wrap.ap, eqI_p2, eqI_rack, eqI_view, eqI_a6v, Nat.add_assoc, add_self, self_add, add_add, List.getD_cons_zero, List.getD_cons_succ, ZB, Int.reduceToNat, Nat.reduceLT, Nat.reduceLeDiff, Int.reduceLE, Int.reduceLT, Nat.reduceEqDiff, Nat.reduceSub, SB, SV.known, packR, ne_eq, reduceCtorEq, Nat.reduceEqDiff, ↓reduceIte, if_true, if_false, eq_self, Nat.reduceAdd, Nat.reduceMul, Nat.reduceSub, forall_const, oneCellS, litOne, flat1, Kd.isSca, flat, TYB]
    exact next _ _ _ (hE0.up (by (repeat (first | refine vw_up ?_ (by decide) | exact fun _ _ => rfl))) (Kpt.refl hwf0))
  · obtain ⟨q1, q2, q3, q4, q5⟩ := st_rank hR hi
    rw [q1] at hvw
    have lV := viewF_len R
    have tkV := List.take_of_length_le (Nat.le_of_eq lV)
    have vin := view_in hR hi
    have d1 : (r = n) = False := by simp; omega
    have d2 : (vw = n) = False := by simp; omega
    have ng : ¬ ccV (viewF R) ≤ rankF R := by omega
    have P1 : Kpt n H ((n, .ints R 27) :: (n, .ints (List.replicate 24 0) 27) :: H) (n + 1) := (Kpt.refl hwf0).push.put (by omega)
    simp -implicitDefEqProofs only [s3, s4, s5, s8, s12, s13, s14, s15, s18, s19, s22, s26, s27, s32, s33, s36, s39, s40, s43, hi, hr, hvw, hR, tkR, lV, tkV, vin, q2, q3, q4, ng, d1, d2, ViewOf_F, sViewOf_F, RankOfRack_F, sRankOfRack_F, CandidateAt_F, sCandidateAt_F, CountCandidates_F, sCountCandidates_F, FirstCandidate_F, sFirstCandidate_F, CountHidden_F, sCountHidden_F, ChanceBelow_F, sChanceBelow_F, ChanceTop_F, sChanceTop_F, IsView_F, sIsView_F, vPlus_F, Wrap.ap, eqI_p2, eqI_rack, eqI_view, eqI_a6v, Nat.add_assoc, add_self, self_add, add_add, List.getD_cons_zero, List.getD_cons_succ, ZB, Int.reduceToNat, Nat.reduceLT, Nat.reduceLeDiff, Int.reduceLE, Int.reduceLT, Nat.reduceEqDiff, Nat.reduceSub, SB, SV.known, packR, ne_eq, reduceCtorEq, Nat.reduceEqDiff, ↓reduceIte, if_true, if_false, eq_self, Nat.reduceAdd, Nat.reduceMul, Nat.reduceSub, forall_const, oneCellS, litOne, flat1, Kd.isSca, flat, TYB]
    exact ⟨h1n, next _ _ _ (hE0.up (by (repeat (first | refine vw_up ?_ (by decide) | exact fun _ _ => rfl))) P1)⟩
set_option maxHeartbeats 16000000 in
theorem lawFnViews_vc (cv : SV) (H0 : Heap) (hB : BytA cv H0) (hrb : vBig_F [cv] H0 = some (True, .bool false)) (hkn : cv.known = true) (hw0 : hwf 1 H0) (hcap : capOK cv) :
    codeVC (⟨Try.prog, tys, [(5, vBig_F), (7, ViewOf_F), (8, sViewOf_F), (9, RankOfRack_F), (10, sRankOfRack_F), (13, CandidateAt_F), (14, sCandidateAt_F), (15, CountCandidates_F), (16, sCountCandidates_F), (17, FirstCandidate_F), (18, sFirstCandidate_F), (19, CountHidden_F), (20, sCountHidden_F), (22, ChanceBelow_F), (23, sChanceBelow_F), (25, ChanceTop_F), (26, sChanceTop_F), (27, IsView_F), (28, sIsView_F), (29, vPlus_F)], [(6, DrawRankOfRack_F), (12, vCut_F), (11, DrawCandidateAt_F), (21, DrawChanceBelow_F), (24, DrawChanceTop_F)], true, true, 1, [], []⟩ : Cx) 1 (Try.f3.body.getD .skip) (argS 0 [cv]) H0 1 vwQ := by
  have hkm := hkn
  simp only [SV.known] at hkm
  rw [show (Try.f3.body.getD .skip) = cdP 23 (Try.f3.body.getD .skip) (cdN 23 (Try.f3.body.getD .skip)) from rfl]
  have next := vw_b23
  obtain ⟨c14, e14⟩ : ∃ c, c = cdN 23 (Try.f3.body.getD .skip) := ⟨_, rfl⟩
  rw [← e14] at next ⊢
  simp only [cdP, Try.f3, Option.getD_some, List.append_eq, List.cons_append, List.nil_append]
  simp -implicitDefEqProofs only [argS, hrb, hkn, hkm, ViewOf_F, sViewOf_F, RankOfRack_F, sRankOfRack_F, CandidateAt_F, sCandidateAt_F, CountCandidates_F, sCountCandidates_F, FirstCandidate_F, sFirstCandidate_F, CountHidden_F, sCountHidden_F, ChanceBelow_F, sChanceBelow_F, ChanceTop_F, sChanceTop_F, IsView_F, sIsView_F, vPlus_F, Wrap.ap, eqI_p2, eqI_rack, eqI_view, eqI_a6v, Nat.add_assoc, add_self, self_add, add_add, List.getD_cons_zero, List.getD_cons_succ, ZB, Int.reduceToNat, Nat.reduceLT, Nat.reduceLeDiff, Int.reduceLE, Int.reduceLT, Nat.reduceEqDiff, Nat.reduceSub, SB, SV.known, packR, ne_eq, reduceCtorEq, Nat.reduceEqDiff, ↓reduceIte, if_true, if_false, eq_self, Nat.reduceAdd, Nat.reduceMul, Nat.reduceSub, forall_const, oneCellS, litOne, flat1, Kd.isSca, flat, TYB]
  refine drawRR_use hB (Nat.le_refl _) fun R H1 n1 hR hRi hK1 => ?_
  have hle1 := hK1.le
  have tkR : R.take 24 = R := List.take_of_length_le (by omega)
  have lO := voF_len R
  have tkO := List.take_of_length_le (Nat.le_of_eq lO)
  have a1 : (n1 = n1 + 1) = False := by simp
  have P1 : Kpt n1 H1 ((n1 + 2, .ints (voF R) 31) :: (n1 + 2, .ints (List.replicate 18 0) 31) :: (n1 + 1, .ints (voF R) 31) :: (n1 + 1, .ints (List.replicate 18 0) 31) :: (n1, .ints R 27) :: (n1, .ints (List.replicate 24 0) 27) :: H1) (n1 + 3) := (((((Kpt.refl hK1.wf).push.put (by omega)).push).put (by omega)).push).put (by omega)
  have hB1 := hB.fr hw0 (fun i o hi ho => (hK1.trans P1).fr i o hi ho)
  simp -implicitDefEqProofs only [hR, tkR, lO, tkO, a1, hkn, hkm, ViewOf_F, sViewOf_F, RankOfRack_F, sRankOfRack_F, CandidateAt_F, sCandidateAt_F, CountCandidates_F, sCountCandidates_F, FirstCandidate_F, sFirstCandidate_F, CountHidden_F, sCountHidden_F, ChanceBelow_F, sChanceBelow_F, ChanceTop_F, sChanceTop_F, IsView_F, sIsView_F, vPlus_F, Wrap.ap, eqI_p2, eqI_rack, eqI_view, eqI_a6v, Nat.add_assoc, add_self, self_add, add_add, List.getD_cons_zero, List.getD_cons_succ, ZB, Int.reduceToNat, Nat.reduceLT, Nat.reduceLeDiff, Int.reduceLE, Int.reduceLT, Nat.reduceEqDiff, Nat.reduceSub, SB, SV.known, packR, ne_eq, reduceCtorEq, Nat.reduceEqDiff, ↓reduceIte, if_true, if_false, eq_self, Nat.reduceAdd, Nat.reduceMul, Nat.reduceSub, forall_const, oneCellS, litOne, flat1, Kd.isSca, flat, TYB]
  refine ⟨hle1, cut_use hB1 hcap (.inl rfl) (by omega) fun b2 l2 c2 H2 n2 hB2 hK2 => ?_⟩
  have hle2 := hK2.le
  simp -implicitDefEqProofs only [hkn, hkm, ViewOf_F, sViewOf_F, RankOfRack_F, sRankOfRack_F, CandidateAt_F, sCandidateAt_F, CountCandidates_F, sCountCandidates_F, FirstCandidate_F, sFirstCandidate_F, CountHidden_F, sCountHidden_F, ChanceBelow_F, sChanceBelow_F, ChanceTop_F, sChanceTop_F, IsView_F, sIsView_F, vPlus_F, Wrap.ap, eqI_p2, eqI_rack, eqI_view, eqI_a6v, Nat.add_assoc, add_self, self_add, add_add, List.getD_cons_zero, List.getD_cons_succ, ZB, Int.reduceToNat, Nat.reduceLT, Nat.reduceLeDiff, Int.reduceLE, Int.reduceLT, Nat.reduceEqDiff, Nat.reduceSub, SB, SV.known, packR, ne_eq, reduceCtorEq, Nat.reduceEqDiff, ↓reduceIte, if_true, if_false, eq_self, Nat.reduceAdd, Nat.reduceMul, Nat.reduceSub, forall_const, oneCellS, litOne, flat1, Kd.isSca, flat, TYB]
  refine drawCA_use hB2 (by omega) fun V x H3 n3 hV hVi hx hK3 => ?_
  have hle3 := hK3.le
  have tkV : V.take 18 = V := List.take_of_length_le (by omega)
  have lA := caF_len (r := x) hV hVi
  have tkA := List.take_of_length_le (Nat.le_of_eq lA)
  have lF := caF_len (r := 0) hV hVi
  have tkF := List.take_of_length_le (Nat.le_of_eq lF)
  have lC := hcL_len hV
  have tkC := List.take_of_length_le (Nat.le_of_eq lC)
  have a3 : (n3 = n3 + 1) = False := by simp
  have P3 : Kpt n3 H3 ((n3 + 6, .ints (hcL V) 29) :: (n3 + 6, .ints (List.replicate 6 0) 29) :: (n3 + 5, .ints (hcL V) 29) :: (n3 + 5, .ints (List.replicate 6 0) 29) :: (n3 + 4, .ints (caF V 0) 27) :: (n3 + 4, .ints (List.replicate 24 0) 27) :: (n3 + 3, .ints (caF V 0) 27) :: (n3 + 3, .ints (List.replicate 24 0) 27) :: (n3 + 2, .ints (caF V x) 27) :: (n3 + 2, .ints (List.replicate 24 0) 27) :: (n3 + 1, .ints (caF V x) 27) :: (n3 + 1, .ints (List.replicate 24 0) 27) :: (n3, .ints V 31) :: (n3, .ints (List.replicate 18 0) 31) :: H3) (n3 + 7) := ((((((((Kpt.refl hK3.wf).push.put (by omega)).push.put (by omega)).push.put (by omega)).push.put (by omega)).push.put (by omega)).push.put (by omega)).push.put (by omega))
  have T13 := hK2.trans (hK3.trans P3)
  have hB3 := hB1.fr P1.wf (fun i o hi ho => T13.fr i o hi ho)
  simp -implicitDefEqProofs only [hV, hVi, tkV, lA, tkA, lF, tkF, lC, tkC, a3, hkn, hkm, ViewOf_F, sViewOf_F, RankOfRack_F, sRankOfRack_F, CandidateAt_F, sCandidateAt_F, CountCandidates_F, sCountCandidates_F, FirstCandidate_F, sFirstCandidate_F, CountHidden_F, sCountHidden_F, ChanceBelow_F, sChanceBelow_F, ChanceTop_F, sChanceTop_F, IsView_F, sIsView_F, vPlus_F, Wrap.ap, eqI_p2, eqI_rack, eqI_view, eqI_a6v, Nat.add_assoc, add_self, self_add, add_add, List.getD_cons_zero, List.getD_cons_succ, ZB, Int.reduceToNat, Nat.reduceLT, Nat.reduceLeDiff, Int.reduceLE, Int.reduceLT, Nat.reduceEqDiff, Nat.reduceSub, SB, SV.known, packR, ne_eq, reduceCtorEq, Nat.reduceEqDiff, ↓reduceIte, if_true, if_false, eq_self, Nat.reduceAdd, Nat.reduceMul, Nat.reduceSub, forall_const, oneCellS, litOne, flat1, Kd.isSca, flat, TYB]
  refine ⟨by omega, cut_use hB3 hcap (.inr rfl) (by omega) fun b4 l4 c4 H4 n4 hB4 hK4 => ?_⟩
  have hle4 := hK4.le
  simp -implicitDefEqProofs only [hkn, hkm, ViewOf_F, sViewOf_F, RankOfRack_F, sRankOfRack_F, CandidateAt_F, sCandidateAt_F, CountCandidates_F, sCountCandidates_F, FirstCandidate_F, sFirstCandidate_F, CountHidden_F, sCountHidden_F, ChanceBelow_F, sChanceBelow_F, ChanceTop_F, sChanceTop_F, IsView_F, sIsView_F, vPlus_F, Wrap.ap, eqI_p2, eqI_rack, eqI_view, eqI_a6v, Nat.add_assoc, add_self, self_add, add_add, List.getD_cons_zero, List.getD_cons_succ, ZB, Int.reduceToNat, Nat.reduceLT, Nat.reduceLeDiff, Int.reduceLE, Int.reduceLT, Nat.reduceEqDiff, Nat.reduceSub, SB, SV.known, packR, ne_eq, reduceCtorEq, Nat.reduceEqDiff, ↓reduceIte, if_true, if_false, eq_self, Nat.reduceAdd, Nat.reduceMul, Nat.reduceSub, forall_const, oneCellS, litOne, flat1, Kd.isSca, flat, TYB]
  refine drawCB_use hB4 (by omega) fun W i c H5 n5 hW hWi hii hci hK5 => ?_
  have hle5 := hK5.le
  have tkW : W.take 18 = W := List.take_of_length_le (by omega)
  have lB := cbF_len W i c
  have tkB := List.take_of_length_le (Nat.le_of_eq lB)
  have a5 : (n5 = n5 + 1) = False := by simp
  have P5 : Kpt n5 H5 ((n5 + 2, .ints (cbF W i c) 47) :: (n5 + 2, .ints (List.replicate 2 0) 47) :: (n5 + 1, .ints (cbF W i c) 47) :: (n5 + 1, .ints (List.replicate 2 0) 47) :: (n5, .ints W 31) :: (n5, .ints (List.replicate 18 0) 31) :: H5) (n5 + 3) := ((((Kpt.refl hK5.wf).push.put (by omega)).push.put (by omega)).push.put (by omega))
  have T35 := hK4.trans (hK5.trans P5)
  have hB5 := hB3.fr P3.wf (fun i o hi ho => T35.fr i o hi ho)
  simp -implicitDefEqProofs only [hW, hWi, tkW, lB, tkB, a5, hkn, hkm, ViewOf_F, sViewOf_F, RankOfRack_F, sRankOfRack_F, CandidateAt_F, sCandidateAt_F, CountCandidates_F, sCountCandidates_F, FirstCandidate_F, sFirstCandidate_F, CountHidden_F, sCountHidden_F, ChanceBelow_F, sChanceBelow_F, ChanceTop_F, sChanceTop_F, IsView_F, sIsView_F, vPlus_F, Wrap.ap, eqI_p2, eqI_rack, eqI_view, eqI_a6v, Nat.add_assoc, add_self, self_add, add_add, List.getD_cons_zero, List.getD_cons_succ, ZB, Int.reduceToNat, Nat.reduceLT, Nat.reduceLeDiff, Int.reduceLE, Int.reduceLT, Nat.reduceEqDiff, Nat.reduceSub, SB, SV.known, packR, ne_eq, reduceCtorEq, Nat.reduceEqDiff, ↓reduceIte, if_true, if_false, eq_self, Nat.reduceAdd, Nat.reduceMul, Nat.reduceSub, forall_const, oneCellS, litOne, flat1, Kd.isSca, flat, TYB]
  refine ⟨by omega, drawCT_use hB5 (by omega) fun Y k m H6 n6 hY hYi hki hmi hK6 => ?_⟩
  have hle6 := hK6.le
  have tkY : Y.take 18 = Y := List.take_of_length_le (by omega)
  have lT := ctF_len Y k m
  have tkT := List.take_of_length_le (Nat.le_of_eq lT)
  have a6 : (n6 = n6 + 1) = False := by simp
  have P6 : Kpt n6 H6 ((n6 + 2, .ints (ctF Y k m) 47) :: (n6 + 2, .ints (List.replicate 2 0) 47) :: (n6 + 1, .ints (ctF Y k m) 47) :: (n6 + 1, .ints (List.replicate 2 0) 47) :: (n6, .ints Y 31) :: (n6, .ints (List.replicate 18 0) 31) :: H6) (n6 + 3) := ((((Kpt.refl hK6.wf).push.put (by omega)).push.put (by omega)).push.put (by omega))
  have K5 := hK6
  have K3 := T35.trans K5
  have K1 := T13.trans K3
  have go := K1.fr (n1) (.ints R 27) (by omega) (by simp [hget_cons])
  have zo := (K1.trans P6).fr (n1) (.ints R 27) (by omega) (by simp [hget_cons])
  have co : (n1 = n6) = False := by simp; omega
  have ko : ∀ z, (n1 = n6 + z) = False := fun z => by simp; omega
  have gp := K1.fr (n1 + 1) (.ints (voF R) 31) (by omega) (by simp [hget_cons])
  have zp := (K1.trans P6).fr (n1 + 1) (.ints (voF R) 31) (by omega) (by simp [hget_cons])
  have cp : (n1 + 1 = n6) = False := by simp; omega
  have kp : ∀ z, (n1 + 1 = n6 + z) = False := fun z => by simp; omega
  have gq := K1.fr (n1 + 2) (.ints (voF R) 31) (by omega) (by simp [hget_cons])
  have zq := (K1.trans P6).fr (n1 + 2) (.ints (voF R) 31) (by omega) (by simp [hget_cons])
  have cq : (n1 + 2 = n6) = False := by simp; omega
  have kq : ∀ z, (n1 + 2 = n6 + z) = False := fun z => by simp; omega
  have ga := K3.fr (n3) (.ints V 31) (by omega) (by simp [hget_cons])
  have za := (K3.trans P6).fr (n3) (.ints V 31) (by omega) (by simp [hget_cons])
  have ca : (n3 = n6) = False := by simp; omega
  have ka : ∀ z, (n3 = n6 + z) = False := fun z => by simp; omega
  have gb := K3.fr (n3 + 1) (.ints (caF V x) 27) (by omega) (by simp [hget_cons])
  have zb := (K3.trans P6).fr (n3 + 1) (.ints (caF V x) 27) (by omega) (by simp [hget_cons])
  have cb : (n3 + 1 = n6) = False := by simp; omega
  have kb : ∀ z, (n3 + 1 = n6 + z) = False := fun z => by simp; omega
  have gc := K3.fr (n3 + 2) (.ints (caF V x) 27) (by omega) (by simp [hget_cons])
  have zc := (K3.trans P6).fr (n3 + 2) (.ints (caF V x) 27) (by omega) (by simp [hget_cons])
  have cc : (n3 + 2 = n6) = False := by simp; omega
  have kc : ∀ z, (n3 + 2 = n6 + z) = False := fun z => by simp; omega
  have gd := K3.fr (n3 + 3) (.ints (caF V 0) 27) (by omega) (by simp [hget_cons])
  have zd := (K3.trans P6).fr (n3 + 3) (.ints (caF V 0) 27) (by omega) (by simp [hget_cons])
  have cd : (n3 + 3 = n6) = False := by simp; omega
  have kd : ∀ z, (n3 + 3 = n6 + z) = False := fun z => by simp; omega
  have ge := K3.fr (n3 + 4) (.ints (caF V 0) 27) (by omega) (by simp [hget_cons])
  have ze := (K3.trans P6).fr (n3 + 4) (.ints (caF V 0) 27) (by omega) (by simp [hget_cons])
  have ce : (n3 + 4 = n6) = False := by simp; omega
  have ke : ∀ z, (n3 + 4 = n6 + z) = False := fun z => by simp; omega
  have gf := K3.fr (n3 + 5) (.ints (hcL V) 29) (by omega) (by simp [hget_cons])
  have zf := (K3.trans P6).fr (n3 + 5) (.ints (hcL V) 29) (by omega) (by simp [hget_cons])
  have cf : (n3 + 5 = n6) = False := by simp; omega
  have kf : ∀ z, (n3 + 5 = n6 + z) = False := fun z => by simp; omega
  have gg := K3.fr (n3 + 6) (.ints (hcL V) 29) (by omega) (by simp [hget_cons])
  have zg := (K3.trans P6).fr (n3 + 6) (.ints (hcL V) 29) (by omega) (by simp [hget_cons])
  have cg : (n3 + 6 = n6) = False := by simp; omega
  have kg : ∀ z, (n3 + 6 = n6 + z) = False := fun z => by simp; omega
  have gh := K5.fr (n5) (.ints W 31) (by omega) (by simp [hget_cons])
  have zh := (K5.trans P6).fr (n5) (.ints W 31) (by omega) (by simp [hget_cons])
  have ch : (n5 = n6) = False := by simp; omega
  have kh : ∀ z, (n5 = n6 + z) = False := fun z => by simp; omega
  have gi := K5.fr (n5 + 1) (.ints (cbF W i c) 47) (by omega) (by simp [hget_cons])
  have zi := (K5.trans P6).fr (n5 + 1) (.ints (cbF W i c) 47) (by omega) (by simp [hget_cons])
  have ci : (n5 + 1 = n6) = False := by simp; omega
  have ki : ∀ z, (n5 + 1 = n6 + z) = False := fun z => by simp; omega
  have gj := K5.fr (n5 + 2) (.ints (cbF W i c) 47) (by omega) (by simp [hget_cons])
  have zj := (K5.trans P6).fr (n5 + 2) (.ints (cbF W i c) 47) (by omega) (by simp [hget_cons])
  have cj : (n5 + 2 = n6) = False := by simp; omega
  have kj : ∀ z, (n5 + 2 = n6 + z) = False := fun z => by simp; omega
  have hz := caB_zero hV hVi
  cases hcx : caB V x
  · simp -implicitDefEqProofs only [hz, hcx, hY, hYi, tkY, lT, tkT, a6, hV, hVi, tkV, lO, tkO, lA, tkA, lF, tkF, lC, tkC, lB, tkB, go, co, ko, gp, cp, kp, gq, cq, kq, ga, ca, ka, gb, cb, kb, gc, cc, kc, gd, cd, kd, ge, ce, ke, gf, cf, kf, gg, cg, kg, gh, ch, kh, gi, ci, ki, gj, cj, kj, hkn, hkm, ViewOf_F, sViewOf_F, RankOfRack_F, sRankOfRack_F, CandidateAt_F, sCandidateAt_F, CountCandidates_F, sCountCandidates_F, FirstCandidate_F, sFirstCandidate_F, CountHidden_F, sCountHidden_F, ChanceBelow_F, sChanceBelow_F, ChanceTop_F, sChanceTop_F, IsView_F, sIsView_F, vPlus_F, Wrap.ap, eqI_p2, eqI_rack, eqI_view, eqI_a6v, Nat.add_assoc, add_self, self_add, add_add, List.getD_cons_zero, List.getD_cons_succ, ZB, Int.reduceToNat, Nat.reduceLT, Nat.reduceLeDiff, Int.reduceLE, Int.reduceLT, Nat.reduceEqDiff, Nat.reduceSub, SB, SV.known, packR, ne_eq, reduceCtorEq, Nat.reduceEqDiff, ↓reduceIte, if_true, if_false, eq_self, Nat.reduceAdd, Nat.reduceMul, Nat.reduceSub, forall_const, oneCellS, litOne, flat1, Kd.isSca, flat, TYB]
    exact ⟨by omega, next _ _ _ V W Y R x i c k m n1 (n1 + 1) n3 (n3 + 1) (n3 + 3) (n3 + 5) n5 n6 ⟨rfl, rfl, rfl, rfl, rfl, rfl, rfl, (by rw [hcx]; rfl), rfl, rfl, rfl, rfl, rfl, rfl, rfl, rfl, rfl, rfl, rfl, zo, zp, za, zb, zd, zf, zh, by simp [hget_cons], by omega, P6.wf, by omega⟩ hY hYi hW hWi hV hVi hR⟩
  · have hv1 := (caB_x hcx).1
    simp -implicitDefEqProofs only [hz, hcx, hv1, hY, hYi, tkY, lT, tkT, a6, hV, hVi, tkV, lO, tkO, lA, tkA, lF, tkF, lC, tkC, lB, tkB, go, co, ko, gp, cp, kp, gq, cq, kq, ga, ca, ka, gb, cb, kb, gc, cc, kc, gd, cd, kd, ge, ce, ke, gf, cf, kf, gg, cg, kg, gh, ch, kh, gi, ci, ki, gj, cj, kj, hkn, hkm, ViewOf_F, sViewOf_F, RankOfRack_F, sRankOfRack_F, CandidateAt_F, sCandidateAt_F, CountCandidates_F, sCountCandidates_F, FirstCandidate_F, sFirstCandidate_F, CountHidden_F, sCountHidden_F, ChanceBelow_F, sChanceBelow_F, ChanceTop_F, sChanceTop_F, IsView_F, sIsView_F, vPlus_F, Wrap.ap, eqI_p2, eqI_rack, eqI_view, eqI_a6v, Nat.add_assoc, add_self, self_add, add_add, List.getD_cons_zero, List.getD_cons_succ, ZB, Int.reduceToNat, Nat.reduceLT, Nat.reduceLeDiff, Int.reduceLE, Int.reduceLT, Nat.reduceEqDiff, Nat.reduceSub, SB, SV.known, packR, ne_eq, reduceCtorEq, Nat.reduceEqDiff, ↓reduceIte, if_true, if_false, eq_self, Nat.reduceAdd, Nat.reduceMul, Nat.reduceSub, forall_const, oneCellS, litOne, flat1, Kd.isSca, flat, TYB]
    exact ⟨by omega, next _ _ _ V W Y R x i c k m n1 (n1 + 1) n3 (n3 + 1) (n3 + 3) (n3 + 5) n5 n6 ⟨rfl, rfl, rfl, rfl, rfl, rfl, rfl, (by rw [hcx]; rfl), rfl, (by rw [hv1]; rfl), rfl, rfl, rfl, rfl, rfl, rfl, rfl, rfl, rfl, zo, zp, za, zb, zd, zf, zh, by simp [hget_cons], by omega, P6.wf, by omega⟩ hY hYi hW hWi hV hVi hR⟩
end Go.Proofs.Ytckcojgfgcjamaa
set_option maxRecDepth 100000
set_option linter.unusedSimpArgs false
set_option linter.unusedVariables false
namespace Go.Proofs.Ytckcojgfgcjamaa
open Go Go.RowKit
theorem lawFnViews (L : List Int) (off len cap : Nat) (hlc : len ≤ cap) (_ : cap ≤ maxLen) (hLl : L.length = len) (hLb : ∀ x ∈ L, 0 ≤ x ∧ x ≤ 255) :
    PureH Try.prog 3 [.slice 0 off len cap] [(0, .winU off L)] (.bool true) := by
  by_cases hbig : (65536 : Int) < (len : Int)
  · refine pure_of_vc (X := ⟨Try.prog, tys, [(5, vBig_F)], [], true, true, 1, [], []⟩) fn_3 ⟨tys_ok, (.cons vBig_T .nil), .nil, mixed⟩ (n0 := 1) (Nat.le_of_ble_eq_true rfl) (by simp [wfL, SV.wf]) (wfH_spec (by simp [wfH, SObj.wf, wfL, SV.wf])) (Nat.le_refl _) (fun _ => by simp [SV.wf, wfL]) ?_
    simp -implicitDefEqProofs only [Try.f3, Option.getD_some, argS, vBig_F, hbig, ZB, Int.reduceToNat, Nat.reduceLT, Nat.reduceLeDiff, Int.reduceLE, Int.reduceLT, Nat.reduceEqDiff, Nat.reduceSub, SB, SV.known, packR, ne_eq, reduceCtorEq, Nat.reduceEqDiff, ↓reduceIte, if_true, if_false, eq_self, Nat.reduceAdd, Nat.reduceMul, Nat.reduceSub, forall_const, oneCellS, litOne, flat1, Kd.isSca, flat, TYB]
  · refine pure_of_vc (X := ⟨Try.prog, tys, [(5, vBig_F), (7, ViewOf_F), (8, sViewOf_F), (9, RankOfRack_F), (10, sRankOfRack_F), (13, CandidateAt_F), (14, sCandidateAt_F), (15, CountCandidates_F), (16, sCountCandidates_F), (17, FirstCandidate_F), (18, sFirstCandidate_F), (19, CountHidden_F), (20, sCountHidden_F), (22, ChanceBelow_F), (23, sChanceBelow_F), (25, ChanceTop_F), (26, sChanceTop_F), (27, IsView_F), (28, sIsView_F), (29, vPlus_F)], [(6, DrawRankOfRack_F), (12, vCut_F), (11, DrawCandidateAt_F), (21, DrawChanceBelow_F), (24, DrawChanceTop_F)], true, true, 1, [], []⟩) fn_3 ⟨tys_ok, (.cons vBig_T (.cons ViewOf_T (.cons sViewOf_T (.cons RankOfRack_T (.cons sRankOfRack_T (.cons CandidateAt_T (.cons sCandidateAt_T (.cons CountCandidates_T (.cons sCountCandidates_T (.cons FirstCandidate_T (.cons sFirstCandidate_T (.cons CountHidden_T (.cons sCountHidden_T (.cons ChanceBelow_T (.cons sChanceBelow_T (.cons ChanceTop_T (.cons sChanceTop_T (.cons IsView_T (.cons sIsView_T (.cons vPlus_T .nil)))))))))))))))))))), (.cons DrawRankOfRack_T (.cons vCut_T (.cons DrawCandidateAt_T (.cons DrawChanceBelow_T (.cons DrawChanceTop_T .nil))))), mixed⟩ (n0 := 1) (Nat.le_of_ble_eq_true rfl) (by simp [wfL, SV.wf]) (wfH_spec (by simp [wfH, SObj.wf, wfL, SV.wf])) (Nat.le_refl _) (fun _ => by simp [SV.wf, wfL]) ?_
    exact lawFnViews_vc _ _ (.inr ⟨0, off, len, cap, L, rfl, by simp [hget_cons], hLl, by omega, hLb⟩) (by simp [vBig_F, hget_cons, hbig]) rfl (wfH_spec (by simp [wfH, SObj.wf])) hlc
theorem lawFnViewsN : PureH Try.prog 3 [.nils] [] (.bool true) := by
  · refine pure_of_vc (X := ⟨Try.prog, tys, [(5, vBig_F), (7, ViewOf_F), (8, sViewOf_F), (9, RankOfRack_F), (10, sRankOfRack_F), (13, CandidateAt_F), (14, sCandidateAt_F), (15, CountCandidates_F), (16, sCountCandidates_F), (17, FirstCandidate_F), (18, sFirstCandidate_F), (19, CountHidden_F), (20, sCountHidden_F), (22, ChanceBelow_F), (23, sChanceBelow_F), (25, ChanceTop_F), (26, sChanceTop_F), (27, IsView_F), (28, sIsView_F), (29, vPlus_F)], [(6, DrawRankOfRack_F), (12, vCut_F), (11, DrawCandidateAt_F), (21, DrawChanceBelow_F), (24, DrawChanceTop_F)], true, true, 1, [], []⟩) fn_3 ⟨tys_ok, (.cons vBig_T (.cons ViewOf_T (.cons sViewOf_T (.cons RankOfRack_T (.cons sRankOfRack_T (.cons CandidateAt_T (.cons sCandidateAt_T (.cons CountCandidates_T (.cons sCountCandidates_T (.cons FirstCandidate_T (.cons sFirstCandidate_T (.cons CountHidden_T (.cons sCountHidden_T (.cons ChanceBelow_T (.cons sChanceBelow_T (.cons ChanceTop_T (.cons sChanceTop_T (.cons IsView_T (.cons sIsView_T (.cons vPlus_T .nil)))))))))))))))))))), (.cons DrawRankOfRack_T (.cons vCut_T (.cons DrawCandidateAt_T (.cons DrawChanceBelow_T (.cons DrawChanceTop_T .nil))))), mixed⟩ (n0 := 1) (Nat.le_of_ble_eq_true rfl) (by simp [wfL, SV.wf]) (wfH_spec (by simp [wfH, SObj.wf, wfL, SV.wf])) (Nat.le_refl _) (fun _ => by simp [SV.wf, wfL]) ?_
    exact lawFnViews_vc _ _ (.inl rfl) (by simp [vBig_F]) rfl (wfH_spec (by simp [wfH, SObj.wf])) trivial
end Go.Proofs.Ytckcojgfgcjamaa
set_option maxRecDepth 100000
set_option linter.unusedSimpArgs false
set_option linter.unusedVariables false
namespace Go.Proofs.Ytckcojgfgcjamaa
open Go Go.RowKit Go.ChangeShapes Go.WideShapes Go.ChangeAt

theorem own_knob : ownKnob Try.prog.godebug = none := by kernel_rfl
theorem laid_out : laidOutB Try.prog = true := by kernel_rfl

theorem trodAll_below {H : Type} {enc : TypeId × Value → H} {W W' : World} (hb : Below W.heap.size W W') : ∀ {ts : List TypeId} {vs : List Value} {ds : List (DataW H)} {ps : List MemPlace}, DataW.TrodAll enc Try.prog W 0 (fun _ => true) true ts vs ds ps →
    (∀ t ∈ ts, Try.prog.readableRec t = true ∧ t < Try.prog.types.size) → (∀ x ∈ ps, x.block < W.heap.size) → DataW.TrodAll enc Try.prog W' 0 (fun b => decide (b < W.heap.size)) true ts vs ds ps
  | [], vs, ds, ps, h, _, _ => by
    obtain ⟨rfl, rfl, rfl⟩ := trodAll_nil h
    exact trodAll_mk0
  | t :: ts, vs, ds, ps, h, hr, hp => by
    obtain ⟨v0, vs0, d0, ds0, p0, q0, rfl, rfl, rfl, h0, r0⟩ := trodAll_cons h
    exact trodAll_cons_mk (Below.trod laid_out (hr t (by simp)).1 (hr t (by simp)).2 h0 hb fun x hx => hp x (by simp [hx])) (trodAll_below hb r0 (fun t' ht' => hr t' (by simp [ht'])) fun x hx => hp x (by simp [hx]))

theorem law_post {H : Type} {enc : TypeId × Value → H} {f : Func} {s : ChangeSpec} {W W' : World} {args : Array Value} {ds gs : List (DataW H)} {before : List MemPlace} (hb : Below W.heap.size W W') (hW : DataW.Whole enc Try.prog f.params.toList s.vars false W args.toList ds gs before)
    (hv : s.vars = []) (hrt : f.resultTypes = #[4]) (hs1 : (s.fn H (ds ++ gs)).results = [.lit (.bool true)]) (hs2 : (s.fn H (ds ++ gs)).args = ds) (hs3 : (s.fn H (ds ++ gs)).vars = []) (hr : ∀ t ∈ f.params.toList, Try.prog.readableRec t = true ∧ t < Try.prog.types.size) :
    s.post enc Try.prog f false true false false W args (.bool true) W' := by
  have hW' := hW
  obtain ⟨p, q, hA, hV, rfl, hfz, hnd⟩ := hW
  rw [hv] at hV
  obtain ⟨rfl, rfl⟩ := trodVars_none hV
  refine ⟨ds, _, _, [], p, [], hW', ?_, ?_, ?_, hb.frame _, fun h => by cases h⟩
  · rw [hs1, hrt]
    exact trodAll_cons_mk (shut_bool Try.underlying4 true) trodAll_mk0
  · rw [hs2]
    exact trodAll_below hb hA hr fun x hx => by simpa using hW'.lt x (by simpa using hx)
  · rw [hv, hs3]
    rfl
end Go.Proofs.Ytckcojgfgcjamaa
set_option maxRecDepth 100000
set_option linter.unusedSimpArgs false
set_option linter.unusedVariables false
namespace Go.Proofs.Ytckcojgfgcjamaa
open Go Go.RowKit Go.ChangeShapes Go.WideShapes Go.ChangeAt

theorem add_off (b o n : Nat) : (Addr.mk b o none).add n = ⟨b, o + n, none⟩ := by
  unfold Addr.add
  split
  · rename_i h; rw [h]; rfl
  · rfl
def intOf (v : Option Value) : Int := match v with
  | some (.int _ n) => n
  | _ => 0
end Go.Proofs.Ytckcojgfgcjamaa
set_option maxRecDepth 100000
set_option linter.unusedSimpArgs false
set_option linter.unusedVariables false
namespace Go.Proofs.Ytckcojgfgcjamaa
open Go Go.RowKit Go.ChangeShapes Go.WideShapes Go.ChangeAt
/-- An argument that is a slice of bytes. -/
theorem open_by {H : Type} {enc : TypeId × Value → H} {W : World} {b0 : Nat} {sp : Nat → Bool} {held : Bool} {t e : Nat} {v : Value} {d : DataW H} {ps : List MemPlace} (ht : Try.prog.underlying t = some (.slice e)) (hc : Try.prog.cellsOf e = 1) (he : Try.prog.underlying e = some (.int .u8))
    (hval : Value.okWide Try.prog W .any b0 t v) (hd : DataW.Trod enc Try.prog W 0 sp held t v d ps) :
    v = .slice none 0 0 ∨ ∃ (b off len cap : Nat) (L : List Int), v = .slice (some ⟨b, off, none⟩) len cap ∧ len ≤ cap ∧ cap ≤ maxLen ∧ L.length = len ∧ (∀ x ∈ L, 0 ≤ x ∧ x ≤ 255) ∧ SObj.sat (fun _ => b) W b (.winU off L) := by
  unfold Value.okWide at hval
  rw [ht] at hval
  simp only [Cell.okWide] at hval
  rw [ht] at hval
  obtain ⟨fuel, hd⟩ := hd
  rcases DataW.trod_slice ht hd with ⟨h0, _⟩ | ⟨a, len, cap, elems, rest, n, _, hcs, _, _, hl, hm, hlen, hel, _⟩
  · left
    cases v <;> simp_all [Value.cells, Cell.ok]
  · right
    have hv : v = .slice (some a) len cap := by
      cases v <;> simp_all [Value.cells, Cell.ok]
    subst hv
    simp only [Cell.ok, ht] at hval
    obtain ⟨_, _, _, hsp, row, cells, hshape, _⟩ := hval
    obtain ⟨b, off, spot⟩ := a
    simp only at hsp hshape
    subst hsp
    unfold World.shape? at hshape
    split at hshape
    · rename_i c el fz hb
      have each : ∀ k, k < len → ∃ n, c[off + k]? = some (.int .u8 n) ∧ (0 ≤ n ∧ n ≤ 255) := by
        intro k hk
        have h1 := hel k hk
        obtain ⟨y, hy⟩ : ∃ y, elems[k]? = some y := ⟨elems[k]'(by omega), List.getElem?_eq_getElem (by omega)⟩
        rw [hy, hc, Option.bind_eq_some_iff] at h1
        obtain ⟨cs, hcs, h1⟩ := h1
        obtain ⟨m, rfl, _, hw⟩ := DataW.trod_int he h1
        have h2 := (World.cells?_some hcs).2.2 0 (by omega)
        rw [add_off, add_off] at h2
        unfold World.cell? at h2
        simp only [hb] at h2
        refine ⟨m, by simpa using h2, by simpa [Lit.wf, IntKind.min, IntKind.max, IntKind.signed, IntKind.bits] using hw⟩
      refine ⟨b, off, len, cap, (List.range len).map fun k => intOf c[off + k]?, rfl, hl, hm, by simp, fun x hx => ?_, c, el, fz, hb, fun i hi => ?_⟩
      · obtain ⟨k, hk, rfl⟩ := List.mem_map.1 hx
        obtain ⟨m, h1, h2⟩ := each k (List.mem_range.1 hk)
        rw [h1]; exact h2
      · simp at hi
        obtain ⟨m, h1, h2⟩ := each i hi
        rw [h1]
        simp [List.getD, hi, h1, intOf]
    · cases hshape
theorem HR.winU_one {b off : Nat} {L : List Int} {W : World} (h : SObj.sat (fun _ => b) W b (.winU off L)) : HR (fun _ => b) [(0, .winU off L)] W where
  at_ := fun k o hk _ => by
    rw [hget_cons] at hk
    split at hk
    · cases hk; exact h
    · cases hk
  inj := fun k j o o' h1 _ h2 _ _ => by
    rw [hget_cons] at h1 h2
    split at h1
    · split at h2
      · omega
      · cases h2
    · cases h1
end Go.Proofs.Ytckcojgfgcjamaa
