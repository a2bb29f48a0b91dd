/- Texts of this claim, joined (MX2, Fin, FinS, FinB). -/
import Derived.Test.YtmccafjblhbmkaaGreatQ1
import Derived.Test.YtmccafjblhbmkaaGreatQ2
import Derived.Test.YtmccafjblhbmkaaGreatQ3
import Derived.Test.YtmccafjblhbmkaaGreatQ4
import Derived.Test.YtmccafjblhbmkaaGreatQ5
import Derived.Test.YtmccafjblhbmkaaGreatQ6
import Derived.Test.YtmccafjblhbmkaaGreatQ7
import Derived.Test.YtmccafjblhbmkaaGreatQ8
import Derived.Test.YtmccafjblhbmkaaGreatQ9
import Derived.Test.YtmccafjblhbmkaaGreatQ10
import Derived.Test.YtmccafjblhbmkaaGreatRows
import Derived.ProofKit
import Derived.OpenShut
set_option maxRecDepth 100000
set_option linter.unusedSimpArgs false
set_option linter.unusedVariables false
namespace Go.Proofs.YtmccafjblhbmkaaGreat
open Go Go.RowKit
abbrev mxQ : KE := retK tys Tryz.f5.results.toList fun v _ _ => v = .bool true
def pbT (V L : List Int) (len : Nat) : List Int := if rackB V = true then pbS V L (pbsN V L len) else List.replicate 24 0
def pbM (V L : List Int) (len : Nat) : Int := if rackB V = true then (pbsN V L len : Nat) else 0
theorem pbsT_eq (V L : List Int) (len : Nat) : pbsT V L len = [.arr (pbT V L len), .int (pbM V L len), .bool (rackB V)] := by
  unfold pbsT pbT pbM
  cases rackB V <;> rfl
structure MxS (S : Env) (H : Heap) (n : Nat) (R C K U V L : List Int) (i j : Int) (r cb cl cc mx kn' pl u v lb ll lc bk : Nat) (vp vu : SV) : Prop where
  s3 : sget S 3 = .ptr r 0
  s4 : sget S 4 = .slice cb 0 cl cc
  s5 : sget S 5 = .ptr mx 0
  s6 : sget S 6 = vp
  s7 : sget S 7 = .bool (mxB R (C.take cl) cl)
  s11 : sget S 11 = .ptr kn' 0
  s12 : sget S 12 = .ptr pl 0
  s13 : sget S 13 = .bool (pnB K)
  s16 : sget S 16 = .ptr u 0
  s17 : sget S 17 = .int i
  s18 : sget S 18 = .int j
  s19 : sget S 19 = .bool (iuB U i j)
  s20 : sget S 20 = .bool (pourB U i j)
  s23 : sget S 23 = vu
  s27 : sget S 27 = .ptr v 0
  s28 : sget S 28 = .slice lb 0 ll lc
  s29 : sget S 29 = .ptr bk 0
  s30 : sget S 30 = .int (pbM V (L.take (ll * 3)) ll)
  s31 : sget S 31 = .bool (rackB V)
  hr : hget H r = some (.ints R 27)
  hc : hget H cb = some (.ints C 3)
  hm : hget H mx = some (.ints (mxR R (C.take cl) cl) 27)
  hk : hget H kn' = some (.ints K 40)
  hp : hget H pl = some (.ints (pnF K) 27)
  hu : hget H u = some (.ints U 27)
  hv : hget H v = some (.ints V 27)
  hl : hget H lb = some (.ints L 48)
  hb : hget H bk = some (.ints (pbT V (L.take (ll * 3)) ll) 27)
  lp : SlA vp (mxP R (C.take cl) cl) ((mxP R (C.take cl) cl).length / 2) 2 65 0 n H
  lu : SlA vu (upnF U) ((upnF U).length / 2) 2 65 0 n H
  lt : r < n ∧ cb < n ∧ mx < n ∧ kn' < n ∧ pl < n ∧ u < n ∧ v < n ∧ lb < n ∧ bk < n
  cl_ : cl ≤ C.length ∧ cl ≤ 21
  ll_ : ll * 3 ≤ L.length ∧ ll ≤ 5
  wf : hwf n H
  one : 1 ≤ n
theorem MxS.up {S S' : Env} {H H' : Heap} {n n' : Nat} {R C K U V L : List Int} {i j : Int} {r cb cl cc mx kn' pl u v lb ll lc bk : Nat} {vp vu : SV} (h : MxS S H n R C K U V L i j r cb cl cc mx kn' pl u v lb ll lc bk vp vu) (hs : ∀ t, t ≤ 34 → sget S' t = sget S t) (hK : Kpt n H H' n') : MxS S' H' n' R C K U V L i j r cb cl cc mx kn' pl u v lb ll lc bk vp vu := by
  have := h.lt
  have := h.one
  have hh := hK.fr
  have hn := hK.le
  exact ⟨by rw [hs 3 (by omega)]; exact h.s3, by rw [hs 4 (by omega)]; exact h.s4, by rw [hs 5 (by omega)]; exact h.s5, by rw [hs 6 (by omega)]; exact h.s6, by rw [hs 7 (by omega)]; exact h.s7, by rw [hs 11 (by omega)]; exact h.s11, by rw [hs 12 (by omega)]; exact h.s12, by rw [hs 13 (by omega)]; exact h.s13, by rw [hs 16 (by omega)]; exact h.s16, by rw [hs 17 (by omega)]; exact h.s17, by rw [hs 18 (by omega)]; exact h.s18, by rw [hs 19 (by omega)]; exact h.s19, by rw [hs 20 (by omega)]; exact h.s20, by rw [hs 23 (by omega)]; exact h.s23, by rw [hs 27 (by omega)]; exact h.s27, by rw [hs 28 (by omega)]; exact h.s28, by rw [hs 29 (by omega)]; exact h.s29, by rw [hs 30 (by omega)]; exact h.s30, by rw [hs 31 (by omega)]; exact h.s31,
    hh _ _ (by omega) h.hr, hh _ _ (by omega) h.hc, hh _ _ (by omega) h.hm, hh _ _ (by omega) h.hk, hh _ _ (by omega) h.hp, hh _ _ (by omega) h.hu, hh _ _ (by omega) h.hv, hh _ _ (by omega) h.hl, hh _ _ (by omega) h.hb, (h.lp.up hh).wk (Nat.le_refl _) hn, (h.lu.up hh).wk (Nat.le_refl _) hn, by omega, h.cl_, h.ll_, hK.wf, by omega⟩
theorem mx_up {S S' : Env} (h : ∀ t, t ≤ 34 → sget S' t = sget S t) {k : Nat} {v : SV} (hk : 34 < k) : ∀ t, t ≤ 34 → sget ((k, v) :: S') t = sget S t := fun t ht => by rw [sget_skip _ _ _ _ (by omega)]; exact h t ht
theorem MxS.re {S S' : Env} {H : Heap} {n : Nat} {R C K U V L : List Int} {i j : Int} {r cb cl cc mx kn' pl u v lb ll lc bk : Nat} {vp vu : SV} (h : MxS S H n R C K U V L i j r cb cl cc mx kn' pl u v lb ll lc bk vp vu) (h3 : sget S' 3 = .ptr r 0) (h4 : sget S' 4 = .slice cb 0 cl cc) (h5 : sget S' 5 = .ptr mx 0) (h6 : sget S' 6 = vp) (h7 : sget S' 7 = .bool (mxB R (C.take cl) cl)) (h11 : sget S' 11 = .ptr kn' 0) (h12 : sget S' 12 = .ptr pl 0) (h13 : sget S' 13 = .bool (pnB K)) (h16 : sget S' 16 = .ptr u 0) (h17 : sget S' 17 = .int i) (h18 : sget S' 18 = .int j) (h19 : sget S' 19 = .bool (iuB U i j)) (h20 : sget S' 20 = .bool (pourB U i j)) (h23 : sget S' 23 = vu) (h27 : sget S' 27 = .ptr v 0) (h28 : sget S' 28 = .slice lb 0 ll lc) (h29 : sget S' 29 = .ptr bk 0) (h30 : sget S' 30 = .int (pbM V (L.take (ll * 3)) ll)) (h31 : sget S' 31 = .bool (rackB V)) : MxS S' H n R C K U V L i j r cb cl cc mx kn' pl u v lb ll lc bk vp vu :=
  ⟨h3, h4, h5, h6, h7, h11, h12, h13, h16, h17, h18, h19, h20, h23, h27, h28, h29, h30, h31, h.hr, h.hc, h.hm, h.hk, h.hp, h.hu, h.hv, h.hl, h.hb, h.lp, h.lu, h.lt, h.cl_, h.ll_, h.wf, h.one⟩
set_option maxHeartbeats 2000000 in
theorem mx_b20 (S : Env) (H : Heap) (n : Nat) (R C K U V L : List Int) (i j : Int) (r cb cl cc mx kn' pl u v lb ll lc bk : Nat) (vp vu : SV) (hE : MxS S H n R C K U V L i j r cb cl cc mx kn' pl u v lb ll lc bk vp vu) (hR : R.length = 24) : codeVC (⟨Tryz.prog, tys, [(6, vBig_F), (46, PlainRack_F), (47, sPlainRack_F), (49, IsUndone_F), (50, sIsUndone_F), (54, PourBacks_F), (55, sPourBacks_F), (56, vPairs_F), (59, vPour_F), (57, IsSorted_F), (19, CountColors_F), (58, FewestPours_F), (23, PourBack_F), (60, DoPours2_F)], [(42, DrawMixedBy_F), (43, MixedBy_F), (44, sMixedBy_F), (11, vCut_F), (45, DrawPlainRack_F), (48, DrawIsUndone_F), (51, UndonePours_F), (52, sUndonePours_F), (53, DrawPourBacks_F)], true, true, 1, [], []⟩ : Cx) 1 (cdN 20 (Tryz.f5.body.getD .skip)) S H n mxQ := by
  have hE0 := hE
  obtain ⟨s3, s4, s5, s6, s7, s11, s12, s13, s16, s17, s18, s19, s20, s23, s27, s28, s29, s30, s31, hr, hc, hm, hk, hp, hu, hv, hl, hb, lp, lu, hlt, hcl, hll, hwf0, h1n⟩ := hE
  have kp := lp.kn
  have ku := lu.kn
  have jp := kp
  have ju := ku
  simp only [SV.known] at jp ju
  have wp := lp.wfv (Nat.le_refl n)
  have wu := lu.wfv (Nat.le_refl n)
  have tkR : R.take 24 = R := List.take_of_length_le (by omega)
  simp only [cdN, cd2, Tryz.f5, Option.getD_some, mxQ]
  cases hb : mxB R (C.take cl) cl
  · simp -implicitDefEqProofs only [s7, hb, PlainRack_F, sPlainRack_F, IsUndone_F, sIsUndone_F, PourBacks_F, sPourBacks_F, IsSorted_F, CountColors_F, FewestPours_F, PourBack_F, DoPours2_F, MixedBy_F, sMixedBy_F, UndonePours_F, sUndonePours_F, Wrap.ap, eqI_rack, eqI_a6v, Nat.add_assoc, add_self, self_add, add_add, List.getD_cons_zero, List.getD_cons_succ, ZB, Int.reduceToNat, Nat.reduceLT, Nat.reduceLeDiff, Int.reduceLE, Int.reduceLT, Nat.reduceEqDiff, Nat.reduceSub, SB, SV.known, packR, ne_eq, reduceCtorEq, Nat.reduceEqDiff, ↓reduceIte, if_true, if_false, eq_self, Nat.reduceAdd, Nat.reduceMul, Nat.reduceSub, forall_const, oneCellS, litOne, flat1, Kd.isSca, flat, TYB]
  · obtain ⟨k, k1, k2, k3, k4, k5⟩ := mx_law hR (by rw [List.length_take]; omega) hb
    have ek : (mxP R (C.take cl) cl).length / 2 = k := by omega
    rw [ek] at lp
    have tkM : (mxR R (C.take cl) cl).take 24 = mxR R (C.take cl) cl := List.take_of_length_le (by omega)
    have lnp := lp.len
    have kl : (k : Int) ≤ (cl : Int) := by omega
    have d1 : (r = n) = False := by simp; omega
    rcases lp.at_ with ⟨ev, k0⟩ | ⟨pb, cp, jk, ev, b1, b2, gp⟩
    · have hP : mxP R (C.take cl) cl = [] := List.length_eq_zero_iff.1 (by omega)
      have hrR : rackB (mxR R (C.take cl) cl) = true ∧ mxR R (C.take cl) cl = R := by
        rw [hP, k0] at k4
        unfold doT at k4
        by_cases hrk : (rackB (mxR R (C.take cl) cl) && doB (mxR R (C.take cl) cl) [] 0) = true
        · rw [if_pos hrk] at k4
          rw [Bool.and_eq_true] at hrk
          have h := (List.cons.inj k4).1
          have h2 : paR (mxR R (C.take cl) cl) [] 0 = R := by simpa using h
          exact ⟨hrk.1, h2⟩
        · rw [if_neg hrk] at k4
          have h := (List.cons.inj (List.cons.inj (List.cons.inj k4).2).2).1
          simp at h
      obtain ⟨g1, g2⟩ := hrR
      rw [g2] at g1 hm k5 tkM
      simp -implicitDefEqProofs only [s3, s4, s5, s6, s7, hb, ev, hr, hm, hR, tkR, g1, d1, PlainRack_F, sPlainRack_F, IsUndone_F, sIsUndone_F, PourBacks_F, sPourBacks_F, IsSorted_F, CountColors_F, FewestPours_F, PourBack_F, DoPours2_F, MixedBy_F, sMixedBy_F, UndonePours_F, sUndonePours_F, Wrap.ap, eqI_rack, eqI_a6v, Nat.add_assoc, add_self, self_add, add_add, List.getD_cons_zero, List.getD_cons_succ, ZB, Int.reduceToNat, Nat.reduceLT, Nat.reduceLeDiff, Int.reduceLE, Int.reduceLT, Nat.reduceEqDiff, Nat.reduceSub, SB, SV.known, packR, ne_eq, reduceCtorEq, Nat.reduceEqDiff, ↓reduceIte, if_true, if_false, eq_self, Nat.reduceAdd, Nat.reduceMul, Nat.reduceSub, forall_const, oneCellS, litOne, flat1, Kd.isSca, flat, TYB]
      exact ⟨h1n, by omega⟩
    · have e2 : (mxP R (C.take cl) cl ++ jk).take (k * 2) = mxP R (C.take cl) cl := List.take_left' k2
      have l2 : k * 2 ≤ (mxP R (C.take cl) cl ++ jk).length := by rw [List.length_append]; omega
      simp -implicitDefEqProofs only [s3, s4, s5, s6, s7, hb, ev, hr, hm, gp, k5, tkM, e2, k4, hR, tkR, d1, kl, DoPours_F, PlainRack_F, sPlainRack_F, IsUndone_F, sIsUndone_F, PourBacks_F, sPourBacks_F, IsSorted_F, CountColors_F, FewestPours_F, PourBack_F, DoPours2_F, MixedBy_F, sMixedBy_F, UndonePours_F, sUndonePours_F, Wrap.ap, eqI_rack, eqI_a6v, Nat.add_assoc, add_self, self_add, add_add, List.getD_cons_zero, List.getD_cons_succ, ZB, Int.reduceToNat, Nat.reduceLT, Nat.reduceLeDiff, Int.reduceLE, Int.reduceLT, Nat.reduceEqDiff, Nat.reduceSub, SB, SV.known, packR, ne_eq, reduceCtorEq, Nat.reduceEqDiff, ↓reduceIte, if_true, if_false, eq_self, Nat.reduceAdd, Nat.reduceMul, Nat.reduceSub, forall_const, oneCellS, litOne, flat1, Kd.isSca, flat, TYB]
      exact ⟨⟨l2, by omega⟩, h1n⟩
theorem pb_step {V L : List Int} {ll k : Nat} (hV : V.length = 24) (hr : rackB V = true) (hll : ll * 3 ≤ L.length) (hk : k < pbsN V (L.take (ll * 3)) ll) : ∃ s : List Int, (L.drop (k * 3)).take 3 = s ∧ s.length = 3 ∧ (pbS V (L.take (ll * 3)) k).length = 24 ∧ pbkB (pbS V (L.take (ll * 3)) k) s = true ∧ pbkT (pbS V (L.take (ll * 3)) k) s = pbS V (L.take (ll * 3)) (k + 1) ∧ k < ll := by
  have hN : pbsN V (L.take (ll * 3)) ll ≤ ll := by have := firstN_le (pbO V (L.take (ll * 3))) ll 0; unfold pbsN; omega
  have ho : ∀ q, q < pbsN V (L.take (ll * 3)) ll → pbO V (L.take (ll * 3)) q = true := fun q hq => firstN_lt ll 0 q (Nat.zero_le _) hq
  obtain ⟨f1, f2⟩ := pbS_facts hV hr k (fun q hq => ho q (by omega))
  have hb := ho k hk
  have g : ∀ q, q < 3 → (L.take (ll * 3)).getD (k * 3 + q) 0 = L.getD (k * 3 + q) 0 := fun q hq => by
    simp only [List.getD, List.getElem?_take, show k * 3 + q < ll * 3 by omega, if_true]
  have g0 := g 0 (by omega)
  have g1 := g 1 (by omega)
  have g2 := g 2 (by omega)
  rw [Nat.add_zero] at g0
  unfold pbO at hb
  rw [g0, g1, g2] at hb
  refine ⟨[L.getD (k * 3) 0, L.getD (k * 3 + 1) 0, L.getD (k * 3 + 2) 0], take3_drop L (k * 3) (by omega), rfl, f1, ?_, ?_, by omega⟩
  · unfold pbkB
    simp only [List.getD_cons_zero, List.getD_cons_succ]
    rw [f2, hb]; rfl
  · unfold pbkT
    simp only [List.getD_cons_zero, List.getD_cons_succ]
    rw [if_pos f2, bkT_pos hb, pbS_succ, g0, g1, g2]
set_option maxHeartbeats 2000000 in
theorem mx_b19 (S : Env) (H : Heap) (n : Nat) (R C K U V L : List Int) (i j : Int) (r cb cl cc mx kn' pl u v lb ll lc bk : Nat) (vp vu : SV) (hE : MxS S H n R C K U V L i j r cb cl cc mx kn' pl u v lb ll lc bk vp vu) (hR : R.length = 24) (hV : V.length = 24) : codeVC (⟨Tryz.prog, tys, [(6, vBig_F), (46, PlainRack_F), (47, sPlainRack_F), (49, IsUndone_F), (50, sIsUndone_F), (54, PourBacks_F), (55, sPourBacks_F), (56, vPairs_F), (59, vPour_F), (57, IsSorted_F), (19, CountColors_F), (58, FewestPours_F), (23, PourBack_F), (60, DoPours2_F)], [(42, DrawMixedBy_F), (43, MixedBy_F), (44, sMixedBy_F), (11, vCut_F), (45, DrawPlainRack_F), (48, DrawIsUndone_F), (51, UndonePours_F), (52, sUndonePours_F), (53, DrawPourBacks_F)], true, true, 1, [], []⟩ : Cx) 1 (cdN 19 (Tryz.f5.body.getD .skip)) S H n mxQ := by
  have hE0 := hE
  obtain ⟨s3, s4, s5, s6, s7, s11, s12, s13, s16, s17, s18, s19, s20, s23, s27, s28, s29, s30, s31, hr, hc, hm, hk, hp, hu, hv, hl, hb, lp, lu, hlt, hcl, hll, hwf0, h1n⟩ := hE
  have kp := lp.kn
  have ku := lu.kn
  have jp := kp
  have ju := ku
  simp only [SV.known] at jp ju
  have wp := lp.wfv (Nat.le_refl n)
  have wu := lu.wfv (Nat.le_refl n)
  rw [cd_cut (show cdN 19 (Tryz.f5.body.getD .skip) = .seq (cd1 (cdN 19 (Tryz.f5.body.getD .skip))) (cdN 20 (Tryz.f5.body.getD .skip)) from rfl)]
  have next := fun S' H' n' (h : MxS S' H' n' R C K U V L i j r cb cl cc mx kn' pl u v lb ll lc bk vp vu) => mx_b20 S' H' n' R C K U V L i j r cb cl cc mx kn' pl u v lb ll lc bk vp vu h hR
  obtain ⟨cn, en⟩ : ∃ c, c = cdN 20 (Tryz.f5.body.getD .skip) := ⟨_, rfl⟩
  rw [← en] at next ⊢
  simp only [cdN, cd1, cd2, Tryz.f5, Option.getD_some]
  have tkV : V.take 24 = V := List.take_of_length_le (by omega)
  cases hrv : rackB V
  · simp -implicitDefEqProofs only [s31, hrv, PlainRack_F, sPlainRack_F, IsUndone_F, sIsUndone_F, PourBacks_F, sPourBacks_F, IsSorted_F, CountColors_F, FewestPours_F, PourBack_F, DoPours2_F, MixedBy_F, sMixedBy_F, UndonePours_F, sUndonePours_F, Wrap.ap, eqI_rack, eqI_a6v, Nat.add_assoc, add_self, self_add, add_add, List.getD_cons_zero, List.getD_cons_succ, ZB, Int.reduceToNat, Nat.reduceLT, Nat.reduceLeDiff, Int.reduceLE, Int.reduceLT, Nat.reduceEqDiff, Nat.reduceSub, SB, SV.known, packR, ne_eq, reduceCtorEq, Nat.reduceEqDiff, ↓reduceIte, if_true, if_false, eq_self, Nat.reduceAdd, Nat.reduceMul, Nat.reduceSub, forall_const, oneCellS, litOne, flat1, Kd.isSca, flat, TYB]
    exact next _ _ _ (hE0.up (by (repeat (first | refine mx_up ?_ (by decide) | exact fun _ _ => rfl))) (Kpt.refl hwf0))
  · have eT : pbT V (L.take (ll * 3)) ll = pbS V (L.take (ll * 3)) (pbsN V (L.take (ll * 3)) ll) := by unfold pbT; rw [if_pos hrv]
    have eM : pbM V (L.take (ll * 3)) ll = ((pbsN V (L.take (ll * 3)) ll : Nat) : Int) := by unfold pbM; rw [if_pos hrv]
    have hst := fun k hk => pb_step (k := k) hV hrv hll.1 hk
    have hN : pbsN V (L.take (ll * 3)) ll ≤ ll := by have := firstN_le (pbO V (L.take (ll * 3))) ll 0; unfold pbsN; omega
    have lS : ∀ k, (pbS V (L.take (ll * 3)) k).length = 24 := fun k => by
      induction k with
      | zero => exact hV
      | succ k ih => rw [pbS_succ]; exact bkR_len ih _ _ _
    obtain ⟨W, hW⟩ : ∃ W, L.take (ll * 3) = W := ⟨_, rfl⟩
    obtain ⟨N, hNn⟩ : ∃ N, pbsN V (L.take (ll * 3)) ll = N := ⟨_, rfl⟩
    rw [hNn] at eT eM hst hN
    have tkS : ∀ k, (pbS V (L.take (ll * 3)) k).take 24 = pbS V (L.take (ll * 3)) k := fun k => List.take_of_length_le (by rw [lS k]; omega)
    rw [hW] at eT eM hst lS tkS
    have hE1 : MxS ((41, .ptr n 0) :: S) ((n, .ints V 27) :: (n, .ints (List.replicate 24 0) 27) :: H) (n + 1) R C K U V L i j r cb cl cc mx kn' pl u v lb ll lc bk vp vu := hE0.up (by (repeat (first | refine mx_up ?_ (by decide) | exact fun _ _ => rfl))) ((Kpt.refl hwf0).push.put (by omega))
    simp -implicitDefEqProofs only [s27, s31, hrv, hv, hV, tkV, PlainRack_F, sPlainRack_F, IsUndone_F, sIsUndone_F, PourBacks_F, sPourBacks_F, IsSorted_F, CountColors_F, FewestPours_F, PourBack_F, DoPours2_F, MixedBy_F, sMixedBy_F, UndonePours_F, sUndonePours_F, Wrap.ap, eqI_rack, eqI_a6v, Nat.add_assoc, add_self, self_add, add_add, List.getD_cons_zero, List.getD_cons_succ, ZB, Int.reduceToNat, Nat.reduceLT, Nat.reduceLeDiff, Int.reduceLE, Int.reduceLT, Nat.reduceEqDiff, Nat.reduceSub, SB, SV.known, packR, ne_eq, reduceCtorEq, Nat.reduceEqDiff, ↓reduceIte, if_true, if_false, eq_self, Nat.reduceAdd, Nat.reduceMul, Nat.reduceSub, forall_const, oneCellS, litOne, flat1, Kd.isSca, flat, TYB]
    refine ⟨h1n, ?_⟩
    refine loop_introN (fun s' : Nat × Heap × Nat => [(43, .int s'.1), (42, .bool true), (41, .ptr n 0), (3, .ptr r 0), (4, .slice cb 0 cl cc), (5, .ptr mx 0), (6, vp), (7, .bool (mxB R (C.take cl) cl)), (11, .ptr kn' 0), (12, .ptr pl 0), (13, .bool (pnB K)), (16, .ptr u 0), (17, .int i), (18, .int j), (19, .bool (iuB U i j)), (20, .bool (pourB U i j)), (23, vu), (27, .ptr v 0), (28, .slice lb 0 ll lc), (29, .ptr bk 0), (30, .int (pbM V (L.take (ll * 3)) ll)), (31, .bool (rackB V))]) (fun s' => s'.2.1) (fun s' => s'.2.2) (fun s' => s'.1 ≤ N ∧ Kpt n H s'.2.1 s'.2.2 ∧ n < s'.2.2 ∧ hget s'.2.1 n = some (.ints (pbS V W s'.1) 27)) (fun s' => N - s'.1) ?_ ?_
    · exact ⟨(0, _, n + 1), ⟨Nat.zero_le _, (Kpt.refl hwf0).push.put (by omega), Nat.lt_succ_self n, by simp [hget_cons]; rfl⟩, Sub.same (by simp only [s3, s4, s5, s6, s7, s11, s12, s13, s16, s17, s18, s19, s20, s23, s27, s28, s29, s30, s31, kp, ku, jp, ju, SV.ren_id, LB, subS, subH, wfS, wfH, SV.ren, renL, SObj.ren, SV.wf, SObj.wf, wfL, SV.known, Nat.reduceEqDiff, ↓reduceIte, if_true, if_false, eq_self, Nat.reduceAdd, Nat.reduceLT, Nat.reduceLeDiff, implies_true, reduceCtorEq, forall_const]; try rfl) (by simp [subS, subH, wfS, wfH, SV.ren, renL, SObj.ren, SV.wf, SObj.wf, wfL, sget_cons, hget_cons, SV.wf_mono (Nat.le_succ n) vp wp, SV.wf_mono (Nat.le_succ n) vu wu] <;> omega) hE1.wf (by show 1 ≤ n + 1; omega)⟩
    · rintro ⟨k, H1, n1⟩ ⟨hk, hK1, hn1, g1⟩
      simp only at hk hK1 hn1 g1
      have up := SV.wf_mono hK1.le vp wp
      have uu := SV.wf_mono hK1.le vu wu
      have gl := hK1.fr lb _ (by omega) hl
      have gb := hK1.fr bk _ (by omega) hb
      have lk := lS k
      have tk := tkS k
      by_cases hkn : k < N
      · have hkl : (k : Int) < (N : Int) := by omega
        obtain ⟨s, q1, q2, q3, q4, q5, q6⟩ := hst k hkn
        have tks : s.take 3 = s := List.take_of_length_le (by omega)
        have lk1 := lS (k + 1)
        have tk1 := tkS (k + 1)
        have dk : (pbS V W k).drop 24 = [] := List.drop_eq_nil_of_le (by omega)
        have lQ : k * 3 + 3 ≤ L.length := by omega
        have kll : k < ll := q6
        have kll' : (k : Int) < (ll : Int) := by omega
        simp -implicitDefEqProofs only [lk_normal, eM, hW, hkl, gl, g1, q1, q2, q4, q5, tks, lk, tk, lk1, tk1, dk, lQ, kll', List.append_nil, PlainRack_F, sPlainRack_F, IsUndone_F, sIsUndone_F, PourBacks_F, sPourBacks_F, IsSorted_F, CountColors_F, FewestPours_F, PourBack_F, DoPours2_F, MixedBy_F, sMixedBy_F, UndonePours_F, sUndonePours_F, Wrap.ap, eqI_rack, eqI_a6v, Nat.add_assoc, add_self, self_add, add_add, List.getD_cons_zero, List.getD_cons_succ, ZB, Int.reduceToNat, Nat.reduceLT, Nat.reduceLeDiff, Int.reduceLE, Int.reduceLT, Nat.reduceEqDiff, Nat.reduceSub, SB, SV.known, packR, ne_eq, reduceCtorEq, Nat.reduceEqDiff, ↓reduceIte, if_true, if_false, eq_self, Nat.reduceAdd, Nat.reduceMul, Nat.reduceSub, forall_const, oneCellS, litOne, flat1, Kd.isSca, flat, TYB]
        exact ⟨by omega, h1n, by unfold In64; omega, (k + 1, _, n1), ⟨by show k + 1 ≤ N; omega, hK1.put ⟨Nat.le_refl _, hn1⟩, hn1, by simp [hget_cons]⟩, by show N - (k + 1) < N - k; omega, Sub.same (by simp only [eM, hW, kp, ku, jp, ju, SV.ren_id, LB, subS, subH, wfS, wfH, SV.ren, renL, SObj.ren, SV.wf, SObj.wf, wfL, SV.known, Nat.reduceEqDiff, ↓reduceIte, if_true, if_false, eq_self, Nat.reduceAdd, Nat.reduceLT, Nat.reduceLeDiff, implies_true, reduceCtorEq, forall_const]; try rfl) (by simp [subS, subH, wfS, wfH, SV.ren, renL, SObj.ren, SV.wf, SObj.wf, wfL, sget_cons, hget_cons, up, uu] <;> omega) (hK1.put (L := pbS V W (k + 1)) (e := 27) ⟨Nat.le_refl _, hn1⟩).wf (by show 1 ≤ n1; omega)⟩
      · have hkl : ¬ (k : Int) < (N : Int) := by omega
        obtain rfl : k = N := by omega
        rw [hW, eT] at gb
        simp -implicitDefEqProofs only [lk_normal, eM, hW, hkl, g1, gb, lk, tk, PlainRack_F, sPlainRack_F, IsUndone_F, sIsUndone_F, PourBacks_F, sPourBacks_F, IsSorted_F, CountColors_F, FewestPours_F, PourBack_F, DoPours2_F, MixedBy_F, sMixedBy_F, UndonePours_F, sUndonePours_F, Wrap.ap, eqI_rack, eqI_a6v, Nat.add_assoc, add_self, self_add, add_add, List.getD_cons_zero, List.getD_cons_succ, ZB, Int.reduceToNat, Nat.reduceLT, Nat.reduceLeDiff, Int.reduceLE, Int.reduceLT, Nat.reduceEqDiff, Nat.reduceSub, SB, SV.known, packR, ne_eq, reduceCtorEq, Nat.reduceEqDiff, ↓reduceIte, if_true, if_false, eq_self, Nat.reduceAdd, Nat.reduceMul, Nat.reduceSub, forall_const, oneCellS, litOne, flat1, Kd.isSca, flat, TYB]
        exact next _ _ _ ((hE0.up (fun _ _ => rfl) hK1).re rfl rfl rfl rfl rfl rfl rfl rfl rfl rfl rfl rfl rfl rfl rfl rfl rfl (by rw [hW, eM]; rfl) rfl)
set_option maxHeartbeats 2000000 in
theorem mx_b18 (S : Env) (H : Heap) (n : Nat) (R C K U V L : List Int) (i j : Int) (r cb cl cc mx kn' pl u v lb ll lc bk : Nat) (vp vu : SV) (hE : MxS S H n R C K U V L i j r cb cl cc mx kn' pl u v lb ll lc bk vp vu) (hR : R.length = 24) (hV : V.length = 24) : codeVC (⟨Tryz.prog, tys, [(6, vBig_F), (46, PlainRack_F), (47, sPlainRack_F), (49, IsUndone_F), (50, sIsUndone_F), (54, PourBacks_F), (55, sPourBacks_F), (56, vPairs_F), (59, vPour_F), (57, IsSorted_F), (19, CountColors_F), (58, FewestPours_F), (23, PourBack_F), (60, DoPours2_F)], [(42, DrawMixedBy_F), (43, MixedBy_F), (44, sMixedBy_F), (11, vCut_F), (45, DrawPlainRack_F), (48, DrawIsUndone_F), (51, UndonePours_F), (52, sUndonePours_F), (53, DrawPourBacks_F)], true, true, 1, [], []⟩ : Cx) 1 (cdN 18 (Tryz.f5.body.getD .skip)) S H n mxQ := by
  have hE0 := hE
  obtain ⟨s3, s4, s5, s6, s7, s11, s12, s13, s16, s17, s18, s19, s20, s23, s27, s28, s29, s30, s31, hr, hc, hm, hk, hp, hu, hv, hl, hb, lp, lu, hlt, hcl, hll, hwf0, h1n⟩ := hE
  have kp := lp.kn
  have ku := lu.kn
  have jp := kp
  have ju := ku
  simp only [SV.known] at jp ju
  have wp := lp.wfv (Nat.le_refl n)
  have wu := lu.wfv (Nat.le_refl n)
  rw [cd_cut (show cdN 18 (Tryz.f5.body.getD .skip) = .seq (cd1 (cdN 18 (Tryz.f5.body.getD .skip))) (cdN 19 (Tryz.f5.body.getD .skip)) from rfl)]
  have next := fun S' H' n' (h : MxS S' H' n' R C K U V L i j r cb cl cc mx kn' pl u v lb ll lc bk vp vu) => mx_b19 S' H' n' R C K U V L i j r cb cl cc mx kn' pl u v lb ll lc bk vp vu h hR hV
  obtain ⟨cn, en⟩ : ∃ c, c = cdN 19 (Tryz.f5.body.getD .skip) := ⟨_, rfl⟩
  rw [← en] at next ⊢
  simp only [cdN, cd1, cd2, Tryz.f5, Option.getD_some]
  cases hpu : pourB U i j
  · simp -implicitDefEqProofs only [s20, hpu, PlainRack_F, sPlainRack_F, IsUndone_F, sIsUndone_F, PourBacks_F, sPourBacks_F, IsSorted_F, CountColors_F, FewestPours_F, PourBack_F, DoPours2_F, MixedBy_F, sMixedBy_F, UndonePours_F, sUndonePours_F, Wrap.ap, eqI_rack, eqI_a6v, Nat.add_assoc, add_self, self_add, add_add, List.getD_cons_zero, List.getD_cons_succ, ZB, Int.reduceToNat, Nat.reduceLT, Nat.reduceLeDiff, Int.reduceLE, Int.reduceLT, Nat.reduceEqDiff, Nat.reduceSub, SB, SV.known, packR, ne_eq, reduceCtorEq, Nat.reduceEqDiff, ↓reduceIte, if_true, if_false, eq_self, Nat.reduceAdd, Nat.reduceMul, Nat.reduceSub, forall_const, oneCellS, litOne, flat1, Kd.isSca, flat, TYB]
    exact next _ _ _ (hE0.up (by (repeat (first | refine mx_up ?_ (by decide) | exact fun _ _ => rfl))) (Kpt.refl hwf0))
  · obtain ⟨nu, hnu, hnu36⟩ := upnF_even U
    have enu : (upnF U).length / 2 = nu := by omega
    rw [enu] at lu
    have hin := fun k => un_in hpu hnu k
    have eiu : iuB U i j = undF U [i, j] := by unfold iuB; rw [hpu, Bool.true_and]
    rcases lu.at_ with ⟨ev, k0⟩ | ⟨ub, uc, jk, ev, b1, b2, gu⟩
    · have hz : undF U [i, j] = false := by rw [← hin [], k0]; exact inP_zero _ _
      simp -implicitDefEqProofs only [s17, s18, s19, s20, s23, hpu, ev, eiu, hz, vPour_F, PlainRack_F, sPlainRack_F, IsUndone_F, sIsUndone_F, PourBacks_F, sPourBacks_F, IsSorted_F, CountColors_F, FewestPours_F, PourBack_F, DoPours2_F, MixedBy_F, sMixedBy_F, UndonePours_F, sUndonePours_F, Wrap.ap, eqI_rack, eqI_a6v, Nat.add_assoc, add_self, self_add, add_add, List.getD_cons_zero, List.getD_cons_succ, ZB, Int.reduceToNat, Nat.reduceLT, Nat.reduceLeDiff, Int.reduceLE, Int.reduceLT, Nat.reduceEqDiff, Nat.reduceSub, SB, SV.known, packR, ne_eq, reduceCtorEq, Nat.reduceEqDiff, ↓reduceIte, if_true, if_false, eq_self, Nat.reduceAdd, Nat.reduceMul, Nat.reduceSub, forall_const, oneCellS, litOne, flat1, Kd.isSca, flat, TYB]
      exact next _ _ _ (hE0.up (by (repeat (first | refine mx_up ?_ (by decide) | exact fun _ _ => rfl))) (Kpt.refl hwf0))
    · have l2 : nu * 2 ≤ (upnF U ++ jk).length := by rw [List.length_append]; omega
      have nub : nu ≤ 4611686018427387903 := by omega
      have hi2 := hin jk
      cases hz : undF U [i, j]
      · rw [hz] at hi2
        simp -implicitDefEqProofs only [s17, s18, s19, s20, s23, hpu, ev, eiu, hz, gu, l2, nub, hi2, vPour_F, PlainRack_F, sPlainRack_F, IsUndone_F, sIsUndone_F, PourBacks_F, sPourBacks_F, IsSorted_F, CountColors_F, FewestPours_F, PourBack_F, DoPours2_F, MixedBy_F, sMixedBy_F, UndonePours_F, sUndonePours_F, Wrap.ap, eqI_rack, eqI_a6v, Nat.add_assoc, add_self, self_add, add_add, List.getD_cons_zero, List.getD_cons_succ, ZB, Int.reduceToNat, Nat.reduceLT, Nat.reduceLeDiff, Int.reduceLE, Int.reduceLT, Nat.reduceEqDiff, Nat.reduceSub, SB, SV.known, packR, ne_eq, reduceCtorEq, Nat.reduceEqDiff, ↓reduceIte, if_true, if_false, eq_self, Nat.reduceAdd, Nat.reduceMul, Nat.reduceSub, forall_const, oneCellS, litOne, flat1, Kd.isSca, flat, TYB]
        exact next _ _ _ (hE0.up (by (repeat (first | refine mx_up ?_ (by decide) | exact fun _ _ => rfl))) (Kpt.refl hwf0))
      · rw [hz] at hi2
        simp -implicitDefEqProofs only [s17, s18, s19, s20, s23, hpu, ev, eiu, hz, gu, l2, nub, hi2, vPour_F, PlainRack_F, sPlainRack_F, IsUndone_F, sIsUndone_F, PourBacks_F, sPourBacks_F, IsSorted_F, CountColors_F, FewestPours_F, PourBack_F, DoPours2_F, MixedBy_F, sMixedBy_F, UndonePours_F, sUndonePours_F, Wrap.ap, eqI_rack, eqI_a6v, Nat.add_assoc, add_self, self_add, add_add, List.getD_cons_zero, List.getD_cons_succ, ZB, Int.reduceToNat, Nat.reduceLT, Nat.reduceLeDiff, Int.reduceLE, Int.reduceLT, Nat.reduceEqDiff, Nat.reduceSub, SB, SV.known, packR, ne_eq, reduceCtorEq, Nat.reduceEqDiff, ↓reduceIte, if_true, if_false, eq_self, Nat.reduceAdd, Nat.reduceMul, Nat.reduceSub, forall_const, oneCellS, litOne, flat1, Kd.isSca, flat, TYB]
        exact next _ _ _ (hE0.up (by (repeat (first | refine mx_up ?_ (by decide) | exact fun _ _ => rfl))) (Kpt.refl hwf0))
set_option maxHeartbeats 2000000 in
theorem mx_b17 (S : Env) (H : Heap) (n : Nat) (R C K U V L : List Int) (i j : Int) (r cb cl cc mx kn' pl u v lb ll lc bk : Nat) (vp vu : SV) (hE : MxS S H n R C K U V L i j r cb cl cc mx kn' pl u v lb ll lc bk vp vu) (hR : R.length = 24) (hV : V.length = 24) (hK6 : K.length = 6) : codeVC (⟨Tryz.prog, tys, [(6, vBig_F), (46, PlainRack_F), (47, sPlainRack_F), (49, IsUndone_F), (50, sIsUndone_F), (54, PourBacks_F), (55, sPourBacks_F), (56, vPairs_F), (59, vPour_F), (57, IsSorted_F), (19, CountColors_F), (58, FewestPours_F), (23, PourBack_F), (60, DoPours2_F)], [(42, DrawMixedBy_F), (43, MixedBy_F), (44, sMixedBy_F), (11, vCut_F), (45, DrawPlainRack_F), (48, DrawIsUndone_F), (51, UndonePours_F), (52, sUndonePours_F), (53, DrawPourBacks_F)], true, true, 1, [], []⟩ : Cx) 1 (cdN 17 (Tryz.f5.body.getD .skip)) S H n mxQ := by
  have hE0 := hE
  obtain ⟨s3, s4, s5, s6, s7, s11, s12, s13, s16, s17, s18, s19, s20, s23, s27, s28, s29, s30, s31, hr, hc, hm, hk, hp, hu, hv, hl, hb, lp, lu, hlt, hcl, hll, hwf0, h1n⟩ := hE
  have kp := lp.kn
  have ku := lu.kn
  have jp := kp
  have ju := ku
  simp only [SV.known] at jp ju
  have wp := lp.wfv (Nat.le_refl n)
  have wu := lu.wfv (Nat.le_refl n)
  rw [cd_cut (show cdN 17 (Tryz.f5.body.getD .skip) = .seq (cd1 (cdN 17 (Tryz.f5.body.getD .skip))) (cdN 18 (Tryz.f5.body.getD .skip)) from rfl)]
  have next := fun S' H' n' (h : MxS S' H' n' R C K U V L i j r cb cl cc mx kn' pl u v lb ll lc bk vp vu) => mx_b18 S' H' n' R C K U V L i j r cb cl cc mx kn' pl u v lb ll lc bk vp vu h hR hV
  obtain ⟨cn, en⟩ : ∃ c, c = cdN 18 (Tryz.f5.body.getD .skip) := ⟨_, rfl⟩
  rw [← en] at next ⊢
  simp only [cdN, cd1, cd2, Tryz.f5, Option.getD_some]
  cases hpn : pnB K
  · simp -implicitDefEqProofs only [s13, hpn, PlainRack_F, sPlainRack_F, IsUndone_F, sIsUndone_F, PourBacks_F, sPourBacks_F, IsSorted_F, CountColors_F, FewestPours_F, PourBack_F, DoPours2_F, MixedBy_F, sMixedBy_F, UndonePours_F, sUndonePours_F, Wrap.ap, eqI_rack, eqI_a6v, Nat.add_assoc, add_self, self_add, add_add, List.getD_cons_zero, List.getD_cons_succ, ZB, Int.reduceToNat, Nat.reduceLT, Nat.reduceLeDiff, Int.reduceLE, Int.reduceLT, Nat.reduceEqDiff, Nat.reduceSub, SB, SV.known, packR, ne_eq, reduceCtorEq, Nat.reduceEqDiff, ↓reduceIte, if_true, if_false, eq_self, Nat.reduceAdd, Nat.reduceMul, Nat.reduceSub, forall_const, oneCellS, litOne, flat1, Kd.isSca, flat, TYB]
    exact next _ _ _ (hE0.up (by (repeat (first | refine mx_up ?_ (by decide) | exact fun _ _ => rfl))) (Kpt.refl hwf0))
  · obtain ⟨p1, p2, p3, p4, p5⟩ := pn_facts hK6 hpn
    have lP := pnF_len K
    have tkP : (pnF K).take 24 = pnF K := List.take_of_length_le (by omega)
    have tkK : K.take 6 = K := List.take_of_length_le (by omega)
    have lc := cntL_len (pnF K)
    have tkc : (cntL (pnF K)).take 6 = cntL (pnF K) := List.take_of_length_le (by omega)
    have eC : ccF (pnF K) = cntL (pnF K) := by unfold ccF; rw [if_pos p1]
    have d1 : (kn' = n) = False := by simp; omega
    have d2 : (pl = n) = False := by simp; omega
    simp -implicitDefEqProofs only [s11, s12, s13, hpn, hk, hp, lP, tkP, p1, p2, p3, p4, p5, hK6, tkK, lc, tkc, eC, d1, d2, PlainRack_F, sPlainRack_F, IsUndone_F, sIsUndone_F, PourBacks_F, sPourBacks_F, IsSorted_F, CountColors_F, FewestPours_F, PourBack_F, DoPours2_F, MixedBy_F, sMixedBy_F, UndonePours_F, sUndonePours_F, Wrap.ap, eqI_rack, eqI_a6v, Nat.add_assoc, add_self, self_add, add_add, List.getD_cons_zero, List.getD_cons_succ, ZB, Int.reduceToNat, Nat.reduceLT, Nat.reduceLeDiff, Int.reduceLE, Int.reduceLT, Nat.reduceEqDiff, Nat.reduceSub, SB, SV.known, packR, ne_eq, reduceCtorEq, Nat.reduceEqDiff, ↓reduceIte, if_true, if_false, eq_self, Nat.reduceAdd, Nat.reduceMul, Nat.reduceSub, forall_const, oneCellS, litOne, flat1, Kd.isSca, flat, TYB]
    exact ⟨h1n, h1n, next _ _ _ (hE0.up (by (repeat (first | refine mx_up ?_ (by decide) | exact fun _ _ => rfl))) (((Kpt.refl hwf0).push.put (by omega)).put (by omega)))⟩
theorem pbT_len {V L : List Int} (hV : V.length = 24) (len : Nat) : (pbT V L len).length = 24 := by
  have lS : ∀ k, (pbS V L k).length = 24 := fun k => by
    induction k with
    | zero => exact hV
    | succ k ih => rw [pbS_succ]; exact bkR_len ih _ _ _
  unfold pbT
  split
  · exact lS _
  · simp
theorem mxR_l24 {R C : List Int} (hR : R.length = 24) (len : Nat) : (mxR R C len).length = 24 := by
  have lS : ∀ k, (mxK R C k).1.length = 24 := fun k => by
    induction k with
    | zero => exact hR
    | succ k ih => exact bkR_len ih _ _ _
  unfold mxR
  split
  · exact lS _
  · simp
theorem mxP_even (R C : List Int) (len : Nat) : (mxP R C len).length = (mxP R C len).length / 2 * 2 ∧ (mxP R C len).length / 2 ≤ len := by
  unfold mxP
  split
  · rw [rvF_len (mxK_len2 R C _)]
    have := firstN_le (mxO R C) len 0
    unfold mxN
    omega
  · simp
set_option maxHeartbeats 8000000 in
theorem lawFnMixed_vc (cv : SV) (H0 : Heap) (hB : BytA cv H0) (hrb : vBig_F [cv] H0 = some (True, .bool false)) (hkn : cv.known = true) (hw0 : hwf 1 H0) (hcap : capOK cv) :
    codeVC (⟨Tryz.prog, tys, [(6, vBig_F), (46, PlainRack_F), (47, sPlainRack_F), (49, IsUndone_F), (50, sIsUndone_F), (54, PourBacks_F), (55, sPourBacks_F), (56, vPairs_F), (59, vPour_F), (57, IsSorted_F), (19, CountColors_F), (58, FewestPours_F), (23, PourBack_F), (60, DoPours2_F)], [(42, DrawMixedBy_F), (43, MixedBy_F), (44, sMixedBy_F), (11, vCut_F), (45, DrawPlainRack_F), (48, DrawIsUndone_F), (51, UndonePours_F), (52, sUndonePours_F), (53, DrawPourBacks_F)], true, true, 1, [], []⟩ : Cx) 1 (Tryz.f5.body.getD .skip) (argS 0 [cv]) H0 1 mxQ := by
  have hkm := hkn
  simp only [SV.known] at hkm
  rw [show (Tryz.f5.body.getD .skip) = cdP 17 (Tryz.f5.body.getD .skip) (cdN 17 (Tryz.f5.body.getD .skip)) from rfl]
  have next := mx_b17
  obtain ⟨c14, e14⟩ : ∃ c, c = cdN 17 (Tryz.f5.body.getD .skip) := ⟨_, rfl⟩
  rw [← e14] at next ⊢
  simp only [cdP, Tryz.f5, Option.getD_some, List.append_eq, List.cons_append, List.nil_append]
  simp -implicitDefEqProofs only [argS, hrb, hkn, hkm, PlainRack_F, sPlainRack_F, IsUndone_F, sIsUndone_F, PourBacks_F, sPourBacks_F, IsSorted_F, CountColors_F, FewestPours_F, PourBack_F, DoPours2_F, MixedBy_F, sMixedBy_F, UndonePours_F, sUndonePours_F, Wrap.ap, eqI_rack, eqI_a6v, Nat.add_assoc, add_self, self_add, add_add, List.getD_cons_zero, List.getD_cons_succ, ZB, Int.reduceToNat, Nat.reduceLT, Nat.reduceLeDiff, Int.reduceLE, Int.reduceLT, Nat.reduceEqDiff, Nat.reduceSub, SB, SV.known, packR, ne_eq, reduceCtorEq, Nat.reduceEqDiff, ↓reduceIte, if_true, if_false, eq_self, Nat.reduceAdd, Nat.reduceMul, Nat.reduceSub, forall_const, oneCellS, litOne, flat1, Kd.isSca, flat, TYB]
  refine drawMB_use hB (Nat.le_refl _) fun R cb cl cc C H1 n1 hR hRi hcb1 hcb2 gc1 hcl hcl2 hK1 => ?_
  have tkR : R.take 24 = R := List.take_of_length_le (by omega)
  have lM := mxR_l24 (C := C.take cl) hR cl
  have tkM : (mxR R (C.take cl) cl).take 24 = mxR R (C.take cl) cl := List.take_of_length_le (by omega)
  obtain ⟨mp1, mp2⟩ := mxP_even R (C.take cl) cl
  have hle1 := hK1.le
  have P1 : Kpt n1 H1 ((n1, .ints R 27) :: (n1, .ints (List.replicate 24 0) 27) :: H1) (n1 + 1) := (Kpt.refl hK1.wf).push.put (by omega)
  have a1 : (cb = n1) = False := by simp; omega
  simp -implicitDefEqProofs only [hR, tkR, gc1, a1, hkn, hkm, PlainRack_F, sPlainRack_F, IsUndone_F, sIsUndone_F, PourBacks_F, sPourBacks_F, IsSorted_F, CountColors_F, FewestPours_F, PourBack_F, DoPours2_F, MixedBy_F, sMixedBy_F, UndonePours_F, sUndonePours_F, Wrap.ap, eqI_rack, eqI_a6v, Nat.add_assoc, add_self, self_add, add_add, List.getD_cons_zero, List.getD_cons_succ, ZB, Int.reduceToNat, Nat.reduceLT, Nat.reduceLeDiff, Int.reduceLE, Int.reduceLT, Nat.reduceEqDiff, Nat.reduceSub, SB, SV.known, packR, ne_eq, reduceCtorEq, Nat.reduceEqDiff, ↓reduceIte, if_true, if_false, eq_self, Nat.reduceAdd, Nat.reduceMul, Nat.reduceSub, forall_const, oneCellS, litOne, flat1, Kd.isSca, flat, TYB]
  refine ⟨hle1, ⟨hcl, by omega⟩, freshK_sl P1.wf mp1 (by omega) fun vp H2 n2 lp hK2 => ?_⟩
  have hle2 := hK2.le
  have gr2 := hK2.fr n1 (.ints R 27) (by omega) (by simp [hget_cons])
  have gc2 := hK2.fr cb _ (by omega) (P1.fr cb _ (by omega) gc1)
  have kp := lp.kn
  have jp := kp
  simp only [SV.known] at jp
  have P2 : Kpt n2 H2 ((n2, .ints (mxR R (C.take cl) cl) 27) :: (n2, .ints (List.replicate 24 0) 27) :: H2) (n2 + 1) := (Kpt.refl hK2.wf).push.put (by omega)
  have a2 : (cb = n2) = False := by simp; omega
  have a3 : (n1 = n2) = False := by simp; omega
  simp -implicitDefEqProofs only [hR, tkR, lM, tkM, gr2, gc2, a2, a3, kp, jp, hkn, hkm, PlainRack_F, sPlainRack_F, IsUndone_F, sIsUndone_F, PourBacks_F, sPourBacks_F, IsSorted_F, CountColors_F, FewestPours_F, PourBack_F, DoPours2_F, MixedBy_F, sMixedBy_F, UndonePours_F, sUndonePours_F, Wrap.ap, eqI_rack, eqI_a6v, Nat.add_assoc, add_self, self_add, add_add, List.getD_cons_zero, List.getD_cons_succ, ZB, Int.reduceToNat, Nat.reduceLT, Nat.reduceLeDiff, Int.reduceLE, Int.reduceLT, Nat.reduceEqDiff, Nat.reduceSub, SB, SV.known, packR, ne_eq, reduceCtorEq, Nat.reduceEqDiff, ↓reduceIte, if_true, if_false, eq_self, Nat.reduceAdd, Nat.reduceMul, Nat.reduceSub, forall_const, oneCellS, litOne, flat1, Kd.isSca, flat, TYB]
  refine ⟨by omega, ⟨hcl, by omega⟩, freshK_sl P2.wf mp1 (by omega) fun vp' H3 n3 lp' hK3 => ?_⟩
  have hle3 := hK3.le
  have kp' := lp'.kn
  have jp' := kp'
  simp only [SV.known] at jp'
  have P3 : Kpt n3 H3 ((n3, .ints (mxR R (C.take cl) cl) 27) :: (n3, .ints (List.replicate 24 0) 27) :: H3) (n3 + 1) := (Kpt.refl hK3.wf).push.put (by omega)
  have T13 : Kpt n1 H1 _ (n3 + 1) := P1.trans (hK2.trans (P2.trans (hK3.trans P3)))
  have hB3 := hB.fr hw0 (fun i o hi ho => (hK1.trans T13).fr i o hi ho)
  simp -implicitDefEqProofs only [lM, tkM, kp, jp, kp', jp', hkn, hkm, PlainRack_F, sPlainRack_F, IsUndone_F, sIsUndone_F, PourBacks_F, sPourBacks_F, IsSorted_F, CountColors_F, FewestPours_F, PourBack_F, DoPours2_F, MixedBy_F, sMixedBy_F, UndonePours_F, sUndonePours_F, Wrap.ap, eqI_rack, eqI_a6v, Nat.add_assoc, add_self, self_add, add_add, List.getD_cons_zero, List.getD_cons_succ, ZB, Int.reduceToNat, Nat.reduceLT, Nat.reduceLeDiff, Int.reduceLE, Int.reduceLT, Nat.reduceEqDiff, Nat.reduceSub, SB, SV.known, packR, ne_eq, reduceCtorEq, Nat.reduceEqDiff, ↓reduceIte, if_true, if_false, eq_self, Nat.reduceAdd, Nat.reduceMul, Nat.reduceSub, forall_const, oneCellS, litOne, flat1, Kd.isSca, flat, TYB]
  refine ⟨by omega, cut_use hB3 hcap (.inl rfl) (by omega) fun b4 l4 c4 H4 n4 hB4 hK4 => ?_⟩
  have hle4 := hK4.le
  simp -implicitDefEqProofs only [kp, jp, kp', jp', hkn, hkm, PlainRack_F, sPlainRack_F, IsUndone_F, sIsUndone_F, PourBacks_F, sPourBacks_F, IsSorted_F, CountColors_F, FewestPours_F, PourBack_F, DoPours2_F, MixedBy_F, sMixedBy_F, UndonePours_F, sUndonePours_F, Wrap.ap, eqI_rack, eqI_a6v, Nat.add_assoc, add_self, self_add, add_add, List.getD_cons_zero, List.getD_cons_succ, ZB, Int.reduceToNat, Nat.reduceLT, Nat.reduceLeDiff, Int.reduceLE, Int.reduceLT, Nat.reduceEqDiff, Nat.reduceSub, SB, SV.known, packR, ne_eq, reduceCtorEq, Nat.reduceEqDiff, ↓reduceIte, if_true, if_false, eq_self, Nat.reduceAdd, Nat.reduceMul, Nat.reduceSub, forall_const, oneCellS, litOne, flat1, Kd.isSca, flat, TYB]
  refine drawPR_use hB4 (by omega) fun K H5 n5 hK6 hK6i hK5 => ?_
  have hle5 := hK5.le
  have tkK : K.take 6 = K := List.take_of_length_le (by omega)
  have lP := pnF_len K
  have tkP : (pnF K).take 24 = pnF K := List.take_of_length_le (by omega)
  have P5 : Kpt n5 H5 ((n5 + 2, .ints (pnF K) 27) :: (n5 + 2, .ints (List.replicate 24 0) 27) :: (n5 + 1, .ints (pnF K) 27) :: (n5 + 1, .ints (List.replicate 24 0) 27) :: (n5, .ints K 40) :: (n5, .ints (List.replicate 6 0) 40) :: H5) (n5 + 3) := (((((Kpt.refl hK5.wf).push.put (by omega)).push).put (by omega)).push).put (by omega)
  have T35 : Kpt (n3 + 1) _ _ (n5 + 3) := hK4.trans (hK5.trans P5)
  have hB5 := hB3.fr (hK3.trans P3).wf (fun i o hi ho => T35.fr i o hi ho)
  have a5 : (n5 = n5 + 1) = False := by simp
  simp -implicitDefEqProofs only [hK6, tkK, lP, tkP, a5, kp, jp, kp', jp', hkn, hkm, PlainRack_F, sPlainRack_F, IsUndone_F, sIsUndone_F, PourBacks_F, sPourBacks_F, IsSorted_F, CountColors_F, FewestPours_F, PourBack_F, DoPours2_F, MixedBy_F, sMixedBy_F, UndonePours_F, sUndonePours_F, Wrap.ap, eqI_rack, eqI_a6v, Nat.add_assoc, add_self, self_add, add_add, List.getD_cons_zero, List.getD_cons_succ, ZB, Int.reduceToNat, Nat.reduceLT, Nat.reduceLeDiff, Int.reduceLE, Int.reduceLT, Nat.reduceEqDiff, Nat.reduceSub, SB, SV.known, packR, ne_eq, reduceCtorEq, Nat.reduceEqDiff, ↓reduceIte, if_true, if_false, eq_self, Nat.reduceAdd, Nat.reduceMul, Nat.reduceSub, forall_const, oneCellS, litOne, flat1, Kd.isSca, flat, TYB]
  refine ⟨by omega, cut_use hB5 hcap (.inr rfl) (by omega) fun b6 l6 c6 H6 n6 hB6 hK6' => ?_⟩
  have hle6 := hK6'.le
  simp -implicitDefEqProofs only [kp, jp, kp', jp', hkn, hkm, PlainRack_F, sPlainRack_F, IsUndone_F, sIsUndone_F, PourBacks_F, sPourBacks_F, IsSorted_F, CountColors_F, FewestPours_F, PourBack_F, DoPours2_F, MixedBy_F, sMixedBy_F, UndonePours_F, sUndonePours_F, Wrap.ap, eqI_rack, eqI_a6v, Nat.add_assoc, add_self, self_add, add_add, List.getD_cons_zero, List.getD_cons_succ, ZB, Int.reduceToNat, Nat.reduceLT, Nat.reduceLeDiff, Int.reduceLE, Int.reduceLT, Nat.reduceEqDiff, Nat.reduceSub, SB, SV.known, packR, ne_eq, reduceCtorEq, Nat.reduceEqDiff, ↓reduceIte, if_true, if_false, eq_self, Nat.reduceAdd, Nat.reduceMul, Nat.reduceSub, forall_const, oneCellS, litOne, flat1, Kd.isSca, flat, TYB]
  refine drawIU_use hB6 (by omega) fun U i j H7 n7 hU hUi hii hji hK7 => ?_
  have hle7 := hK7.le
  have tkU : U.take 24 = U := List.take_of_length_le (by omega)
  have P7 : Kpt n7 H7 ((n7, .ints U 27) :: (n7, .ints (List.replicate 24 0) 27) :: H7) (n7 + 1) := (Kpt.refl hK7.wf).push.put (by omega)
  have hul : (upnF U).length = (upnF U).length / 2 * 2 := by obtain ⟨k, h1, h2⟩ := upnF_even U; omega
  have hul2 : (upnF U).length / 2 ≤ 36 := by obtain ⟨k, h1, h2⟩ := upnF_even U; omega
  simp -implicitDefEqProofs only [hU, tkU, kp, jp, kp', jp', hkn, hkm, PlainRack_F, sPlainRack_F, IsUndone_F, sIsUndone_F, PourBacks_F, sPourBacks_F, IsSorted_F, CountColors_F, FewestPours_F, PourBack_F, DoPours2_F, MixedBy_F, sMixedBy_F, UndonePours_F, sUndonePours_F, Wrap.ap, eqI_rack, eqI_a6v, Nat.add_assoc, add_self, self_add, add_add, List.getD_cons_zero, List.getD_cons_succ, ZB, Int.reduceToNat, Nat.reduceLT, Nat.reduceLeDiff, Int.reduceLE, Int.reduceLT, Nat.reduceEqDiff, Nat.reduceSub, SB, SV.known, packR, ne_eq, reduceCtorEq, Nat.reduceEqDiff, ↓reduceIte, if_true, if_false, eq_self, Nat.reduceAdd, Nat.reduceMul, Nat.reduceSub, forall_const, oneCellS, litOne, flat1, Kd.isSca, flat, TYB]
  refine ⟨by omega, freshK_sl P7.wf hul (by omega) fun vu H8 n8 lu hK8 => ?_⟩
  have hle8 := hK8.le
  have gu8 := hK8.fr n7 (.ints U 27) (by omega) (by simp [hget_cons])
  have ku := lu.kn
  have ju := ku
  simp only [SV.known] at ju
  simp -implicitDefEqProofs only [hU, tkU, gu8, kp, jp, kp', jp', ku, ju, hkn, hkm, PlainRack_F, sPlainRack_F, IsUndone_F, sIsUndone_F, PourBacks_F, sPourBacks_F, IsSorted_F, CountColors_F, FewestPours_F, PourBack_F, DoPours2_F, MixedBy_F, sMixedBy_F, UndonePours_F, sUndonePours_F, Wrap.ap, eqI_rack, eqI_a6v, Nat.add_assoc, add_self, self_add, add_add, List.getD_cons_zero, List.getD_cons_succ, ZB, Int.reduceToNat, Nat.reduceLT, Nat.reduceLeDiff, Int.reduceLE, Int.reduceLT, Nat.reduceEqDiff, Nat.reduceSub, SB, SV.known, packR, ne_eq, reduceCtorEq, Nat.reduceEqDiff, ↓reduceIte, if_true, if_false, eq_self, Nat.reduceAdd, Nat.reduceMul, Nat.reduceSub, forall_const, oneCellS, litOne, flat1, Kd.isSca, flat, TYB]
  refine freshK_sl hK8.wf hul (by omega) fun vu' H9 n9 lu' hK9 => ?_
  have hle9 := hK9.le
  have ku' := lu'.kn
  have ju' := ku'
  simp only [SV.known] at ju'
  have T59 : Kpt (n5 + 3) _ H9 n9 := hK6'.trans (hK7.trans (P7.trans (hK8.trans hK9)))
  have hB9 := hB5.fr (T35.wf) (fun i o hi ho => T59.fr i o hi ho)
  simp -implicitDefEqProofs only [kp, jp, kp', jp', ku, ju, ku', ju', hkn, hkm, PlainRack_F, sPlainRack_F, IsUndone_F, sIsUndone_F, PourBacks_F, sPourBacks_F, IsSorted_F, CountColors_F, FewestPours_F, PourBack_F, DoPours2_F, MixedBy_F, sMixedBy_F, UndonePours_F, sUndonePours_F, Wrap.ap, eqI_rack, eqI_a6v, Nat.add_assoc, add_self, self_add, add_add, List.getD_cons_zero, List.getD_cons_succ, ZB, Int.reduceToNat, Nat.reduceLT, Nat.reduceLeDiff, Int.reduceLE, Int.reduceLT, Nat.reduceEqDiff, Nat.reduceSub, SB, SV.known, packR, ne_eq, reduceCtorEq, Nat.reduceEqDiff, ↓reduceIte, if_true, if_false, eq_self, Nat.reduceAdd, Nat.reduceMul, Nat.reduceSub, forall_const, oneCellS, litOne, flat1, Kd.isSca, flat, TYB]
  refine cut_use hB9 hcap (.inl rfl) (by omega) fun b10 l10 c10 H10 n10 hB10 hK10 => ?_
  have hle10 := hK10.le
  simp -implicitDefEqProofs only [kp, jp, kp', jp', ku, ju, ku', ju', hkn, hkm, PlainRack_F, sPlainRack_F, IsUndone_F, sIsUndone_F, PourBacks_F, sPourBacks_F, IsSorted_F, CountColors_F, FewestPours_F, PourBack_F, DoPours2_F, MixedBy_F, sMixedBy_F, UndonePours_F, sUndonePours_F, Wrap.ap, eqI_rack, eqI_a6v, Nat.add_assoc, add_self, self_add, add_add, List.getD_cons_zero, List.getD_cons_succ, ZB, Int.reduceToNat, Nat.reduceLT, Nat.reduceLeDiff, Int.reduceLE, Int.reduceLT, Nat.reduceEqDiff, Nat.reduceSub, SB, SV.known, packR, ne_eq, reduceCtorEq, Nat.reduceEqDiff, ↓reduceIte, if_true, if_false, eq_self, Nat.reduceAdd, Nat.reduceMul, Nat.reduceSub, forall_const, oneCellS, litOne, flat1, Kd.isSca, flat, TYB]
  refine drawPBs_use hB10 (by omega) fun V lb ll lc L H11 n11 hV hVi hlb1 hlb2 gl11 hll hll2 hK11 => ?_
  have hle11 := hK11.le
  have tkV : V.take 24 = V := List.take_of_length_le (by omega)
  have lT := pbT_len (L := L.take (ll * 3)) hV ll
  have tkT : (pbT V (L.take (ll * 3)) ll).take 24 = pbT V (L.take (ll * 3)) ll := List.take_of_length_le (by omega)
  have b1 : ∀ k, (lb = n11 + k) = False := fun k => by simp; omega
  have b2 : (lb = n11) = False := by simp; omega
  have b3 : (n11 = n11 + 1) = False := by simp
  have ll1 : ll ≤ 1048576 := by omega
  have ePB := pbsT_eq V (L.take (ll * 3)) ll
  have P11 : Kpt n11 H11 ((n11 + 2, .ints (pbT V (L.take (ll * 3)) ll) 27) :: (n11 + 2, .ints (List.replicate 24 0) 27) :: (n11 + 1, .ints (pbT V (L.take (ll * 3)) ll) 27) :: (n11 + 1, .ints (List.replicate 24 0) 27) :: (n11, .ints V 27) :: (n11, .ints (List.replicate 24 0) 27) :: H11) (n11 + 3) := (((((Kpt.refl hK11.wf).push.put (by omega)).push).put (by omega)).push).put (by omega)
  have S10 : Kpt n9 H9 _ (n11 + 3) := hK10.trans (hK11.trans P11)
  have S8 : Kpt n8 H8 _ (n11 + 3) := hK9.trans S10
  have S7 : Kpt (n7 + 1) _ _ (n11 + 3) := hK8.trans S8
  have S5 : Kpt (n5 + 3) _ _ (n11 + 3) := hK6'.trans (hK7.trans (P7.trans S7))
  have S3' : Kpt (n3 + 1) _ _ (n11 + 3) := T35.trans S5
  have S3 : Kpt n3 H3 _ (n11 + 3) := P3.trans S3'
  have S2' : Kpt (n2 + 1) _ _ (n11 + 3) := hK3.trans S3
  have S2 : Kpt n2 H2 _ (n11 + 3) := P2.trans S2'
  have lp1 := lp.up (fun i o hi ho => S2.fr i o hi ho)
  have lp2 := lp'.up (fun i o hi ho => S3.fr i o hi ho)
  have lu1 := lu.up (fun i o hi ho => S8.fr i o hi ho)
  have lu2 := lu'.up (fun i o hi ho => S10.fr i o hi ho)
  obtain ⟨Q1, q1, e1⟩ := vP_use lp1 lp2 (by omega) (by omega)
  obtain ⟨Q2, q2, e2⟩ := vP_use lu1 lu2 (Nat.le_refl _) (by omega)
  have gm := S2'.fr n2 (.ints (mxR R (C.take cl) cl) 27) (by omega) (by simp [hget_cons])
  have gw := S3'.fr n3 (.ints (mxR R (C.take cl) cl) 27) (by omega) (by simp [hget_cons])
  have gp := S5.fr (n5 + 1) (.ints (pnF K) 27) (by omega) (by simp [hget_cons])
  have gk := S5.fr n5 (.ints K 40) (by omega) (by simp [hget_cons])
  have gq := S5.fr (n5 + 2) (.ints (pnF K) 27) (by omega) (by simp [hget_cons])
  have gu := S7.fr n7 (.ints U 27) (by omega) (by simp [hget_cons])
  have gr := S2.fr n1 _ (by omega) gr2
  have gc := S2.fr cb _ (by omega) gc2
  have R10 : Kpt n9 H9 H11 n11 := hK10.trans hK11
  have R8 : Kpt n8 H8 H11 n11 := hK9.trans R10
  have R7 : Kpt (n7 + 1) _ H11 n11 := hK8.trans R8
  have R5 : Kpt (n5 + 3) _ H11 n11 := hK6'.trans (hK7.trans (P7.trans R7))
  have R3' : Kpt (n3 + 1) _ H11 n11 := T35.trans R5
  have R2' : Kpt (n2 + 1) _ H11 n11 := hK3.trans (P3.trans R3')
  have gmH := R2'.fr n2 (.ints (mxR R (C.take cl) cl) 27) (by omega) (by simp [hget_cons])
  have gwH := R3'.fr n3 (.ints (mxR R (C.take cl) cl) 27) (by omega) (by simp [hget_cons])
  have gpH := R5.fr (n5 + 1) (.ints (pnF K) 27) (by omega) (by simp [hget_cons])
  have gqH := R5.fr (n5 + 2) (.ints (pnF K) 27) (by omega) (by simp [hget_cons])
  have c1 : ∀ k, (n2 = n11 + k) = False := fun k => by simp; omega
  have c2 : (n2 = n11) = False := by simp; omega
  have c3 : ∀ k, (n3 = n11 + k) = False := fun k => by simp; omega
  have c4 : (n3 = n11) = False := by simp; omega
  have c5 : ∀ k, (n5 + 1 = n11 + k) = False := fun k => by simp; omega
  have c6 : (n5 + 1 = n11) = False := by simp; omega
  have c7 : ∀ k, (n5 + 2 = n11 + k) = False := fun k => by simp; omega
  have c8 : (n5 + 2 = n11) = False := by simp; omega
  have c9 : (n11 + 1 = n11 + 2) = False := by simp
  have gl := P11.fr lb _ (by omega) gl11
  have gv : hget ((n11 + 2, .ints (pbT V (L.take (ll * 3)) ll) 27) :: (n11 + 2, .ints (List.replicate 24 0) 27) :: (n11 + 1, .ints (pbT V (L.take (ll * 3)) ll) 27) :: (n11 + 1, .ints (List.replicate 24 0) 27) :: (n11, .ints V 27) :: (n11, .ints (List.replicate 24 0) 27) :: H11) n11 = some (.ints V 27) := by simp [hget_cons]
  have gb : hget ((n11 + 2, .ints (pbT V (L.take (ll * 3)) ll) 27) :: (n11 + 2, .ints (List.replicate 24 0) 27) :: (n11 + 1, .ints (pbT V (L.take (ll * 3)) ll) 27) :: (n11 + 1, .ints (List.replicate 24 0) 27) :: (n11, .ints V 27) :: (n11, .ints (List.replicate 24 0) 27) :: H11) (n11 + 1) = some (.ints (pbT V (L.take (ll * 3)) ll) 27) := by simp [hget_cons]
  cases hpu : pourB U i j
  · simp -implicitDefEqProofs only [hpu, hV, tkV, gl11, lT, tkT, b1, b2, b3, ll1, ePB, hll, gmH, gwH, gpH, gqH, c1, c2, c3, c4, c5, c6, c7, c8, c9, lM, tkM, lP, tkP, q1, e1, q2, e2, kp, jp, kp', jp', ku, ju, ku', ju', hkn, hkm, PlainRack_F, sPlainRack_F, IsUndone_F, sIsUndone_F, PourBacks_F, sPourBacks_F, IsSorted_F, CountColors_F, FewestPours_F, PourBack_F, DoPours2_F, MixedBy_F, sMixedBy_F, UndonePours_F, sUndonePours_F, Wrap.ap, eqI_rack, eqI_a6v, Nat.add_assoc, add_self, self_add, add_add, List.getD_cons_zero, List.getD_cons_succ, ZB, Int.reduceToNat, Nat.reduceLT, Nat.reduceLeDiff, Int.reduceLE, Int.reduceLT, Nat.reduceEqDiff, Nat.reduceSub, SB, SV.known, packR, ne_eq, reduceCtorEq, Nat.reduceEqDiff, ↓reduceIte, if_true, if_false, eq_self, Nat.reduceAdd, Nat.reduceMul, Nat.reduceSub, forall_const, oneCellS, litOne, flat1, Kd.isSca, flat, TYB]
    exact ⟨by omega, next _ _ _ R C K U V L i j n1 cb cl cc n2 n5 (n5 + 1) n7 n11 lb ll lc (n11 + 1) vp vu ⟨rfl, rfl, rfl, rfl, rfl, rfl, rfl, rfl, rfl, rfl, rfl, rfl, (by rw [hpu]; rfl), rfl, rfl, rfl, rfl, rfl, rfl, gr, gc, gm, gk, gp, gu, gv, gl, gb, lp1.wk (Nat.zero_le _) (by omega), lu1.wk (Nat.zero_le _) (by omega), by omega, ⟨hcl, hcl2⟩, ⟨hll, hll2⟩, P11.wf, by omega⟩ hR hV hK6⟩
  · have hru : rackB U = true := by unfold pourB at hpu; simp only [Bool.and_eq_true] at hpu; exact hpu.1.1.1
    simp -implicitDefEqProofs only [hpu, hru, hV, tkV, gl11, lT, tkT, b1, b2, b3, ll1, ePB, hll, gmH, gwH, gpH, gqH, c1, c2, c3, c4, c5, c6, c7, c8, c9, lM, tkM, lP, tkP, q1, e1, q2, e2, kp, jp, kp', jp', ku, ju, ku', ju', hkn, hkm, PlainRack_F, sPlainRack_F, IsUndone_F, sIsUndone_F, PourBacks_F, sPourBacks_F, IsSorted_F, CountColors_F, FewestPours_F, PourBack_F, DoPours2_F, MixedBy_F, sMixedBy_F, UndonePours_F, sUndonePours_F, Wrap.ap, eqI_rack, eqI_a6v, Nat.add_assoc, add_self, self_add, add_add, List.getD_cons_zero, List.getD_cons_succ, ZB, Int.reduceToNat, Nat.reduceLT, Nat.reduceLeDiff, Int.reduceLE, Int.reduceLT, Nat.reduceEqDiff, Nat.reduceSub, SB, SV.known, packR, ne_eq, reduceCtorEq, Nat.reduceEqDiff, ↓reduceIte, if_true, if_false, eq_self, Nat.reduceAdd, Nat.reduceMul, Nat.reduceSub, forall_const, oneCellS, litOne, flat1, Kd.isSca, flat, TYB]
    exact ⟨by omega, next _ _ _ R C K U V L i j n1 cb cl cc n2 n5 (n5 + 1) n7 n11 lb ll lc (n11 + 1) vp vu ⟨rfl, rfl, rfl, rfl, rfl, rfl, rfl, rfl, rfl, rfl, rfl, rfl, (by rw [hpu]; rfl), rfl, rfl, rfl, rfl, rfl, rfl, gr, gc, gm, gk, gp, gu, gv, gl, gb, lp1.wk (Nat.zero_le _) (by omega), lu1.wk (Nat.zero_le _) (by omega), by omega, ⟨hcl, hcl2⟩, ⟨hll, hll2⟩, P11.wf, by omega⟩ hR hV hK6⟩
theorem lawFnMixed (L : List Int) (off len cap : Nat) (hlc : len ≤ cap) (_ : cap ≤ maxLen) (hLl : L.length = len) (hLb : ∀ x ∈ L, 0 ≤ x ∧ x ≤ 255) :
    PureH Tryz.prog 5 [.slice 0 off len cap] [(0, .winU off L)] (.bool true) := by
  by_cases hbig : (65536 : Int) < (len : Int)
  · refine pure_of_vc (X := ⟨Tryz.prog, tys, [(6, vBig_F)], [], true, true, 1, [], []⟩) fn_5 ⟨tys_ok, (.cons vBig_T .nil), .nil, mixed⟩ (n0 := 1) (Nat.le_of_ble_eq_true rfl) (by simp [wfL, SV.wf]) (wfH_spec (by simp [wfH, SObj.wf])) (Nat.le_refl _) (fun _ => by simp [SV.wf, wfL]) ?_
    simp -implicitDefEqProofs only [Tryz.f5, Option.getD_some, argS, vBig_F, hbig, ZB, Int.reduceToNat, Nat.reduceLT, Nat.reduceLeDiff, Int.reduceLE, Int.reduceLT, Nat.reduceEqDiff, Nat.reduceSub, SB, SV.known, packR, ne_eq, reduceCtorEq, Nat.reduceEqDiff, ↓reduceIte, if_true, if_false, eq_self, Nat.reduceAdd, Nat.reduceMul, Nat.reduceSub, forall_const, oneCellS, litOne, flat1, Kd.isSca, flat, TYB]
  · refine pure_of_vc (X := ⟨Tryz.prog, tys, [(6, vBig_F), (46, PlainRack_F), (47, sPlainRack_F), (49, IsUndone_F), (50, sIsUndone_F), (54, PourBacks_F), (55, sPourBacks_F), (56, vPairs_F), (59, vPour_F), (57, IsSorted_F), (19, CountColors_F), (58, FewestPours_F), (23, PourBack_F), (60, DoPours2_F)], [(42, DrawMixedBy_F), (43, MixedBy_F), (44, sMixedBy_F), (11, vCut_F), (45, DrawPlainRack_F), (48, DrawIsUndone_F), (51, UndonePours_F), (52, sUndonePours_F), (53, DrawPourBacks_F)], true, true, 1, [], []⟩) (show FnOK Tryz.prog 5 Tryz.f5 (Tryz.f5.body.getD .skip) [] [] from ⟨Tryz.func5, rfl, by kernel_rfl, by kernel_rfl⟩) ⟨tys_ok, (.cons vBig_T (.cons PlainRack_T (.cons sPlainRack_T (.cons IsUndone_T (.cons sIsUndone_T (.cons PourBacks_T (.cons sPourBacks_T (.cons vPairs_T (.cons vPour_T (.cons IsSorted_T (.cons CountColors_T (.cons FewestPours_T (.cons PourBack_T (.cons DoPours2_T .nil)))))))))))))), (.cons DrawMixedBy_T (.cons MixedBy_T (.cons sMixedBy_T (.cons vCut_T (.cons DrawPlainRack_T (.cons DrawIsUndone_T (.cons UndonePours_T (.cons sUndonePours_T (.cons DrawPourBacks_T .nil))))))))), mixed⟩ (n0 := 1) (Nat.le_of_ble_eq_true rfl) (by simp [wfL, SV.wf]) (wfH_spec (by simp [wfH, SObj.wf])) (Nat.le_refl _) (fun _ => by simp [SV.wf, wfL]) ?_
    exact lawFnMixed_vc _ _ (.inr ⟨0, off, len, cap, L, rfl, by simp [hget_cons], hLl, by omega, hLb⟩) (by simp [vBig_F, hget_cons, hbig]) rfl (wfH_spec (by simp [wfH, SObj.wf])) hlc
theorem lawFnMixedN : PureH Tryz.prog 5 [.nils] [] (.bool true) := by
  · refine pure_of_vc (X := ⟨Tryz.prog, tys, [(6, vBig_F), (46, PlainRack_F), (47, sPlainRack_F), (49, IsUndone_F), (50, sIsUndone_F), (54, PourBacks_F), (55, sPourBacks_F), (56, vPairs_F), (59, vPour_F), (57, IsSorted_F), (19, CountColors_F), (58, FewestPours_F), (23, PourBack_F), (60, DoPours2_F)], [(42, DrawMixedBy_F), (43, MixedBy_F), (44, sMixedBy_F), (11, vCut_F), (45, DrawPlainRack_F), (48, DrawIsUndone_F), (51, UndonePours_F), (52, sUndonePours_F), (53, DrawPourBacks_F)], true, true, 1, [], []⟩) (show FnOK Tryz.prog 5 Tryz.f5 (Tryz.f5.body.getD .skip) [] [] from ⟨Tryz.func5, rfl, by kernel_rfl, by kernel_rfl⟩) ⟨tys_ok, (.cons vBig_T (.cons PlainRack_T (.cons sPlainRack_T (.cons IsUndone_T (.cons sIsUndone_T (.cons PourBacks_T (.cons sPourBacks_T (.cons vPairs_T (.cons vPour_T (.cons IsSorted_T (.cons CountColors_T (.cons FewestPours_T (.cons PourBack_T (.cons DoPours2_T .nil)))))))))))))), (.cons DrawMixedBy_T (.cons MixedBy_T (.cons sMixedBy_T (.cons vCut_T (.cons DrawPlainRack_T (.cons DrawIsUndone_T (.cons UndonePours_T (.cons sUndonePours_T (.cons DrawPourBacks_T .nil))))))))), mixed⟩ (n0 := 1) (Nat.le_of_ble_eq_true rfl) (by simp [wfL, SV.wf]) (wfH_spec (by simp [wfH, SObj.wf])) (Nat.le_refl _) (fun _ => by simp [SV.wf, wfL]) ?_
    exact lawFnMixed_vc _ _ (.inl rfl) (by simp [vBig_F]) rfl (wfH_spec (by simp [wfH, SObj.wf])) trivial
end Go.Proofs.YtmccafjblhbmkaaGreat
set_option maxRecDepth 100000
set_option linter.unusedSimpArgs false
set_option linter.unusedVariables false
namespace Go.Proofs.YtmccafjblhbmkaaGreat
open Go Go.RowKit Go.ChangeShapes Go.WideShapes Go.ChangeAt

theorem own_knob : ownKnob Tryz.prog.godebug = none := by kernel_rfl
theorem laid_out : laidOutB Tryz.prog = true := by kernel_rfl

theorem trodAll_below {H : Type} {enc : TypeId × Value → H} {W W' : World} (hb : Below W.heap.size W W') : ∀ {ts : List TypeId} {vs : List Value} {ds : List (DataW H)} {ps : List MemPlace}, DataW.TrodAll enc Tryz.prog W 0 (fun _ => true) true ts vs ds ps →
    (∀ t ∈ ts, Tryz.prog.readableRec t = true ∧ t < Tryz.prog.types.size) → (∀ x ∈ ps, x.block < W.heap.size) → DataW.TrodAll enc Tryz.prog W' 0 (fun b => decide (b < W.heap.size)) true ts vs ds ps
  | [], vs, ds, ps, h, _, _ => by
    obtain ⟨rfl, rfl, rfl⟩ := trodAll_nil h
    exact trodAll_mk0
  | t :: ts, vs, ds, ps, h, hr, hp => by
    obtain ⟨v0, vs0, d0, ds0, p0, q0, rfl, rfl, rfl, h0, r0⟩ := trodAll_cons h
    exact trodAll_cons_mk (Below.trod laid_out (hr t (by simp)).1 (hr t (by simp)).2 h0 hb fun x hx => hp x (by simp [hx])) (trodAll_below hb r0 (fun t' ht' => hr t' (by simp [ht'])) fun x hx => hp x (by simp [hx]))

theorem law_post {H : Type} {enc : TypeId × Value → H} {f : Func} {s : ChangeSpec} {W W' : World} {args : Array Value} {ds gs : List (DataW H)} {before : List MemPlace} (hb : Below W.heap.size W W') (hW : DataW.Whole enc Tryz.prog f.params.toList s.vars false W args.toList ds gs before)
    (hv : s.vars = []) (hrt : f.resultTypes = #[4]) (hs1 : (s.fn H (ds ++ gs)).results = [.lit (.bool true)]) (hs2 : (s.fn H (ds ++ gs)).args = ds) (hs3 : (s.fn H (ds ++ gs)).vars = []) (hr : ∀ t ∈ f.params.toList, Tryz.prog.readableRec t = true ∧ t < Tryz.prog.types.size) :
    s.post enc Tryz.prog f false true false false W args (.bool true) W' := by
  have hW' := hW
  obtain ⟨p, q, hA, hV, rfl, hfz, hnd⟩ := hW
  rw [hv] at hV
  obtain ⟨rfl, rfl⟩ := trodVars_none hV
  refine ⟨ds, _, _, [], p, [], hW', ?_, ?_, ?_, hb.frame _, fun h => by cases h⟩
  · rw [hs1, hrt]
    exact trodAll_cons_mk (shut_bool Tryz.underlying4 true) trodAll_mk0
  · rw [hs2]
    exact trodAll_below hb hA hr fun x hx => by simpa using hW'.lt x (by simpa using hx)
  · rw [hv, hs3]
    rfl
end Go.Proofs.YtmccafjblhbmkaaGreat
set_option maxRecDepth 100000
set_option linter.unusedSimpArgs false
set_option linter.unusedVariables false
namespace Go.Proofs.YtmccafjblhbmkaaGreat
open Go Go.RowKit Go.ChangeShapes Go.WideShapes Go.ChangeAt

theorem add_off (b o n : Nat) : (Addr.mk b o none).add n = ⟨b, o + n, none⟩ := by
  unfold Addr.add
  split
  · rename_i h; rw [h]; rfl
  · rfl
def intOf (v : Option Value) : Int := match v with
  | some (.int _ n) => n
  | _ => 0
end Go.Proofs.YtmccafjblhbmkaaGreat
set_option maxRecDepth 100000
set_option linter.unusedSimpArgs false
set_option linter.unusedVariables false
namespace Go.Proofs.YtmccafjblhbmkaaGreat
open Go Go.RowKit Go.ChangeShapes Go.WideShapes Go.ChangeAt
/-- An argument that is a slice of bytes. -/
theorem open_by {H : Type} {enc : TypeId × Value → H} {W : World} {b0 : Nat} {sp : Nat → Bool} {held : Bool} {t e : Nat} {v : Value} {d : DataW H} {ps : List MemPlace} (ht : Tryz.prog.underlying t = some (.slice e)) (hc : Tryz.prog.cellsOf e = 1) (he : Tryz.prog.underlying e = some (.int .u8))
    (hval : Value.okWide Tryz.prog W .any b0 t v) (hd : DataW.Trod enc Tryz.prog W 0 sp held t v d ps) :
    v = .slice none 0 0 ∨ ∃ (b off len cap : Nat) (L : List Int), v = .slice (some ⟨b, off, none⟩) len cap ∧ len ≤ cap ∧ cap ≤ maxLen ∧ L.length = len ∧ (∀ x ∈ L, 0 ≤ x ∧ x ≤ 255) ∧ SObj.sat (fun _ => b) W b (.winU off L) := by
  unfold Value.okWide at hval
  rw [ht] at hval
  simp only [Cell.okWide] at hval
  rw [ht] at hval
  obtain ⟨fuel, hd⟩ := hd
  rcases DataW.trod_slice ht hd with ⟨h0, _⟩ | ⟨a, len, cap, elems, rest, n, _, hcs, _, _, hl, hm, hlen, hel, _⟩
  · left
    cases v <;> simp_all [Value.cells, Cell.ok]
  · right
    have hv : v = .slice (some a) len cap := by
      cases v <;> simp_all [Value.cells, Cell.ok]
    subst hv
    simp only [Cell.ok, ht] at hval
    obtain ⟨_, _, _, hsp, row, cells, hshape, _⟩ := hval
    obtain ⟨b, off, spot⟩ := a
    simp only at hsp hshape
    subst hsp
    unfold World.shape? at hshape
    split at hshape
    · rename_i c el fz hb
      have each : ∀ k, k < len → ∃ n, c[off + k]? = some (.int .u8 n) ∧ (0 ≤ n ∧ n ≤ 255) := by
        intro k hk
        have h1 := hel k hk
        obtain ⟨y, hy⟩ : ∃ y, elems[k]? = some y := ⟨elems[k]'(by omega), List.getElem?_eq_getElem (by omega)⟩
        rw [hy, hc, Option.bind_eq_some_iff] at h1
        obtain ⟨cs, hcs, h1⟩ := h1
        obtain ⟨m, rfl, _, hw⟩ := DataW.trod_int he h1
        have h2 := (World.cells?_some hcs).2.2 0 (by omega)
        rw [add_off, add_off] at h2
        unfold World.cell? at h2
        simp only [hb] at h2
        refine ⟨m, by simpa using h2, by simpa [Lit.wf, IntKind.min, IntKind.max, IntKind.signed, IntKind.bits] using hw⟩
      refine ⟨b, off, len, cap, (List.range len).map fun k => intOf c[off + k]?, rfl, hl, hm, by simp, fun x hx => ?_, c, el, fz, hb, fun i hi => ?_⟩
      · obtain ⟨k, hk, rfl⟩ := List.mem_map.1 hx
        obtain ⟨m, h1, h2⟩ := each k (List.mem_range.1 hk)
        rw [h1]; exact h2
      · simp at hi
        obtain ⟨m, h1, h2⟩ := each i hi
        rw [h1]
        simp [List.getD, hi, h1, intOf]
    · cases hshape
theorem HR.winU_one {b off : Nat} {L : List Int} {W : World} (h : SObj.sat (fun _ => b) W b (.winU off L)) : HR (fun _ => b) [(0, .winU off L)] W where
  at_ := fun k o hk _ => by
    rw [hget_cons] at hk
    split at hk
    · cases hk; exact h
    · cases hk
  inj := fun k j o o' h1 _ h2 _ _ => by
    rw [hget_cons] at h1 h2
    split at h1
    · split at h2
      · omega
      · cases h2
    · cases h1
end Go.Proofs.YtmccafjblhbmkaaGreat
