/- Walks: searches by sets of forms. -/
import Derived.Test.YtdnechlmkbchaaaSetA
set_option maxRecDepth 100000
set_option linter.unusedSimpArgs false
set_option linter.unusedVariables false
namespace Go.Proofs.Ytdnechlmkbchaaa
open Go Go.RowKit
/-- The cells of a set. -/
def SN.cel (s : SN) (len : Nat) : List SV := [.slice s.f 0 len s.cf, .slice s.q 0 len s.cq, .slice s.u 0 1009 1009]
theorem SN.val_cel (s : SN) (len : Nat) : s.val len = .stc (s.cel len) := rfl
theorem SetH.Kbd {s : SN} {A : Nat → Prop} {m : Nat} {H : Heap} {K : List (List Int)} {P : List Int} (h : SetH s A m H K P) {i : Nat} (hi : i < K.length) : i * 24 + 24 ≤ (K.flatten ++ s.J1).length ∧ List.take 24 (List.drop (i * 24) (K.flatten ++ s.J1)) = K.getD i [] ∧ (K.getD i []).length = 24 ∧ rackB (K.getD i []) = true := by
  have h1 := flat_len h.ok.all24
  exact ⟨by rw [List.length_append, h1]; omega, flat_get h.ok.all24 hi s.J1, h.ok _ (getD_mem hi)⟩
theorem SetH.more {s : SN} {A A' : Nat → Prop} {m n : Nat} {H : Heap} {K : List (List Int)} {P : List Int} (h : SetH s A m H K P) (hwH : hwf n H) (hA : ∀ k, A' k → A k ∨ n ≤ k) : SetH s A' m H K P := by
  have lt : ∀ k o, hget H k = some o → k < n := fun k o hk => (hwH k o hk).1
  have g : ∀ k o, hget H k = some o → ¬ A k → ¬ A' k := fun k o hk hn ha => by
    rcases hA k ha with h1 | h1
    · exact hn h1
    · have := lt k o hk; omega
  exact { h with b := fun c hc hb => ⟨(h.b c hc hb).1, (h.b c hc hb).2.1, (h.b c hc hb).2.2.1, (h.b c hc hb).2.2.2.1, (h.b c hc hb).2.2.2.2.1, g _ _ (h.b c hc hb).1 (h.b c hc hb).2.2.2.2.2⟩, nA := ⟨g _ _ h.f h.nA.1, g _ _ h.q h.nA.2.1, g _ _ h.u h.nA.2.2⟩ }
/-- Blocks that a walk holds beside a set. -/
structure MoreI (A : Nat → Prop) (m n : Nat) (H0 : Heap) (K : List (List Int)) (P : List Int) (s : SN) (H : Heap) (n' : Nat) : Prop where
  le : n + 2 ≤ n'
  wf : hwf n' H
  set : SetH s (fun k => A k ∨ k = n ∨ k = n + 1) m H K P
  bx : hget H n = some (.cells [.slice s.f 0 K.length s.cf, .slice s.q 0 K.length s.cq, .slice s.u 0 1009 1009] 60)
  rt : hget H (n + 1) = some (.cells [.nils, .nils, .nils] 60)
  fr : Frm A H0 H
theorem MoreI.put {A : Nat → Prop} {m n n' n2 : Nat} {H0 H Hc H2 : Heap} {K K2 : List (List Int)} {P P2 : List Int} {s s2 : SN} (hI : MoreI A m n H0 K P s H n') (hA : ∀ k, A k → k ≠ n) (hE : Ext H Hc) (h1 : n' ≤ n2) (h2 : hwf n2 H2)
    (h3 : SetH s2 (fun k => A k ∨ k = n ∨ k = n + 1) m H2 K2 P2) (h4 : Frm (fun k => A k ∨ k = n ∨ k = n + 1) Hc H2) :
    MoreI A m n H0 K2 P2 s2 ((n, .cells [.slice s2.f 0 K2.length s2.cf, .slice s2.q 0 K2.length s2.cq, .slice s2.u 0 1009 1009] 60) :: H2) n2 := by
  obtain ⟨hle, hwf, hset, hbx, hrt, hfr⟩ := hI
  obtain ⟨v1, v2, v3⟩ := h3.wf h2
  refine ⟨by omega, hwf_cons h2 (by omega) (by simp [SObj.wf, wfL, SV.wf]; omega), h3.upd _ (.inr (.inl rfl)), by simp [hget_cons], ?_, fun k o hk ho => ?_⟩
  · rw [hget_cons, if_neg (by omega)]
    exact h4 (n + 1) _ (.inr (.inr rfl)) (hE _ _ hrt)
  · rw [hget_cons, if_neg (hA k hk)]
    exact h4 k o (.inl hk) (hE _ _ (hfr k o hk ho))
theorem nwF_app_len (K xs ys : List (List Int)) : (nwF K xs).length ≤ (nwF K (xs ++ ys)).length := by
  refine snoc_ind (P := fun ys => (nwF K xs).length ≤ (nwF K (xs ++ ys)).length) (by simp) (fun l x ih => ?_) ys
  rw [← List.append_assoc, nwF_snoc, nwS]
  split
  · exact ih
  · rw [List.length_append]; omega
theorem upU_pre (Q : List (List Int)) (a : Nat) : ∃ r, Q.flatMap sucU = upU Q a 0 ++ r := by
  refine ⟨(Q.drop a).flatMap sucU, ?_⟩
  unfold upU
  rw [List.take_zero, List.append_nil, ← List.flatMap_append, List.take_append_drop]
theorem upU_le (Q : List (List Int)) (a j : Nat) : (upU Q a j).length ≤ 36 * a + j := upU_len Q a j
theorem l3More_vc (s : SN) (A : Nat → Prop) (m n fr : Nat) (D : Int) (H : Heap) (K0 : List (List Int)) (P0 : List Int) (h : SetH s A m H K0 P0) (hA : ∀ k, A k → k < n) (hwH : hwf n H) (hfr : fr ≤ K0.length) (hk6 : K0.length ≤ 600) (hD : 0 ≤ D ∧ D ≤ 100000) (hPd : ∀ i, fr ≤ i → i < K0.length → P0.getD i 0 = D) :
    codeVC (⟨Try.prog, tys, [(48, l2Pour_F), (49, l3Form_F)], [(47, l2Useful_F), (131, l3Put_F)], true, true, m, [131], []⟩ : Cx) n (Try.f102.body.getD .skip) (argS 0 [s.val K0.length, .int fr]) H n
      (retK tys Try.f102.results.toList fun v H' n' => ∃ (s' : SN) (K' : List (List Int)) (P' : List Int), v = s'.val K'.length ∧ SetH s' A m H' K' P' ∧ Frm A H H' ∧ ((K' = K0 ++ nwU K0 (K0.drop fr) ∧ P' = P0 ++ List.replicate (nwU K0 (K0.drop fr)).length (D + 1)) ∨ (600 < K'.length ∧ 600 < (K0 ++ nwU K0 (K0.drop fr)).length))) := by
  obtain ⟨w1, w2, w3⟩ := h.wf hwH
  have hmn : m ≤ n := by have := h.m.1; omega
  have hE : ∀ o1 o2 : SObj, Ext H ((n + 1, o1) :: (n, o2) :: H) := fun o1 o2 => Ext.cons hwH (by omega) (Ext.cons hwH (by omega) (Ext.refl H))
  have hpl := h.pl
  have hQo : okU (K0.drop fr) := fun x hx => h.ok x (List.mem_of_mem_drop hx)
  have hQl : (K0.drop fr).length = K0.length - fr := List.length_drop ..
  have hQg : ∀ a, (K0.drop fr).getD a [] = K0.getD (fr + a) [] := fun a => by simp [List.getD]
  rw [SN.val_cel]
  unfold SN.cel
  simp -implicitDefEqProofs only [Try.f102, Option.getD_some, argS, Nat.add_assoc, add_self, self_add, add_add, ZB, Int.reduceToNat, Nat.reduceLT, Nat.reduceLeDiff, Int.reduceLE, Int.reduceLT, Nat.reduceEqDiff, Nat.reduceSub, SB, SV.known, packR, ne_eq, reduceCtorEq, Nat.reduceEqDiff, ↓reduceIte, if_true, if_false, eq_self, Nat.reduceAdd, Nat.reduceMul, Nat.reduceSub, forall_const, oneCellS, litOne, flat1, Kd.isSca, flat, TYB]
  generalize hQ : K0.drop fr = Q at *
  have nlen : ∀ a j, (nwF K0 (upU Q a j)).length ≤ 36 * a + j := fun a j => Nat.le_trans (nwF_len _ _) (upU_len Q a j)
  refine loop_introN (fun s : Nat × SN × Heap × Nat => [(6, .int ((fr + s.1 : Nat) : Int)), (5, .int K0.length), (4, .ptr (n + 1) 0), (2, .ptr n 0)]) (fun s => s.2.2.1) (fun s => s.2.2.2)
    (fun s => s.1 ≤ Q.length ∧ MoreI A m n H (K0 ++ nwF K0 (upU Q s.1 0)) (P0 ++ List.replicate (nwF K0 (upU Q s.1 0)).length (D + 1)) s.2.1 s.2.2.1 s.2.2.2) (fun s => Q.length - s.1) ?_ ?_
  · have hw2 : hwf (n + 2) ((n + 1, .cells [.nils, .nils, .nils] 60) :: (n, .cells [.slice s.f 0 K0.length s.cf, .slice s.q 0 K0.length s.cq, .slice s.u 0 1009 1009] 60) :: H) :=
      hwf_cons (hwf_cons (hwf_mono (by omega) hwH) (by omega) (by simp [SObj.wf, wfL, SV.wf]; omega)) (by omega) (by simp [SObj.wf, wfL, SV.wf])
    refine ⟨(0, s, (n + 1, .cells [.nils, .nils, .nils] 60) :: (n, .cells [.slice s.f 0 K0.length s.cf, .slice s.q 0 K0.length s.cq, .slice s.u 0 1009 1009] 60) :: H, n + 2), ⟨Nat.zero_le _, ?_⟩, Sub.same ?_ ?_ hw2 (by show n ≤ n + 2; omega)⟩
    · simp only [upU_zero, nwF_nil, List.length_nil, List.replicate_zero, List.append_nil]
      exact ⟨by omega, hw2, (h.more hwH fun k hk => hk.elim .inl fun hk => .inr (by omega)).mono (hE _ _), by simp [hget_cons], by simp [hget_cons], fun k o _ hk => hE _ _ k o hk⟩
    · simp only [Nat.add_zero, LB, subS, subH, wfS, wfH, SV.ren, renL, SObj.ren, SV.wf, SObj.wf, wfL, SV.known, Nat.reduceEqDiff, ↓reduceIte, if_true, if_false, eq_self, Nat.reduceAdd, Nat.reduceLT, Nat.reduceLeDiff, implies_true, reduceCtorEq, forall_const]
    · simp [subS, subH, wfS, wfH, SV.ren, renL, SObj.ren, SV.wf, SObj.wf, wfL, sget_cons, hget_cons] <;> omega
  · rintro ⟨a, s', H', n'⟩ ⟨ha, hI⟩
    simp only at ha hI
    obtain ⟨hle, hwf', hset, hbx, hrt, hfrm⟩ := hI
    obtain ⟨v1, v2, v3⟩ := hset.wf hwf'
    have hna := nlen a 0
    by_cases hlt : a < Q.length
    · have hil : ((fr + a : Nat) : Int) < K0.length := by omega
      by_cases h6 : (K0 ++ nwF K0 (upU Q a 0)).length ≤ 600
      · have h6' : ((K0 ++ nwF K0 (upU Q a 0)).length : Int) ≤ 600 := by omega
        have hf := hset.f
        have hKl : (K0 ++ nwF K0 (upU Q a 0)).length = K0.length + (nwF K0 (upU Q a 0)).length := List.length_append
        obtain ⟨lQ, eQ, x24, xr⟩ := hset.Kbd (i := fr + a) (by omega)
        have gK : (K0 ++ nwF K0 (upU Q a 0)).getD (fr + a) [] = Q.getD a [] := by
          rw [hQg, List.getD_eq_getElem?_getD, List.getElem?_append_left (by omega), ← List.getD_eq_getElem?_getD]
        rw [gK] at eQ x24 xr
        have i0 : 0 ≤ ((fr + a : Nat) : Int) := by omega
        have iK : ((fr + a : Nat) : Int) < ((K0 ++ nwF K0 (upU Q a 0)).length : Int) := by omega
        have unext := upU_next Q hlt
        have usn := fun q (hq : q < sucC (Q.getD a [])) => upU_snoc Q hq
        have okUp := fun q => upU_ok hQo (j := q) (.inl hlt)
        generalize hxx : Q.getD a [] = x at *
        have hnp := ulF_sucC x
        have hnp36 := sucC_le x
        generalize hsc : sucC x = np at *
        have ehp : (ulF x).length / 2 = np := by omega
        simp -implicitDefEqProofs only [lk_normal, l2Useful_F, freshK, Wrap.ap, hbx, hf, hil, h6', i0, iK, lQ, eQ, x24, xr, ehp, ZB, Int.reduceToNat, Nat.reduceLT, Nat.reduceLeDiff, Int.reduceLE, Int.reduceLT, Nat.reduceEqDiff, Nat.reduceSub, SB, SV.known, packR, ne_eq, reduceCtorEq, Nat.reduceEqDiff, ↓reduceIte, if_true, if_false, eq_self, Nat.reduceAdd, Nat.reduceMul, Nat.reduceSub, forall_const, oneCellS, litOne, flat1, Kd.isSca, flat, TYB]
        intro cp jp hjp
        refine loop_introN (fun s : Nat × SN × Heap × Nat => [(8, .int s.1), (7, .slice n' 0 np cp), (6, .int ((fr + a : Nat) : Int)), (5, .int K0.length), (4, .ptr (n + 1) 0), (2, .ptr n 0)]) (fun s => s.2.2.1) (fun s => s.2.2.2)
          (fun s => s.1 ≤ np ∧ MoreI (fun k => A k ∨ k = n') m n H (K0 ++ nwF K0 (upU Q a s.1)) (P0 ++ List.replicate (nwF K0 (upU Q a s.1)).length (D + 1)) s.2.1 s.2.2.1 s.2.2.2 ∧ hget s.2.2.1 n' = some (.ints (ulF x ++ jp) 51)) (fun s => np - s.1) ?_ ?_
        · have hw2 : hwf (n' + 1) ((n', .ints (ulF x ++ jp) 51) :: H') := hwf_cons (hwf_mono (by omega) hwf') (by omega) trivial
          have hE' : Ext H' ((n', .ints (ulF x ++ jp) 51) :: H') := Ext.cons hwf' (by omega) (Ext.refl H')
          refine ⟨(0, s', (n', .ints (ulF x ++ jp) 51) :: H', n' + 1), ⟨Nat.zero_le _, ⟨show n + 2 ≤ n' + 1 by omega, hw2, (hset.more hwf' fun k hk => ?_).mono hE', hE' _ _ hbx, hE' _ _ hrt, fun k o hk ho => ?_⟩, by simp [hget_cons]⟩, Sub.same ?_ ?_ hw2 (by show n ≤ n' + 1; omega)⟩
          · rcases hk with (hk | hk) | hk | hk
            · exact .inl (.inl hk)
            · exact .inr (by omega)
            · exact .inl (.inr (.inl hk))
            · exact .inl (.inr (.inr hk))
          · rcases hk with hk | hk
            · exact hE' _ _ (hfrm k o hk ho)
            · have := (hwH k o ho).1; omega
          · simp only [LB, subS, subH, wfS, wfH, SV.ren, renL, SObj.ren, SV.wf, SObj.wf, wfL, SV.known, Nat.reduceEqDiff, ↓reduceIte, if_true, if_false, eq_self, Nat.reduceAdd, Nat.reduceLT, Nat.reduceLeDiff, implies_true, reduceCtorEq, forall_const]
          · simp [subS, subH, wfS, wfH, SV.ren, renL, SObj.ren, SV.wf, SObj.wf, wfL, sget_cons, hget_cons] <;> omega
        · rintro ⟨q, s1, H1, n1⟩ ⟨hq, hI, hall⟩
          simp only at hq hI hall
          obtain ⟨hle1, hwf1, hset1, hbx1, hrt1, hfrm1⟩ := hI
          obtain ⟨v4, v5, v6⟩ := hset1.wf hwf1
          have hnq := nlen a q
          have lenP : (ulF x ++ jp).length = cp * 2 := by rw [List.length_append]; omega
          have hn1 := (hwf1 _ _ hall).1
          have hn2 := (hwf1 _ _ hbx1).1
          by_cases hqn : q < np
          · have hql : (q : Int) < np := by omega
            have hf1 := hset1.f
            have hq1 := hset1.q
            have hql1 := hset1.ql
            have hpl1 := hset1.pl
            have hKl1 : (K0 ++ nwF K0 (upU Q a q)).length = K0.length + (nwF K0 (upU Q a q)).length := List.length_append
            obtain ⟨lQ1, eQ1, _, _⟩ := hset1.Kbd (i := fr + a) (by omega)
            have gK1 : (K0 ++ nwF K0 (upU Q a q)).getD (fr + a) [] = x := by
              rw [← hxx, hQg, List.getD_eq_getElem?_getD, List.getElem?_append_left (by omega), ← List.getD_eq_getElem?_getD]
            rw [gK1] at eQ1
            have iK1 : ((fr + a : Nat) : Int) < ((K0 ++ nwF K0 (upU Q a q)).length : Int) := by omega
            have gP1 : (P0 ++ List.replicate (nwF K0 (upU Q a q)).length (D + 1) ++ s1.J2).getD (fr + a) 0 = D := by
              rw [List.append_assoc, getD_app _ _ _ (by omega)]
              exact hPd _ (by omega) (by omega)
            have lP1 : fr + a < (P0 ++ List.replicate (nwF K0 (upU Q a q)).length (D + 1) ++ s1.J2).length := by rw [List.length_append]; omega
            obtain ⟨a0, b0⟩ := ul_bd (R := x) (q := q) (by omega)
            have eP0 : (ulF x ++ jp).getD (q * 2) 0 = (ulF x).getD (q * 2) 0 := getD_app _ _ _ (by omega)
            have eP1 : (ulF x ++ jp).getD (q * 2 + 1) 0 = (ulF x).getD (q * 2 + 1) 0 := getD_app _ _ _ (by omega)
            have tkR : List.take 24 x = x := List.take_of_length_le (by omega)
            have pl := pourF_len x24 ((ulF x).getD (q * 2) 0).toNat ((ulF x).getD (q * 2 + 1) 0).toNat
            have tkp := List.take_of_length_le (Nat.le_of_eq pl)
            have xl := diX_len x24 q
            have xrr := diX_rack x24 xr (q := q) (by omega)
            have ex : frm (pourF x ((ulF x).getD (q * 2) 0).toNat ((ulF x).getD (q * 2 + 1) 0).toNat) = diX x q := rfl
            have us := usn q hqn
            have iD : In64 (D + 1) := by unfold In64; omega
            have xn := ne_add hn2; have xn' := ne_add' hn2; have xm := ne_add hn1; have xm' := ne_add' hn1; have xf := ne_add v4; have xf' := ne_add' v4; have xq := ne_add v5; have xq' := ne_add' v5
            simp -implicitDefEqProofs only [lk_normal, l2Pour_F, l3Form_F, l3Put_F, hbx1, hall, hf1, hq1, hql, i0, iK1, lQ1, eQ1, lenP, eP0, eP1, gP1, lP1, iD, x24, xr, tkR, a0, b0, pl, tkp, ex, xl, xrr, xn, xn', xm, xm', xf, xf', xq, xq', Nat.add_assoc, add_self, self_add, add_add, ZB, Int.reduceToNat, Nat.reduceLT, Nat.reduceLeDiff, Int.reduceLE, Int.reduceLT, Nat.reduceEqDiff, Nat.reduceSub, SB, SV.known, packR, ne_eq, reduceCtorEq, Nat.reduceEqDiff, ↓reduceIte, if_true, if_false, eq_self, Nat.reduceAdd, Nat.reduceMul, Nat.reduceSub, forall_const, oneCellS, litOne, flat1, Kd.isSca, flat, TYB]
            have hI1 : MoreI (fun k => A k ∨ k = n') m n H (K0 ++ nwF K0 (upU Q a q)) (P0 ++ List.replicate (nwF K0 (upU Q a q)).length (D + 1)) s1 H1 n1 := ⟨hle1, hwf1, hset1, hbx1, hrt1, hfrm1⟩
            have hA1 : ∀ k, (A k ∨ k = n') → k ≠ n := fun k hk => by
              rcases hk with hk | hk
              · have := hA k hk; omega
              · omega
            have hE1 : ∀ o1 o2 : SObj, Ext H1 ((n1, o1) :: (n1, o2) :: H1) := fun o1 o2 => Ext.cons hwf1 (by omega) (Ext.cons hwf1 (by omega) (Ext.refl H1))
            refine ⟨by omega, by omega, by omega, by omega, by omega, s1, fun k => (A k ∨ k = n') ∨ k = n ∨ k = n + 1, K0 ++ nwF K0 (upU Q a q), P0 ++ List.replicate (nwF K0 (upU Q a q)).length (D + 1), rfl, hset1.mono (hE1 _ _), fun k hk => ?_, by omega, fun hin H2 n2 h1 h2 h3 h4 => ?_, fun hin s2 H2 n2 h1 h2 h3 h4 => ?_⟩
            · rcases hk with (hk | hk) | hk | hk
              · have := hA k hk; omega
              · omega
              · omega
              · omega
            · have hb2 := h4 n _ (.inr (.inl rfl)) (hE1 _ _ _ _ hbx1)
              have ha2 := h4 n' _ (.inl (.inr rfl)) (hE1 _ _ _ _ hall)
              have hI2 := hI1.put hA1 (hE1 _ _) (by omega) h2 h3 h4
              have eo := nwF_old (by simpa using hin)
              rw [← us] at eo
              unfold SN.val
              simp -implicitDefEqProofs only [lk_normal, hb2, ZB, Int.reduceToNat, Nat.reduceLT, Nat.reduceLeDiff, Int.reduceLE, Int.reduceLT, Nat.reduceEqDiff, Nat.reduceSub, SB, SV.known, packR, ne_eq, reduceCtorEq, Nat.reduceEqDiff, ↓reduceIte, if_true, if_false, eq_self, Nat.reduceAdd, Nat.reduceMul, Nat.reduceSub, forall_const, oneCellS, litOne, flat1, Kd.isSca, flat, TYB]
              refine ⟨by omega, by unfold In64; omega, (q + 1, s1, _, n2), ⟨by show q + 1 ≤ np; omega, by rw [eo]; exact hI2, ?_⟩, by show np - (q + 1) < np - q; omega, Sub.same ?_ ?_ hI2.wf (by show n ≤ n2; omega)⟩
              · show hget (_ :: H2) n' = _
                rw [hget_cons, if_neg (by omega)]; exact ha2
              · simp only [LB, subS, subH, wfS, wfH, SV.ren, renL, SObj.ren, SV.wf, SObj.wf, wfL, SV.known, Nat.reduceEqDiff, ↓reduceIte, if_true, if_false, eq_self, Nat.reduceAdd, Nat.reduceLT, Nat.reduceLeDiff, implies_true, reduceCtorEq, forall_const]
              · simp [subS, subH, wfS, wfH, SV.ren, renL, SObj.ren, SV.wf, SObj.wf, wfL, sget_cons, hget_cons] <;> omega
            · have hb2 := h4 n _ (.inr (.inl rfl)) (hE1 _ _ _ _ hbx1)
              have ha2 := h4 n' _ (.inl (.inr rfl)) (hE1 _ _ _ _ hall)
              have hI2 := hI1.put hA1 (hE1 _ _) (by omega) h2 h3 h4
              have eo := nwF_new hin
              rw [← us] at eo
              have e5 : K0 ++ nwF K0 (upU Q a (q + 1)) = K0 ++ nwF K0 (upU Q a q) ++ [diX x q] := by rw [eo, List.append_assoc]
              have e6 : P0 ++ List.replicate (nwF K0 (upU Q a (q + 1))).length (D + 1) = P0 ++ List.replicate (nwF K0 (upU Q a q)).length (D + 1) ++ [D + 1] := by
                rw [eo, List.length_append, List.length_singleton, List.replicate_succ', List.append_assoc]
              have e7 : (K0 ++ nwF K0 (upU Q a q) ++ [diX x q]).length = (K0 ++ nwF K0 (upU Q a q)).length + 1 := by rw [List.length_append]; rfl
              rw [e7] at hI2
              unfold SN.val
              simp -implicitDefEqProofs only [lk_normal, hb2, ZB, Int.reduceToNat, Nat.reduceLT, Nat.reduceLeDiff, Int.reduceLE, Int.reduceLT, Nat.reduceEqDiff, Nat.reduceSub, SB, SV.known, packR, ne_eq, reduceCtorEq, Nat.reduceEqDiff, ↓reduceIte, if_true, if_false, eq_self, Nat.reduceAdd, Nat.reduceMul, Nat.reduceSub, forall_const, oneCellS, litOne, flat1, Kd.isSca, flat, TYB]
              refine ⟨by omega, by unfold In64; omega, (q + 1, s2, _, n2), ⟨by show q + 1 ≤ np; omega, by rw [e5, e6]; exact hI2, ?_⟩, by show np - (q + 1) < np - q; omega, Sub.same ?_ ?_ hI2.wf (by show n ≤ n2; omega)⟩
              · show hget (_ :: H2) n' = _
                rw [hget_cons, if_neg (by omega)]; exact ha2
              · simp only [LB, subS, subH, wfS, wfH, SV.ren, renL, SObj.ren, SV.wf, SObj.wf, wfL, SV.known, Nat.reduceEqDiff, ↓reduceIte, if_true, if_false, eq_self, Nat.reduceAdd, Nat.reduceLT, Nat.reduceLeDiff, implies_true, reduceCtorEq, forall_const]
              · simp [subS, subH, wfS, wfH, SV.ren, renL, SObj.ren, SV.wf, SObj.wf, wfL, sget_cons, hget_cons] <;> omega
          · have hql : ¬ (q : Int) < np := by omega
            obtain rfl : q = np := by omega
            simp -implicitDefEqProofs only [lk_normal, hql, ZB, Int.reduceToNat, Nat.reduceLT, Nat.reduceLeDiff, Int.reduceLE, Int.reduceLT, Nat.reduceEqDiff, Nat.reduceSub, SB, SV.known, packR, ne_eq, reduceCtorEq, Nat.reduceEqDiff, ↓reduceIte, if_true, if_false, eq_self, Nat.reduceAdd, Nat.reduceMul, Nat.reduceSub, forall_const, oneCellS, litOne, flat1, Kd.isSca, flat, TYB]
            rw [unext] at hset1 hbx1
            have hI3 : MoreI A m n H (K0 ++ nwF K0 (upU Q (a + 1) 0)) (P0 ++ List.replicate (nwF K0 (upU Q (a + 1) 0)).length (D + 1)) s1 H1 n1 :=
              ⟨hle1, hwf1, hset1.weak fun k hk => hk.elim (fun h => .inl (.inl h)) .inr, hbx1, hrt1, fun k o hk ho => hfrm1 k o (.inl hk) ho⟩
            refine ⟨by unfold In64; omega, (a + 1, s1, H1, n1), ⟨by show a + 1 ≤ Q.length; omega, hI3⟩, by show Q.length - (a + 1) < Q.length - a; omega, Sub.same ?_ ?_ hwf1 (by show n ≤ n1; omega)⟩
            · simp only [show ((fr + (a + 1) : Nat) : Int) = ((fr + a : Nat) : Int) + 1 by omega, LB, subS, subH, wfS, wfH, SV.ren, renL, SObj.ren, SV.wf, SObj.wf, wfL, SV.known, Nat.reduceEqDiff, ↓reduceIte, if_true, if_false, eq_self, Nat.reduceAdd, Nat.reduceLT, Nat.reduceLeDiff, implies_true, reduceCtorEq, forall_const]
            · simp [subS, subH, wfS, wfH, SV.ren, renL, SObj.ren, SV.wf, SObj.wf, wfL, sget_cons, hget_cons] <;> omega
      · have h6' : ¬ ((K0 ++ nwF K0 (upU Q a 0)).length : Int) ≤ 600 := by omega
        simp -implicitDefEqProofs only [lk_normal, hbx, hrt, hil, h6', ZB, Int.reduceToNat, Nat.reduceLT, Nat.reduceLeDiff, Int.reduceLE, Int.reduceLT, Nat.reduceEqDiff, Nat.reduceSub, SB, SV.known, packR, ne_eq, reduceCtorEq, Nat.reduceEqDiff, ↓reduceIte, if_true, if_false, eq_self, Nat.reduceAdd, Nat.reduceMul, Nat.reduceSub, forall_const, oneCellS, litOne, flat1, Kd.isSca, flat, TYB]
        obtain ⟨r, hr⟩ := upU_pre Q a
        have hl := nwF_app_len K0 (upU Q a 0) r
        rw [← hr] at hl
        exact ⟨by omega, s', _, _, rfl, (hset.upd _ (.inr (.inr rfl))).weak (fun k h => .inl h), fun k o ha' hk => by
          have := hA k ha'
          rw [hget_cons, if_neg (by omega)]
          exact hfrm k o ha' hk, .inr ⟨by omega, by unfold nwU; rw [List.length_append] at h6 ⊢; omega⟩⟩
    · have hil : ¬ ((fr + a : Nat) : Int) < K0.length := by omega
      obtain rfl : a = Q.length := by omega
      simp -implicitDefEqProofs only [lk_normal, hbx, hrt, hil, ZB, Int.reduceToNat, Nat.reduceLT, Nat.reduceLeDiff, Int.reduceLE, Int.reduceLT, Nat.reduceEqDiff, Nat.reduceSub, SB, SV.known, packR, ne_eq, reduceCtorEq, Nat.reduceEqDiff, ↓reduceIte, if_true, if_false, eq_self, Nat.reduceAdd, Nat.reduceMul, Nat.reduceSub, forall_const, oneCellS, litOne, flat1, Kd.isSca, flat, TYB]
      exact ⟨by omega, s', _, _, rfl, (hset.upd _ (.inr (.inr rfl))).weak (fun k h => .inl h), fun k o ha' hk => by
          have := hA k ha'
          rw [hget_cons, if_neg (by omega)]
          exact hfrm k o ha' hk, .inl ⟨by rw [upU_end]; rfl, by rw [upU_end]; rfl⟩⟩
def l3More_F : List SV → Heap → Nat → Nat → K1 → Prop
  | [v, .int fr], H, n, m, κ => ∃ (s : SN) (A : Nat → Prop) (K : List (List Int)) (P : List Int) (f : Nat) (D : Int), fr = (f : Int) ∧ v = s.val K.length ∧ SetH s A m H K P ∧ (∀ k, A k → k < n) ∧ f ≤ K.length ∧ K.length ≤ 600 ∧ (0 ≤ D ∧ D ≤ 100000) ∧ (∀ i, f ≤ i → i < K.length → P.getD i 0 = D) ∧
      ∀ (s' : SN) (K' : List (List Int)) (P' : List Int) H' n', n ≤ n' → hwf n' H' → SetH s' A m H' K' P' → Frm A H H' → ((K' = K ++ nwU K (K.drop f) ∧ P' = P ++ List.replicate (nwU K (K.drop f)).length (D + 1)) ∨ (600 < K'.length ∧ 600 < (K ++ nwU K (K.drop f)).length)) → κ (s'.val K'.length) H' n'
  | _, _, _, _, _ => False
--@tbl l3More = spec.l3More
theorem l3More_T : ∀ args H n m κ, l3More_F args H n m κ → GenOK Try.prog 102 args H n m κ := by
  intro args H n m κ h
  unfold l3More_F at h
  split at h
  · rename_i v fr
    obtain ⟨s, A, K, P, f, D, rfl, rfl, hS, hA, hf, hk, hD, hP, h1⟩ := h
    exact gen_direct (X := ⟨Try.prog, tys, [(48, l2Pour_F), (49, l3Form_F)], [(47, l2Useful_F), (131, l3Put_F)], true, true, m, [131], []⟩) (show FnOK Try.prog 102 Try.f102 (Try.f102.body.getD .skip) [131] [] from ⟨Try.func102, rfl, by kernel_rfl, by kernel_rfl⟩) ⟨tys_ok, .cons l2Pour_T (.cons l3Form_T .nil), .cons l2Useful_T (.cons l3Put_T .nil), mixed⟩ rfl (Nat.le_of_ble_eq_true rfl) (fun hwH hwa => l3More_vc s A m n f D H K P hS hA hwH hf hk hD hP) fun hwH v H' n' hψ h3 h4 h5 => by
      obtain ⟨s', K', P', rfl, hS', hF, hO⟩ := hψ
      exact h1 s' K' P' H' n' h3 h4 hS' hF hO
  · exact h.elim
/-- Where the last layer begins. -/
def frA (R : List Int) : Nat → Nat
  | 0 => 0
  | d + 1 => (kn R d).length
theorem kn_drop (R : List Int) : ∀ d, (kn R d).drop (frA R d) = lay R d
  | 0 => rfl
  | d + 1 => by
    show (kn R d ++ lay R (d + 1)).drop (kn R d).length = _
    exact List.drop_left' rfl
theorem frA_le (R : List Int) : ∀ d, frA R d + (lay R d).length = (kn R d).length
  | 0 => rfl
  | d + 1 => by rw [kn_len]; rfl
theorem lvl_at (R : List Int) : ∀ d i, frA R d ≤ i → i < (kn R d).length → (lvl R d).getD i 0 = (d : Int)
  | 0, i, _, h => by
    obtain rfl : i = 0 := by rw [kn_zero] at h; simp at h; omega
    rfl
  | d + 1, i, h1, h2 => by
    have h1' : (kn R d).length ≤ i := h1
    rw [kn_len] at h2
    have hl := lvl_len R d
    rw [lvl_succ, List.getD_eq_getElem?_getD, List.getElem?_append_right (by omega), List.getElem?_replicate, if_pos (by omega)]
    rfl
theorem stp_nev (R : List Int) (d : Nat) (h6 : (kn R d).length ≤ 600) : stp nev R d = decide (lay R d = []) := by
  unfold stp ovf
  rw [decide_eq_false (by omega)]
  cases lay R d with
  | nil => rfl
  | cons x l =>
    have : (x :: l).any nev = false := by simp [nev]
    rw [this]; rfl
/-- Blocks that a walk holds beside a set of its own. -/
structure UpI (A : Nat → Prop) (m b0 b : Nat) (H0 : Heap) (K : List (List Int)) (P : List Int) (s : SN) (H : Heap) (n' : Nat) : Prop where
  le : b0 ≤ b ∧ b < n'
  wf : hwf n' H
  set : SetH s (fun k => A k ∨ k = b) m H K P
  bx : hget H b = some (.cells [.slice s.f 0 K.length s.cf, .slice s.q 0 K.length s.cq, .slice s.u 0 1009 1009] 60)
  fr : Frm A H0 H
theorem UpI.put {A : Nat → Prop} {m b0 b n' n2 : Nat} {H0 H H2 : Heap} {K K2 : List (List Int)} {P P2 : List Int} {s s2 : SN} (hI : UpI A m b0 b H0 K P s H n') (hA : ∀ k, A k → k < b) (h1 : n' ≤ n2) (h2 : hwf n2 H2)
    (h3 : SetH s2 (fun k => A k ∨ k = b) m H2 K2 P2) (h4 : Frm (fun k => A k ∨ k = b) H H2) :
    UpI A m b0 b H0 K2 P2 s2 ((b, .cells [.slice s2.f 0 K2.length s2.cf, .slice s2.q 0 K2.length s2.cq, .slice s2.u 0 1009 1009] 60) :: H2) n2 := by
  obtain ⟨hle, hwf, hset, hbx, hfr⟩ := hI
  obtain ⟨v1, v2, v3⟩ := h3.wf h2
  refine ⟨⟨hle.1, by omega⟩, hwf_cons h2 (by omega) (by simp [SObj.wf, wfL, SV.wf]; omega), h3.upd _ (.inr rfl), by simp [hget_cons], fun k o hk ho => ?_⟩
  have := hA k hk
  rw [hget_cons, if_neg (by omega)]
  exact h4 k o (.inl hk) (hfr k o hk ho)
theorem UpI.start {A : Nat → Prop} {m n0 n1 : Nat} {H0 H1 : Heap} {K : List (List Int)} {P : List Int} {s : SN} (h0 : n0 ≤ n1) (hA : ∀ k, A k → k < n1) (h2 : hwf n1 H1) (h3 : SetH s A m H1 K P) (h4 : Frm A H0 H1) (o : SObj) :
    UpI A m n0 n1 H0 K P s ((n1, .cells [.slice s.f 0 K.length s.cf, .slice s.q 0 K.length s.cq, .slice s.u 0 1009 1009] 60) :: (n1, o) :: H1) (n1 + 1) := by
  obtain ⟨v1, v2, v3⟩ := h3.wf h2
  have hw : hwf (n1 + 1) ((n1, .cells [.slice s.f 0 K.length s.cf, .slice s.q 0 K.length s.cq, .slice s.u 0 1009 1009] 60) :: (n1, o) :: H1) := by
    intro k o' hk
    rw [hget_cons] at hk
    split at hk
    · rename_i hkn; cases hk; exact ⟨by omega, by simp [SObj.wf, wfL, SV.wf]; omega⟩
    · rename_i hkn
      rw [hget_cons, if_neg hkn] at hk
      have := h2 k o' hk
      exact ⟨by omega, SObj.wf_mono (by omega) o' this.2⟩
  have hE : Ext H1 ((n1, .cells [.slice s.f 0 K.length s.cf, .slice s.q 0 K.length s.cq, .slice s.u 0 1009 1009] 60) :: (n1, o) :: H1) := Ext.cons h2 (Nat.le_refl _) (Ext.cons h2 (Nat.le_refl _) (Ext.refl H1))
  exact ⟨⟨h0, by omega⟩, hw, (h3.more h2 fun k hk => hk.elim .inl fun h => .inr (by omega)).mono hE, by simp [hget_cons], fun k o' hk ho => hE _ _ (h4 k o' hk ho)⟩
theorem l3Upto_vc (A : Nat → Prop) (m n : Nat) (H : Heap) (R : List Int) (N : Int) (hR : R.length = 24) (hr : rackB R = true) (hA : ∀ k, A k → k < n) (hmn : m ≤ n) (hwH : hwf n H) (hN : N ≤ 1000 ∧ -1 ≤ N) :
    codeVC (⟨Try.prog, tys, [], [(101, l3Start_F), (102, l3More_F)], true, true, m, [], []⟩ : Cx) n (Try.f57.body.getD .skip) (argS 0 [.arr R, .int N]) H n
      (retK tys Try.f57.results.toList fun v H' n' => ∃ (s' : SN) (K' : List (List Int)) (P' : List Int) (o : Bool) (d : Nat), v = .tup [s'.val K'.length, .bool o] ∧ SetH s' A m H' K' P' ∧ Frm A H H' ∧ (∀ k, k < d → stp nev R k = false) ∧ (N < 0 ∨ (d : Int) ≤ N) ∧
        ((o = true ∧ K' = kn R d ∧ P' = lvl R d ∧ (kn R d).length ≤ 600 ∧ ((d : Int) = N ∨ lay R d = [])) ∨ (o = false ∧ ovf R d = true))) := by
  have tkR : R.take 24 = R := List.take_of_length_le (by omega)
  simp -implicitDefEqProofs only [Try.f57, Option.getD_some, argS, l3Start_F, hR, hr, tkR, Nat.add_assoc, add_self, self_add, add_add, ZB, Int.reduceToNat, Nat.reduceLT, Nat.reduceLeDiff, Int.reduceLE, Int.reduceLT, Nat.reduceEqDiff, Nat.reduceSub, SB, SV.known, packR, ne_eq, reduceCtorEq, Nat.reduceEqDiff, ↓reduceIte, if_true, if_false, eq_self, Nat.reduceAdd, Nat.reduceMul, Nat.reduceSub, forall_const, oneCellS, litOne, flat1, Kd.isSca, flat, TYB]
  have hE0 : ∀ o1 o2 : SObj, Ext H ((n + 1, o1) :: (n, o2) :: H) := fun o1 o2 => Ext.cons hwH (by omega) (Ext.cons hwH (by omega) (Ext.refl H))
  refine ⟨by omega, fun k => A k ∨ k = n + 1, fun k hk => ?_, fun s1 H1 n1 h1 h2 h3 h4 => ?_⟩
  · rcases hk with hk | hk
    · have := hA k hk; omega
    · omega
  unfold SN.val
  have hA1 : ∀ k, (A k ∨ k = n + 1) → k < n1 := fun k hk => by
    rcases hk with hk | hk
    · have := hA k hk; omega
    · omega
  have hrt1 := h4 (n + 1) _ (.inr rfl) (by simp [hget_cons]; rfl)
  have hI0 := UpI.start (n0 := n + 2) h1 hA1 h2 h3 h4 (.cells [.nils, .nils, .nils] 60)
  simp -implicitDefEqProofs only [Nat.add_assoc, add_self, self_add, add_add, ZB, Int.reduceToNat, Nat.reduceLT, Nat.reduceLeDiff, Int.reduceLE, Int.reduceLT, Nat.reduceEqDiff, Nat.reduceSub, SB, SV.known, packR, ne_eq, reduceCtorEq, Nat.reduceEqDiff, ↓reduceIte, if_true, if_false, eq_self, Nat.reduceAdd, Nat.reduceMul, Nat.reduceSub, forall_const, oneCellS, litOne, flat1, Kd.isSca, flat, TYB]
  refine ⟨by omega, ?_⟩
  refine loop_introN (fun s : Nat × SN × Heap × Nat => [(8, .int s.1), (7, .int (frA R s.1 : Nat)), (6, .ptr n1 0), (4, .ptr (n + 1) 0), (1, .int N)]) (fun s => s.2.2.1) (fun s => s.2.2.2)
    (fun s => (∀ k, k < s.1 → stp nev R k = false) ∧ (N < 0 ∨ (s.1 : Int) ≤ N) ∧ (kn R s.1).length ≤ 600 ∧ UpI (fun k => A k ∨ k = n + 1) m (n + 2) n1 ((n + 1, .cells [.nils, .nils, .nils] 60) :: (n, .ints R 29) :: H) (kn R s.1) (lvl R s.1) s.2.1 s.2.2.1 s.2.2.2) (fun s => 700 - s.1) ?_ ?_
  · refine ⟨(0, s1, _, n1 + 1), ⟨fun k hk => absurd hk (by show ¬ k < 0; omega), by omega, by show (kn R 0).length ≤ 600; rw [kn_zero]; simp, hI0⟩, Sub.same ?_ ?_ hI0.wf (by show n ≤ n1 + 1; omega)⟩
    · simp only [frA, LB, subS, subH, wfS, wfH, SV.ren, renL, SObj.ren, SV.wf, SObj.wf, wfL, SV.known, Nat.reduceEqDiff, ↓reduceIte, if_true, if_false, eq_self, Nat.reduceAdd, Nat.reduceLT, Nat.reduceLeDiff, implies_true, reduceCtorEq, forall_const]
    · simp [subS, subH, wfS, wfH, SV.ren, renL, SObj.ren, SV.wf, SObj.wf, wfL, sget_cons, hget_cons] <;> omega
  · rintro ⟨d, s', H', n'⟩ ⟨hps, hdN, hk6, hI⟩
    simp only at hps hdN hk6 hI
    obtain ⟨hle, hwf', hset, hbx, hfrm⟩ := hI
    have hI' : UpI (fun k => A k ∨ k = n + 1) m (n + 2) n1 ((n + 1, .cells [.nils, .nils, .nils] 60) :: (n, .ints R 29) :: H) (kn R d) (lvl R d) s' H' n' := ⟨hle, hwf', hset, hbx, hfrm⟩
    have hrt := hfrm (n + 1) _ (.inr rfl) (by simp [hget_cons]; rfl)
    have hfa := frA_le R d
    have hd7 : d ≤ 601 := by
      cases d with
      | zero => omega
      | succ d => have := (pass_bound (pr := nev) (R := R) (d := d) fun k hk => hps k (by omega)).1; omega
    have hfin : ∀ o : SObj, SetH s' A m ((n + 1, o) :: H') (kn R d) (lvl R d) ∧ Frm A H ((n + 1, o) :: H') := fun o => ⟨(hset.upd o (.inl (.inr rfl))).weak fun k h => .inl (.inl h), fun k o' ha hk => by
      have := hA k ha
      rw [hget_cons, if_neg (by omega)]
      exact hfrm k o' (.inl ha) (hE0 _ _ k o' hk)⟩
    by_cases hdn : (d : Int) = N
    · simp -implicitDefEqProofs only [lk_normal, hbx, hrt, hdn, ZB, Int.reduceToNat, Nat.reduceLT, Nat.reduceLeDiff, Int.reduceLE, Int.reduceLT, Nat.reduceEqDiff, Nat.reduceSub, SB, SV.known, packR, ne_eq, reduceCtorEq, Nat.reduceEqDiff, ↓reduceIte, if_true, if_false, eq_self, Nat.reduceAdd, Nat.reduceMul, Nat.reduceSub, forall_const, oneCellS, litOne, flat1, Kd.isSca, flat, TYB]
      exact ⟨by omega, s', kn R d, lvl R d, true, d, ⟨rfl, rfl⟩, (hfin _).1, (hfin _).2, hps, hdN, .inl ⟨rfl, rfl, rfl, hk6, .inl hdn⟩⟩
    · by_cases hl0 : frA R d < (kn R d).length
      · have hil : (frA R d : Int) < ((kn R d).length : Int) := by omega
        simp -implicitDefEqProofs only [lk_normal, l3More_F, hbx, hrt, hdn, hil, ZB, Int.reduceToNat, Nat.reduceLT, Nat.reduceLeDiff, Int.reduceLE, Int.reduceLT, Nat.reduceEqDiff, Nat.reduceSub, SB, SV.known, packR, ne_eq, reduceCtorEq, Nat.reduceEqDiff, ↓reduceIte, if_true, if_false, eq_self, Nat.reduceAdd, Nat.reduceMul, Nat.reduceSub, forall_const, oneCellS, litOne, flat1, Kd.isSca, flat, TYB]
        refine ⟨s', fun k => (A k ∨ k = n + 1) ∨ k = n1, kn R d, lvl R d, frA R d, d, rfl, rfl, hset, fun k hk => ?_, by omega, hk6, ⟨by omega, by omega⟩, lvl_at R d, fun s2 K2 P2 H2 n2 g1 g2 g3 g4 g5 => ?_⟩
        · rcases hk with hk | hk
          · have := hA1 k hk; omega
          · omega
        rw [kn_drop] at g5
        have hb2 := g4 n1 _ (.inr rfl) hbx
        have hr2 := g4 (n + 1) _ (.inl (.inr rfl)) hrt
        have hI2 := hI'.put hA1 g1 g2 g3 g4
        have en1 : (n + 1 = n1) = False := by simp; omega
        have hst0 : stp nev R d = false := by
          rw [stp_nev R d hk6]
          exact decide_eq_false fun h0 => by rw [h0] at hfa; simp at hfa; omega
        have hps1 : ∀ k, k < d + 1 → stp nev R k = false := fun k hk => by
          by_cases hkd : k = d
          · subst hkd; exact hst0
          · exact hps k (by omega)
        have hfin2 : ∀ o o2 : SObj, SetH s2 A m ((n + 1, o) :: (n1, o2) :: H2) K2 P2 ∧ Frm A H ((n + 1, o) :: (n1, o2) :: H2) := fun o o2 => ⟨((g3.upd o2 (.inr rfl)).upd o (.inl (.inr rfl))).weak fun k h => .inl (.inl h), fun k o' ha hk => by
          have := hA k ha
          rw [hget_cons, if_neg (by omega), hget_cons, if_neg (by omega)]
          exact g4 k o' (.inl (.inl ha)) (hfrm k o' (.inl ha) (hE0 _ _ k o' hk))⟩
        have ekn : kn R d ++ nwU (kn R d) (lay R d) = kn R (d + 1) := rfl
        have elv : lvl R d ++ List.replicate (nwU (kn R d) (lay R d)).length ((d : Int) + 1) = lvl R (d + 1) := by
          show lvl R d ++ List.replicate (lay R (d + 1)).length ((d : Int) + 1) = lvl R (d + 1)
          rw [lvl_succ, Int.natCast_add]; rfl
        rw [ekn, elv] at g5
        unfold SN.val
        by_cases h6 : 600 < K2.length
        · have h6' : (600 : Int) < (K2.length : Int) := by omega
          have hov : ovf R (d + 1) = true := by
            rcases g5 with ⟨rfl, _⟩ | ⟨_, h7⟩
            · exact decide_eq_true h6
            · exact decide_eq_true h7
          simp -implicitDefEqProofs only [hb2, hr2, en1, h6', ZB, Int.reduceToNat, Nat.reduceLT, Nat.reduceLeDiff, Int.reduceLE, Int.reduceLT, Nat.reduceEqDiff, Nat.reduceSub, SB, SV.known, packR, ne_eq, reduceCtorEq, Nat.reduceEqDiff, ↓reduceIte, if_true, if_false, eq_self, Nat.reduceAdd, Nat.reduceMul, Nat.reduceSub, forall_const, oneCellS, litOne, flat1, Kd.isSca, flat, TYB]
          exact ⟨by omega, by omega, s2, K2, P2, false, d + 1, ⟨rfl, rfl⟩, (hfin2 _ _).1, (hfin2 _ _).2, hps1, by omega, .inr ⟨rfl, hov⟩⟩
        · have h6' : ¬ (600 : Int) < (K2.length : Int) := by omega
          obtain ⟨rfl, rfl⟩ : K2 = kn R (d + 1) ∧ P2 = lvl R (d + 1) := by
            rcases g5 with h7 | ⟨h7, _⟩
            · exact h7
            · exact absurd h7 h6
          simp -implicitDefEqProofs only [lk_normal, hb2, hr2, en1, h6', ZB, Int.reduceToNat, Nat.reduceLT, Nat.reduceLeDiff, Int.reduceLE, Int.reduceLT, Nat.reduceEqDiff, Nat.reduceSub, SB, SV.known, packR, ne_eq, reduceCtorEq, Nat.reduceEqDiff, ↓reduceIte, if_true, if_false, eq_self, Nat.reduceAdd, Nat.reduceMul, Nat.reduceSub, forall_const, oneCellS, litOne, flat1, Kd.isSca, flat, TYB]
          refine ⟨by omega, by unfold In64; omega, (d + 1, s2, _, n2), ⟨hps1, by show N < 0 ∨ ((d + 1 : Nat) : Int) ≤ N; omega, by show (kn R (d + 1)).length ≤ 600; omega, hI2⟩, by show 700 - (d + 1) < 700 - d; omega, Sub.same ?_ ?_ hI2.wf (by show n ≤ n2; omega)⟩
          · simp only [frA, Int.natCast_add, LB, subS, subH, wfS, wfH, SV.ren, renL, SObj.ren, SV.wf, SObj.wf, wfL, SV.known, Nat.reduceEqDiff, ↓reduceIte, if_true, if_false, eq_self, Nat.reduceAdd, Nat.reduceLT, Nat.reduceLeDiff, implies_true, reduceCtorEq, forall_const]
            try rfl
          · simp [subS, subH, wfS, wfH, SV.ren, renL, SObj.ren, SV.wf, SObj.wf, wfL, sget_cons, hget_cons] <;> omega
      · have hil : ¬ (frA R d : Int) < ((kn R d).length : Int) := by omega
        simp -implicitDefEqProofs only [lk_normal, hbx, hrt, hdn, hil, ZB, Int.reduceToNat, Nat.reduceLT, Nat.reduceLeDiff, Int.reduceLE, Int.reduceLT, Nat.reduceEqDiff, Nat.reduceSub, SB, SV.known, packR, ne_eq, reduceCtorEq, Nat.reduceEqDiff, ↓reduceIte, if_true, if_false, eq_self, Nat.reduceAdd, Nat.reduceMul, Nat.reduceSub, forall_const, oneCellS, litOne, flat1, Kd.isSca, flat, TYB]
        exact ⟨by omega, s', kn R d, lvl R d, true, d, ⟨rfl, rfl⟩, (hfin _).1, (hfin _).2, hps, hdN, .inl ⟨rfl, rfl, rfl, hk6, .inr (List.length_eq_zero_iff.1 (by omega))⟩⟩
/-- Forms up to a number of pours, or all of them. -/
def l3Upto_F : List SV → Heap → Nat → Nat → K1 → Prop
  | [.arr R, .int N], H, n, m, κ => (R.length = 24 ∧ rackB R = true) ∧ (N ≤ 1000 ∧ -1 ≤ N) ∧ m ≤ n ∧ ∃ A : Nat → Prop, (∀ k, A k → k < n) ∧
      ∀ (s' : SN) (K' : List (List Int)) (P' : List Int) (o : Bool) (d : Nat) H' n', n ≤ n' → hwf n' H' → SetH s' A m H' K' P' → Frm A H H' → (∀ k, k < d → stp nev R k = false) → (N < 0 ∨ (d : Int) ≤ N) →
        ((o = true ∧ K' = kn R d ∧ P' = lvl R d ∧ (kn R d).length ≤ 600 ∧ ((d : Int) = N ∨ lay R d = [])) ∨ (o = false ∧ ovf R d = true)) → κ (.tup [s'.val K'.length, .bool o]) H' n'
  | _, _, _, _, _ => False
--@tbl l3Upto = spec.l3Upto
theorem l3Upto_T : ∀ args H n m κ, l3Upto_F args H n m κ → GenOK Try.prog 57 args H n m κ := by
  intro args H n m κ h
  unfold l3Upto_F at h
  split at h
  · rename_i R N
    obtain ⟨⟨hR, hr⟩, hN, hmn, A, hA, h1⟩ := h
    exact gen_direct (X := ⟨Try.prog, tys, [], [(101, l3Start_F), (102, l3More_F)], true, true, m, [], []⟩) fn_57 ⟨tys_ok, .nil, .cons l3Start_T (.cons l3More_T .nil), mixed⟩ rfl (Nat.le_of_ble_eq_true rfl) (fun hwH hwa => l3Upto_vc A m n H R N hR hr hA hmn hwH hN) fun hwH v H' n' hψ h3 h4 h5 => by
      obtain ⟨s', K', P', o, d, rfl, hS, hF, g1, g2, g3⟩ := hψ
      exact h1 s' K' P' o d H' n' h3 h4 hS hF g1 g2 g3
  · exact h.elim
theorem ovf_stp {pr : List Int → Bool} {R : List Int} {d : Nat} (h : ovf R d = true) : stp pr R d = true := by unfold stp; rw [h]; rfl
--@tbl sCountReached = spec.CountReached
theorem sCountReached_ok (R : List Int) (n : Int) (hR : R.length = 24) : PureH Try.prog 21 [.arr R, .int n] [] (.tup [.int (crF R n), .bool (crB R n)]) := by
  have tkR : R.take 24 = R := List.take_of_length_le (by omega)
  unfold crF crB
  cases hr : rackB R
  · refine pure_of_vc (X := ⟨Try.prog, tys, [(46, l2Rack_F), (56, l1In_F)], [(57, l3Upto_F)], true, true, 0, [], []⟩) fn_21 ⟨tys_ok, (.cons l2Rack_T (.cons l1In_T .nil)), (.cons l3Upto_T .nil), mixed⟩ (n0 := 0) (Nat.le_of_ble_eq_true rfl) (by simp [wfL, SV.wf]) (wfH_spec (by simp [wfH, SObj.wf])) (Nat.le_refl _) (fun _ => by simp [SV.wf, wfL]) ?_
    simp -implicitDefEqProofs only [Try.f21, Option.getD_some, argS, l2Rack_F, l1In_F, l3Upto_F, hR, tkR, hr, ZB, Int.reduceToNat, Nat.reduceLT, Nat.reduceLeDiff, Int.reduceLE, Int.reduceLT, Nat.reduceEqDiff, Nat.reduceSub, SB, SV.known, packR, ne_eq, reduceCtorEq, Nat.reduceEqDiff, ↓reduceIte, if_true, if_false, eq_self, Nat.reduceAdd, Nat.reduceMul, Nat.reduceSub, forall_const, oneCellS, litOne, flat1, Kd.isSca, flat, TYB]
  by_cases hn : 0 ≤ n ∧ n ≤ 9
  · obtain ⟨N, rfl⟩ : ∃ N : Nat, n = N := ⟨n.toNat, by omega⟩
    refine pure_of_vc (X := ⟨Try.prog, tys, [(46, l2Rack_F), (56, l1In_F)], [(57, l3Upto_F)], true, true, 0, [], []⟩) fn_21 ⟨tys_ok, (.cons l2Rack_T (.cons l1In_T .nil)), (.cons l3Upto_T .nil), mixed⟩ (n0 := 0) (Nat.le_of_ble_eq_true rfl) (by simp [wfL, SV.wf]) (wfH_spec (by simp [wfH, SObj.wf])) (Nat.le_refl _) (fun _ => by simp [SV.wf, wfL]) ?_
    simp -implicitDefEqProofs only [Try.f21, Option.getD_some, argS, l2Rack_F, l1In_F, l3Upto_F, hR, tkR, hr, hn, ZB, Int.reduceToNat, Nat.reduceLT, Nat.reduceLeDiff, Int.reduceLE, Int.reduceLT, Nat.reduceEqDiff, Nat.reduceSub, SB, SV.known, packR, ne_eq, reduceCtorEq, Nat.reduceEqDiff, ↓reduceIte, if_true, if_false, eq_self, Nat.reduceAdd, Nat.reduceMul, Nat.reduceSub, forall_const, oneCellS, litOne, flat1, Kd.isSca, flat, TYB]
    refine ⟨by omega, fun _ => False, fun _ h => h.elim, fun s' K' P' o d H' n' h1 h2 h3 h4 h5 h6 h7 => ?_⟩
    unfold SN.val
    rcases h7 with ⟨rfl, rfl, rfl, h8, h9⟩ | ⟨rfl, h8⟩
    · have ek : kn R d = kn R N := by
        rcases h9 with h9 | h9
        · have : d = N := by omega
          rw [this]
        · exact ((lay_nil R h9 N (by omega)).2).symm
      have ho : ovf R N = false := by
        rw [ek] at h8
        exact decide_eq_false (by omega)
      simp -implicitDefEqProofs only [ho, ek, Int.toNat_natCast, ZB, Int.reduceToNat, Nat.reduceLT, Nat.reduceLeDiff, Int.reduceLE, Int.reduceLT, Nat.reduceEqDiff, Nat.reduceSub, SB, SV.known, packR, ne_eq, reduceCtorEq, Nat.reduceEqDiff, ↓reduceIte, if_true, if_false, eq_self, Nat.reduceAdd, Nat.reduceMul, Nat.reduceSub, forall_const, oneCellS, litOne, flat1, Kd.isSca, flat, TYB]
    · have ho : ovf R N = true := ovf_mono (d := d) (by omega) h8
      simp -implicitDefEqProofs only [ho, Int.toNat_natCast, ZB, Int.reduceToNat, Nat.reduceLT, Nat.reduceLeDiff, Int.reduceLE, Int.reduceLT, Nat.reduceEqDiff, Nat.reduceSub, SB, SV.known, packR, ne_eq, reduceCtorEq, Nat.reduceEqDiff, ↓reduceIte, if_true, if_false, eq_self, Nat.reduceAdd, Nat.reduceMul, Nat.reduceSub, forall_const, oneCellS, litOne, flat1, Kd.isSca, flat, TYB]
  · refine pure_of_vc (X := ⟨Try.prog, tys, [(46, l2Rack_F), (56, l1In_F)], [(57, l3Upto_F)], true, true, 0, [], []⟩) fn_21 ⟨tys_ok, (.cons l2Rack_T (.cons l1In_T .nil)), (.cons l3Upto_T .nil), mixed⟩ (n0 := 0) (Nat.le_of_ble_eq_true rfl) (by simp [wfL, SV.wf]) (wfH_spec (by simp [wfH, SObj.wf])) (Nat.le_refl _) (fun _ => by simp [SV.wf, wfL]) ?_
    simp -implicitDefEqProofs only [Try.f21, Option.getD_some, argS, l2Rack_F, l1In_F, l3Upto_F, hR, tkR, hr, hn, ZB, Int.reduceToNat, Nat.reduceLT, Nat.reduceLeDiff, Int.reduceLE, Int.reduceLT, Nat.reduceEqDiff, Nat.reduceSub, SB, SV.known, packR, ne_eq, reduceCtorEq, Nat.reduceEqDiff, ↓reduceIte, if_true, if_false, eq_self, Nat.reduceAdd, Nat.reduceMul, Nat.reduceSub, forall_const, oneCellS, litOne, flat1, Kd.isSca, flat, TYB]
--@tbl sReachedAll = spec.ReachedAll
theorem sReachedAll_ok (R : List Int) (hR : R.length = 24) : PureH Try.prog 25 [.arr R] [] (.tup [.int (raF R), .bool (rackB R && unO nev R)]) := by
  have tkR : R.take 24 = R := List.take_of_length_le (by omega)
  unfold raF
  cases hr : rackB R
  · refine pure_of_vc (X := ⟨Try.prog, tys, [(46, l2Rack_F)], [(57, l3Upto_F)], true, true, 0, [], []⟩) fn_25 ⟨tys_ok, (.cons l2Rack_T .nil), (.cons l3Upto_T .nil), mixed⟩ (n0 := 0) (Nat.le_of_ble_eq_true rfl) (by simp [wfL, SV.wf]) (wfH_spec (by simp [wfH, SObj.wf])) (Nat.le_refl _) (fun _ => by simp [SV.wf, wfL]) ?_
    simp -implicitDefEqProofs only [Try.f25, Option.getD_some, argS, l2Rack_F, l3Upto_F, hR, tkR, hr, ZB, Int.reduceToNat, Nat.reduceLT, Nat.reduceLeDiff, Int.reduceLE, Int.reduceLT, Nat.reduceEqDiff, Nat.reduceSub, SB, SV.known, packR, ne_eq, reduceCtorEq, Nat.reduceEqDiff, ↓reduceIte, if_true, if_false, eq_self, Nat.reduceAdd, Nat.reduceMul, Nat.reduceSub, forall_const, oneCellS, litOne, flat1, Kd.isSca, flat, TYB]
    simp
  · refine pure_of_vc (X := ⟨Try.prog, tys, [(46, l2Rack_F)], [(57, l3Upto_F)], true, true, 0, [], []⟩) fn_25 ⟨tys_ok, (.cons l2Rack_T .nil), (.cons l3Upto_T .nil), mixed⟩ (n0 := 0) (Nat.le_of_ble_eq_true rfl) (by simp [wfL, SV.wf]) (wfH_spec (by simp [wfH, SObj.wf])) (Nat.le_refl _) (fun _ => by simp [SV.wf, wfL]) ?_
    simp -implicitDefEqProofs only [Try.f25, Option.getD_some, argS, l2Rack_F, l3Upto_F, hR, tkR, hr, ZB, Int.reduceToNat, Nat.reduceLT, Nat.reduceLeDiff, Int.reduceLE, Int.reduceLT, Nat.reduceEqDiff, Nat.reduceSub, SB, SV.known, packR, ne_eq, reduceCtorEq, Nat.reduceEqDiff, ↓reduceIte, if_true, if_false, eq_self, Nat.reduceAdd, Nat.reduceMul, Nat.reduceSub, forall_const, oneCellS, litOne, flat1, Kd.isSca, flat, TYB]
    refine ⟨fun _ => False, fun _ h => h.elim, fun s' K' P' o d H' n' h1 h2 h3 h4 h5 h6 h7 => ?_⟩
    unfold SN.val
    rcases h7 with ⟨rfl, rfl, rfl, h8, h9⟩ | ⟨rfl, h8⟩
    · have h9' : lay R d = [] := h9.resolve_left id
      have hd : dep nev R = d := dep_eq (by rw [stp_nev R d h8]; exact decide_eq_true h9') h5
      have ho : unO nev R = true := by
        unfold unO
        rw [hd]
        show (!decide _) = true
        rw [decide_eq_false (by omega)]; rfl
      simp -implicitDefEqProofs only [ho, hd, ZB, Int.reduceToNat, Nat.reduceLT, Nat.reduceLeDiff, Int.reduceLE, Int.reduceLT, Nat.reduceEqDiff, Nat.reduceSub, SB, SV.known, packR, ne_eq, reduceCtorEq, Nat.reduceEqDiff, ↓reduceIte, if_true, if_false, eq_self, Nat.reduceAdd, Nat.reduceMul, Nat.reduceSub, forall_const, oneCellS, litOne, flat1, Kd.isSca, flat, TYB]
    · have hd : dep nev R = d := dep_eq (ovf_stp h8) h5
      have ho : unO nev R = false := by
        unfold unO
        rw [hd, h8]; rfl
      simp -implicitDefEqProofs only [ho, hd, ZB, Int.reduceToNat, Nat.reduceLT, Nat.reduceLeDiff, Int.reduceLE, Int.reduceLT, Nat.reduceEqDiff, Nat.reduceSub, SB, SV.known, packR, ne_eq, reduceCtorEq, Nat.reduceEqDiff, ↓reduceIte, if_true, if_false, eq_self, Nat.reduceAdd, Nat.reduceMul, Nat.reduceSub, forall_const, oneCellS, litOne, flat1, Kd.isSca, flat, TYB]

def sCountReached_F : List SV → Heap → Option (Prop × SV)
  | [.arr R, .int n], _ => some (R.length = 24, .tup [.int (crF R n), .bool (crB R n)])
  | _, _ => none
theorem sCountReached_T : ∀ args H p v, sCountReached_F args H = some (p, v) → p → PureH Try.prog 21 args H v := by
  intro args H p v h hp
  unfold sCountReached_F at h
  split at h
  · cases h; exact (sCountReached_ok _ _ hp).any _
  · cases h
def sReachedAll_F : List SV → Heap → Option (Prop × SV)
  | [.arr R], _ => some (R.length = 24, .tup [.int (raF R), .bool (rackB R && unO nev R)])
  | _, _ => none
theorem sReachedAll_T : ∀ args H p v, sReachedAll_F args H = some (p, v) → p → PureH Try.prog 25 args H v := by
  intro args H p v h hp
  unfold sReachedAll_F at h
  split at h
  · cases h; exact (sReachedAll_ok _ hp).any _
  · cases h
theorem lawCountReached (R : List Int) (n : Int) (hR : R.length = 24) (_ : ∀ x ∈ R, In64 x) (_ : In64 n) : PureH Try.prog 4 [.arr R, .int n] [] (.bool true) := by
  have tkR : R.take 24 = R := List.take_of_length_le (by omega)
  cases hb : crB R n
  all_goals
    refine pure_of_vc (X := ⟨Try.prog, tys, [(16, toRack_F), (22, CountReached_F), (21, sCountReached_F)], [], true, true, 0, [], []⟩) fn_4 ⟨tys_ok, (.cons toRack_T (.cons CountReached_T (.cons sCountReached_T .nil))), .nil, mixed⟩ (n0 := 0) (Nat.le_of_ble_eq_true rfl) (by simp [wfL, SV.wf]) (wfH_spec (by simp [wfH, SObj.wf])) (Nat.le_refl _) (fun _ => by simp [SV.wf, wfL]) ?_
    simp -implicitDefEqProofs only [Try.f4, Option.getD_some, argS, toRack_F, CountReached_F, sCountReached_F, hR, tkR, hb, ZB, Int.reduceToNat, Nat.reduceLT, Nat.reduceLeDiff, Int.reduceLE, Int.reduceLT, Nat.reduceEqDiff, Nat.reduceSub, SB, SV.known, packR, ne_eq, reduceCtorEq, Nat.reduceEqDiff, ↓reduceIte, if_true, if_false, eq_self, Nat.reduceAdd, Nat.reduceMul, Nat.reduceSub, forall_const, oneCellS, litOne, flat1, Kd.isSca, flat, TYB]
theorem lawReachedAll (R : List Int) (hR : R.length = 24) (_ : ∀ x ∈ R, In64 x) : PureH Try.prog 6 [.arr R] [] (.bool true) := by
  have tkR : R.take 24 = R := List.take_of_length_le (by omega)
  cases hb : rackB R && unO nev R
  all_goals
    refine pure_of_vc (X := ⟨Try.prog, tys, [(16, toRack_F), (26, ReachedAll_F), (25, sReachedAll_F)], [], true, true, 0, [], []⟩) fn_6 ⟨tys_ok, (.cons toRack_T (.cons ReachedAll_T (.cons sReachedAll_T .nil))), .nil, mixed⟩ (n0 := 0) (Nat.le_of_ble_eq_true rfl) (by simp [wfL, SV.wf]) (wfH_spec (by simp [wfH, SObj.wf])) (Nat.le_refl _) (fun _ => by simp [SV.wf, wfL]) ?_
    simp -implicitDefEqProofs only [Try.f6, Option.getD_some, argS, toRack_F, ReachedAll_F, sReachedAll_F, hR, tkR, hb, ZB, Int.reduceToNat, Nat.reduceLT, Nat.reduceLeDiff, Int.reduceLE, Int.reduceLT, Nat.reduceEqDiff, Nat.reduceSub, SB, SV.known, packR, ne_eq, reduceCtorEq, Nat.reduceEqDiff, ↓reduceIte, if_true, if_false, eq_self, Nat.reduceAdd, Nat.reduceMul, Nat.reduceSub, forall_const, oneCellS, litOne, flat1, Kd.isSca, flat, TYB]
theorem lay_any {pr : List Int → Bool} {R : List Int} {d : Nat} (h : ∀ j, frA R d ≤ j → j < (kn R d).length → pr ((kn R d).getD j []) = false) : (lay R d).any pr = false := by
  rw [List.any_eq_false]
  intro x hx
  rw [← kn_drop R d] at hx
  obtain ⟨j, hj, rfl⟩ := List.getElem_of_mem hx
  rw [List.length_drop] at hj
  rw [List.getElem_drop]
  have := h (frA R d + j) (by omega) (by omega)
  rw [List.getD_eq_getElem?_getD, List.getElem?_eq_getElem (by omega)] at this
  simpa using this
theorem lay_some {pr : List Int → Bool} {R : List Int} {d i : Nat} (h1 : frA R d ≤ i) (h2 : i < (kn R d).length) (h : pr ((kn R d).getD i []) = true) : (lay R d).any pr = true := by
  rw [List.any_eq_true]
  refine ⟨(kn R d).getD i [], ?_, h⟩
  rw [← kn_drop R d, List.getD_eq_getElem?_getD, List.getElem?_eq_getElem h2]
  exact List.mem_iff_getElem.2 ⟨i - frA R d, by rw [List.length_drop]; omega, by rw [List.getElem_drop]; simp only [show frA R d + (i - frA R d) = i by omega]; rfl⟩
/-- What a search for a form answers. -/
def fwF (pr : List Int → Bool) (R : List Int) : Int := if unO pr R = true then (if unB pr R = true then ((dep pr R : Nat) : Int) else -1) else 0
theorem fw_hit {pr : List Int → Bool} {R : List Int} {d : Nat} (hps : ∀ k, k < d → stp pr R k = false) (h6 : (kn R d).length ≤ 600) (h : (lay R d).any pr = true) : fwF pr R = (d : Int) ∧ unO pr R = true := by
  have hd : dep pr R = d := dep_eq (by unfold stp; rw [h]; simp) hps
  have ho : unO pr R = true := by
    unfold unO
    rw [hd]
    show (!decide _) = true
    rw [decide_eq_false (by omega)]; rfl
  have hb : unB pr R = true := by
    have : unB pr R = (unO pr R && (lay R (dep pr R)).any pr) := rfl
    rw [this, ho, hd, h]; rfl
  exact ⟨by unfold fwF; rw [if_pos ho, if_pos hb, hd], ho⟩
theorem fw_none {pr : List Int → Bool} {R : List Int} {d : Nat} (hps : ∀ k, k < d → stp pr R k = false) (h6 : (kn R d).length ≤ 600) (h : lay R d = []) : fwF pr R = -1 ∧ unO pr R = true := by
  have hd : dep pr R = d := dep_eq (by unfold stp; rw [h]; simp) hps
  have ho : unO pr R = true := by
    unfold unO
    rw [hd]
    show (!decide _) = true
    rw [decide_eq_false (by omega)]; rfl
  have hb : unB pr R = false := by
    have : unB pr R = (unO pr R && (lay R (dep pr R)).any pr) := rfl
    rw [this, ho, hd, h]; rfl
  exact ⟨by unfold fwF; rw [if_pos ho, if_neg (by rw [hb]; simp)], ho⟩
theorem fw_ovf {pr : List Int → Bool} {R : List Int} {d : Nat} (hps : ∀ k, k < d → stp pr R k = false) (h : ovf R d = true) : fwF pr R = 0 ∧ unO pr R = false := by
  have hd : dep pr R = d := dep_eq (ovf_stp h) hps
  have ho : unO pr R = false := by
    unfold unO
    rw [hd, h]; rfl
  exact ⟨by unfold fwF; rw [if_neg (by rw [ho]; simp)], ho⟩
--@tbl l3Fewest = spec.l3Fewest
theorem l3Fewest_ok (R T : List Int) (b : Bool) (pr : List Int → Bool) (hpr : (b = true ∧ pr = sortB) ∨ (b = false ∧ pr = eqB T)) (hR : R.length = 24) (hr : rackB R = true) (hT : T.length = 24) :
    PureH Try.prog 71 [.arr R, .arr T, .bool b] [] (.tup [.int (fwF pr R), .bool (unO pr R)]) := by
  have tkR : R.take 24 = R := List.take_of_length_le (by omega)
  have tkT : T.take 24 = T := List.take_of_length_le (by omega)
  refine pure_of_vc (X := ⟨Try.prog, tys, [(113, l2Sorted_F)], [(101, l3Start_F), (102, l3More_F)], true, true, 0, [], []⟩) fn_71 ⟨tys_ok, (.cons l2Sorted_T .nil), (.cons l3Start_T (.cons l3More_T .nil)), mixed⟩ (n0 := 0) (Nat.le_of_ble_eq_true rfl) (by simp [wfL, SV.wf]) (wfH_spec (by simp [wfH, SObj.wf])) (Nat.le_refl _) (fun _ => by simp [SV.wf, wfL]) ?_
  simp -implicitDefEqProofs only [Try.f71, Option.getD_some, argS, l2Sorted_F, l3Start_F, l3More_F, hR, tkR, hr, hT, tkT, ZB, Int.reduceToNat, Nat.reduceLT, Nat.reduceLeDiff, Int.reduceLE, Int.reduceLT, Nat.reduceEqDiff, Nat.reduceSub, SB, SV.known, packR, ne_eq, reduceCtorEq, Nat.reduceEqDiff, ↓reduceIte, if_true, if_false, eq_self, Nat.reduceAdd, Nat.reduceMul, Nat.reduceSub, forall_const, oneCellS, litOne, flat1, Kd.isSca, flat, TYB]
  refine ⟨fun k => k = 1, fun k hk => by omega, fun s1 H1 n1 h1 h2 h3 h4 => ?_⟩
  unfold SN.val
  have hA1 : ∀ k, k = 1 → k < n1 := fun k hk => by omega
  have hrt1 := h4 1 _ rfl (by simp [hget_cons]; rfl)
  have hI0 := UpI.start (n0 := 2) h1 hA1 h2 h3 h4 (.cells [.nils, .nils, .nils] 60)
  simp -implicitDefEqProofs only [ZB, Int.reduceToNat, Nat.reduceLT, Nat.reduceLeDiff, Int.reduceLE, Int.reduceLT, Nat.reduceEqDiff, Nat.reduceSub, SB, SV.known, packR, ne_eq, reduceCtorEq, Nat.reduceEqDiff, ↓reduceIte, if_true, if_false, eq_self, Nat.reduceAdd, Nat.reduceMul, Nat.reduceSub, forall_const, oneCellS, litOne, flat1, Kd.isSca, flat, TYB]
  refine loop_introN (fun s : Nat × SN × Heap × Nat => [(9, .int (frA R s.1 : Nat)), (8, .ptr n1 0), (4, .ptr 1 0), (2, .bool b)]) (fun s => s.2.2.1) (fun s => s.2.2.2)
    (fun s => (∀ k, k < s.1 → stp pr R k = false) ∧ (kn R s.1).length ≤ 600 ∧ UpI (fun k => k = 1) 0 2 n1 [(1, .ints T 29), (0, .ints R 29)] (kn R s.1) (lvl R s.1) s.2.1 s.2.2.1 s.2.2.2) (fun s => 700 - s.1) ?_ ?_
  · refine ⟨(0, s1, _, n1 + 1), ⟨fun k hk => absurd hk (by show ¬ k < 0; omega), by show (kn R 0).length ≤ 600; rw [kn_zero]; simp, hI0⟩, Sub.same ?_ ?_ hI0.wf (by show 0 ≤ n1 + 1; omega)⟩
    · simp only [frA, LB, subS, subH, wfS, wfH, SV.ren, renL, SObj.ren, SV.wf, SObj.wf, wfL, SV.known, Nat.reduceEqDiff, ↓reduceIte, if_true, if_false, eq_self, Nat.reduceAdd, Nat.reduceLT, Nat.reduceLeDiff, implies_true, reduceCtorEq, forall_const]
      try rfl
    · simp [subS, subH, wfS, wfH, SV.ren, renL, SObj.ren, SV.wf, SObj.wf, wfL, sget_cons, hget_cons] <;> omega
  · rintro ⟨d, s', H', n'⟩ ⟨hps, hk6, hI⟩
    simp only at hps hk6 hI
    have hI' := hI
    obtain ⟨hle, hwf', hset, hbx, hfrm⟩ := hI
    have hT1 := hfrm 1 _ rfl (by simp [hget_cons]; rfl)
    have hfa := frA_le R d
    have hd7 : d ≤ 601 := by
      cases d with
      | zero => omega
      | succ d => have := (pass_bound (pr := pr) (R := R) (d := d) fun k hk => hps k (by omega)).1; omega
    by_cases hl0 : frA R d < (kn R d).length
    · have hil : (frA R d : Int) < ((kn R d).length : Int) := by omega
      simp -implicitDefEqProofs only [lk_normal, hbx, hT1, hil, ZB, Int.reduceToNat, Nat.reduceLT, Nat.reduceLeDiff, Int.reduceLE, Int.reduceLT, Nat.reduceEqDiff, Nat.reduceSub, SB, SV.known, packR, ne_eq, reduceCtorEq, Nat.reduceEqDiff, ↓reduceIte, if_true, if_false, eq_self, Nat.reduceAdd, Nat.reduceMul, Nat.reduceSub, forall_const, oneCellS, litOne, flat1, Kd.isSca, flat, TYB]
      refine loop_intro (fun i : Nat => [(11, .int i), (10, .int (kn R d).length), (9, .int (frA R d : Nat)), (8, .ptr n1 0), (4, .ptr 1 0), (2, .bool b)]) (fun _ => H') n'
        (fun i => frA R d ≤ i ∧ i ≤ (kn R d).length ∧ ∀ j, frA R d ≤ j → j < i → pr ((kn R d).getD j []) = false) (fun i => (kn R d).length - i) ?_ ?_
      · refine ⟨frA R d, ⟨Nat.le_refl _, by omega, fun j h1 h2 => absurd h1 (by omega)⟩, Sub.same ?_ ?_ hwf' (by omega)⟩
        · simp only [LB, subS, subH, wfS, wfH, SV.ren, renL, SObj.ren, SV.wf, SObj.wf, wfL, SV.known, Nat.reduceEqDiff, ↓reduceIte, if_true, if_false, eq_self, Nat.reduceAdd, Nat.reduceLT, Nat.reduceLeDiff, implies_true, reduceCtorEq, forall_const]
        · simp [subS, subH, wfS, wfH, SV.ren, renL, SObj.ren, SV.wf, SObj.wf, wfL, sget_cons, hget_cons] <;> omega
      · rintro i ⟨hi1, hi2, hpi⟩
        by_cases hin : i < (kn R d).length
        · have hil2 : (i : Int) < ((kn R d).length : Int) := by omega
          have i0 : 0 ≤ (i : Int) := by omega
          obtain ⟨lQ, eQ, x24, xr⟩ := hset.Kbd (i := i) hin
          have hf := hset.f
          have hq := hset.q
          have hql := hset.ql
          have hpl := hset.pl
          have gP : (lvl R d ++ s'.J2).getD i 0 = (d : Int) := by
            rw [getD_app _ _ _ (by omega)]
            exact lvl_at R d i hi1 hin
          have lP : i < (lvl R d ++ s'.J2).length := by rw [List.length_append]; omega
          have hsome := lay_some (pr := pr) hi1 hin
          have hnext : pr ((kn R d).getD i []) = false → ∀ j, frA R d ≤ j → j < i + 1 → pr ((kn R d).getD j []) = false := fun h j h1 h2 => by
            by_cases hji : j = i
            · subst hji; exact h
            · exact hpi j h1 (by omega)
          have tkx : ((kn R d).getD i []).take 24 = (kn R d).getD i [] := List.take_of_length_le (by omega)
          generalize (kn R d).getD i [] = x at *
          cases hp : pr x
          · have hgo := hnext hp
            rcases hpr with ⟨rfl, rfl⟩ | ⟨rfl, rfl⟩
            · simp -implicitDefEqProofs only [lk_normal, l2Sorted_F, hbx, hT1, hf, hil2, i0, lQ, eQ, x24, xr, tkx, hp, ZB, Int.reduceToNat, Nat.reduceLT, Nat.reduceLeDiff, Int.reduceLE, Int.reduceLT, Nat.reduceEqDiff, Nat.reduceSub, SB, SV.known, packR, ne_eq, reduceCtorEq, Nat.reduceEqDiff, ↓reduceIte, if_true, if_false, eq_self, Nat.reduceAdd, Nat.reduceMul, Nat.reduceSub, forall_const, oneCellS, litOne, flat1, Kd.isSca, flat, TYB]
              exact ⟨by unfold In64; omega, i + 1, ⟨by omega, by omega, hgo⟩, by omega, Sub.same (by simp only [LB, subS, subH, wfS, wfH, SV.ren, renL, SObj.ren, SV.wf, SObj.wf, wfL, SV.known, Nat.reduceEqDiff, ↓reduceIte, if_true, if_false, eq_self, Nat.reduceAdd, Nat.reduceLT, Nat.reduceLeDiff, implies_true, reduceCtorEq, forall_const]) (by simp [subS, subH, wfS, wfH, SV.ren, renL, SObj.ren, SV.wf, SObj.wf, wfL, sget_cons, hget_cons] <;> omega) hwf' (by omega)⟩
            · have hp' := of_decide_eq_false hp
              simp -implicitDefEqProofs only [lk_normal, l2Sorted_F, hbx, hT1, hf, hil2, i0, lQ, eQ, x24, xr, tkx, hp', hT, tkT, eqI_rack, ZB, Int.reduceToNat, Nat.reduceLT, Nat.reduceLeDiff, Int.reduceLE, Int.reduceLT, Nat.reduceEqDiff, Nat.reduceSub, SB, SV.known, packR, ne_eq, reduceCtorEq, Nat.reduceEqDiff, ↓reduceIte, if_true, if_false, eq_self, Nat.reduceAdd, Nat.reduceMul, Nat.reduceSub, forall_const, oneCellS, litOne, flat1, Kd.isSca, flat, TYB]
              exact ⟨by unfold In64; omega, i + 1, ⟨by omega, by omega, hgo⟩, by omega, Sub.same (by simp only [LB, subS, subH, wfS, wfH, SV.ren, renL, SObj.ren, SV.wf, SObj.wf, wfL, SV.known, Nat.reduceEqDiff, ↓reduceIte, if_true, if_false, eq_self, Nat.reduceAdd, Nat.reduceLT, Nat.reduceLeDiff, implies_true, reduceCtorEq, forall_const]) (by simp [subS, subH, wfS, wfH, SV.ren, renL, SObj.ren, SV.wf, SObj.wf, wfL, sget_cons, hget_cons] <;> omega) hwf' (by omega)⟩
          · obtain ⟨e1, e2⟩ := fw_hit hps hk6 (hsome hp)
            rcases hpr with ⟨rfl, rfl⟩ | ⟨rfl, rfl⟩
            · simp -implicitDefEqProofs only [lk_normal, l2Sorted_F, hbx, hT1, hf, hq, hil2, i0, lQ, eQ, x24, xr, tkx, hp, gP, lP, hql, e1, e2, ZB, Int.reduceToNat, Nat.reduceLT, Nat.reduceLeDiff, Int.reduceLE, Int.reduceLT, Nat.reduceEqDiff, Nat.reduceSub, SB, SV.known, packR, ne_eq, reduceCtorEq, Nat.reduceEqDiff, ↓reduceIte, if_true, if_false, eq_self, Nat.reduceAdd, Nat.reduceMul, Nat.reduceSub, forall_const, oneCellS, litOne, flat1, Kd.isSca, flat, TYB]
              exact (by omega : i < s'.cq)
            · have hp' := of_decide_eq_true hp
              simp -implicitDefEqProofs only [lk_normal, l2Sorted_F, hbx, hT1, hf, hq, hil2, i0, lQ, eQ, x24, xr, tkx, hp', hT, tkT, eqI_rack, gP, lP, hql, e1, e2, ZB, Int.reduceToNat, Nat.reduceLT, Nat.reduceLeDiff, Int.reduceLE, Int.reduceLT, Nat.reduceEqDiff, Nat.reduceSub, SB, SV.known, packR, ne_eq, reduceCtorEq, Nat.reduceEqDiff, ↓reduceIte, if_true, if_false, eq_self, Nat.reduceAdd, Nat.reduceMul, Nat.reduceSub, forall_const, oneCellS, litOne, flat1, Kd.isSca, flat, TYB]
              exact (by omega : i < s'.cq)
        · have hil2 : ¬ (i : Int) < ((kn R d).length : Int) := by omega
          obtain rfl : i = (kn R d).length := by omega
          have hany := lay_any hpi
          have hst0 : stp pr R d = false := by
            unfold stp ovf
            rw [decide_eq_false (by omega), hany]
            cases hl : lay R d with
            | nil => rw [hl] at hfa; simp at hfa; omega
            | cons x l => rfl
          have hps1 : ∀ k, k < d + 1 → stp pr R k = false := fun k hk => by
            by_cases hkd : k = d
            · subst hkd; exact hst0
            · exact hps k (by omega)
          simp -implicitDefEqProofs only [lk_normal, l3More_F, hbx, hT1, hil2, ZB, Int.reduceToNat, Nat.reduceLT, Nat.reduceLeDiff, Int.reduceLE, Int.reduceLT, Nat.reduceEqDiff, Nat.reduceSub, SB, SV.known, packR, ne_eq, reduceCtorEq, Nat.reduceEqDiff, ↓reduceIte, if_true, if_false, eq_self, Nat.reduceAdd, Nat.reduceMul, Nat.reduceSub, forall_const, oneCellS, litOne, flat1, Kd.isSca, flat, TYB]
          refine ⟨s', fun k => k = 1 ∨ k = n1, kn R d, lvl R d, frA R d, d, rfl, rfl, hset, fun k hk => by omega, by omega, hk6, ⟨by omega, by omega⟩, lvl_at R d, fun s2 K2 P2 H2 n2 g1 g2 g3 g4 g5 => ?_⟩
          rw [kn_drop] at g5
          have hb2 := g4 n1 _ (.inr rfl) hbx
          have hr2 := g4 1 _ (.inl rfl) hT1
          have hI2 := hI'.put hA1 g1 g2 g3 g4
          have ekn : kn R d ++ nwU (kn R d) (lay R d) = kn R (d + 1) := rfl
          have elv : lvl R d ++ List.replicate (nwU (kn R d) (lay R d)).length ((d : Int) + 1) = lvl R (d + 1) := by
            show lvl R d ++ List.replicate (lay R (d + 1)).length ((d : Int) + 1) = lvl R (d + 1)
            rw [lvl_succ, Int.natCast_add]; rfl
          rw [ekn, elv] at g5
          unfold SN.val
          by_cases h6 : 600 < K2.length
          · have h6' : (600 : Int) < (K2.length : Int) := by omega
            have hov : ovf R (d + 1) = true := by
              rcases g5 with ⟨rfl, _⟩ | ⟨_, h7⟩
              · exact decide_eq_true h6
              · exact decide_eq_true h7
            obtain ⟨e1, e2⟩ := fw_ovf hps1 hov
            simp -implicitDefEqProofs only [lk_normal, hb2, hr2, h6', e1, e2, ZB, Int.reduceToNat, Nat.reduceLT, Nat.reduceLeDiff, Int.reduceLE, Int.reduceLT, Nat.reduceEqDiff, Nat.reduceSub, SB, SV.known, packR, ne_eq, reduceCtorEq, Nat.reduceEqDiff, ↓reduceIte, if_true, if_false, eq_self, Nat.reduceAdd, Nat.reduceMul, Nat.reduceSub, forall_const, oneCellS, litOne, flat1, Kd.isSca, flat, TYB]
          · have h6' : ¬ (600 : Int) < (K2.length : Int) := by omega
            obtain ⟨rfl, rfl⟩ : K2 = kn R (d + 1) ∧ P2 = lvl R (d + 1) := by
              rcases g5 with h7 | ⟨h7, _⟩
              · exact h7
              · exact absurd h7 h6
            simp -implicitDefEqProofs only [lk_normal, hb2, hr2, h6', ZB, Int.reduceToNat, Nat.reduceLT, Nat.reduceLeDiff, Int.reduceLE, Int.reduceLT, Nat.reduceEqDiff, Nat.reduceSub, SB, SV.known, packR, ne_eq, reduceCtorEq, Nat.reduceEqDiff, ↓reduceIte, if_true, if_false, eq_self, Nat.reduceAdd, Nat.reduceMul, Nat.reduceSub, forall_const, oneCellS, litOne, flat1, Kd.isSca, flat, TYB]
            refine ⟨(d + 1, s2, _, n2), ⟨hps1, by show (kn R (d + 1)).length ≤ 600; omega, hI2⟩, by show 700 - (d + 1) < 700 - d; omega, Sub.same ?_ ?_ hI2.wf (by show 0 ≤ n2; omega)⟩
            · simp only [frA, LB, subS, subH, wfS, wfH, SV.ren, renL, SObj.ren, SV.wf, SObj.wf, wfL, SV.known, Nat.reduceEqDiff, ↓reduceIte, if_true, if_false, eq_self, Nat.reduceAdd, Nat.reduceLT, Nat.reduceLeDiff, implies_true, reduceCtorEq, forall_const]
            · simp [subS, subH, wfS, wfH, SV.ren, renL, SObj.ren, SV.wf, SObj.wf, wfL, sget_cons, hget_cons] <;> omega
    · have hil : ¬ (frA R d : Int) < ((kn R d).length : Int) := by omega
      obtain ⟨e1, e2⟩ := fw_none hps hk6 (List.length_eq_zero_iff.1 (by omega))
      simp -implicitDefEqProofs only [lk_normal, hbx, hT1, hil, e1, e2, ZB, Int.reduceToNat, Nat.reduceLT, Nat.reduceLeDiff, Int.reduceLE, Int.reduceLT, Nat.reduceEqDiff, Nat.reduceSub, SB, SV.known, packR, ne_eq, reduceCtorEq, Nat.reduceEqDiff, ↓reduceIte, if_true, if_false, eq_self, Nat.reduceAdd, Nat.reduceMul, Nat.reduceSub, forall_const, oneCellS, litOne, flat1, Kd.isSca, flat, TYB]
def prT (b : Bool) (T : List Int) : List Int → Bool := if b = true then sortB else eqB T
theorem prT_ok (b : Bool) (T : List Int) : (b = true ∧ prT b T = sortB) ∨ (b = false ∧ prT b T = eqB T) := by cases b <;> simp [prT]
def l3Fewest_F : List SV → Heap → Option (Prop × SV)
  | [.arr R, .arr T, .bool b], _ => some ((R.length = 24 ∧ rackB R = true) ∧ T.length = 24, .tup [.int (fwF (prT b T) R), .bool (unO (prT b T) R)])
  | _, _ => none
theorem l3Fewest_T : ∀ args H p v, l3Fewest_F args H = some (p, v) → p → PureH Try.prog 71 args H v := by
  intro args H p v h hp
  unfold l3Fewest_F at h
  split at h
  · cases h; exact (l3Fewest_ok _ _ _ _ (prT_ok _ _) hp.1.1 hp.1.2 hp.2).any _
  · cases h
theorem fw_pos (pr : List Int → Bool) (R : List Int) : (unO pr R && decide (0 ≤ fwF pr R)) = unB pr R := by
  have hb : unB pr R = (unO pr R && (lay R (dep pr R)).any pr) := rfl
  unfold fwF
  cases ho : unO pr R
  · rw [hb, ho]; rfl
  · rw [if_pos rfl]
    cases hu : unB pr R
    · rfl
    · rw [if_pos rfl, Bool.true_and]
      exact decide_eq_true (by omega)
theorem fw_most (pr : List Int → Bool) (R : List Int) : max (fwF pr R) 0 = if unB pr R = true then ((dep pr R : Nat) : Int) else 0 := by
  unfold fwF
  cases hu : unB pr R
  · split <;> rfl
  · rw [if_pos (unB_unO hu), if_pos rfl, if_pos rfl]
    omega
--@tbl sCanBeSorted = spec.CanBeSorted
theorem sCanBeSorted_ok (R : List Int) (hR : R.length = 24) : PureH Try.prog 36 [.arr R] [] (.tup [.bool (rackB R && unB sortB R), .bool (rackB R && unO sortB R)]) := by
  have tkR : R.take 24 = R := List.take_of_length_le (by omega)
  have ep : prT true R = sortB := rfl
  have e1 := fw_pos sortB R
  cases hr : rackB R
  · refine pure_of_vc (X := ⟨Try.prog, tys, [(46, l2Rack_F), (71, l3Fewest_F)], [], true, true, 0, [], []⟩) fn_36 ⟨tys_ok, (.cons l2Rack_T (.cons l3Fewest_T .nil)), .nil, mixed⟩ (n0 := 0) (Nat.le_of_ble_eq_true rfl) (by simp [wfL, SV.wf]) (wfH_spec (by simp [wfH, SObj.wf])) (Nat.le_refl _) (fun _ => by simp [SV.wf, wfL]) ?_
    simp -implicitDefEqProofs only [Try.f36, Option.getD_some, argS, l2Rack_F, l3Fewest_F, hR, tkR, hr, ZB, Int.reduceToNat, Nat.reduceLT, Nat.reduceLeDiff, Int.reduceLE, Int.reduceLT, Nat.reduceEqDiff, Nat.reduceSub, SB, SV.known, packR, ne_eq, reduceCtorEq, Nat.reduceEqDiff, ↓reduceIte, if_true, if_false, eq_self, Nat.reduceAdd, Nat.reduceMul, Nat.reduceSub, forall_const, oneCellS, litOne, flat1, Kd.isSca, flat, TYB]
  · cases ho : unO sortB R
    all_goals
      rw [ho] at e1
      refine pure_of_vc (X := ⟨Try.prog, tys, [(46, l2Rack_F), (71, l3Fewest_F)], [], true, true, 0, [], []⟩) fn_36 ⟨tys_ok, (.cons l2Rack_T (.cons l3Fewest_T .nil)), .nil, mixed⟩ (n0 := 0) (Nat.le_of_ble_eq_true rfl) (by simp [wfL, SV.wf]) (wfH_spec (by simp [wfH, SObj.wf])) (Nat.le_refl _) (fun _ => by simp [SV.wf, wfL]) ?_
      simp -implicitDefEqProofs only [Try.f36, Option.getD_some, argS, l2Rack_F, l3Fewest_F, hR, tkR, hr, ep, ho, ZB, Int.reduceToNat, Nat.reduceLT, Nat.reduceLeDiff, Int.reduceLE, Int.reduceLT, Nat.reduceEqDiff, Nat.reduceSub, SB, SV.known, packR, ne_eq, reduceCtorEq, Nat.reduceEqDiff, ↓reduceIte, if_true, if_false, eq_self, Nat.reduceAdd, Nat.reduceMul, Nat.reduceSub, forall_const, oneCellS, litOne, flat1, Kd.isSca, flat, TYB]
      try (rw [← e1]; simp; done)
--@tbl sFewestPours = spec.FewestPours
theorem sFewestPours_ok (R : List Int) (hR : R.length = 24) : PureH Try.prog 38 [.arr R] [] (.tup [.int (fpF R), .bool (fpB R)]) := by
  have tkR : R.take 24 = R := List.take_of_length_le (by omega)
  have ep : prT true R = sortB := rfl
  have e1 := fw_pos sortB R
  have e2 := fw_most sortB R
  unfold fpF fpB
  cases hr : rackB R
  · refine pure_of_vc (X := ⟨Try.prog, tys, [(46, l2Rack_F), (71, l3Fewest_F), (72, l1Most_F)], [], true, true, 0, [], []⟩) fn_38 ⟨tys_ok, (.cons l2Rack_T (.cons l3Fewest_T (.cons l1Most_T .nil))), .nil, mixed⟩ (n0 := 0) (Nat.le_of_ble_eq_true rfl) (by simp [wfL, SV.wf]) (wfH_spec (by simp [wfH, SObj.wf])) (Nat.le_refl _) (fun _ => by simp [SV.wf, wfL]) ?_
    simp -implicitDefEqProofs only [Try.f38, Option.getD_some, argS, l2Rack_F, l3Fewest_F, l1Most_F, hR, tkR, hr, ZB, Int.reduceToNat, Nat.reduceLT, Nat.reduceLeDiff, Int.reduceLE, Int.reduceLT, Nat.reduceEqDiff, Nat.reduceSub, SB, SV.known, packR, ne_eq, reduceCtorEq, Nat.reduceEqDiff, ↓reduceIte, if_true, if_false, eq_self, Nat.reduceAdd, Nat.reduceMul, Nat.reduceSub, forall_const, oneCellS, litOne, flat1, Kd.isSca, flat, TYB]
  · cases ho : unO sortB R
    all_goals
      rw [ho] at e1
      refine pure_of_vc (X := ⟨Try.prog, tys, [(46, l2Rack_F), (71, l3Fewest_F), (72, l1Most_F)], [], true, true, 0, [], []⟩) fn_38 ⟨tys_ok, (.cons l2Rack_T (.cons l3Fewest_T (.cons l1Most_T .nil))), .nil, mixed⟩ (n0 := 0) (Nat.le_of_ble_eq_true rfl) (by simp [wfL, SV.wf]) (wfH_spec (by simp [wfH, SObj.wf])) (Nat.le_refl _) (fun _ => by simp [SV.wf, wfL]) ?_
      simp -implicitDefEqProofs only [Try.f38, Option.getD_some, argS, l2Rack_F, l3Fewest_F, l1Most_F, hR, tkR, hr, ep, ho, e2, ZB, Int.reduceToNat, Nat.reduceLT, Nat.reduceLeDiff, Int.reduceLE, Int.reduceLT, Nat.reduceEqDiff, Nat.reduceSub, SB, SV.known, packR, ne_eq, reduceCtorEq, Nat.reduceEqDiff, ↓reduceIte, if_true, if_false, eq_self, Nat.reduceAdd, Nat.reduceMul, Nat.reduceSub, forall_const, oneCellS, litOne, flat1, Kd.isSca, flat, TYB]
      try (rw [← e1]; simp; done)
--@tbl sFewestTo = spec.FewestTo
theorem sFewestTo_ok (A B : List Int) (hA : A.length = 24) (hB : B.length = 24) : PureH Try.prog 34 [.arr A, .arr B] [] (.tup [.int (ftF A B), .bool (ftB A B)]) := by
  have tkA : A.take 24 = A := List.take_of_length_le (by omega)
  have tkB : B.take 24 = B := List.take_of_length_le (by omega)
  have fl : (frm B).length = 24 := frm_len hB
  have ep : prT false (frm B) = eqB (frm B) := rfl
  have e1 := fw_pos (eqB (frm B)) A
  have e2 := fw_most (eqB (frm B)) A
  unfold ftF ftB
  cases hr : rackB A
  · refine pure_of_vc (X := ⟨Try.prog, tys, [(46, l2Rack_F), (49, l3Form_F), (71, l3Fewest_F), (72, l1Most_F)], [], true, true, 0, [], []⟩) fn_34 ⟨tys_ok, (.cons l2Rack_T (.cons l3Form_T (.cons l3Fewest_T (.cons l1Most_T .nil)))), .nil, mixed⟩ (n0 := 0) (Nat.le_of_ble_eq_true rfl) (by simp [wfL, SV.wf]) (wfH_spec (by simp [wfH, SObj.wf])) (Nat.le_refl _) (fun _ => by simp [SV.wf, wfL]) ?_
    simp -implicitDefEqProofs only [Try.f34, Option.getD_some, argS, l2Rack_F, l3Form_F, l3Fewest_F, l1Most_F, hA, tkA, hr, hB, tkB, ZB, Int.reduceToNat, Nat.reduceLT, Nat.reduceLeDiff, Int.reduceLE, Int.reduceLT, Nat.reduceEqDiff, Nat.reduceSub, SB, SV.known, packR, ne_eq, reduceCtorEq, Nat.reduceEqDiff, ↓reduceIte, if_true, if_false, eq_self, Nat.reduceAdd, Nat.reduceMul, Nat.reduceSub, forall_const, oneCellS, litOne, flat1, Kd.isSca, flat, TYB]
  cases hs : rackB B
  · refine pure_of_vc (X := ⟨Try.prog, tys, [(46, l2Rack_F), (49, l3Form_F), (71, l3Fewest_F), (72, l1Most_F)], [], true, true, 0, [], []⟩) fn_34 ⟨tys_ok, (.cons l2Rack_T (.cons l3Form_T (.cons l3Fewest_T (.cons l1Most_T .nil)))), .nil, mixed⟩ (n0 := 0) (Nat.le_of_ble_eq_true rfl) (by simp [wfL, SV.wf]) (wfH_spec (by simp [wfH, SObj.wf])) (Nat.le_refl _) (fun _ => by simp [SV.wf, wfL]) ?_
    simp -implicitDefEqProofs only [Try.f34, Option.getD_some, argS, l2Rack_F, l3Form_F, l3Fewest_F, l1Most_F, hA, tkA, hr, hB, tkB, hs, ZB, Int.reduceToNat, Nat.reduceLT, Nat.reduceLeDiff, Int.reduceLE, Int.reduceLT, Nat.reduceEqDiff, Nat.reduceSub, SB, SV.known, packR, ne_eq, reduceCtorEq, Nat.reduceEqDiff, ↓reduceIte, if_true, if_false, eq_self, Nat.reduceAdd, Nat.reduceMul, Nat.reduceSub, forall_const, oneCellS, litOne, flat1, Kd.isSca, flat, TYB]
  · cases ho : unO (eqB (frm B)) A
    all_goals
      rw [ho] at e1
      refine pure_of_vc (X := ⟨Try.prog, tys, [(46, l2Rack_F), (49, l3Form_F), (71, l3Fewest_F), (72, l1Most_F)], [], true, true, 0, [], []⟩) fn_34 ⟨tys_ok, (.cons l2Rack_T (.cons l3Form_T (.cons l3Fewest_T (.cons l1Most_T .nil)))), .nil, mixed⟩ (n0 := 0) (Nat.le_of_ble_eq_true rfl) (by simp [wfL, SV.wf]) (wfH_spec (by simp [wfH, SObj.wf])) (Nat.le_refl _) (fun _ => by simp [SV.wf, wfL]) ?_
      simp -implicitDefEqProofs only [Try.f34, Option.getD_some, argS, l2Rack_F, l3Form_F, l3Fewest_F, l1Most_F, hA, tkA, hr, hB, tkB, hs, fl, ep, ho, e2, ZB, Int.reduceToNat, Nat.reduceLT, Nat.reduceLeDiff, Int.reduceLE, Int.reduceLT, Nat.reduceEqDiff, Nat.reduceSub, SB, SV.known, packR, ne_eq, reduceCtorEq, Nat.reduceEqDiff, ↓reduceIte, if_true, if_false, eq_self, Nat.reduceAdd, Nat.reduceMul, Nat.reduceSub, forall_const, oneCellS, litOne, flat1, Kd.isSca, flat, TYB]
      try (rw [← e1]; simp; done)
def sCanBeSorted_F : List SV → Heap → Option (Prop × SV)
  | [.arr R], _ => some (R.length = 24, .tup [.bool (rackB R && unB sortB R), .bool (rackB R && unO sortB R)])
  | _, _ => none
theorem sCanBeSorted_T : ∀ args H p v, sCanBeSorted_F args H = some (p, v) → p → PureH Try.prog 36 args H v := by
  intro args H p v h hp
  unfold sCanBeSorted_F at h
  split at h
  · cases h; exact (sCanBeSorted_ok _ hp).any _
  · cases h
def sFewestPours_F : List SV → Heap → Option (Prop × SV)
  | [.arr R], _ => some (R.length = 24, .tup [.int (fpF R), .bool (fpB R)])
  | _, _ => none
theorem sFewestPours_T : ∀ args H p v, sFewestPours_F args H = some (p, v) → p → PureH Try.prog 38 args H v := by
  intro args H p v h hp
  unfold sFewestPours_F at h
  split at h
  · cases h; exact (sFewestPours_ok _ hp).any _
  · cases h
def sFewestTo_F : List SV → Heap → Option (Prop × SV)
  | [.arr A, .arr B], _ => some (A.length = 24 ∧ B.length = 24, .tup [.int (ftF A B), .bool (ftB A B)])
  | _, _ => none
theorem sFewestTo_T : ∀ args H p v, sFewestTo_F args H = some (p, v) → p → PureH Try.prog 34 args H v := by
  intro args H p v h hp
  unfold sFewestTo_F at h
  split at h
  · cases h; exact (sFewestTo_ok _ _ hp.1 hp.2).any _
  · cases h
theorem lawCanBeSorted (R : List Int) (hR : R.length = 24) (_ : ∀ x ∈ R, In64 x) : PureH Try.prog 10 [.arr R] [] (.bool true) := by
  have tkR : R.take 24 = R := List.take_of_length_le (by omega)
  cases hb : rackB R && unB sortB R
  all_goals cases hc : rackB R && unO sortB R
  all_goals
    refine pure_of_vc (X := ⟨Try.prog, tys, [(16, toRack_F), (37, CanBeSorted_F), (36, sCanBeSorted_F)], [], true, true, 0, [], []⟩) fn_10 ⟨tys_ok, (.cons toRack_T (.cons CanBeSorted_T (.cons sCanBeSorted_T .nil))), .nil, mixed⟩ (n0 := 0) (Nat.le_of_ble_eq_true rfl) (by simp [wfL, SV.wf]) (wfH_spec (by simp [wfH, SObj.wf])) (Nat.le_refl _) (fun _ => by simp [SV.wf, wfL]) ?_
    simp -implicitDefEqProofs only [Try.f10, Option.getD_some, argS, toRack_F, CanBeSorted_F, sCanBeSorted_F, hR, tkR, hb, hc, ZB, Int.reduceToNat, Nat.reduceLT, Nat.reduceLeDiff, Int.reduceLE, Int.reduceLT, Nat.reduceEqDiff, Nat.reduceSub, SB, SV.known, packR, ne_eq, reduceCtorEq, Nat.reduceEqDiff, ↓reduceIte, if_true, if_false, eq_self, Nat.reduceAdd, Nat.reduceMul, Nat.reduceSub, forall_const, oneCellS, litOne, flat1, Kd.isSca, flat, TYB]
theorem lawFewestPours (R : List Int) (hR : R.length = 24) (_ : ∀ x ∈ R, In64 x) : PureH Try.prog 11 [.arr R] [] (.bool true) := by
  have tkR : R.take 24 = R := List.take_of_length_le (by omega)
  cases hb : fpB R
  all_goals
    refine pure_of_vc (X := ⟨Try.prog, tys, [(16, toRack_F), (39, FewestPours_F), (38, sFewestPours_F)], [], true, true, 0, [], []⟩) fn_11 ⟨tys_ok, (.cons toRack_T (.cons FewestPours_T (.cons sFewestPours_T .nil))), .nil, mixed⟩ (n0 := 0) (Nat.le_of_ble_eq_true rfl) (by simp [wfL, SV.wf]) (wfH_spec (by simp [wfH, SObj.wf])) (Nat.le_refl _) (fun _ => by simp [SV.wf, wfL]) ?_
    simp -implicitDefEqProofs only [Try.f11, Option.getD_some, argS, toRack_F, FewestPours_F, sFewestPours_F, hR, tkR, hb, ZB, Int.reduceToNat, Nat.reduceLT, Nat.reduceLeDiff, Int.reduceLE, Int.reduceLT, Nat.reduceEqDiff, Nat.reduceSub, SB, SV.known, packR, ne_eq, reduceCtorEq, Nat.reduceEqDiff, ↓reduceIte, if_true, if_false, eq_self, Nat.reduceAdd, Nat.reduceMul, Nat.reduceSub, forall_const, oneCellS, litOne, flat1, Kd.isSca, flat, TYB]
theorem lawFewestTo (A B : List Int) (hA : A.length = 24) (_ : ∀ x ∈ A, In64 x) (hB : B.length = 24) (_ : ∀ x ∈ B, In64 x) : PureH Try.prog 9 [.arr A, .arr B] [] (.bool true) := by
  have tkA : A.take 24 = A := List.take_of_length_le (by omega)
  have tkB : B.take 24 = B := List.take_of_length_le (by omega)
  cases hb : ftB A B
  all_goals
    refine pure_of_vc (X := ⟨Try.prog, tys, [(16, toRack_F), (35, FewestTo_F), (34, sFewestTo_F)], [], true, true, 0, [], []⟩) fn_9 ⟨tys_ok, (.cons toRack_T (.cons FewestTo_T (.cons sFewestTo_T .nil))), .nil, mixed⟩ (n0 := 0) (Nat.le_of_ble_eq_true rfl) (by simp [wfL, SV.wf]) (wfH_spec (by simp [wfH, SObj.wf])) (Nat.le_refl _) (fun _ => by simp [SV.wf, wfL]) ?_
    simp -implicitDefEqProofs only [Try.f9, Option.getD_some, argS, toRack_F, FewestTo_F, sFewestTo_F, hA, tkA, hB, tkB, hb, ZB, Int.reduceToNat, Nat.reduceLT, Nat.reduceLeDiff, Int.reduceLE, Int.reduceLT, Nat.reduceEqDiff, Nat.reduceSub, SB, SV.known, packR, ne_eq, reduceCtorEq, Nat.reduceEqDiff, ↓reduceIte, if_true, if_false, eq_self, Nat.reduceAdd, Nat.reduceMul, Nat.reduceSub, forall_const, oneCellS, litOne, flat1, Kd.isSca, flat, TYB]
end Go.Proofs.Ytdnechlmkbchaaa
