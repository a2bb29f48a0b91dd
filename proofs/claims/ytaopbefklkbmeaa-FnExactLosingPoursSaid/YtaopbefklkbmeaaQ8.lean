/- Texts of this claim, joined (Lf1, Lf2, Cd, Lf3, Lf4, Lf5, Fin). -/
import Derived.Test.YtaopbefklkbmeaaQ1
import Derived.Test.YtaopbefklkbmeaaQ2
import Derived.Test.YtaopbefklkbmeaaQ3
import Derived.Test.YtaopbefklkbmeaaQ4
import Derived.Test.YtaopbefklkbmeaaQ5
import Derived.Test.YtaopbefklkbmeaaQ6
import Derived.Test.YtaopbefklkbmeaaQ7
import Derived.Test.YtaopbefklkbmeaaRows
import Derived.ProofKit
import Derived.OpenShut
set_option maxRecDepth 100000
set_option linter.unusedSimpArgs false
set_option linter.unusedVariables false
namespace Go.Proofs.Ytaopbefklkbmeaa
open Go Go.RowKit
def ldF (K : List (List Int)) (V : List Int) (x : List Int) (nm : Int) : Bool := (sucU x).any fun y => decide (y ∈ K) && decide (V.getD (idx K y).toNat 0 = nm)
theorem ld_hit {K : List (List Int)} {V x : List Int} {nm : Int} {q : Nat} (hq : q < sucC x) (h1 : diX x q ∈ K) (h2 : V.getD (idx K (diX x q)).toNat 0 = nm) : ldF K V x nm = true :=
  List.any_eq_true.2 ⟨diX x q, List.mem_map.2 ⟨q, List.mem_range.2 hq, rfl⟩, by rw [h2]; simp [h1]⟩
theorem ld_none {K : List (List Int)} {V x : List Int} {nm : Int} (h : ∀ q, q < sucC x → ¬ (diX x q ∈ K ∧ V.getD (idx K (diX x q)).toNat 0 = nm)) : ldF K V x nm = false := by
  unfold ldF
  rw [List.any_eq_false]
  intro y hy
  obtain ⟨q, hq, rfl⟩ := List.mem_map.1 hy
  have := h q (List.mem_range.1 hq)
  simpa using this
theorem l3Leads_ok (s : SN) (A : Nat → Prop) (m : Nat) (H : Heap) (K : List (List Int)) (P : List Int) (b : Nat) (V : List Int) (i : Nat) (nm : Int) (h : SetH s A m H K P) (hb : hget H b = some (.ints V 3)) (hV : V.length = K.length) (hi : i < K.length) :
    PureH Try.prog 43 [s.val K.length, .slice b 0 K.length K.length, .int i, .int nm] H (.bool (ldF K V (K.getD i []) nm)) := by
  obtain ⟨n0, hwH⟩ := ex_hwf H
  obtain ⟨w1, w2, w3⟩ := h.wf hwH
  have hb0 := (hwH b _ hb).1
  refine pure_of_vc (X := ⟨Try.prog, tys, [(17, l2Pour_F), (19, l3Form_F), (18, l3At_F)], [(15, l2Useful_F)], true, true, n0, [], []⟩) fn_43 ⟨tys_ok, .cons l2Pour_T (.cons l3Form_T (.cons l3At_T .nil)), .cons l2Useful_T .nil, mixed⟩ (n0 := n0) (Nat.le_of_ble_eq_true rfl) (by simp [wfL, SV.wf, SN.val]; omega) hwH (Nat.le_refl _) (fun _ => trivial) ?_
  have hf := h.f
  have i0 : 0 ≤ (i : Int) := by omega
  have iK : (i : Int) < (K.length : Int) := by omega
  obtain ⟨lQ, eQ, x24, xr⟩ := h.Kbd hi
  have ok24 := h.ok.all24
  generalize hx : K.getD i [] = x at *
  have hnp := ulF_sucC x
  have hnp36 := sucC_le x
  generalize hsc : sucC x = np at *
  have ehp : (ulF x).length / 2 = np := by omega
  have tkx : List.take 24 x = x := List.take_of_length_le (by omega)
  rw [SN.val_cel]
  unfold SN.cel
  have xf := ne_add w1; have xf' := ne_add' w1
  simp -implicitDefEqProofs only [Try.f43, Option.getD_some, argS, l2Useful_F, freshK, Wrap.ap, hf, i0, iK, lQ, eQ, x24, xr, tkx, ehp, xf, xf', Nat.add_assoc, add_self, self_add, add_add, ZB, Int.reduceToNat, Nat.reduceLT, Nat.reduceLeDiff, Int.reduceLE, Int.reduceLT, Nat.reduceEqDiff, Nat.reduceSub, SB, SV.known, packR, ne_eq, reduceCtorEq, Nat.reduceEqDiff, ↓reduceIte, if_true, if_false, eq_self, Nat.reduceAdd, Nat.reduceMul, Nat.reduceSub, forall_const, oneCellS, litOne, flat1, Kd.isSca, flat, TYB]
  intro cap junk hj
  have hw2 : hwf (n0 + 2) ((n0 + 1, .ints (ulF x ++ junk) 49) :: (n0, .cells [.slice s.f 0 K.length s.cf, .slice s.q 0 K.length s.cq, .slice s.u 0 1009 1009] 42) :: H) :=
    hwf_cons (hwf_cons (hwf_mono (by omega) hwH) (by omega) (by simp [SObj.wf, wfL, SV.wf]; omega)) (by omega) trivial
  have hEH : Ext H ((n0 + 1, .ints (ulF x ++ junk) 49) :: (n0, .cells [.slice s.f 0 K.length s.cf, .slice s.q 0 K.length s.cq, .slice s.u 0 1009 1009] 42) :: H) := Ext.cons hwH (by omega) (Ext.cons hwH (by omega) (Ext.refl H))
  have ga : hget ((n0 + 1, SObj.ints (ulF x ++ junk) 49) :: (n0, .cells [.slice s.f 0 K.length s.cf, .slice s.q 0 K.length s.cq, .slice s.u 0 1009 1009] 42) :: H) (n0 + 1) = some (.ints (ulF x ++ junk) 49) := by simp [hget_cons]
  have gb : hget ((n0 + 1, SObj.ints (ulF x ++ junk) 49) :: (n0, .cells [.slice s.f 0 K.length s.cf, .slice s.q 0 K.length s.cq, .slice s.u 0 1009 1009] 42) :: H) n0 = some (.cells [.slice s.f 0 K.length s.cf, .slice s.q 0 K.length s.cq, .slice s.u 0 1009 1009] 42) := by simp [hget_cons]
  generalize (n0 + 1, SObj.ints (ulF x ++ junk) 49) :: (n0, SObj.cells [.slice s.f 0 K.length s.cf, .slice s.q 0 K.length s.cq, .slice s.u 0 1009 1009] 42) :: H = Hc at *
  refine loop_introN (fun z : Nat × Heap × Nat => [(10, .int z.1), (9, .slice (n0 + 1) 0 np cap), (4, .ptr n0 0), (1, .slice b 0 K.length K.length), (2, .int i), (3, .int nm)]) (fun z => z.2.1) (fun z => z.2.2)
    (fun z => z.1 ≤ np ∧ n0 + 2 ≤ z.2.2 ∧ hwf z.2.2 z.2.1 ∧ Ext Hc z.2.1 ∧ ∀ q, q < z.1 → ¬ (diX x q ∈ K ∧ V.getD (idx K (diX x q)).toNat 0 = nm)) (fun z => np - z.1) ?_ ?_
  · refine ⟨(0, Hc, n0 + 2), ⟨Nat.zero_le _, Nat.le_refl _, hw2, Ext.refl _, fun q hq => by omega⟩, Sub.same ?_ ?_ hw2 (by show n0 ≤ n0 + 2; omega)⟩
    · simp only [LB, subS, subH, wfS, wfH, SV.ren, renL, SObj.ren, SV.wf, SObj.wf, wfL, SV.known, Nat.reduceEqDiff, ↓reduceIte, if_true, if_false, eq_self, Nat.reduceAdd, Nat.reduceLT, Nat.reduceLeDiff, implies_true, reduceCtorEq, forall_const]
    · simp [subS, subH, wfS, wfH, SV.ren, renL, SObj.ren, SV.wf, SObj.wf, wfL, sget_cons, hget_cons]; omega
  · rintro ⟨q, H1, n1⟩ ⟨hq, hn1, hwf1, hE1, hall⟩
    simp only at hq hn1 hwf1 hE1 hall
    have hE : Ext H H1 := fun k o hk => hE1 k o (hEH k o hk)
    have hS1 := h.mono hE
    have hf1 := hE _ _ hf
    have hb1 := hE _ _ hb
    have ga1 := hE1 _ _ ga
    have gb1 := hE1 _ _ gb
    by_cases hqn : q < np
    · have hql : (q : Int) < np := by omega
      have lenP : (ulF x ++ junk).length = cap * 2 := by rw [List.length_append]; omega
      obtain ⟨a0, b0⟩ := ul_bd (R := x) (q := q) (by omega)
      have eP0 : (ulF x ++ junk).getD (q * 2) 0 = (ulF x).getD (q * 2) 0 := getD_app _ _ _ (by omega)
      have eP1 : (ulF x ++ junk).getD (q * 2 + 1) 0 = (ulF x).getD (q * 2 + 1) 0 := getD_app _ _ _ (by omega)
      have pl := pourF_len x24 ((ulF x).getD (q * 2) 0).toNat ((ulF x).getD (q * 2 + 1) 0).toNat
      have tkp := List.take_of_length_le (Nat.le_of_eq pl)
      have xl := diX_len x24 q
      have xrr := diX_rack x24 xr (q := q) (by omega)
      have ex : frm (pourF x ((ulF x).getD (q * 2) 0).toNat ((ulF x).getD (q * 2 + 1) 0).toNat) = diX x q := rfl
      have ek : chkR (K.flatten ++ s.J1) 0 K.length = K := chkR_of ok24 s.J1
      have yf := ne_add (n := n1) (k := s.f) (by have := (hwf1 _ _ hf1).1; omega); have yf' := ne_add' (n := n1) (k := s.f) (by have := (hwf1 _ _ hf1).1; omega)
      have yb := ne_add (n := n1) (k := b) (by have := (hwf1 _ _ hb1).1; omega); have yb' := ne_add' (n := n1) (k := b) (by have := (hwf1 _ _ hb1).1; omega)
      have ya' : (n0 + 1 = n1) = False := by simp; omega
      have yc' : (n0 = n1) = False := by simp; omega
      have hset : ∀ o1 o2 : SObj, ∃ (s' : SN) (A' : Nat → Prop) (m' : Nat) (K' : List (List Int)) (P' : List Int), SV.stc [SV.slice s.f 0 K.length s.cf, SV.slice s.q 0 K.length s.cq, SV.slice s.u 0 1009 1009] = s'.val K'.length ∧ SetH s' A' m' ((n1, o1) :: (n1, o2) :: H1) K' P' :=
        fun o1 o2 => ⟨s, A, m, K, P, rfl, hS1.mono (Ext.cons hwf1 (Nat.le_refl _) (Ext.cons hwf1 (Nat.le_refl _) (Ext.refl _)))⟩
      have hgo : ¬ (diX x q ∈ K ∧ V.getD (idx K (diX x q)).toNat 0 = nm) → ∀ k, k < q + 1 → ¬ (diX x k ∈ K ∧ V.getD (idx K (diX x k)).toNat 0 = nm) := fun hn k hk => by
        by_cases hkq : k = q
        · rw [hkq]; exact hn
        · exact hall k (by omega)
      by_cases hin : diX x q ∈ K
      · obtain ⟨j, hid, hjK, _⟩ := idx_in hin
        have j0 : 0 ≤ (j : Int) := by omega
        have jK : (j : Int) < (K.length : Int) := by omega
        have jv : j < V.length := by omega
        by_cases hnm : V.getD j 0 = nm
        · have hh : ldF K V x nm = true := ld_hit (q := q) (by omega) hin (by rw [hid]; simpa using hnm)
          simp -implicitDefEqProofs only [lk_normal, l2Pour_F, l3Form_F, l3At_F, hql, ga1, gb1, hf1, hb1, i0, iK, lQ, eQ, lenP, eP0, eP1, x24, xr, tkx, a0, b0, pl, tkp, ex, xl, xrr, ek, yf, yf', yb, yb', ya', yc', hid, jv, jK, j0, hnm, Nat.add_assoc, add_self, self_add, add_add, ZB, Int.reduceToNat, Nat.reduceLT, Nat.reduceLeDiff, Int.reduceLE, Int.reduceLT, Nat.reduceEqDiff, Nat.reduceSub, SB, SV.known, packR, ne_eq, reduceCtorEq, Nat.reduceEqDiff, ↓reduceIte, if_true, if_false, eq_self, Nat.reduceAdd, Nat.reduceMul, Nat.reduceSub, forall_const, oneCellS, litOne, flat1, Kd.isSca, flat, TYB]
          refine ⟨by omega, by omega, by omega, by omega, by omega, hset _ _, ?_⟩
          rw [hh]
        · simp -implicitDefEqProofs only [lk_normal, l2Pour_F, l3Form_F, l3At_F, hql, ga1, gb1, hf1, hb1, i0, iK, lQ, eQ, lenP, eP0, eP1, x24, xr, tkx, a0, b0, pl, tkp, ex, xl, xrr, ek, yf, yf', yb, yb', ya', yc', hid, jv, jK, j0, hnm, Nat.add_assoc, add_self, self_add, add_add, ZB, Int.reduceToNat, Nat.reduceLT, Nat.reduceLeDiff, Int.reduceLE, Int.reduceLT, Nat.reduceEqDiff, Nat.reduceSub, SB, SV.known, packR, ne_eq, reduceCtorEq, Nat.reduceEqDiff, ↓reduceIte, if_true, if_false, eq_self, Nat.reduceAdd, Nat.reduceMul, Nat.reduceSub, forall_const, oneCellS, litOne, flat1, Kd.isSca, flat, TYB]
          refine ⟨by omega, by omega, by omega, by omega, by omega, hset _ _, by unfold In64; omega, (q + 1, H1, n1), ⟨by show q + 1 ≤ np; omega, hn1, hwf1, hE1, hgo fun hc => hnm (by have := hc.2; rw [hid] at this; simpa using this)⟩, by show np - (q + 1) < np - q; omega, Sub.mk_ext (l := []) ?_ ?_ ?_ ?_ (by show n0 ≤ n1; omega) (Ext.cons hwf1 (Nat.le_refl _) (Ext.cons hwf1 (Nat.le_refl _) (Ext.refl _))) hwf1⟩
          all_goals ((try simp only [LB, subS, subH, wfS, wfH, SV.ren, renL, SObj.ren, SV.wf, SObj.wf, wfL, SV.known, Nat.reduceEqDiff, ↓reduceIte, if_true, if_false, eq_self, Nat.reduceAdd, Nat.reduceLT, Nat.reduceLeDiff, implies_true, reduceCtorEq, forall_const]) <;> (try simp [subS, subH, wfS, wfH, SV.ren, renL, SObj.ren, SV.wf, SObj.wf, wfL, sget_cons, hget_cons]) <;> (try omega))
      · have hid := idx_out hin
        have j0 : ¬ (0 : Int) ≤ -1 := by omega
        have jK : True := trivial
        have jv : True := trivial
        have hnm : True := trivial
        simp -implicitDefEqProofs only [lk_normal, l2Pour_F, l3Form_F, l3At_F, hql, ga1, gb1, hf1, hb1, i0, iK, lQ, eQ, lenP, eP0, eP1, x24, xr, tkx, a0, b0, pl, tkp, ex, xl, xrr, ek, yf, yf', yb, yb', ya', yc', hid, jv, jK, j0, hnm, Nat.add_assoc, add_self, self_add, add_add, ZB, Int.reduceToNat, Nat.reduceLT, Nat.reduceLeDiff, Int.reduceLE, Int.reduceLT, Nat.reduceEqDiff, Nat.reduceSub, SB, SV.known, packR, ne_eq, reduceCtorEq, Nat.reduceEqDiff, ↓reduceIte, if_true, if_false, eq_self, Nat.reduceAdd, Nat.reduceMul, Nat.reduceSub, forall_const, oneCellS, litOne, flat1, Kd.isSca, flat, TYB]
        refine ⟨by omega, by omega, by omega, by omega, by omega, hset _ _, by unfold In64; omega, (q + 1, H1, n1), ⟨by show q + 1 ≤ np; omega, hn1, hwf1, hE1, hgo fun hc => hin hc.1⟩, by show np - (q + 1) < np - q; omega, Sub.mk_ext (l := []) ?_ ?_ ?_ ?_ (by show n0 ≤ n1; omega) (Ext.cons hwf1 (Nat.le_refl _) (Ext.cons hwf1 (Nat.le_refl _) (Ext.refl _))) hwf1⟩
        all_goals ((try simp only [LB, subS, subH, wfS, wfH, SV.ren, renL, SObj.ren, SV.wf, SObj.wf, wfL, SV.known, Nat.reduceEqDiff, ↓reduceIte, if_true, if_false, eq_self, Nat.reduceAdd, Nat.reduceLT, Nat.reduceLeDiff, implies_true, reduceCtorEq, forall_const]) <;> (try simp [subS, subH, wfS, wfH, SV.ren, renL, SObj.ren, SV.wf, SObj.wf, wfL, sget_cons, hget_cons]) <;> (try omega))
    · have hql : ¬ (q : Int) < np := by omega
      obtain rfl : q = np := by omega
      have hn : ldF K V x nm = false := ld_none (by rw [hsc]; exact hall)
      simp -implicitDefEqProofs only [lk_normal, hql, hn, ZB, Int.reduceToNat, Nat.reduceLT, Nat.reduceLeDiff, Int.reduceLE, Int.reduceLT, Nat.reduceEqDiff, Nat.reduceSub, SB, SV.known, packR, ne_eq, reduceCtorEq, Nat.reduceEqDiff, ↓reduceIte, if_true, if_false, eq_self, Nat.reduceAdd, Nat.reduceMul, Nat.reduceSub, forall_const, oneCellS, litOne, flat1, Kd.isSca, flat, TYB]
end Go.Proofs.Ytaopbefklkbmeaa
set_option maxRecDepth 100000
set_option linter.unusedSimpArgs false
set_option linter.unusedVariables false
namespace Go.Proofs.Ytaopbefklkbmeaa
open Go Go.RowKit
/-- The set in the heap; numbers beside it. -/
def l3Leads_F : List SV → Heap → Option (Prop × SV)
  | [.stc [.slice f 0 len cf, v2, v3], .slice b 0 l2 c2, .int i, .int nm], H => match hget H f, hget H b with
    | some (.ints L _), some (.ints V e) => some ((∃ (s : SN) (A : Nat → Prop) (m : Nat) (K : List (List Int)) (P : List Int), SV.stc [.slice f 0 len cf, v2, v3] = s.val K.length ∧ SetH s A m H K P) ∧ (e = 3 ∧ l2 = len ∧ c2 = len ∧ V.length = len) ∧ 0 ≤ i ∧ i < len, .bool (ldF (chkR L 0 len) V ((chkR L 0 len).getD i.toNat []) nm))
    | _, _ => none
  | _, _ => none
--@tbl l3Leads = spec.l3Leads
theorem l3Leads_T : ∀ args H p v, l3Leads_F args H = some (p, v) → p → PureH Try.prog 43 args H v := by
  intro args H p v h hp
  unfold l3Leads_F at h
  split at h
  · rename_i f len cf v2 v3 b l2 c2 i nm
    split at h
    · rename_i L e V e' hf hb
      cases h
      obtain ⟨⟨s, A, m, K, P, hs, hS⟩, ⟨he, h2, h3, hV⟩, hi0, hi1⟩ := hp
      have e1 : f = s.f ∧ len = K.length := by
        unfold SN.val at hs
        simp only [SV.stc.injEq, List.cons.injEq, SV.slice.injEq] at hs
        exact ⟨hs.1.1, hs.1.2.2.1⟩
      obtain ⟨rfl, rfl⟩ := e1
      subst he; subst h2; subst h3
      obtain ⟨k, rfl⟩ := Int.eq_ofNat_of_zero_le hi0
      have hL := hS.f
      rw [hf] at hL
      cases hL
      rw [chkR_of hS.ok.all24, hs]
      exact l3Leads_ok s A m H K P b V k nm hS hb hV (by omega)
    · cases h
  · cases h
/-! A list that is done up to a place. -/
def mixL (f g : List Int → Int) (K : List (List Int)) (i : Nat) : List Int := (K.take i).map f ++ (K.drop i).map g
theorem mixL_zero (f g : List Int → Int) (K : List (List Int)) : mixL f g K 0 = K.map g := by simp [mixL]
theorem mixL_end (f g : List Int → Int) (K : List (List Int)) : mixL f g K K.length = K.map f := by simp [mixL]
theorem mixL_len (f g : List Int → Int) (K : List (List Int)) (i : Nat) : (mixL f g K i).length = K.length := by
  simp only [mixL, List.length_append, List.length_map, List.length_take, List.length_drop]; omega
theorem mixL_get (f g : List Int → Int) (K : List (List Int)) (i j : Nat) (hj : j < K.length) : (mixL f g K i).getD j 0 = if j < i then f (K.getD j []) else g (K.getD j []) := by
  have e : K.getD j [] = K[j] := by rw [List.getD_eq_getElem?_getD, List.getElem?_eq_getElem hj]; rfl
  rw [e, List.getD_eq_getElem?_getD]
  unfold mixL
  by_cases h : j < i
  · rw [if_pos h, List.getElem?_append_left (by simp; omega)]
    simp [h, hj]
  · rw [if_neg h, List.getElem?_append_right (by simp; omega)]
    simp only [List.length_map, List.length_take, List.getElem?_map, List.getElem?_drop]
    have : i + (j - min i K.length) = j := by omega
    rw [this, List.getElem?_eq_getElem hj]; rfl
theorem mixL_set (f g : List Int → Int) (K : List (List Int)) (i : Nat) (hi : i < K.length) : (mixL f g K i).set i (f (K.getD i [])) = mixL f g K (i + 1) := by
  refine List.ext_getElem (by rw [List.length_set, mixL_len, mixL_len]) fun j h1 h2 => ?_
  rw [mixL_len] at h2
  have e1 := mixL_get f g K i j h2
  have e2 := mixL_get f g K (i + 1) j h2
  rw [List.getD_eq_getElem?_getD, List.getElem?_eq_getElem (by rw [mixL_len]; exact h2)] at e1 e2
  simp only [Option.getD_some] at e1 e2
  rw [List.getElem_set, e1, e2]
  by_cases hj : i = j
  · subst hj
    rw [if_pos rfl, if_pos (by omega)]
  · rw [if_neg hj]
    by_cases h : j < i
    · rw [if_pos h, if_pos (by omega)]
    · rw [if_neg h, if_neg (by omega)]
theorem mixL_set2 (f g : List Int → Int) (K : List (List Int)) (i : Nat) (v : Int) (hi : i < K.length) : ((mixL f g K i).set i v).set i (f (K.getD i [])) = mixL f g K (i + 1) := by
  rw [List.set_set, mixL_set f g K i hi]
theorem mixL_skip (f g : List Int → Int) (K : List (List Int)) (i : Nat) (hi : i < K.length) (h : f (K.getD i []) = g (K.getD i [])) : mixL f g K (i + 1) = mixL f g K i := by
  rw [← mixL_set f g K i hi]
  refine List.ext_getElem (by rw [List.length_set]) fun j h1 h2 => ?_
  rw [List.getElem_set]
  rw [mixL_len] at h2
  by_cases hj : i = j
  · subst hj
    have e1 := mixL_get f g K i i hi
    rw [List.getD_eq_getElem?_getD, List.getElem?_eq_getElem (by rw [mixL_len]; exact hi)] at e1
    simp only [Option.getD_some] at e1
    rw [if_pos rfl, e1, if_neg (by omega), h]
  · rw [if_neg hj]
/-- In the midst of a round the same pours lead on. -/
theorem ld_mix {K : List (List Int)} {k i : Nat} {x : List Int} : ldF K (mixL (lf K (k + 1)) (lf K k) K i) x (k : Int) = ((sucU x).any fun y => decide (y ∈ K) && decide (lf K k y = (k : Int))) := by
  unfold ldF
  congr 1
  funext y
  by_cases hy : y ∈ K
  · obtain ⟨j, h1, h2, h3⟩ := idx_in hy
    rw [h1, Int.toNat_natCast, mixL_get _ _ _ _ _ h2, h3]
    congr 1
    by_cases hj : j < i
    · rw [if_pos hj]
      have : lf K (k + 1) y = (k : Int) ↔ lf K k y = (k : Int) := by
        by_cases h0 : 0 ≤ lf K k y
        · rw [lf_keep h0]
        · constructor
          · intro h
            rcases lf_rng K y (k + 1) with g | ⟨q, g1, g2, g3⟩
            · omega
            · have : q = k := by omega
              subst this; exact g3
          · intro h; omega
      exact decide_eq_decide.2 this
    · rw [if_neg hj]
  · simp [hy]
theorem lf_next {K : List (List Int)} {k : Nat} {x : List Int} (h : ¬ 0 ≤ lf K k x) (i : Nat) : (ldF K (mixL (lf K (k + 1)) (lf K k) K i) x (k : Int) = true ∧ lf K (k + 1) x = ((k + 1 : Nat) : Int)) ∨ (ldF K (mixL (lf K (k + 1)) (lf K k) K i) x (k : Int) = false ∧ lf K (k + 1) x = lf K k x) := by
  rw [ld_mix]
  cases ha : (sucU x).any fun y => decide (y ∈ K) && decide (lf K k y = (k : Int))
  · refine .inr ⟨rfl, ?_⟩
    rw [lf_s, if_neg h, if_neg (by rw [ha]; simp)]
    rcases lf_rng K x k with g | ⟨q, g1, g2, g3⟩ <;> omega
  · exact .inl ⟨rfl, by rw [lf_s, if_neg h, if_pos ha]⟩
theorem l3Left_vc (s : SN) (A : Nat → Prop) (m0 m n N : Nat) (H : Heap) (K : List (List Int)) (P : List Int) (h : SetH s A m0 H K P) (hwH : hwf n H) (hmn : m ≤ n) (hN : N ≤ 100000) :
    codeVC (⟨Try.prog, tys, [(42, l2Sorted_F), (43, l3Leads_F)], [], true, true, m, [], []⟩ : Cx) n (Try.f16.body.getD .skip) (argS 0 [s.val K.length, .int N]) H n
      (retK tys Try.f16.results.toList fun v H' n' => v = .slice (n + 1) 0 K.length K.length ∧ H' = (n + 1, .ints (K.map (lf K N)) 3) :: (n, .cells (s.cel K.length) 42) :: H ∧ n' = n + 2) := by
  obtain ⟨w1, w2, w3⟩ := h.wf hwH
  have hf := h.f
  have ok24 := h.ok.all24
  have hsm := h.sm
  have ek : chkR (K.flatten ++ s.J1) 0 K.length = K := chkR_of ok24 s.J1
  rw [SN.val_cel]
  unfold SN.cel
  have xf := ne_add w1; have xf' := ne_add' w1
  simp -implicitDefEqProofs only [Try.f16, Option.getD_some, argS, hf, xf, xf', Nat.add_assoc, add_self, self_add, add_add, ZB, Int.reduceToNat, Nat.reduceLT, Nat.reduceLeDiff, Int.reduceLE, Int.reduceLT, Nat.reduceEqDiff, Nat.reduceSub, SB, SV.known, packR, ne_eq, reduceCtorEq, Nat.reduceEqDiff, ↓reduceIte, if_true, if_false, eq_self, Nat.reduceAdd, Nat.reduceMul, Nat.reduceSub, forall_const, oneCellS, litOne, flat1, Kd.isSca, flat, TYB]
  refine ⟨by omega, by omega, by omega, ?_⟩
  refine loop_intro (fun i : Nat => [(6, .int i), (5, .slice (n + 1) 0 K.length K.length), (2, .ptr n 0), (1, .int N)]) (fun i => (n + 1, .ints (mixL (lf K 0) (fun _ => 0) K i) 3) :: (n, .cells [.slice s.f 0 K.length s.cf, .slice s.q 0 K.length s.cq, .slice s.u 0 1009 1009] 42) :: H) (n + 2) (fun i => i ≤ K.length) (fun i => K.length - i) ?_ ?_
  · refine ⟨0, Nat.zero_le _, ?_⟩
    rw [mixL_zero, List.map_const']
    exact Sub.same (by simp only [LB, subS, subH, wfS, wfH, SV.ren, renL, SObj.ren, SV.wf, SObj.wf, wfL, SV.known, Nat.reduceEqDiff, ↓reduceIte, if_true, if_false, eq_self, Nat.reduceAdd, Nat.reduceLT, Nat.reduceLeDiff, implies_true, reduceCtorEq, forall_const]) (by simp [subS, subH, wfS, wfH, SV.ren, renL, SObj.ren, SV.wf, SObj.wf, wfL, sget_cons, hget_cons] <;> omega) (hwf_cons (hwf_cons (hwf_mono (by omega) hwH) (by omega) (by simp [SObj.wf, wfL, SV.wf]; omega)) (by omega) trivial) (by omega)
  · intro i hi
    by_cases hlt : i < K.length
    · have hil : (i : Int) < K.length := by omega
      have i0 : 0 ≤ (i : Int) := by omega
      obtain ⟨lQ, eQ, x24, xr⟩ := h.Kbd hlt
      have lV := mixL_len (lf K 0) (fun _ => 0) K i
      have es := mixL_set (lf K 0) (fun _ => 0) K i hlt
      have es2 := mixL_set2 (lf K 0) (fun _ => 0) K i (-1) hlt
      have e0 : lf K 0 (K.getD i []) = if sortB (K.getD i []) = true then 0 else -1 := rfl
      generalize hx : K.getD i [] = x at *
      have tkx : List.take 24 x = x := List.take_of_length_le (by omega)
      generalize mixL (lf K 0) (fun _ => 0) K i = V at *
      cases hs : sortB x
      · rw [hs] at e0
        rw [e0] at es
        simp only [Bool.false_eq_true, if_false] at es
        simp -implicitDefEqProofs only [lk_normal, l2Sorted_F, hil, i0, lQ, eQ, x24, xr, tkx, lV, hs, es, hf, xf, xf', Nat.add_assoc, add_self, self_add, add_add, ZB, Int.reduceToNat, Nat.reduceLT, Nat.reduceLeDiff, Int.reduceLE, Int.reduceLT, Nat.reduceEqDiff, Nat.reduceSub, SB, SV.known, packR, ne_eq, reduceCtorEq, Nat.reduceEqDiff, ↓reduceIte, if_true, if_false, eq_self, Nat.reduceAdd, Nat.reduceMul, Nat.reduceSub, forall_const, oneCellS, litOne, flat1, Kd.isSca, flat, TYB]
        refine ⟨by omega, by omega, by unfold In64; omega, i + 1, by omega, by omega, Sub.mk_ext (l := [(n + 1, .ints _ _), (n, .cells _ _)]) ?_ ?_ ?_ ?_ (by omega) (by repeat' first | exact Ext.refl _ | refine Ext.cons hwH (by omega) ?_) (hwf_mono (by omega) hwH)⟩
        all_goals ((try simp only [LB, subS, subH, wfS, wfH, SV.ren, renL, SObj.ren, SV.wf, SObj.wf, wfL, SV.known, Nat.reduceEqDiff, ↓reduceIte, if_true, if_false, eq_self, Nat.reduceAdd, Nat.reduceLT, Nat.reduceLeDiff, implies_true, reduceCtorEq, forall_const]) <;> (try simp [subS, subH, wfS, wfH, SV.ren, renL, SObj.ren, SV.wf, SObj.wf, wfL, sget_cons, hget_cons]) <;> (try omega))
      · rw [hs] at e0
        rw [e0] at es2
        simp only [if_true] at es2
        simp -implicitDefEqProofs only [lk_normal, l2Sorted_F, hil, i0, lQ, eQ, x24, xr, tkx, lV, hs, es2, hf, xf, xf', Nat.add_assoc, add_self, self_add, add_add, ZB, Int.reduceToNat, Nat.reduceLT, Nat.reduceLeDiff, Int.reduceLE, Int.reduceLT, Nat.reduceEqDiff, Nat.reduceSub, SB, SV.known, packR, ne_eq, reduceCtorEq, Nat.reduceEqDiff, ↓reduceIte, if_true, if_false, eq_self, Nat.reduceAdd, Nat.reduceMul, Nat.reduceSub, forall_const, oneCellS, litOne, flat1, Kd.isSca, flat, TYB]
        refine ⟨by omega, by omega, by omega, by omega, by unfold In64; omega, i + 1, by omega, by omega, Sub.mk_ext (l := [(n + 1, .ints _ _), (n, .cells _ _)]) ?_ ?_ ?_ ?_ (by omega) (by repeat' first | exact Ext.refl _ | refine Ext.cons hwH (by omega) ?_) (hwf_mono (by omega) hwH)⟩
        all_goals ((try simp only [LB, subS, subH, wfS, wfH, SV.ren, renL, SObj.ren, SV.wf, SObj.wf, wfL, SV.known, Nat.reduceEqDiff, ↓reduceIte, if_true, if_false, eq_self, Nat.reduceAdd, Nat.reduceLT, Nat.reduceLeDiff, implies_true, reduceCtorEq, forall_const]) <;> (try simp [subS, subH, wfS, wfH, SV.ren, renL, SObj.ren, SV.wf, SObj.wf, wfL, sget_cons, hget_cons]) <;> (try omega))
    · have hil : ¬ (i : Int) < K.length := by omega
      obtain rfl : i = K.length := by omega
      rw [mixL_end]
      simp -implicitDefEqProofs only [lk_normal, hil, ZB, Int.reduceToNat, Nat.reduceLT, Nat.reduceLeDiff, Int.reduceLE, Int.reduceLT, Nat.reduceEqDiff, Nat.reduceSub, SB, SV.known, packR, ne_eq, reduceCtorEq, Nat.reduceEqDiff, ↓reduceIte, if_true, if_false, eq_self, Nat.reduceAdd, Nat.reduceMul, Nat.reduceSub, forall_const, oneCellS, litOne, flat1, Kd.isSca, flat, TYB]
      refine loop_intro (fun z : Nat × Bool => [(8, .bool z.2), (7, .int ((z.1 + 1 : Nat) : Int)), (5, .slice (n + 1) 0 K.length K.length), (2, .ptr n 0), (1, .int N)]) (fun z => (n + 1, .ints (K.map (lf K z.1)) 3) :: (n, .cells [.slice s.f 0 K.length s.cf, .slice s.q 0 K.length s.cq, .slice s.u 0 1009 1009] 42) :: H) (n + 2)
        (fun z => z.1 ≤ N ∧ (z.2 = false → ∀ m, ∀ x ∈ K, lf K (z.1 + m) x = lf K z.1 x)) (fun z => N - z.1) ?_ ?_
      · refine ⟨(0, true), ⟨Nat.zero_le _, fun h => by cases h⟩, Sub.same (by simp only [LB, subS, subH, wfS, wfH, SV.ren, renL, SObj.ren, SV.wf, SObj.wf, wfL, SV.known, Nat.reduceEqDiff, ↓reduceIte, if_true, if_false, eq_self, Nat.reduceAdd, Nat.reduceLT, Nat.reduceLeDiff, implies_true, reduceCtorEq, forall_const]) (by simp [subS, subH, wfS, wfH, SV.ren, renL, SObj.ren, SV.wf, SObj.wf, wfL, sget_cons, hget_cons] <;> omega) (hwf_cons (hwf_cons (hwf_mono (by omega) hwH) (by omega) (by simp [SObj.wf, wfL, SV.wf]; omega)) (by omega) trivial) (by omega)⟩
      · rintro ⟨k, g⟩ ⟨hk, hg⟩
        simp only at hk hg
        by_cases hgo : k + 1 ≤ N
        · have hgo' : ((k + 1 : Nat) : Int) ≤ N := by omega
          cases g with
          | false =>
            have e : K.map (lf K k) = K.map (lf K N) := List.map_congr_left fun x hx => by
              have := hg rfl (N - k) x hx
              rw [show k + (N - k) = N by omega] at this
              exact this.symm
            rw [e]
            simp -implicitDefEqProofs only [lk_normal, hgo', ZB, Int.reduceToNat, Nat.reduceLT, Nat.reduceLeDiff, Int.reduceLE, Int.reduceLT, Nat.reduceEqDiff, Nat.reduceSub, SB, SV.known, packR, ne_eq, reduceCtorEq, Nat.reduceEqDiff, ↓reduceIte, if_true, if_false, eq_self, Nat.reduceAdd, Nat.reduceMul, Nat.reduceSub, forall_const, oneCellS, litOne, flat1, Kd.isSca, flat, TYB]
          | true =>
            simp -implicitDefEqProofs only [lk_normal, hgo', ZB, Int.reduceToNat, Nat.reduceLT, Nat.reduceLeDiff, Int.reduceLE, Int.reduceLT, Nat.reduceEqDiff, Nat.reduceSub, SB, SV.known, packR, ne_eq, reduceCtorEq, Nat.reduceEqDiff, ↓reduceIte, if_true, if_false, eq_self, Nat.reduceAdd, Nat.reduceMul, Nat.reduceSub, forall_const, oneCellS, litOne, flat1, Kd.isSca, flat, TYB]
            refine loop_intro (fun z : Nat × Bool => [(9, .int z.1), (8, .bool z.2), (7, .int ((k + 1 : Nat) : Int)), (5, .slice (n + 1) 0 K.length K.length), (2, .ptr n 0), (1, .int N)]) (fun z => (n + 1, .ints (mixL (lf K (k + 1)) (lf K k) K z.1) 3) :: (n, .cells [.slice s.f 0 K.length s.cf, .slice s.q 0 K.length s.cq, .slice s.u 0 1009 1009] 42) :: H) (n + 2)
              (fun z => z.1 ≤ K.length ∧ (z.2 = false → ∀ j, j < z.1 → lf K (k + 1) (K.getD j []) = lf K k (K.getD j []))) (fun z => K.length - z.1) ?_ ?_
            · refine ⟨(0, false), ⟨Nat.zero_le _, fun _ j hj => by omega⟩, ?_⟩
              simp only [mixL_zero]
              exact Sub.same (by simp only [LB, subS, subH, wfS, wfH, SV.ren, renL, SObj.ren, SV.wf, SObj.wf, wfL, SV.known, Nat.reduceEqDiff, ↓reduceIte, if_true, if_false, eq_self, Nat.reduceAdd, Nat.reduceLT, Nat.reduceLeDiff, implies_true, reduceCtorEq, forall_const]) (by simp [subS, subH, wfS, wfH, SV.ren, renL, SObj.ren, SV.wf, SObj.wf, wfL, sget_cons, hget_cons] <;> omega) (hwf_cons (hwf_cons (hwf_mono (by omega) hwH) (by omega) (by simp [SObj.wf, wfL, SV.wf]; omega)) (by omega) trivial) (by omega)
            · rintro ⟨i, gr⟩ ⟨hi, hgr⟩
              simp only at hi hgr
              by_cases hlt : i < K.length
              · have hil : (i : Int) < K.length := by omega
                have i0 : 0 ≤ (i : Int) := by omega
                have lV := mixL_len (lf K (k + 1)) (lf K k) K i
                have gV := mixL_get (lf K (k + 1)) (lf K k) K i i hlt
                rw [if_neg (by omega)] at gV
                have es := mixL_set (lf K (k + 1)) (lf K k) K i hlt
                have eq := mixL_skip (lf K (k + 1)) (lf K k) K i hlt
                have nx := fun h => lf_next (K := K) (k := k) (x := K.getD i []) h i
                have kp := lf_keep (K := K) (k := k) (x := K.getD i [])
                have k1 : ((k + 1 : Nat) : Int) - 1 = k := by omega
                have iD : In64 (k : Int) := by unfold In64; omega
                have hgn : lf K (k + 1) (K.getD i []) = lf K k (K.getD i []) → gr = false → ∀ j, j < i + 1 → lf K (k + 1) (K.getD j []) = lf K k (K.getD j []) := fun h1 h2 j hj => by
                  by_cases hji : j = i
                  · rw [hji]; exact h1
                  · exact hgr h2 j (by omega)
                generalize hx : K.getD i [] = x at *
                by_cases h0 : 0 ≤ lf K k x
                · have hlt0 : ¬ lf K k x < 0 := by omega
                  have hld : True := trivial
                  have eq := eq (kp h0)
                  simp -implicitDefEqProofs only [lk_normal, l3Leads_F, hil, i0, lV, gV, hlt0, hf, ek, hx, hld, iD, k1, xf, xf', Nat.add_assoc, add_self, self_add, add_add, ZB, Int.reduceToNat, Nat.reduceLT, Nat.reduceLeDiff, Int.reduceLE, Int.reduceLT, Nat.reduceEqDiff, Nat.reduceSub, SB, SV.known, packR, ne_eq, reduceCtorEq, Nat.reduceEqDiff, ↓reduceIte, if_true, if_false, eq_self, Nat.reduceAdd, Nat.reduceMul, Nat.reduceSub, forall_const, oneCellS, litOne, flat1, Kd.isSca, flat, TYB]
                  refine ⟨by omega, by unfold In64; omega, (i + 1, gr), ⟨by show i + 1 ≤ K.length; omega, hgn (kp h0)⟩, by show K.length - (i + 1) < K.length - i; omega, ?_⟩
                  simp only [eq]
                  refine Sub.mk_ext (l := [(n + 1, .ints _ _), (n, .cells _ _)]) ?_ ?_ ?_ ?_ (by omega) (by repeat' first | exact Ext.refl _ | refine Ext.cons hwH (by omega) ?_) (hwf_mono (by omega) hwH)
                  all_goals ((try simp only [LB, subS, subH, wfS, wfH, SV.ren, renL, SObj.ren, SV.wf, SObj.wf, wfL, SV.known, Nat.reduceEqDiff, ↓reduceIte, if_true, if_false, eq_self, Nat.reduceAdd, Nat.reduceLT, Nat.reduceLeDiff, implies_true, reduceCtorEq, forall_const]) <;> (try simp [subS, subH, wfS, wfH, SV.ren, renL, SObj.ren, SV.wf, SObj.wf, wfL, sget_cons, hget_cons]) <;> (try omega))
                · have hlt0 : lf K k x < 0 := by omega
                  rcases nx h0 with ⟨hld, hv⟩ | ⟨hld, hv⟩
                  · rw [hv] at es
                    simp -implicitDefEqProofs only [lk_normal, l3Leads_F, hil, i0, lV, gV, hlt0, hf, ek, hx, hld, iD, k1, xf, xf', Nat.add_assoc, add_self, self_add, add_add, ZB, Int.reduceToNat, Nat.reduceLT, Nat.reduceLeDiff, Int.reduceLE, Int.reduceLT, Nat.reduceEqDiff, Nat.reduceSub, SB, SV.known, packR, ne_eq, reduceCtorEq, Nat.reduceEqDiff, ↓reduceIte, if_true, if_false, eq_self, Nat.reduceAdd, Nat.reduceMul, Nat.reduceSub, forall_const, oneCellS, litOne, flat1, Kd.isSca, flat, TYB]
                    refine ⟨by omega, ⟨s, A, m0, K, P, rfl, h.mono (Ext.cons hwH (by omega) (Ext.cons hwH (by omega) (Ext.refl _)))⟩, by omega, by omega, by unfold In64; omega, (i + 1, true), ⟨by show i + 1 ≤ K.length; omega, fun h => by cases h⟩, by show K.length - (i + 1) < K.length - i; omega, ?_⟩
                    simp only [es]
                    refine Sub.mk_ext (l := [(n + 1, .ints _ _), (n, .cells _ _)]) ?_ ?_ ?_ ?_ (by omega) (by repeat' first | exact Ext.refl _ | refine Ext.cons hwH (by omega) ?_) (hwf_mono (by omega) hwH)
                    all_goals ((try simp only [LB, subS, subH, wfS, wfH, SV.ren, renL, SObj.ren, SV.wf, SObj.wf, wfL, SV.known, Nat.reduceEqDiff, ↓reduceIte, if_true, if_false, eq_self, Nat.reduceAdd, Nat.reduceLT, Nat.reduceLeDiff, implies_true, reduceCtorEq, forall_const]) <;> (try simp [subS, subH, wfS, wfH, SV.ren, renL, SObj.ren, SV.wf, SObj.wf, wfL, sget_cons, hget_cons]) <;> (try omega))
                  · have eq := eq hv
                    simp -implicitDefEqProofs only [lk_normal, l3Leads_F, hil, i0, lV, gV, hlt0, hf, ek, hx, hld, iD, k1, xf, xf', Nat.add_assoc, add_self, self_add, add_add, ZB, Int.reduceToNat, Nat.reduceLT, Nat.reduceLeDiff, Int.reduceLE, Int.reduceLT, Nat.reduceEqDiff, Nat.reduceSub, SB, SV.known, packR, ne_eq, reduceCtorEq, Nat.reduceEqDiff, ↓reduceIte, if_true, if_false, eq_self, Nat.reduceAdd, Nat.reduceMul, Nat.reduceSub, forall_const, oneCellS, litOne, flat1, Kd.isSca, flat, TYB]
                    refine ⟨by omega, ⟨s, A, m0, K, P, rfl, h.mono (Ext.cons hwH (by omega) (Ext.cons hwH (by omega) (Ext.refl _)))⟩, by unfold In64; omega, (i + 1, gr), ⟨by show i + 1 ≤ K.length; omega, hgn hv⟩, by show K.length - (i + 1) < K.length - i; omega, ?_⟩
                    simp only [eq]
                    refine Sub.mk_ext (l := [(n + 1, .ints _ _), (n, .cells _ _)]) ?_ ?_ ?_ ?_ (by omega) (by repeat' first | exact Ext.refl _ | refine Ext.cons hwH (by omega) ?_) (hwf_mono (by omega) hwH)
                    all_goals ((try simp only [LB, subS, subH, wfS, wfH, SV.ren, renL, SObj.ren, SV.wf, SObj.wf, wfL, SV.known, Nat.reduceEqDiff, ↓reduceIte, if_true, if_false, eq_self, Nat.reduceAdd, Nat.reduceLT, Nat.reduceLeDiff, implies_true, reduceCtorEq, forall_const]) <;> (try simp [subS, subH, wfS, wfH, SV.ren, renL, SObj.ren, SV.wf, SObj.wf, wfL, sget_cons, hget_cons]) <;> (try omega))
              · have hil : ¬ (i : Int) < K.length := by omega
                obtain rfl : i = K.length := by omega
                rw [mixL_end]
                simp -implicitDefEqProofs only [lk_normal, hil, ZB, Int.reduceToNat, Nat.reduceLT, Nat.reduceLeDiff, Int.reduceLE, Int.reduceLT, Nat.reduceEqDiff, Nat.reduceSub, SB, SV.known, packR, ne_eq, reduceCtorEq, Nat.reduceEqDiff, ↓reduceIte, if_true, if_false, eq_self, Nat.reduceAdd, Nat.reduceMul, Nat.reduceSub, forall_const, oneCellS, litOne, flat1, Kd.isSca, flat, TYB]
                refine ⟨by unfold In64; omega, (k + 1, gr), ⟨hgo, fun hf m x hx => ?_⟩, by show N - (k + 1) < N - k; omega, Sub.mk_ext (l := [(n + 1, .ints _ _), (n, .cells _ _)]) ?_ ?_ ?_ ?_ (by omega) (by repeat' first | exact Ext.refl _ | refine Ext.cons hwH (by omega) ?_) (hwf_mono (by omega) hwH)⟩
                · have hall : ∀ y ∈ K, lf K (k + 1) y = lf K k y := fun y hy => by
                    obtain ⟨j, hj, rfl⟩ := List.getElem_of_mem hy
                    have := hgr hf j hj
                    rwa [List.getD_eq_getElem?_getD, List.getElem?_eq_getElem hj] at this
                  have h1 := lf_stab hall (1 + m) x hx
                  show lf K (k + 1 + m) x = lf K (k + 1) x
                  rw [Nat.add_assoc, h1, hall x hx]
                all_goals ((try simp only [LB, subS, subH, wfS, wfH, SV.ren, renL, SObj.ren, SV.wf, SObj.wf, wfL, SV.known, Nat.reduceEqDiff, ↓reduceIte, if_true, if_false, eq_self, Nat.reduceAdd, Nat.reduceLT, Nat.reduceLeDiff, implies_true, reduceCtorEq, forall_const]) <;> (try simp [subS, subH, wfS, wfH, SV.ren, renL, SObj.ren, SV.wf, SObj.wf, wfL, sget_cons, hget_cons]) <;> (try omega))
        · have hgo' : ¬ ((k + 1 : Nat) : Int) ≤ N := by omega
          obtain rfl : k = N := by omega
          simp -implicitDefEqProofs only [lk_normal, hgo', ZB, Int.reduceToNat, Nat.reduceLT, Nat.reduceLeDiff, Int.reduceLE, Int.reduceLT, Nat.reduceEqDiff, Nat.reduceSub, SB, SV.known, packR, ne_eq, reduceCtorEq, Nat.reduceEqDiff, ↓reduceIte, if_true, if_false, eq_self, Nat.reduceAdd, Nat.reduceMul, Nat.reduceSub, forall_const, oneCellS, litOne, flat1, Kd.isSca, flat, TYB]
/-- How many pours are left from every form. -/
def l3Left_F : List SV → Heap → Nat → Nat → K1 → Prop
  | [.stc [.slice f 0 len cf, v2, v3], .int N], H, n, m, κ => match hget H f with
    | some (.ints L _) => (∃ (s : SN) (A : Nat → Prop) (m0 : Nat) (K : List (List Int)) (P : List Int), SV.stc [.slice f 0 len cf, v2, v3] = s.val K.length ∧ SetH s A m0 H K P) ∧ (0 ≤ N ∧ N ≤ 100000) ∧ m ≤ n ∧
        κ (.slice (n + 1) 0 len len) ((n + 1, .ints ((chkR L 0 len).map (lf (chkR L 0 len) N.toNat)) 3) :: (n, .cells [.slice f 0 len cf, v2, v3] 42) :: H) (n + 2)
    | _ => False
  | _, _, _, _, _ => False
--@tbl l3Left = spec.l3Left
theorem l3Left_T : ∀ args H n m κ, l3Left_F args H n m κ → GenOK Try.prog 16 args H n m κ := by
  intro args H n m κ h
  unfold l3Left_F at h
  split at h
  · rename_i f len cf v2 v3 N
    split at h
    · rename_i L e hf
      obtain ⟨⟨s, A, m0, K, P, hs, hS⟩, ⟨hN0, hN⟩, hmn, hκ⟩ := h
      have e1 : f = s.f ∧ len = K.length := by
        unfold SN.val at hs
        simp only [SV.stc.injEq, List.cons.injEq, SV.slice.injEq] at hs
        exact ⟨hs.1.1, hs.1.2.2.1⟩
      obtain ⟨rfl, rfl⟩ := e1
      obtain ⟨N, rfl⟩ := Int.eq_ofNat_of_zero_le hN0
      have hL := hS.f
      rw [hf] at hL
      cases hL
      rw [chkR_of hS.ok.all24] at hκ
      have ec : [SV.slice s.f 0 K.length cf, v2, v3] = s.cel K.length := by
        rw [SN.val_cel] at hs
        exact SV.stc.inj hs
      rw [hs]
      rw [ec] at hκ
      exact gen_direct (X := ⟨Try.prog, tys, [(42, l2Sorted_F), (43, l3Leads_F)], [], true, true, m, [], []⟩) fn_16 ⟨tys_ok, .cons l2Sorted_T (.cons l3Leads_T .nil), .nil, mixed⟩ rfl (Nat.le_of_ble_eq_true rfl) (fun hwH hwa => l3Left_vc s A m0 m n N H K P hS hwH hmn (by omega)) fun hwH v H' n' hψ h3 h4 h5 => by
        obtain ⟨rfl, rfl, rfl⟩ := hψ
        exact hκ
    · exact h.elim
  · exact h.elim
end Go.Proofs.Ytaopbefklkbmeaa
set_option maxRecDepth 100000
set_option linter.unusedSimpArgs false
set_option linter.unusedVariables false
namespace Go.Proofs.Ytaopbefklkbmeaa
open Go Go.RowKit
def cd2 : Code → Code
  | .seq _ b => b
  | c => c
def cdN : Nat → Code → Code
  | 0, c => c
  | k + 1, c => cdN k (cd2 c)
end Go.Proofs.Ytaopbefklkbmeaa
set_option maxRecDepth 100000
set_option linter.unusedSimpArgs false
set_option linter.unusedVariables false
namespace Go.Proofs.Ytaopbefklkbmeaa
open Go Go.RowKit
def lzP (R p : List Int) : Bool := unB sortB (pourF R (p.getD 0 0).toNat (p.getD 1 0).toNat)
def lzL (R : List Int) : List Int := kept (fun p => !lzP R p) (ulF R) ((ulF R).length / 2)
def lzB (R : List Int) : Bool := rackB R && unB sortB R && unO nev R
def lzF (R : List Int) : List Int := if lzB R = true then lzL R else []
theorem lzL_even (R : List Int) : ∃ k, (lzL R).length = k * 2 ∧ k ≤ 36 := by
  obtain ⟨m, hm, hm36⟩ := ulF_even R
  obtain ⟨k, hk, hkm⟩ := kept_even (fun p => !lzP R p) (ulF R) m (by omega)
  have e2 : (ulF R).length / 2 = m := by omega
  exact ⟨k, by unfold lzL; rw [e2]; exact hk, by omega⟩
theorem lzF_even (R : List Int) : ∃ k, (lzF R).length = k * 2 ∧ k ≤ 36 := by
  unfold lzF
  split
  · exact lzL_even R
  · exact ⟨0, rfl, by omega⟩
/-- Behind the lists of the model. -/
structure LzI (R : List Int) (K : List (List Int)) (n4 : Nat) (H4 : Heap) where
  b0 : Nat
  ba : Nat
  bl : Nat
  cap : Nat
  junk : List Int
  H : Heap
  n : Nat
  wf : hwf n H
  e : Ext H4 H
  g0 : hget H b0 = some (.ints [] 49)
  ga : hget H ba = some (.ints (ulF R ++ junk) 49)
  gl : hget H bl = some (.ints (K.map (lf K K.length)) 3)
  hj : junk.length + (ulF R).length = cap * 2
  ge : n4 ≤ b0 ∧ n4 ≤ ba ∧ n4 ≤ bl
  ne : b0 ≠ ba ∧ b0 ≠ bl ∧ ba ≠ bl
structure LzS (R : List Int) (K : List (List Int)) (P : List Int) (s : SN) (n1 ba bl : Nat) (junk : List Int) (k ob no co : Nat) (jo : List Int) (H : Heap) (n : Nat) : Prop where
  hk : k ≤ sucC R
  hob : n1 + 1 ≤ ob ∧ ob ≠ ba ∧ ob ≠ bl
  wf : hwf n H
  set : SetH s (fun j => n1 + 1 ≤ j) 0 H K P
  ga : hget H ba = some (.ints (ulF R ++ junk) 49)
  gl : hget H bl = some (.ints (K.map (lf K K.length)) 3)
  gc : hget H n1 = some (.cells (s.cel K.length) 42)
  g0 : hget H 0 = some (.ints R 29)
  go : hget H ob = some (.ints (kept (fun p => !lzP R p) (ulF R) k ++ jo) 49)
  l : (kept (fun p => !lzP R p) (ulF R) k).length = no * 2
  hno : no ≤ k
  hjo : jo.length + no * 2 = co * 2
theorem fnx_LosingPours : FnOK Try.prog 5 Try.f5 (Try.f5.body.getD .skip) [15, 16] [(7, .tree (.one 1 (.one 4 (.alt 0 (.alt 2 (.one 3 (.one 5 (.one 6 (.one 7 (.one 8 (.one 9 (.one 10 .done))))))) (.alt 3 (.alt 2 (.one 5 (.one 6 (.one 7 (.one 8 (.one 9 (.one 10 .done)))))) (.alt 5 (.alt 2 (.one 6 (.one 7 (.one 8 (.one 9 (.one 10 .done))))) (.alt 6 (.one 2 (.one 7 (.one 8 (.one 9 (.one 10 .done))))) .stop)) .stop)) (.alt 5 (.alt 2 (.one 3 (.one 6 (.one 7 (.one 8 (.one 9 (.one 10 .done)))))) (.alt 3 (.alt 2 (.one 6 (.one 7 (.one 8 (.one 9 (.one 10 .done))))) (.alt 6 (.one 2 (.one 7 (.one 8 (.one 9 (.one 10 .done))))) .stop)) (.alt 6 (.alt 2 (.one 3 (.one 7 (.one 8 (.one 9 (.one 10 .done))))) (.alt 3 (.one 2 (.one 7 (.one 8 (.one 9 (.one 10 .done))))) .stop)) .stop))) .stop))) (.alt 2 (.one 3 (.one 5 (.one 6 (.alt 0 (.one 7 (.one 8 (.one 9 (.one 10 .done)))) (.alt 7 (.one 0 (.one 8 (.one 9 (.one 10 .done)))) .stop))))) (.alt 3 (.alt 0 (.alt 2 (.one 5 (.one 6 (.one 7 (.one 8 (.one 9 (.one 10 .done)))))) (.alt 5 (.alt 2 (.one 6 (.one 7 (.one 8 (.one 9 (.one 10 .done))))) (.alt 6 (.one 2 (.one 7 (.one 8 (.one 9 (.one 10 .done))))) .stop)) .stop)) (.alt 2 (.one 5 (.one 6 (.alt 0 (.one 7 (.one 8 (.one 9 (.one 10 .done)))) (.alt 7 (.one 0 (.one 8 (.one 9 (.one 10 .done)))) .stop)))) (.alt 5 (.alt 0 (.alt 2 (.one 6 (.one 7 (.one 8 (.one 9 (.one 10 .done))))) (.alt 6 (.one 2 (.one 7 (.one 8 (.one 9 (.one 10 .done))))) .stop)) (.alt 2 (.one 6 (.alt 0 (.one 7 (.one 8 (.one 9 (.one 10 .done)))) (.alt 7 (.one 0 (.one 8 (.one 9 (.one 10 .done)))) .stop))) (.alt 6 (.alt 0 (.one 2 (.one 7 (.one 8 (.one 9 (.one 10 .done))))) (.alt 2 (.alt 0 (.one 7 (.one 8 (.one 9 (.one 10 .done)))) (.alt 7 (.one 0 (.one 8 (.one 9 (.one 10 .done)))) .stop)) .stop)) .stop))) .stop))) (.alt 5 (.alt 0 (.alt 2 (.one 3 (.one 6 (.one 7 (.one 8 (.one 9 (.one 10 .done)))))) (.alt 3 (.alt 2 (.one 6 (.one 7 (.one 8 (.one 9 (.one 10 .done))))) (.alt 6 (.one 2 (.one 7 (.one 8 (.one 9 (.one 10 .done))))) .stop)) (.alt 6 (.alt 2 (.one 3 (.one 7 (.one 8 (.one 9 (.one 10 .done))))) (.alt 3 (.one 2 (.one 7 (.one 8 (.one 9 (.one 10 .done))))) .stop)) .stop))) (.alt 2 (.one 3 (.one 6 (.alt 0 (.one 7 (.one 8 (.one 9 (.one 10 .done)))) (.alt 7 (.one 0 (.one 8 (.one 9 (.one 10 .done)))) .stop)))) (.alt 3 (.alt 0 (.alt 2 (.one 6 (.one 7 (.one 8 (.one 9 (.one 10 .done))))) (.alt 6 (.one 2 (.one 7 (.one 8 (.one 9 (.one 10 .done))))) .stop)) (.alt 2 (.one 6 (.alt 0 (.one 7 (.one 8 (.one 9 (.one 10 .done)))) (.alt 7 (.one 0 (.one 8 (.one 9 (.one 10 .done)))) .stop))) (.alt 6 (.alt 0 (.one 2 (.one 7 (.one 8 (.one 9 (.one 10 .done))))) (.alt 2 (.alt 0 (.one 7 (.one 8 (.one 9 (.one 10 .done)))) (.alt 7 (.one 0 (.one 8 (.one 9 (.one 10 .done)))) .stop)) .stop)) .stop))) (.alt 6 (.alt 0 (.alt 2 (.one 3 (.one 7 (.one 8 (.one 9 (.one 10 .done))))) (.alt 3 (.one 2 (.one 7 (.one 8 (.one 9 (.one 10 .done))))) .stop)) (.alt 2 (.one 3 (.alt 0 (.one 7 (.one 8 (.one 9 (.one 10 .done)))) (.alt 7 (.one 0 (.one 8 (.one 9 (.one 10 .done)))) .stop))) (.alt 3 (.alt 0 (.one 2 (.one 7 (.one 8 (.one 9 (.one 10 .done))))) (.alt 2 (.alt 0 (.one 7 (.one 8 (.one 9 (.one 10 .done)))) (.alt 7 (.one 0 (.one 8 (.one 9 (.one 10 .done)))) .stop)) .stop)) .stop))) .stop)))) .stop)))))))] := ⟨Try.func5, rfl, by kernel_rfl, by kernel_rfl⟩
theorem lz_rest (R : List Int) (hR : R.length = 24) (hr : rackB R = true) (K : List (List Int)) (P : List Int) (s : SN) (n1 : Nat) (h8 : K.length ≤ 600) (hcl : closed K) (hpk : ∀ i j : Nat, i < 6 → j < 6 → uC R i j = true → frm (pourF R i j) ∈ K)
    (b0 ba bl cap : Nat) (junk : List Int) (H5 : Heap) (n5 : Nat) (h3 : SetH s (fun j => n1 + 1 ≤ j) 0 H5 K P) (wf5 : hwf n5 H5) (q0 : hget H5 b0 = some (.ints [] 49)) (qa : hget H5 ba = some (.ints (ulF R ++ junk) 49)) (ql : hget H5 bl = some (.ints (K.map (lf K K.length)) 3))
    (qj : junk.length + (ulF R).length = cap * 2) (qge : n1 + 1 ≤ b0 ∧ n1 + 1 ≤ ba ∧ n1 + 1 ≤ bl) (qne : b0 ≠ ba ∧ b0 ≠ bl ∧ ba ≠ bl) (gc : hget H5 n1 = some (.cells (s.cel K.length) 42)) (g0 : hget H5 0 = some (.ints R 29)) :
    codeVC (⟨Try.prog, tys, [(13, sCanBeSorted_F), (17, l2Pour_F), (19, l3Form_F), (18, l3At_F)], [(14, l3Upto_F), (15, l2Useful_F), (16, l3Left_F)], true, true, 0, [15, 16], [(7, .tree (.one 1 (.one 4 (.alt 0 (.alt 2 (.one 3 (.one 5 (.one 6 (.one 7 (.one 8 (.one 9 (.one 10 .done))))))) (.alt 3 (.alt 2 (.one 5 (.one 6 (.one 7 (.one 8 (.one 9 (.one 10 .done)))))) (.alt 5 (.alt 2 (.one 6 (.one 7 (.one 8 (.one 9 (.one 10 .done))))) (.alt 6 (.one 2 (.one 7 (.one 8 (.one 9 (.one 10 .done))))) .stop)) .stop)) (.alt 5 (.alt 2 (.one 3 (.one 6 (.one 7 (.one 8 (.one 9 (.one 10 .done)))))) (.alt 3 (.alt 2 (.one 6 (.one 7 (.one 8 (.one 9 (.one 10 .done))))) (.alt 6 (.one 2 (.one 7 (.one 8 (.one 9 (.one 10 .done))))) .stop)) (.alt 6 (.alt 2 (.one 3 (.one 7 (.one 8 (.one 9 (.one 10 .done))))) (.alt 3 (.one 2 (.one 7 (.one 8 (.one 9 (.one 10 .done))))) .stop)) .stop))) .stop))) (.alt 2 (.one 3 (.one 5 (.one 6 (.alt 0 (.one 7 (.one 8 (.one 9 (.one 10 .done)))) (.alt 7 (.one 0 (.one 8 (.one 9 (.one 10 .done)))) .stop))))) (.alt 3 (.alt 0 (.alt 2 (.one 5 (.one 6 (.one 7 (.one 8 (.one 9 (.one 10 .done)))))) (.alt 5 (.alt 2 (.one 6 (.one 7 (.one 8 (.one 9 (.one 10 .done))))) (.alt 6 (.one 2 (.one 7 (.one 8 (.one 9 (.one 10 .done))))) .stop)) .stop)) (.alt 2 (.one 5 (.one 6 (.alt 0 (.one 7 (.one 8 (.one 9 (.one 10 .done)))) (.alt 7 (.one 0 (.one 8 (.one 9 (.one 10 .done)))) .stop)))) (.alt 5 (.alt 0 (.alt 2 (.one 6 (.one 7 (.one 8 (.one 9 (.one 10 .done))))) (.alt 6 (.one 2 (.one 7 (.one 8 (.one 9 (.one 10 .done))))) .stop)) (.alt 2 (.one 6 (.alt 0 (.one 7 (.one 8 (.one 9 (.one 10 .done)))) (.alt 7 (.one 0 (.one 8 (.one 9 (.one 10 .done)))) .stop))) (.alt 6 (.alt 0 (.one 2 (.one 7 (.one 8 (.one 9 (.one 10 .done))))) (.alt 2 (.alt 0 (.one 7 (.one 8 (.one 9 (.one 10 .done)))) (.alt 7 (.one 0 (.one 8 (.one 9 (.one 10 .done)))) .stop)) .stop)) .stop))) .stop))) (.alt 5 (.alt 0 (.alt 2 (.one 3 (.one 6 (.one 7 (.one 8 (.one 9 (.one 10 .done)))))) (.alt 3 (.alt 2 (.one 6 (.one 7 (.one 8 (.one 9 (.one 10 .done))))) (.alt 6 (.one 2 (.one 7 (.one 8 (.one 9 (.one 10 .done))))) .stop)) (.alt 6 (.alt 2 (.one 3 (.one 7 (.one 8 (.one 9 (.one 10 .done))))) (.alt 3 (.one 2 (.one 7 (.one 8 (.one 9 (.one 10 .done))))) .stop)) .stop))) (.alt 2 (.one 3 (.one 6 (.alt 0 (.one 7 (.one 8 (.one 9 (.one 10 .done)))) (.alt 7 (.one 0 (.one 8 (.one 9 (.one 10 .done)))) .stop)))) (.alt 3 (.alt 0 (.alt 2 (.one 6 (.one 7 (.one 8 (.one 9 (.one 10 .done))))) (.alt 6 (.one 2 (.one 7 (.one 8 (.one 9 (.one 10 .done))))) .stop)) (.alt 2 (.one 6 (.alt 0 (.one 7 (.one 8 (.one 9 (.one 10 .done)))) (.alt 7 (.one 0 (.one 8 (.one 9 (.one 10 .done)))) .stop))) (.alt 6 (.alt 0 (.one 2 (.one 7 (.one 8 (.one 9 (.one 10 .done))))) (.alt 2 (.alt 0 (.one 7 (.one 8 (.one 9 (.one 10 .done)))) (.alt 7 (.one 0 (.one 8 (.one 9 (.one 10 .done)))) .stop)) .stop)) .stop))) (.alt 6 (.alt 0 (.alt 2 (.one 3 (.one 7 (.one 8 (.one 9 (.one 10 .done))))) (.alt 3 (.one 2 (.one 7 (.one 8 (.one 9 (.one 10 .done))))) .stop)) (.alt 2 (.one 3 (.alt 0 (.one 7 (.one 8 (.one 9 (.one 10 .done)))) (.alt 7 (.one 0 (.one 8 (.one 9 (.one 10 .done)))) .stop))) (.alt 3 (.alt 0 (.one 2 (.one 7 (.one 8 (.one 9 (.one 10 .done))))) (.alt 2 (.alt 0 (.one 7 (.one 8 (.one 9 (.one 10 .done)))) (.alt 7 (.one 0 (.one 8 (.one 9 (.one 10 .done)))) .stop)) .stop)) .stop))) .stop)))) .stop)))))))]⟩ : Cx) 0 (cdN 5 (Try.f5.body.getD .skip)) [(10, .slice bl 0 K.length K.length), (9, .slice ba 0 (sucC R) cap), (8, .slice b0 0 0 0), (6, .ptr n1 0), (1, .ptr 0 0)] H5 n5
      (retK tys Try.f5.results.toList fun v H' n' => freshPost 0 (lzL R) ((lzL R).length / 2) 2 49 false (.more [.bool true]) v H') := by
  have tkR : R.take 24 = R := List.take_of_length_le (by omega)
  have ok24 := h3.ok.all24
  have ek : chkR (K.flatten ++ s.J1) 0 K.length = K := chkR_of ok24 s.J1
  have hnp := ulF_sucC R
  have hnp36 := sucC_le R
  have ehp : (ulF R).length / 2 = sucC R := by omega
  simp -implicitDefEqProofs only [cdN, cd2, Try.f5, Option.getD_some, ZB, Int.reduceToNat, Nat.reduceLT, Nat.reduceLeDiff, Int.reduceLE, Int.reduceLT, Nat.reduceEqDiff, Nat.reduceSub, SB, SV.known, packR, ne_eq, reduceCtorEq, Nat.reduceEqDiff, ↓reduceIte, if_true, if_false, eq_self, Nat.reduceAdd, Nat.reduceMul, Nat.reduceSub, forall_const, oneCellS, litOne, flat1, Kd.isSca, flat, TYB]
  have hlz : ∀ a b : Nat, a < 6 → b < 6 → uC R a b = true → unB sortB (pourF R a b) = decide (0 ≤ lf K K.length (frm (pourF R a b))) := fun a b ha hb hu => lf_un hcl h8 (hpk a b ha hb hu)
  refine loop_introN (fun z : Nat × Nat × Nat × Nat × List Int × Heap × Nat => [(11, .int z.1), (10, .slice bl 0 K.length K.length), (9, .slice ba 0 (sucC R) cap), (8, .slice z.2.1 0 z.2.2.1 z.2.2.2.1), (6, .ptr n1 0), (1, .ptr 0 0)]) (fun z => z.2.2.2.2.2.1) (fun z => z.2.2.2.2.2.2)
    (fun z => LzS R K P s n1 ba bl junk z.1 z.2.1 z.2.2.1 z.2.2.2.1 z.2.2.2.2.1 z.2.2.2.2.2.1 z.2.2.2.2.2.2) (fun z => sucC R - z.1) ?_ ?_
  · refine ⟨(0, b0, 0, 0, [], H5, n5), ⟨Nat.zero_le _, ⟨qge.1, qne.1, qne.2.1⟩, wf5, h3, qa, ql, gc, g0, by simpa [kept_zero] using q0, by simp [kept_zero], Nat.le_refl _, rfl⟩, Sub.same ?_ ?_ wf5 (by show 0 ≤ n5; omega)⟩
    · simp only [LB, subS, subH, wfS, wfH, SV.ren, renL, SObj.ren, SV.wf, SObj.wf, wfL, SV.known, Nat.reduceEqDiff, ↓reduceIte, if_true, if_false, eq_self, Nat.reduceAdd, Nat.reduceLT, Nat.reduceLeDiff, implies_true, reduceCtorEq, forall_const]
    · have := (wf5 _ _ q0).1; have := (wf5 _ _ qa).1; have := (wf5 _ _ ql).1; have := (wf5 _ _ gc).1
      simp [subS, subH, wfS, wfH, SV.ren, renL, SObj.ren, SV.wf, SObj.wf, wfL, sget_cons, hget_cons] <;> omega
  · rintro ⟨k, ob, no, co, jo, H6, n6⟩ hz
    obtain ⟨hk, hob, wf6, hset6, ga6, gl6, gc6, g06, go6, hl6, hno6, hjo6⟩ := hz
    simp only at hk hob wf6 hset6 ga6 gl6 gc6 g06 go6 hl6 hno6 hjo6
    by_cases hkn : k < sucC R
    · have hkl : (k : Int) < sucC R := by omega
      have lenP : (ulF R ++ junk).length = cap * 2 := by rw [List.length_append]; omega
      have lenL : (kept (fun p => !lzP R p) (ulF R) k ++ jo).length = co * 2 := by rw [List.length_append]; omega
      have tkL : (kept (fun p => !lzP R p) (ulF R) k ++ jo).take (no * 2) = kept (fun p => !lzP R p) (ulF R) k := List.take_left' hl6
      obtain ⟨i, j, hi, hj, huc, hij⟩ := GL_pair (uC R) 36 (Nat.le_refl _) k (by rw [← ulF_GL]; omega)
      rw [← ulF_GL] at hij
      have es := kept_succ (fun p => !lzP R p) (ulF R) k
      rw [hij] at es
      rw [take2_drop _ _ (by omega)] at hij
      simp only [List.cons.injEq, and_true] at hij
      have eP0 : (ulF R ++ junk).getD (k * 2) 0 = i := by rw [getD_app _ _ _ (by omega)]; exact hij.1
      have eP1 : (ulF R ++ junk).getD (k * 2 + 1) 0 = j := by rw [getD_app _ _ _ (by omega)]; exact hij.2
      have eP : List.take 2 (List.drop (k * 2) (ulF R ++ junk)) = [(i : Int), (j : Int)] := by rw [take2_drop _ _ (by omega), eP0, eP1]
      have i05 : 0 ≤ (i : Int) ∧ (i : Int) ≤ 5 := by omega
      have j05 : 0 ≤ (j : Int) ∧ (j : Int) ≤ 5 := by omega
      have pl := pourF_len hR i j
      have tkp := List.take_of_length_le (Nat.le_of_eq pl)
      have pr := pour_rack hR hr i05 j05 (uC_can huc)
      simp only [Int.toNat_natCast] at pr
      have fl := frm_len pl
      have fr := rack_frm pl pr
      have hin := hpk i j hi hj huc
      have hv := hlz i j hi hj huc
      have elz : lzP R [(i : Int), (j : Int)] = unB sortB (pourF R i j) := rfl
      rw [elz, hv] at es
      obtain ⟨t, hid, htK, htk⟩ := idx_in hin
      have gV : (K.map (lf K K.length)).getD t 0 = lf K K.length (frm (pourF R i j)) := by
        rw [List.getD_eq_getElem?_getD, List.getElem?_map, List.getElem?_eq_getElem htK, ← htk, List.getD_eq_getElem?_getD, List.getElem?_eq_getElem htK]; rfl
      have lV : (K.map (lf K K.length)).length = K.length := List.length_map ..
      have hf6 := hset6.f
      have t0 : 0 ≤ (t : Int) := by omega
      have tK : (t : Int) < (K.length : Int) := by omega
      have q1 := (wf6 _ _ ga6).1; have q2 := (wf6 _ _ gl6).1; have q3 := (wf6 _ _ gc6).1; have q4 := (wf6 _ _ g06).1; have q5 := (wf6 _ _ go6).1; have q6 := (wf6 _ _ hf6).1
      have y1 := ne_add q1; have y1' := ne_add' q1; have y2 := ne_add q2; have y2' := ne_add' q2; have y3 := ne_add q3; have y3' := ne_add' q3; have y4 := ne_add q4; have y4' := ne_add' q4; have y5 := ne_add q5; have y5' := ne_add' q5; have y6 := ne_add q6; have y6' := ne_add' q6
      have hset : ∀ o1 o2 : SObj, ∃ (s' : SN) (A' : Nat → Prop) (m' : Nat) (K' : List (List Int)) (P' : List Int), SV.stc [SV.slice s.f 0 K.length s.cf, SV.slice s.q 0 K.length s.cq, SV.slice s.u 0 1009 1009] = s'.val K'.length ∧ SetH s' A' m' ((n6, o1) :: (n6, o2) :: H6) K' P' :=
        fun o1 o2 => ⟨s, _, 0, K, P, rfl, hset6.mono (Ext.cons wf6 (Nat.le_refl _) (Ext.cons wf6 (Nat.le_refl _) (Ext.refl _)))⟩
      unfold SN.cel at gc6
      generalize hy : frm (pourF R i j) = y at *
      generalize lf K K.length y = v at *
      generalize hVV : K.map (lf K K.length) = V at *
      by_cases hneg : v < 0
      · rw [decide_eq_false (show ¬ 0 ≤ v by omega)] at es
        simp only [Bool.not_false, if_true] at es
        simp -implicitDefEqProofs only [lk_normal, l2Pour_F, l3Form_F, l3At_F, hkl, ga6, gl6, gc6, g06, go6, hf6, lenP, lenL, tkL, eP0, eP1, eP, i05, j05, hR, hr, tkR, pl, tkp, pr, hy, fl, fr, hid, gV, lV, ek, t0, tK, hneg, y1, y1', y2, y2', y3, y3', y4, y4', y5, y5', y6, y6', Nat.add_assoc, add_self, self_add, add_add, ZB, Int.reduceToNat, Nat.reduceLT, Nat.reduceLeDiff, Int.reduceLE, Int.reduceLT, Nat.reduceEqDiff, Nat.reduceSub, SB, SV.known, packR, ne_eq, reduceCtorEq, Nat.reduceEqDiff, ↓reduceIte, if_true, if_false, eq_self, Nat.reduceAdd, Nat.reduceMul, Nat.reduceSub, forall_const, oneCellS, litOne, flat1, Kd.isSca, flat, TYB]
        refine ⟨by omega, by omega, by omega, by omega, hset _ _, by omega, by omega, by omega, by omega, by omega, by omega, fun j2 cap' hj2 => ⟨by unfold In64; omega, (k + 1, n6 + 2, no + 1, cap', j2, (n6 + 2, SObj.ints (kept (fun p => !lzP R p) (ulF R) k ++ [(i : Int), (j : Int)] ++ j2) 49) :: (ob, SObj.dead) :: (n6 + 1, SObj.ints [(i : Int), (j : Int)] 49) :: (n6, SObj.ints (pourF R i j) 29) :: (n6, SObj.ints (List.replicate 24 0) 29) :: H6, n6 + 3), ?_, by show sucC R - (k + 1) < sucC R - k; omega, ?_⟩⟩
        · have hw7 : hwf (n6 + 3) ((n6 + 2, SObj.ints (kept (fun p => !lzP R p) (ulF R) k ++ [(i : Int), (j : Int)] ++ j2) 49) :: (ob, SObj.dead) :: (n6 + 1, SObj.ints [(i : Int), (j : Int)] 49) :: (n6, SObj.ints (pourF R i j) 29) :: (n6, SObj.ints (List.replicate 24 0) 29) :: H6) :=
            hwf_cons (hwf_cons (hwf_cons (hwf_cons (hwf_cons (hwf_mono (by omega) wf6) (by omega) trivial) (by omega) trivial) (by omega) trivial) (by omega) trivial) (by omega) trivial
          have pas : ∀ x o, x < n6 → x ≠ ob → hget H6 x = some o → hget ((n6 + 2, SObj.ints (kept (fun p => !lzP R p) (ulF R) k ++ [(i : Int), (j : Int)] ++ j2) 49) :: (ob, SObj.dead) :: (n6 + 1, SObj.ints [(i : Int), (j : Int)] 49) :: (n6, SObj.ints (pourF R i j) 29) :: (n6, SObj.ints (List.replicate 24 0) 29) :: H6) x = some o := fun x o hx hxo ho => by
            rw [hget_cons, if_neg (by omega), hget_cons, if_neg hxo, hget_cons, if_neg (by omega), hget_cons, if_neg (by omega), hget_cons, if_neg (by omega)]
            exact ho
          refine ⟨by show k + 1 ≤ sucC R; omega, ⟨by show n1 + 1 ≤ n6 + 2; omega, by show n6 + 2 ≠ ba; omega, by show n6 + 2 ≠ bl; omega⟩, hw7, ((((hset6.upd _ (by show n1 + 1 ≤ n6; omega)).upd _ (by show n1 + 1 ≤ n6; omega)).upd _ (by show n1 + 1 ≤ n6 + 1; omega)).upd _ hob.1).upd _ (by show n1 + 1 ≤ n6 + 2; omega), pas _ _ q1 (Ne.symm hob.2.1) ga6, (by rw [hVV]; exact pas _ _ q2 (Ne.symm hob.2.2) gl6), pas _ _ q3 (by omega) gc6, pas _ _ q4 (by omega) g06, ?_, ?_, by show no + 1 ≤ k + 1; omega, by show j2.length + (no + 1) * 2 = cap' * 2; omega⟩
          · show hget (_ :: _) (n6 + 2) = some (.ints (kept (fun p => !lzP R p) (ulF R) (k + 1) ++ j2) _)
            rw [hget_cons, if_pos rfl, es]
          · show (kept (fun p => !lzP R p) (ulF R) (k + 1)).length = (no + 1) * 2
            rw [es, List.length_append, hl6]; simp only [List.length_cons, List.length_nil]; omega
        · have hw7 : hwf (n6 + 3) ((n6 + 2, SObj.ints (kept (fun p => !lzP R p) (ulF R) k ++ [(i : Int), (j : Int)] ++ j2) 49) :: (ob, SObj.dead) :: (n6 + 1, SObj.ints [(i : Int), (j : Int)] 49) :: (n6, SObj.ints (pourF R i j) 29) :: (n6, SObj.ints (List.replicate 24 0) 29) :: H6) :=
            hwf_cons (hwf_cons (hwf_cons (hwf_cons (hwf_cons (hwf_mono (by omega) wf6) (by omega) trivial) (by omega) trivial) (by omega) trivial) (by omega) trivial) (by omega) trivial
          exact Sub.same (by simp only [LB, subS, subH, wfS, wfH, SV.ren, renL, SObj.ren, SV.wf, SObj.wf, wfL, SV.known, Nat.reduceEqDiff, ↓reduceIte, if_true, if_false, eq_self, Nat.reduceAdd, Nat.reduceLT, Nat.reduceLeDiff, implies_true, reduceCtorEq, forall_const]) (by simp [subS, subH, wfS, wfH, SV.ren, renL, SObj.ren, SV.wf, SObj.wf, wfL, sget_cons, hget_cons] <;> omega) hw7 (by omega)
      · rw [decide_eq_true (show 0 ≤ v by omega)] at es
        simp only [Bool.not_true, Bool.false_eq_true, if_false, List.append_nil] at es
        simp -implicitDefEqProofs only [lk_normal, l2Pour_F, l3Form_F, l3At_F, hkl, ga6, gl6, gc6, g06, go6, hf6, lenP, lenL, tkL, eP0, eP1, eP, i05, j05, hR, hr, tkR, pl, tkp, pr, hy, fl, fr, hid, gV, lV, ek, t0, tK, hneg, y1, y1', y2, y2', y3, y3', y4, y4', y5, y5', y6, y6', Nat.add_assoc, add_self, self_add, add_add, ZB, Int.reduceToNat, Nat.reduceLT, Nat.reduceLeDiff, Int.reduceLE, Int.reduceLT, Nat.reduceEqDiff, Nat.reduceSub, SB, SV.known, packR, ne_eq, reduceCtorEq, Nat.reduceEqDiff, ↓reduceIte, if_true, if_false, eq_self, Nat.reduceAdd, Nat.reduceMul, Nat.reduceSub, forall_const, oneCellS, litOne, flat1, Kd.isSca, flat, TYB]
        refine ⟨by omega, by omega, by omega, by omega, hset _ _, by omega, by unfold In64; omega, (k + 1, ob, no, co, jo, H6, n6), ⟨by show k + 1 ≤ sucC R; omega, hob, wf6, hset6, ga6, (by rw [hVV]; exact gl6), gc6, g06, ?_, ?_, by show no ≤ k + 1; omega, hjo6⟩, by show sucC R - (k + 1) < sucC R - k; omega, Sub.mk_ext (l := []) ?_ ?_ ?_ ?_ (by show 0 ≤ n6; omega) (Ext.cons wf6 (Nat.le_refl _) (Ext.cons wf6 (Nat.le_refl _) (Ext.refl _))) wf6⟩
        · show hget H6 ob = some (.ints (kept (fun p => !lzP R p) (ulF R) (k + 1) ++ jo) _)
          rw [es]; exact go6
        · show (kept (fun p => !lzP R p) (ulF R) (k + 1)).length = no * 2
          rw [es]; exact hl6
        all_goals ((try simp only [LB, subS, subH, wfS, wfH, SV.ren, renL, SObj.ren, SV.wf, SObj.wf, wfL, SV.known, Nat.reduceEqDiff, ↓reduceIte, if_true, if_false, eq_self, Nat.reduceAdd, Nat.reduceLT, Nat.reduceLeDiff, implies_true, reduceCtorEq, forall_const]) <;> (try simp [subS, subH, wfS, wfH, SV.ren, renL, SObj.ren, SV.wf, SObj.wf, wfL, sget_cons, hget_cons]) <;> (try omega))
    · have hkl : ¬ (k : Int) < sucC R := by omega
      obtain rfl : k = sucC R := by omega
      simp -implicitDefEqProofs only [lk_normal, hkl, ZB, Int.reduceToNat, Nat.reduceLT, Nat.reduceLeDiff, Int.reduceLE, Int.reduceLT, Nat.reduceEqDiff, Nat.reduceSub, SB, SV.known, packR, ne_eq, reduceCtorEq, Nat.reduceEqDiff, ↓reduceIte, if_true, if_false, eq_self, Nat.reduceAdd, Nat.reduceMul, Nat.reduceSub, forall_const, oneCellS, litOne, flat1, Kd.isSca, flat, TYB]
      have eL : lzL R = kept (fun p => !lzP R p) (ulF R) (sucC R) := by unfold lzL; rw [ehp]
      rw [eL, hl6]
      exact .inr ⟨ob, co, jo, by simp [Wrap.ap], go6, Nat.zero_le _, by omega, by simp⟩
end Go.Proofs.Ytaopbefklkbmeaa
set_option maxRecDepth 100000
set_option linter.unusedSimpArgs false
set_option linter.unusedVariables false
namespace Go.Proofs.Ytaopbefklkbmeaa
open Go Go.RowKit
theorem sLosingPours_vc (R : List Int) (hR : R.length = 24) :
    codeVC (⟨Try.prog, tys, [(13, sCanBeSorted_F), (17, l2Pour_F), (19, l3Form_F), (18, l3At_F)], [(14, l3Upto_F), (15, l2Useful_F), (16, l3Left_F)], true, true, 0, [15, 16], [(7, .tree (.one 1 (.one 4 (.alt 0 (.alt 2 (.one 3 (.one 5 (.one 6 (.one 7 (.one 8 (.one 9 (.one 10 .done))))))) (.alt 3 (.alt 2 (.one 5 (.one 6 (.one 7 (.one 8 (.one 9 (.one 10 .done)))))) (.alt 5 (.alt 2 (.one 6 (.one 7 (.one 8 (.one 9 (.one 10 .done))))) (.alt 6 (.one 2 (.one 7 (.one 8 (.one 9 (.one 10 .done))))) .stop)) .stop)) (.alt 5 (.alt 2 (.one 3 (.one 6 (.one 7 (.one 8 (.one 9 (.one 10 .done)))))) (.alt 3 (.alt 2 (.one 6 (.one 7 (.one 8 (.one 9 (.one 10 .done))))) (.alt 6 (.one 2 (.one 7 (.one 8 (.one 9 (.one 10 .done))))) .stop)) (.alt 6 (.alt 2 (.one 3 (.one 7 (.one 8 (.one 9 (.one 10 .done))))) (.alt 3 (.one 2 (.one 7 (.one 8 (.one 9 (.one 10 .done))))) .stop)) .stop))) .stop))) (.alt 2 (.one 3 (.one 5 (.one 6 (.alt 0 (.one 7 (.one 8 (.one 9 (.one 10 .done)))) (.alt 7 (.one 0 (.one 8 (.one 9 (.one 10 .done)))) .stop))))) (.alt 3 (.alt 0 (.alt 2 (.one 5 (.one 6 (.one 7 (.one 8 (.one 9 (.one 10 .done)))))) (.alt 5 (.alt 2 (.one 6 (.one 7 (.one 8 (.one 9 (.one 10 .done))))) (.alt 6 (.one 2 (.one 7 (.one 8 (.one 9 (.one 10 .done))))) .stop)) .stop)) (.alt 2 (.one 5 (.one 6 (.alt 0 (.one 7 (.one 8 (.one 9 (.one 10 .done)))) (.alt 7 (.one 0 (.one 8 (.one 9 (.one 10 .done)))) .stop)))) (.alt 5 (.alt 0 (.alt 2 (.one 6 (.one 7 (.one 8 (.one 9 (.one 10 .done))))) (.alt 6 (.one 2 (.one 7 (.one 8 (.one 9 (.one 10 .done))))) .stop)) (.alt 2 (.one 6 (.alt 0 (.one 7 (.one 8 (.one 9 (.one 10 .done)))) (.alt 7 (.one 0 (.one 8 (.one 9 (.one 10 .done)))) .stop))) (.alt 6 (.alt 0 (.one 2 (.one 7 (.one 8 (.one 9 (.one 10 .done))))) (.alt 2 (.alt 0 (.one 7 (.one 8 (.one 9 (.one 10 .done)))) (.alt 7 (.one 0 (.one 8 (.one 9 (.one 10 .done)))) .stop)) .stop)) .stop))) .stop))) (.alt 5 (.alt 0 (.alt 2 (.one 3 (.one 6 (.one 7 (.one 8 (.one 9 (.one 10 .done)))))) (.alt 3 (.alt 2 (.one 6 (.one 7 (.one 8 (.one 9 (.one 10 .done))))) (.alt 6 (.one 2 (.one 7 (.one 8 (.one 9 (.one 10 .done))))) .stop)) (.alt 6 (.alt 2 (.one 3 (.one 7 (.one 8 (.one 9 (.one 10 .done))))) (.alt 3 (.one 2 (.one 7 (.one 8 (.one 9 (.one 10 .done))))) .stop)) .stop))) (.alt 2 (.one 3 (.one 6 (.alt 0 (.one 7 (.one 8 (.one 9 (.one 10 .done)))) (.alt 7 (.one 0 (.one 8 (.one 9 (.one 10 .done)))) .stop)))) (.alt 3 (.alt 0 (.alt 2 (.one 6 (.one 7 (.one 8 (.one 9 (.one 10 .done))))) (.alt 6 (.one 2 (.one 7 (.one 8 (.one 9 (.one 10 .done))))) .stop)) (.alt 2 (.one 6 (.alt 0 (.one 7 (.one 8 (.one 9 (.one 10 .done)))) (.alt 7 (.one 0 (.one 8 (.one 9 (.one 10 .done)))) .stop))) (.alt 6 (.alt 0 (.one 2 (.one 7 (.one 8 (.one 9 (.one 10 .done))))) (.alt 2 (.alt 0 (.one 7 (.one 8 (.one 9 (.one 10 .done)))) (.alt 7 (.one 0 (.one 8 (.one 9 (.one 10 .done)))) .stop)) .stop)) .stop))) (.alt 6 (.alt 0 (.alt 2 (.one 3 (.one 7 (.one 8 (.one 9 (.one 10 .done))))) (.alt 3 (.one 2 (.one 7 (.one 8 (.one 9 (.one 10 .done))))) .stop)) (.alt 2 (.one 3 (.alt 0 (.one 7 (.one 8 (.one 9 (.one 10 .done)))) (.alt 7 (.one 0 (.one 8 (.one 9 (.one 10 .done)))) .stop))) (.alt 3 (.alt 0 (.one 2 (.one 7 (.one 8 (.one 9 (.one 10 .done))))) (.alt 2 (.alt 0 (.one 7 (.one 8 (.one 9 (.one 10 .done)))) (.alt 7 (.one 0 (.one 8 (.one 9 (.one 10 .done)))) .stop)) .stop)) .stop))) .stop)))) .stop)))))))]⟩ : Cx) 0 (Try.f5.body.getD .skip) (argS 0 [.arr R]) [] 0
      (retK tys Try.f5.results.toList fun v H' n' => freshPost 0 (lzF R) ((lzF R).length / 2) 2 49 false (.more [.bool (lzB R)]) v H') := by
  have tkR : R.take 24 = R := List.take_of_length_le (by omega)
  cases hr : rackB R
  · have hb : lzB R = false := by unfold lzB; rw [hr]; rfl
    have hF : lzF R = [] := by unfold lzF; rw [hb]; rfl
    rw [hb, hF]
    simp -implicitDefEqProofs only [Try.f5, Option.getD_some, argS, sCanBeSorted_F, hR, hr, tkR, Nat.add_assoc, add_self, self_add, add_add, ZB, Int.reduceToNat, Nat.reduceLT, Nat.reduceLeDiff, Int.reduceLE, Int.reduceLT, Nat.reduceEqDiff, Nat.reduceSub, SB, SV.known, packR, ne_eq, reduceCtorEq, Nat.reduceEqDiff, ↓reduceIte, if_true, if_false, eq_self, Nat.reduceAdd, Nat.reduceMul, Nat.reduceSub, forall_const, oneCellS, litOne, flat1, Kd.isSca, flat, TYB]
    exact .inr ⟨1, 0, [], rfl, by simp [hget_cons], Nat.zero_le _, rfl, by simp⟩
  cases hu : unB sortB R
  · have hb : lzB R = false := by unfold lzB; rw [hr, hu]; rfl
    have hF : lzF R = [] := by unfold lzF; rw [hb]; rfl
    rw [hb, hF]
    cases ho : unO sortB R
    all_goals
      simp -implicitDefEqProofs only [Try.f5, Option.getD_some, argS, sCanBeSorted_F, hR, hr, hu, ho, tkR, Nat.add_assoc, add_self, self_add, add_add, ZB, Int.reduceToNat, Nat.reduceLT, Nat.reduceLeDiff, Int.reduceLE, Int.reduceLT, Nat.reduceEqDiff, Nat.reduceSub, SB, SV.known, packR, ne_eq, reduceCtorEq, Nat.reduceEqDiff, ↓reduceIte, if_true, if_false, eq_self, Nat.reduceAdd, Nat.reduceMul, Nat.reduceSub, forall_const, oneCellS, litOne, flat1, Kd.isSca, flat, TYB]
      exact .inr ⟨1, 0, [], rfl, by simp [hget_cons], Nat.zero_le _, rfl, by simp⟩
  have ho : unO sortB R = true := unB_unO hu
  simp -implicitDefEqProofs only [Try.f5, Option.getD_some, argS, sCanBeSorted_F, l3Upto_F, hR, hr, hu, ho, tkR, Nat.add_assoc, add_self, self_add, add_add, ZB, Int.reduceToNat, Nat.reduceLT, Nat.reduceLeDiff, Int.reduceLE, Int.reduceLT, Nat.reduceEqDiff, Nat.reduceSub, SB, SV.known, packR, ne_eq, reduceCtorEq, Nat.reduceEqDiff, ↓reduceIte, if_true, if_false, eq_self, Nat.reduceAdd, Nat.reduceMul, Nat.reduceSub, forall_const, oneCellS, litOne, flat1, Kd.isSca, flat, TYB]
  refine ⟨fun k => k = 0, fun k h => by omega, fun s K P o d H1 n1 h1 h2 h3 h4 h5 h6 h7 => ?_⟩
  have hR1 := h4 0 _ rfl (show hget [(0, SObj.ints R 29)] 0 = some (.ints R 29) by simp [hget_cons])
  have z1 : (0 = n1) = False := by simp; omega
  have z2 : (n1 = 0) = False := by simp; omega
  unfold SN.val
  rcases h7 with ⟨rfl, rfl, rfl, h8, h9⟩ | ⟨rfl, h8⟩
  · have h9' : lay R d = [] := h9.resolve_left id
    have hd : dep nev R = d := dep_eq (by rw [stp_nev R d h8]; exact decide_eq_true h9') h5
    have ho : unO nev R = true := by
      unfold unO
      rw [hd]
      show (!decide _) = true
      rw [decide_eq_false (by omega)]; rfl
    have hb : lzB R = true := by unfold lzB; rw [hr, hu, ho]; rfl
    have hF : lzF R = lzL R := by unfold lzF; rw [if_pos hb]
    have hcl := kn_closed h9'
    have hpk := fun i j hi hj hu => pour_kn (R := R) (d := d) hR hr h9' (i := i) (j := j) hi hj hu
    rw [hb, hF]
    simp -implicitDefEqProofs only [z1, z2, hR1, hR, tkR, ZB, Int.reduceToNat, Nat.reduceLT, Nat.reduceLeDiff, Int.reduceLE, Int.reduceLT, Nat.reduceEqDiff, Nat.reduceSub, SB, SV.known, packR, ne_eq, reduceCtorEq, Nat.reduceEqDiff, ↓reduceIte, if_true, if_false, eq_self, Nat.reduceAdd, Nat.reduceMul, Nat.reduceSub, forall_const, oneCellS, litOne, flat1, Kd.isSca, flat, TYB]
    generalize kn R d = K at *
    generalize lvl R d = P at *
    obtain ⟨w1, w2, w3⟩ := h3.wf h2
    have hf := h3.f
    have ok24 := h3.ok.all24
    have ek : chkR (K.flatten ++ s.J1) 0 K.length = K := chkR_of ok24 s.J1
    have xf := ne_add w1; have xf' := ne_add' w1
    have x0 := ne_add (k := 0) (n := n1) (by omega); have x0' := add_ne (k := 0) (n := n1) (by omega)
    have hnp := ulF_sucC R
    have hnp36 := sucC_le R
    have ehp : (ulF R).length / 2 = sucC R := by omega
    generalize hH4 : (n1, SObj.cells [SV.slice s.f 0 K.length s.cf, SV.slice s.q 0 K.length s.cq, SV.slice s.u 0 1009 1009] 42) :: (n1, SObj.cells [SV.nils, SV.nils, SV.nils] 42) :: H1 = H4
    have hE4 : Ext H1 H4 := by rw [← hH4]; exact Ext.cons h2 (Nat.le_refl _) (Ext.cons h2 (Nat.le_refl _) (Ext.refl _))
    have hw4 : hwf (n1 + 1) H4 := by rw [← hH4]; exact hwf_cons (hwf_cons (hwf_mono (by omega) h2) (by omega) (by simp [SObj.wf, wfL, SV.wf])) (by omega) (by simp [SObj.wf, wfL, SV.wf]; omega)
    have gc : hget H4 n1 = some (.cells [SV.slice s.f 0 K.length s.cf, SV.slice s.q 0 K.length s.cq, SV.slice s.u 0 1009 1009] 42) := by rw [← hH4]; simp [hget_cons]
    have gf := hE4 _ _ hf
    have g0 := hE4 _ _ hR1
    clear hH4
    have mkA : ∀ (cap : Nat) (junk : List Int), junk.length + (ulF R).length = cap * 2 → ∃ q : LzI R K (n1 + 1) H4, q.b0 = n1 + 1 ∧ q.ba = n1 + 2 ∧ q.bl = n1 + 4 ∧ q.cap = cap ∧ q.H = (n1 + 4, .ints (K.map (lf K K.length)) 3) :: (n1 + 3, .cells [SV.slice s.f 0 K.length s.cf, SV.slice s.q 0 K.length s.cq, SV.slice s.u 0 1009 1009] 42) :: (n1 + 2, .ints (ulF R ++ junk) 49) :: (n1 + 1, SObj.ints [] 49) :: H4 ∧ q.n = n1 + 5 := fun cap junk hj =>
      ⟨⟨n1 + 1, n1 + 2, n1 + 4, cap, junk, (n1 + 4, .ints (K.map (lf K K.length)) 3) :: (n1 + 3, .cells [SV.slice s.f 0 K.length s.cf, SV.slice s.q 0 K.length s.cq, SV.slice s.u 0 1009 1009] 42) :: (n1 + 2, .ints (ulF R ++ junk) 49) :: (n1 + 1, SObj.ints [] 49) :: H4, n1 + 5, by
        refine hwf_cons (hwf_cons (hwf_cons (hwf_cons (hwf_mono (by omega) hw4) (by omega) ?_) (by omega) ?_) (by omega) ?_) (by omega) ?_ <;> first | trivial | (simp [SObj.wf, wfL, SV.wf]; omega), by repeat' first | exact Ext.refl _ | refine Ext.cons hw4 (by omega) ?_, by simp [hget_cons], by simp [hget_cons], by simp [hget_cons], hj, by omega, by omega⟩, rfl, rfl, rfl, rfl, rfl, rfl⟩
    have mkB : ∀ (cap : Nat) (junk : List Int), junk.length + (ulF R).length = cap * 2 → ∃ q : LzI R K (n1 + 1) H4, q.b0 = n1 + 2 ∧ q.ba = n1 + 1 ∧ q.bl = n1 + 4 ∧ q.cap = cap ∧ q.H = (n1 + 4, .ints (K.map (lf K K.length)) 3) :: (n1 + 3, .cells [SV.slice s.f 0 K.length s.cf, SV.slice s.q 0 K.length s.cq, SV.slice s.u 0 1009 1009] 42) :: (n1 + 2, SObj.ints [] 49) :: (n1 + 1, .ints (ulF R ++ junk) 49) :: H4 ∧ q.n = n1 + 5 := fun cap junk hj =>
      ⟨⟨n1 + 2, n1 + 1, n1 + 4, cap, junk, (n1 + 4, .ints (K.map (lf K K.length)) 3) :: (n1 + 3, .cells [SV.slice s.f 0 K.length s.cf, SV.slice s.q 0 K.length s.cq, SV.slice s.u 0 1009 1009] 42) :: (n1 + 2, SObj.ints [] 49) :: (n1 + 1, .ints (ulF R ++ junk) 49) :: H4, n1 + 5, by
        refine hwf_cons (hwf_cons (hwf_cons (hwf_cons (hwf_mono (by omega) hw4) (by omega) ?_) (by omega) ?_) (by omega) ?_) (by omega) ?_ <;> first | trivial | (simp [SObj.wf, wfL, SV.wf]; omega), by repeat' first | exact Ext.refl _ | refine Ext.cons hw4 (by omega) ?_, by simp [hget_cons], by simp [hget_cons], by simp [hget_cons], hj, by omega, by omega⟩, rfl, rfl, rfl, rfl, rfl, rfl⟩
    have mkC : ∀ (cap : Nat) (junk : List Int), junk.length + (ulF R).length = cap * 2 → ∃ q : LzI R K (n1 + 1) H4, q.b0 = n1 + 4 ∧ q.ba = n1 + 1 ∧ q.bl = n1 + 3 ∧ q.cap = cap ∧ q.H = (n1 + 4, SObj.ints [] 49) :: (n1 + 3, .ints (K.map (lf K K.length)) 3) :: (n1 + 2, .cells [SV.slice s.f 0 K.length s.cf, SV.slice s.q 0 K.length s.cq, SV.slice s.u 0 1009 1009] 42) :: (n1 + 1, .ints (ulF R ++ junk) 49) :: H4 ∧ q.n = n1 + 5 := fun cap junk hj =>
      ⟨⟨n1 + 4, n1 + 1, n1 + 3, cap, junk, (n1 + 4, SObj.ints [] 49) :: (n1 + 3, .ints (K.map (lf K K.length)) 3) :: (n1 + 2, .cells [SV.slice s.f 0 K.length s.cf, SV.slice s.q 0 K.length s.cq, SV.slice s.u 0 1009 1009] 42) :: (n1 + 1, .ints (ulF R ++ junk) 49) :: H4, n1 + 5, by
        refine hwf_cons (hwf_cons (hwf_cons (hwf_cons (hwf_mono (by omega) hw4) (by omega) ?_) (by omega) ?_) (by omega) ?_) (by omega) ?_ <;> first | trivial | (simp [SObj.wf, wfL, SV.wf]; omega), by repeat' first | exact Ext.refl _ | refine Ext.cons hw4 (by omega) ?_, by simp [hget_cons], by simp [hget_cons], by simp [hget_cons], hj, by omega, by omega⟩, rfl, rfl, rfl, rfl, rfl, rfl⟩
    have hset : ∀ H' : Heap, Ext H4 H' → ∃ (s' : SN) (A' : Nat → Prop) (m' : Nat) (K' : List (List Int)) (P' : List Int), SV.stc [SV.slice s.f 0 K.length s.cf, SV.slice s.q 0 K.length s.cq, SV.slice s.u 0 1009 1009] = s'.val K'.length ∧ SetH s' A' m' H' K' P' := fun H' hE' => ⟨s, _, 0, K, P, rfl, (h3.mono hE4).mono hE'⟩
    refine ⟨LzI R K (n1 + 1) H4, fun q => [(10, .slice q.bl 0 K.length K.length), (9, .slice q.ba 0 (sucC R) q.cap), (8, .slice q.b0 0 0 0), (6, .ptr n1 0), (1, .ptr 0 0)], fun q => q.H, fun q => q.n, ?_, fun q => ?_⟩
    · simp -implicitDefEqProofs only [l2Useful_F, l3Left_F, freshK, Wrap.ap, gc, gf, g0, hR, hr, tkR, ehp, ek, xf, xf', x0, x0', Nat.add_assoc, add_self, self_add, add_add, ZB, Int.reduceToNat, Nat.reduceLT, Nat.reduceLeDiff, Int.reduceLE, Int.reduceLT, Nat.reduceEqDiff, Nat.reduceSub, SB, SV.known, packR, ne_eq, reduceCtorEq, Nat.reduceEqDiff, ↓reduceIte, if_true, if_false, eq_self, Nat.reduceAdd, Nat.reduceMul, Nat.reduceSub, forall_const, oneCellS, litOne, flat1, Kd.isSca, flat, TYB]
      repeat' first
        | intro cap junk hj
        | apply And.intro
        | exact hset _ (by repeat' first | exact Ext.refl _ | refine Ext.cons hw4 (by omega) ?_)
        | omega
        | (obtain ⟨q, e1, e2, e3, e4, e5, e6⟩ := mkA cap junk hj
           refine ⟨q, ?_⟩
           have hq := q.wf
           rw [e5, e6] at hq
           simp only [e1, e2, e3, e4, e5, e6]
           exact Sub.same (by simp only [LB, subS, subH, wfS, wfH, SV.ren, renL, SObj.ren, SV.wf, SObj.wf, wfL, SV.known, Nat.reduceEqDiff, ↓reduceIte, if_true, if_false, eq_self, Nat.reduceAdd, Nat.reduceLT, Nat.reduceLeDiff, implies_true, reduceCtorEq, forall_const]) (by simp [subS, subH, wfS, wfH, SV.ren, renL, SObj.ren, SV.wf, SObj.wf, wfL, sget_cons, hget_cons] <;> omega) hq (by omega))
        | (obtain ⟨q, e1, e2, e3, e4, e5, e6⟩ := mkB cap junk hj
           refine ⟨q, ?_⟩
           have hq := q.wf
           rw [e5, e6] at hq
           simp only [e1, e2, e3, e4, e5, e6]
           exact Sub.same (by simp only [LB, subS, subH, wfS, wfH, SV.ren, renL, SObj.ren, SV.wf, SObj.wf, wfL, SV.known, Nat.reduceEqDiff, ↓reduceIte, if_true, if_false, eq_self, Nat.reduceAdd, Nat.reduceLT, Nat.reduceLeDiff, implies_true, reduceCtorEq, forall_const]) (by simp [subS, subH, wfS, wfH, SV.ren, renL, SObj.ren, SV.wf, SObj.wf, wfL, sget_cons, hget_cons] <;> omega) hq (by omega))
        | (obtain ⟨q, e1, e2, e3, e4, e5, e6⟩ := mkC cap junk hj
           refine ⟨q, ?_⟩
           have hq := q.wf
           rw [e5, e6] at hq
           simp only [e1, e2, e3, e4, e5, e6]
           exact Sub.same (by simp only [LB, subS, subH, wfS, wfH, SV.ren, renL, SObj.ren, SV.wf, SObj.wf, wfL, SV.known, Nat.reduceEqDiff, ↓reduceIte, if_true, if_false, eq_self, Nat.reduceAdd, Nat.reduceLT, Nat.reduceLeDiff, implies_true, reduceCtorEq, forall_const]) (by simp [subS, subH, wfS, wfH, SV.ren, renL, SObj.ren, SV.wf, SObj.wf, wfL, sget_cons, hget_cons] <;> omega) hq (by omega))
    · exact lz_rest R hR hr K P s n1 h8 hcl (fun i j => hpk i j) q.b0 q.ba q.bl q.cap q.junk q.H q.n (((h3.more h2 fun j hj => .inr (by omega)).mono hE4).mono q.e) q.wf q.g0 q.ga q.gl q.hj q.ge q.ne (q.e _ _ gc) (q.e _ _ g0)
  · have hd : dep nev R = d := dep_eq (ovf_stp h8) h5
    have ho : unO nev R = false := by
      unfold unO
      rw [hd, h8]; rfl
    have hb : lzB R = false := by unfold lzB; rw [hr, hu, ho]; rfl
    have hF : lzF R = [] := by unfold lzF; rw [hb]; rfl
    rw [hb, hF]
    simp -implicitDefEqProofs only [z1, z2, hR1, hR, tkR, ZB, Int.reduceToNat, Nat.reduceLT, Nat.reduceLeDiff, Int.reduceLE, Int.reduceLT, Nat.reduceEqDiff, Nat.reduceSub, SB, SV.known, packR, ne_eq, reduceCtorEq, Nat.reduceEqDiff, ↓reduceIte, if_true, if_false, eq_self, Nat.reduceAdd, Nat.reduceMul, Nat.reduceSub, forall_const, oneCellS, litOne, flat1, Kd.isSca, flat, TYB]
    exact .inr ⟨n1 + 1, 0, [], rfl, by simp [hget_cons], Nat.zero_le _, rfl, by simp⟩
--@tbl sLosingPours = spec.LosingPours
theorem sLosingPours_ok (R : List Int) (hR : R.length = 24) : FreshP Try.prog 5 [.arr R] [] (lzF R) ((lzF R).length / 2) 2 49 false (.more [.bool (lzB R)]) := by
  refine fresh_of_vc (X := (⟨Try.prog, tys, [(13, sCanBeSorted_F), (17, l2Pour_F), (19, l3Form_F), (18, l3At_F)], [(14, l3Upto_F), (15, l2Useful_F), (16, l3Left_F)], true, true, 0, [15, 16], [(7, .tree (.one 1 (.one 4 (.alt 0 (.alt 2 (.one 3 (.one 5 (.one 6 (.one 7 (.one 8 (.one 9 (.one 10 .done))))))) (.alt 3 (.alt 2 (.one 5 (.one 6 (.one 7 (.one 8 (.one 9 (.one 10 .done)))))) (.alt 5 (.alt 2 (.one 6 (.one 7 (.one 8 (.one 9 (.one 10 .done))))) (.alt 6 (.one 2 (.one 7 (.one 8 (.one 9 (.one 10 .done))))) .stop)) .stop)) (.alt 5 (.alt 2 (.one 3 (.one 6 (.one 7 (.one 8 (.one 9 (.one 10 .done)))))) (.alt 3 (.alt 2 (.one 6 (.one 7 (.one 8 (.one 9 (.one 10 .done))))) (.alt 6 (.one 2 (.one 7 (.one 8 (.one 9 (.one 10 .done))))) .stop)) (.alt 6 (.alt 2 (.one 3 (.one 7 (.one 8 (.one 9 (.one 10 .done))))) (.alt 3 (.one 2 (.one 7 (.one 8 (.one 9 (.one 10 .done))))) .stop)) .stop))) .stop))) (.alt 2 (.one 3 (.one 5 (.one 6 (.alt 0 (.one 7 (.one 8 (.one 9 (.one 10 .done)))) (.alt 7 (.one 0 (.one 8 (.one 9 (.one 10 .done)))) .stop))))) (.alt 3 (.alt 0 (.alt 2 (.one 5 (.one 6 (.one 7 (.one 8 (.one 9 (.one 10 .done)))))) (.alt 5 (.alt 2 (.one 6 (.one 7 (.one 8 (.one 9 (.one 10 .done))))) (.alt 6 (.one 2 (.one 7 (.one 8 (.one 9 (.one 10 .done))))) .stop)) .stop)) (.alt 2 (.one 5 (.one 6 (.alt 0 (.one 7 (.one 8 (.one 9 (.one 10 .done)))) (.alt 7 (.one 0 (.one 8 (.one 9 (.one 10 .done)))) .stop)))) (.alt 5 (.alt 0 (.alt 2 (.one 6 (.one 7 (.one 8 (.one 9 (.one 10 .done))))) (.alt 6 (.one 2 (.one 7 (.one 8 (.one 9 (.one 10 .done))))) .stop)) (.alt 2 (.one 6 (.alt 0 (.one 7 (.one 8 (.one 9 (.one 10 .done)))) (.alt 7 (.one 0 (.one 8 (.one 9 (.one 10 .done)))) .stop))) (.alt 6 (.alt 0 (.one 2 (.one 7 (.one 8 (.one 9 (.one 10 .done))))) (.alt 2 (.alt 0 (.one 7 (.one 8 (.one 9 (.one 10 .done)))) (.alt 7 (.one 0 (.one 8 (.one 9 (.one 10 .done)))) .stop)) .stop)) .stop))) .stop))) (.alt 5 (.alt 0 (.alt 2 (.one 3 (.one 6 (.one 7 (.one 8 (.one 9 (.one 10 .done)))))) (.alt 3 (.alt 2 (.one 6 (.one 7 (.one 8 (.one 9 (.one 10 .done))))) (.alt 6 (.one 2 (.one 7 (.one 8 (.one 9 (.one 10 .done))))) .stop)) (.alt 6 (.alt 2 (.one 3 (.one 7 (.one 8 (.one 9 (.one 10 .done))))) (.alt 3 (.one 2 (.one 7 (.one 8 (.one 9 (.one 10 .done))))) .stop)) .stop))) (.alt 2 (.one 3 (.one 6 (.alt 0 (.one 7 (.one 8 (.one 9 (.one 10 .done)))) (.alt 7 (.one 0 (.one 8 (.one 9 (.one 10 .done)))) .stop)))) (.alt 3 (.alt 0 (.alt 2 (.one 6 (.one 7 (.one 8 (.one 9 (.one 10 .done))))) (.alt 6 (.one 2 (.one 7 (.one 8 (.one 9 (.one 10 .done))))) .stop)) (.alt 2 (.one 6 (.alt 0 (.one 7 (.one 8 (.one 9 (.one 10 .done)))) (.alt 7 (.one 0 (.one 8 (.one 9 (.one 10 .done)))) .stop))) (.alt 6 (.alt 0 (.one 2 (.one 7 (.one 8 (.one 9 (.one 10 .done))))) (.alt 2 (.alt 0 (.one 7 (.one 8 (.one 9 (.one 10 .done)))) (.alt 7 (.one 0 (.one 8 (.one 9 (.one 10 .done)))) .stop)) .stop)) .stop))) (.alt 6 (.alt 0 (.alt 2 (.one 3 (.one 7 (.one 8 (.one 9 (.one 10 .done))))) (.alt 3 (.one 2 (.one 7 (.one 8 (.one 9 (.one 10 .done))))) .stop)) (.alt 2 (.one 3 (.alt 0 (.one 7 (.one 8 (.one 9 (.one 10 .done)))) (.alt 7 (.one 0 (.one 8 (.one 9 (.one 10 .done)))) .stop))) (.alt 3 (.alt 0 (.one 2 (.one 7 (.one 8 (.one 9 (.one 10 .done))))) (.alt 2 (.alt 0 (.one 7 (.one 8 (.one 9 (.one 10 .done)))) (.alt 7 (.one 0 (.one 8 (.one 9 (.one 10 .done)))) .stop)) .stop)) .stop))) .stop)))) .stop)))))))]⟩ : Cx)) fnx_LosingPours ⟨tys_ok, .cons sCanBeSorted_T (.cons l2Pour_T (.cons l3Form_T (.cons l3At_T .nil))), .cons l3Upto_T (.cons l2Useful_T (.cons l3Left_T .nil)), mixed⟩ (n0 := 0) rfl (Nat.le_of_ble_eq_true rfl) (by simp [wfL, SV.wf]) (hwf_nil _) (Nat.le_refl _) ?_
  exact sLosingPours_vc R hR
end Go.Proofs.Ytaopbefklkbmeaa
set_option maxRecDepth 100000
set_option linter.unusedSimpArgs false
set_option linter.unusedVariables false
namespace Go.Proofs.Ytaopbefklkbmeaa
open Go Go.RowKit
--@tbl canS = impl.LosingPours$1
theorem canS_ok (R : List Int) (hR : R.length = 24) (hr : rackB R = true) : PureH Try.prog 25 [.arr R] [] (.bool (unB sortB R)) := by
  have tkR : R.take 24 = R := List.take_of_length_le (by omega)
  refine pure_of_vc (X := ⟨Try.prog, tys, [], [(22, searchFrom_F), (23, until_F)], true, true, 0, [], []⟩) fn_25 ⟨tys_ok, .nil, (.cons searchFrom_T (.cons until_T .nil)), mixed⟩ (n0 := 0) (Nat.le_of_ble_eq_true rfl) (by simp [wfL, SV.wf]) (wfH_spec (by simp [wfH, SObj.wf, wfL, SV.wf])) (Nat.le_refl _) (fun _ => by simp [SV.wf, wfL]) ?_
  simp -implicitDefEqProofs only [Try.f25, Option.getD_some, argS, searchFrom_F, until_F, hR, tkR, hr, ZB, Int.reduceToNat, Nat.reduceLT, Nat.reduceLeDiff, Int.reduceLE, Int.reduceLT, Nat.reduceEqDiff, Nat.reduceSub, SB, SV.known, packR, ne_eq, reduceCtorEq, Nat.reduceEqDiff, ↓reduceIte, if_true, if_false, eq_self, Nat.reduceAdd, Nat.reduceMul, Nat.reduceSub, forall_const, oneCellS, litOne, flat1, Kd.isSca, flat, TYB]
  exact ⟨R, sortB, .inl rfl, hR, hr, rfl, rfl, fun lv _ => rfl⟩
def canS_F : List SV → Heap → Option (Prop × SV)
  | [.arr R], _ => some (R.length = 24 ∧ rackB R = true, .bool (unB sortB R))
  | _, _ => none
theorem canS_T : ∀ args H p v, canS_F args H = some (p, v) → p → PureH Try.prog 25 args H v := by
  intro args H p v h hp
  unfold canS_F at h
  split at h
  · cases h; exact (canS_ok _ hp.1 hp.2).any _
  · cases h
def qLz (R p : List Int) : Prop := rackB R = true ∧ okP p ∧ canF R (p.getD 0 0) (p.getD 1 0) = true
--@tbl canP = impl.LosingPours$2
theorem canP_ok (R : List Int) (e e' : Nat) (p : List Int) (hR : R.length = 24) (hq : qLz R p) : PureH Try.prog 29 [.arr p, .ptr 0 0, .ptr 1 0] [(0, .ints R e), (1, .cells [.fn 25 []] e')] (.bool (lzP R p)) := by
  obtain ⟨hr, hp, hc⟩ := hq
  have tkR : R.take 24 = R := List.take_of_length_le (by omega)
  have tkp := okP_take hp
  obtain ⟨pl, b0, b1⟩ := hp
  have lq := pourF_len hR (p.getD 0 0).toNat (p.getD 1 0).toNat
  have tkq := List.take_of_length_le (Nat.le_of_eq lq)
  have rq := pour_rack hR hr b0 b1 hc
  have ev : unB sortB (pourF R (p.getD 0 0).toNat (p.getD 1 0).toNat) = lzP R p := rfl
  refine pure_of_vc (X := ⟨Try.prog, tys, [(30, pour_F), (25, canS_F)], [], true, true, 2, [], []⟩) fn_29 ⟨tys_ok, (.cons pour_T (.cons canS_T .nil)), .nil, mixed⟩ (n0 := 2) (Nat.le_of_ble_eq_true rfl) (by simp [wfL, SV.wf]) (wfH_spec (by simp [wfH, SObj.wf, wfL, SV.wf])) (Nat.le_refl _) (fun _ => by simp [SV.wf, wfL]) ?_
  simp -implicitDefEqProofs only [Try.f29, Option.getD_some, argS, pour_F, canS_F, hR, tkR, pl, tkp, b0, b1, lq, tkq, rq, ev, ZB, Int.reduceToNat, Nat.reduceLT, Nat.reduceLeDiff, Int.reduceLE, Int.reduceLT, Nat.reduceEqDiff, Nat.reduceSub, SB, SV.known, packR, ne_eq, reduceCtorEq, Nat.reduceEqDiff, ↓reduceIte, if_true, if_false, eq_self, Nat.reduceAdd, Nat.reduceMul, Nat.reduceSub, forall_const, oneCellS, litOne, flat1, Kd.isSca, flat, TYB]
/-! DeleteFunc with a closure over a rack and a function. -/
def lDel_F : List SV → Heap → Nat → Nat → K1 → Prop
  | [.slice b 0 len cap, .fn f [.ptr k 0, .ptr k2 0]], H, n, m, κ => match hget H b, hget H k, hget H k2 with
    | some (.ints L e), some (.ints R _), some (.cells D _) => f = 29 ∧ (R.length = 24 ∧ D = [.fn 25 []]) ∧ L.length = cap * 2 ∧ len ≤ cap ∧ len ≤ 4611686018427387903 ∧ (b ≠ k ∧ b ≠ k2 ∧ k ≠ k2) ∧ m ≤ b ∧ (∀ i, i < len → qLz R ((L.drop (i * 2)).take 2)) ∧
        κ (.slice b 0 ((kept (fun x => !lzP R x) L len).length / 2) cap) ((b, .ints (kept (fun x => !lzP R x) L len ++ List.replicate (len * 2 - (kept (fun x => !lzP R x) L len).length) 0 ++ L.drop (len * 2)) e) :: H) n
    | _, _, _ => False
  | [.nils, .fn _ [.ptr k 0, .ptr k2 0]], H, n, _, κ => match hget H k, hget H k2 with
    | some (.ints _ _), some (.cells _ _) => κ .nils H n
    | _, _ => False
  | _, _, _, _, _ => False
--@tbl lDel = slices.DeleteFunc[[][2]int,[2]int]
theorem lDel_T : ∀ args H n m κ, lDel_F args H n m κ → GenOK Try.prog 27 args H n m κ := by
  intro args H n m κ h
  unfold lDel_F at h
  split at h
  · rename_i b len cap f k k2
    split at h
    · rename_i L e R e2 D e3 h1 h2 h3
      obtain ⟨rfl, ⟨hR, rfl⟩, hL, hlc, hm, ⟨hb1, hb2, hb3⟩, hmb, hQ, h⟩ := h
      have hu := deleteFunc_ok 29 (by decide) [.ptr 0 0, .ptr 1 0] [(0, .ints R e2), (1, .cells [.fn 25 []] e3)] (lzP R) 2 L e len cap hL hlc hm (qLz R) hQ (fun x hx => canP_ok R e2 e3 x hR hx) (by simp [wfL, SV.wf]) (wfH_spec (by simp [wfH, SObj.wf, wfL, SV.wf] <;> exact ⟨trivial, trivial⟩))
      have := gen_of_upd (H := H) (n := n) (m := m) (κ := κ) hu (fun j => if j = 2 then b else if j = 1 then k2 else k) (fun j o1 hj => by
        simp only [hget_cons] at hj
        split at hj
        · rename_i hj1; cases hj; rw [if_pos hj1]; exact h1
        · rename_i hj1
          rw [if_neg hj1]
          split at hj
          · rename_i hj0; cases hj; rw [if_neg (by omega)]; exact h2
          · split at hj
            · rename_i hj2; cases hj; rw [if_pos hj2]; simpa [SObj.ren, renL, SV.ren] using h3
            · cases hj) (fun j1 o1 j2 o2 g1 g2 he => by
        have dom : ∀ j o, hget [(2, SObj.ints L e), (0, .ints R e2), (1, .cells [.fn 25 []] e3)] j = some o → j = 2 ∨ j = 0 ∨ j = 1 := fun j o hj => by
          simp only [hget_cons] at hj
          split at hj
          · omega
          · split at hj
            · omega
            · split at hj
              · omega
              · cases hj
        rcases dom j1 o1 g1 with rfl | rfl | rfl <;> rcases dom j2 o2 g2 with rfl | rfl | rfl <;> simp at he <;> omega) (by simpa using hmb) rfl (fun n hn => by simpa [SV.wf, SV.ren] using hn) (by simpa [SV.ren] using h)
      simpa [renL, SV.ren] using this
    · exact h.elim
  · rename_i f k k2
    split at h
    · have hp := deleteFunc_nil f [.ptr k 0, .ptr k2 0] [] (k + k2 + 1) (by simp [wfL, SV.wf]; omega) (hwf_nil _)
      refine ⟨hp.ent, fun B M w hH hwH hwa hown hM => ?_⟩
      refine (hp.call B w (HR.nil B w)).mono fun e w' hh => ?_
      exact ⟨.nils, H, n, B, hh.1, h, Nat.le_refl _, trivial, hwH, fun _ _ => rfl, hH.of_below hh.2, hown, Kept.of_below hh.2⟩
    · exact h.elim
  · exact h.elim
theorem qLz_ul {R : List Int} (hr : rackB R = true) (junk : List Int) {i : Nat} (h : i < sucC R) : qLz R (((ulF R ++ junk).drop (i * 2)).take 2) := by
  have hl := ulF_sucC R
  rw [take2_drop _ _ (by rw [List.length_append]; omega), getD_app _ _ _ (by omega), getD_app _ _ _ (by omega)]
  obtain ⟨a0, b0⟩ := ul_bd (R := R) (q := i) (by omega)
  exact ⟨hr, ⟨rfl, a0, b0⟩, ul_can hr h⟩
--@tbl LosingPours = impl.LosingPours
theorem LosingPours_ok (R : List Int) (hR : R.length = 24) : FreshP Try.prog 7 [.arr R] [] (lzF R) ((lzF R).length / 2) 2 49 (decide (lzB R = false ∨ PL R 36 = [])) (.more [.bool (lzB R)]) := by
  have tkR : R.take 24 = R := List.take_of_length_le (by omega)
  unfold lzF
  cases hr : rackB R
  · have hb : lzB R = false := by unfold lzB; rw [hr]; rfl
    rw [hb]
    refine fresh_of_vc (X := ⟨Try.prog, tys, [(21, IsRack_F), (25, canS_F)], [(22, searchFrom_F), (23, until_F), (28, useful_F), (27, lDel_F)], true, true, 0, [], []⟩) fn_7 ⟨tys_ok, (.cons IsRack_T (.cons canS_T .nil)), (.cons searchFrom_T (.cons until_T (.cons useful_T (.cons lDel_T .nil)))), mixed⟩ (n0 := 0) rfl (Nat.le_of_ble_eq_true rfl) (by simp [wfL, SV.wf]) (wfH_spec (by simp [wfH, SObj.wf, wfL, SV.wf])) (Nat.le_refl _) ?_
    simp -implicitDefEqProofs only [Try.f7, Option.getD_some, argS, IsRack_F, canS_F, searchFrom_F, until_F, useful_F, lDel_F, hR, tkR, hr, freshK, Wrap.ap, ZB, Int.reduceToNat, Nat.reduceLT, Nat.reduceLeDiff, Int.reduceLE, Int.reduceLT, Nat.reduceEqDiff, Nat.reduceSub, SB, SV.known, packR, ne_eq, reduceCtorEq, Nat.reduceEqDiff, ↓reduceIte, if_true, if_false, eq_self, Nat.reduceAdd, Nat.reduceMul, Nat.reduceSub, forall_const, oneCellS, litOne, flat1, Kd.isSca, flat, TYB]
    exact .inl ⟨by simp, rfl, rfl⟩
  cases ho : unO nev R
  · have hb : lzB R = false := by unfold lzB; rw [hr, ho]; simp
    rw [hb]
    refine fresh_of_vc (X := ⟨Try.prog, tys, [(21, IsRack_F), (25, canS_F)], [(22, searchFrom_F), (23, until_F), (28, useful_F), (27, lDel_F)], true, true, 0, [], []⟩) fn_7 ⟨tys_ok, (.cons IsRack_T (.cons canS_T .nil)), (.cons searchFrom_T (.cons until_T (.cons useful_T (.cons lDel_T .nil)))), mixed⟩ (n0 := 0) rfl (Nat.le_of_ble_eq_true rfl) (by simp [wfL, SV.wf]) (wfH_spec (by simp [wfH, SObj.wf, wfL, SV.wf])) (Nat.le_refl _) ?_
    simp -implicitDefEqProofs only [Try.f7, Option.getD_some, argS, IsRack_F, canS_F, searchFrom_F, until_F, useful_F, lDel_F, hR, tkR, hr, freshK, Wrap.ap, ZB, Int.reduceToNat, Nat.reduceLT, Nat.reduceLeDiff, Int.reduceLE, Int.reduceLT, Nat.reduceEqDiff, Nat.reduceSub, SB, SV.known, packR, ne_eq, reduceCtorEq, Nat.reduceEqDiff, ↓reduceIte, if_true, if_false, eq_self, Nat.reduceAdd, Nat.reduceMul, Nat.reduceSub, forall_const, oneCellS, litOne, flat1, Kd.isSca, flat, TYB]
    refine ⟨R, nev, .inr rfl, hR, hr, rfl, rfl, fun lv hlv => ?_⟩
    simp -implicitDefEqProofs only [ho, ZB, Int.reduceToNat, Nat.reduceLT, Nat.reduceLeDiff, Int.reduceLE, Int.reduceLT, Nat.reduceEqDiff, Nat.reduceSub, SB, SV.known, packR, ne_eq, reduceCtorEq, Nat.reduceEqDiff, ↓reduceIte, if_true, if_false, eq_self, Nat.reduceAdd, Nat.reduceMul, Nat.reduceSub, forall_const, oneCellS, litOne, flat1, Kd.isSca, flat, TYB]
    exact .inl ⟨by simp, rfl, rfl⟩
  cases hu : unB sortB R
  · have hb : lzB R = false := by unfold lzB; rw [hr, hu]; rfl
    rw [hb]
    refine fresh_of_vc (X := ⟨Try.prog, tys, [(21, IsRack_F), (25, canS_F)], [(22, searchFrom_F), (23, until_F), (28, useful_F), (27, lDel_F)], true, true, 0, [], []⟩) fn_7 ⟨tys_ok, (.cons IsRack_T (.cons canS_T .nil)), (.cons searchFrom_T (.cons until_T (.cons useful_T (.cons lDel_T .nil)))), mixed⟩ (n0 := 0) rfl (Nat.le_of_ble_eq_true rfl) (by simp [wfL, SV.wf]) (wfH_spec (by simp [wfH, SObj.wf, wfL, SV.wf])) (Nat.le_refl _) ?_
    simp -implicitDefEqProofs only [Try.f7, Option.getD_some, argS, IsRack_F, canS_F, searchFrom_F, until_F, useful_F, lDel_F, hR, tkR, hr, freshK, Wrap.ap, ZB, Int.reduceToNat, Nat.reduceLT, Nat.reduceLeDiff, Int.reduceLE, Int.reduceLT, Nat.reduceEqDiff, Nat.reduceSub, SB, SV.known, packR, ne_eq, reduceCtorEq, Nat.reduceEqDiff, ↓reduceIte, if_true, if_false, eq_self, Nat.reduceAdd, Nat.reduceMul, Nat.reduceSub, forall_const, oneCellS, litOne, flat1, Kd.isSca, flat, TYB]
    refine ⟨R, nev, .inr rfl, hR, hr, rfl, rfl, fun lv hlv => ?_⟩
    simp -implicitDefEqProofs only [canS_F, ho, hu, hr, hR, tkR, ZB, Int.reduceToNat, Nat.reduceLT, Nat.reduceLeDiff, Int.reduceLE, Int.reduceLT, Nat.reduceEqDiff, Nat.reduceSub, SB, SV.known, packR, ne_eq, reduceCtorEq, Nat.reduceEqDiff, ↓reduceIte, if_true, if_false, eq_self, Nat.reduceAdd, Nat.reduceMul, Nat.reduceSub, forall_const, oneCellS, litOne, flat1, Kd.isSca, flat, TYB]
    exact .inl ⟨by simp, rfl, rfl⟩
  · have hb : lzB R = true := by unfold lzB; rw [hr, hu, ho]; rfl
    rw [hb]
    refine fresh_of_vc (X := ⟨Try.prog, tys, [(21, IsRack_F), (25, canS_F)], [(22, searchFrom_F), (23, until_F), (28, useful_F), (27, lDel_F)], true, true, 0, [], []⟩) fn_7 ⟨tys_ok, (.cons IsRack_T (.cons canS_T .nil)), (.cons searchFrom_T (.cons until_T (.cons useful_T (.cons lDel_T .nil)))), mixed⟩ (n0 := 0) rfl (Nat.le_of_ble_eq_true rfl) (by simp [wfL, SV.wf]) (wfH_spec (by simp [wfH, SObj.wf, wfL, SV.wf])) (Nat.le_refl _) ?_
    simp -implicitDefEqProofs only [Try.f7, Option.getD_some, argS, IsRack_F, canS_F, searchFrom_F, until_F, useful_F, lDel_F, hR, tkR, hr, freshK, Wrap.ap, ZB, Int.reduceToNat, Nat.reduceLT, Nat.reduceLeDiff, Int.reduceLE, Int.reduceLT, Nat.reduceEqDiff, Nat.reduceSub, SB, SV.known, packR, ne_eq, reduceCtorEq, Nat.reduceEqDiff, ↓reduceIte, if_true, if_false, eq_self, Nat.reduceAdd, Nat.reduceMul, Nat.reduceSub, forall_const, oneCellS, litOne, flat1, Kd.isSca, flat, TYB]
    refine ⟨R, nev, .inr rfl, hR, hr, rfl, rfl, fun lv hlv => ?_⟩
    simp -implicitDefEqProofs only [canS_F, useful_F, lDel_F, freshK, Wrap.ap, ho, hu, hr, hR, tkR, ZB, Int.reduceToNat, Nat.reduceLT, Nat.reduceLeDiff, Int.reduceLE, Int.reduceLT, Nat.reduceEqDiff, Nat.reduceSub, SB, SV.known, packR, ne_eq, reduceCtorEq, Nat.reduceEqDiff, ↓reduceIte, if_true, if_false, eq_self, Nat.reduceAdd, Nat.reduceMul, Nat.reduceSub, forall_const, oneCellS, litOne, flat1, Kd.isSca, flat, TYB]
    obtain ⟨np, hnp, hnp36⟩ := ulF_even R
    have ehp : (ulF R).length / 2 = np := by omega
    have esc : sucC R = np := ehp
    rw [ehp]
    have eL : lzL R = kept (fun p => !lzP R p) (ulF R) np := by unfold lzL; rw [ehp]
    refine ⟨fun h1 h2 => .inl ⟨by simp [h1], ?_, rfl⟩, fun h cap junk hj => ?_⟩
    · rw [eL, show np = 0 by rw [h2] at hnp; simp at hnp; omega]; rfl
    · have ka := kept_app (fun p => !lzP R p) (ulF R) junk np (by omega)
      obtain ⟨k, hk, hkn⟩ := kept_even (fun p => !lzP R p) (ulF R) np (by omega)
      rw [ka, ← eL]
      have hk' : (lzL R).length = k * 2 := by rw [eL]; exact hk
      refine ⟨by rw [List.length_append]; omega, by omega, by omega, fun i hi => qLz_ul hr junk (by omega), .inr ⟨6, cap, List.replicate (np * 2 - (lzL R).length) 0 ++ List.drop (np * 2) (ulF R ++ junk), rfl, ?_, Nat.zero_le _, ?_, ?_⟩⟩
      · simp [hget_cons, List.append_assoc]
      · rw [List.length_append, List.length_replicate, List.length_drop, List.length_append]
        omega
      · intro hd
        have hP : PL R 36 = [] := by simpa using hd
        exact absurd (show ulF R = [] by unfold ulF; rw [hP]; rfl) (h hP)
def LosingPours_F : List SV → Heap → Nat → Nat → K1 → Prop
  | [.arr R], H, n, _, κ => R.length = 24 ∧ freshK (.more [.bool (lzB R)]) (lzF R) ((lzF R).length / 2) 2 49 (decide (lzB R = false ∨ PL R 36 = [])) H n κ
  | _, _, _, _, _ => False
theorem LosingPours_T : ∀ args H n m κ, LosingPours_F args H n m κ → GenOK Try.prog 7 args H n m κ := by
  intro args H n m κ h
  unfold LosingPours_F at h
  split at h
  · exact gen_of_fresh (LosingPours_ok _ h.1) (fun k o hk => by cases hk) h.2
  · exact h.elim
def sLosingPours_F : List SV → Heap → Nat → Nat → K1 → Prop
  | [.arr R], H, n, _, κ => R.length = 24 ∧ freshK (.more [.bool (lzB R)]) (lzF R) ((lzF R).length / 2) 2 49 false H n κ
  | _, _, _, _, _ => False
theorem sLosingPours_T : ∀ args H n m κ, sLosingPours_F args H n m κ → GenOK Try.prog 5 args H n m κ := by
  intro args H n m κ h
  unfold sLosingPours_F at h
  split at h
  · exact gen_of_fresh (sLosingPours_ok _ h.1) (fun k o hk => by cases hk) h.2
  · exact h.elim
theorem lawLosingPours (R : List Int) (hR : R.length = 24) (_ : ∀ x ∈ R, In64 x) : PureH Try.prog 3 [.arr R] [] (.bool true) := by
  have tkR : R.take 24 = R := List.take_of_length_le (by omega)
  obtain ⟨m, hm, hm36⟩ := lzF_even R
  have e2 : (lzF R).length / 2 = m := by omega
  generalize hnl : decide (lzB R = false ∨ PL R 36 = []) = nl
  refine pure_of_vc (X := ⟨Try.prog, tys, [(6, toRack_F), (8, eqS2_F), (10, held2_F)], [(7, LosingPours_F), (5, sLosingPours_F), (9, mark2_F)], true, true, 0, [], []⟩) fn_3 ⟨tys_ok, (.cons toRack_T (.cons eqS2_T (.cons held2_T .nil))), (.cons LosingPours_T (.cons sLosingPours_T (.cons mark2_T .nil))), mixed⟩ (n0 := 0) (Nat.le_of_ble_eq_true rfl) (by simp [wfL, SV.wf]) (wfH_spec (by simp [wfH, SObj.wf, wfL, SV.wf])) (Nat.le_refl _) (fun _ => by simp [SV.wf, wfL]) ?_
  simp -implicitDefEqProofs only [Try.f3, Option.getD_some, argS, toRack_F, eqS2_F, held2_F, LosingPours_F, sLosingPours_F, mark2_F, hR, tkR, hnl, e2, freshK, Wrap.ap, ZB, Int.reduceToNat, Nat.reduceLT, Nat.reduceLeDiff, Int.reduceLE, Int.reduceLT, Nat.reduceEqDiff, Nat.reduceSub, SB, SV.known, packR, ne_eq, reduceCtorEq, Nat.reduceEqDiff, ↓reduceIte, if_true, if_false, eq_self, Nat.reduceAdd, Nat.reduceMul, Nat.reduceSub, forall_const, oneCellS, litOne, flat1, Kd.isSca, flat, TYB]
  exact lawS2 nl hm (by omega)
end Go.Proofs.Ytaopbefklkbmeaa
set_option maxRecDepth 100000
set_option linter.unusedSimpArgs false
set_option linter.unusedVariables false
namespace Go.Proofs.Ytaopbefklkbmeaa
open Go Go.RowKit Go.ChangeShapes Go.WideShapes Go.ChangeAt

theorem own_knob : ownKnob Try.prog.godebug = none := by kernel_rfl
theorem laid_out : laidOutB Try.prog = true := by kernel_rfl

theorem cell_int {w : World} {base : Nat} {u : TypeId} {v : Value} (hu : Try.prog.underlying u = some (.int .i64)) (h : Cell.okWide Try.prog w .any base u v) : ∃ x, v = .int .i64 x ∧ In64 x := by
  unfold Cell.okWide at h
  rw [hu] at h
  cases v <;> simp only [Cell.ok, hu] at h <;> (try exact h.elim)
  rename_i k x
  obtain ⟨rfl, hx⟩ := h
  exact ⟨x, rfl, hx⟩

/-- An argument of all int64 cells. -/
theorem open_arr {w : World} {base t u size : Nat} {v : Value} {d : TypeDesc} (ht : Try.prog.underlying t = some d) (hd : tdAgg d = true) (hts : Try.prog.cellTypes Try.prog.depth t = some (List.replicate size u)) (hc : Try.prog.cellsOf t = size)
    (hu : Try.prog.underlying u = some (.int .i64)) (h : Value.okWide Try.prog w .any base t v) : ∃ L, v = .agg (ints L) ∧ L.length = size ∧ ∀ x ∈ L, In64 x := by
  unfold Value.okWide at h
  rw [ht] at h
  have h' : ∃ cs, v = .agg cs ∧ cs.size = Try.prog.cellsOf t ∧ Row.okWide Try.prog w .any base t cs := by
    cases d <;> simp [tdAgg] at hd <;> exact h
  obtain ⟨cs, rfl, hsz, ts, hts', _, hr⟩ := h'
  rw [hts] at hts'
  cases hts'
  have key : ∀ (l : List Value) (k : Nat), (∀ (i : Nat) (v : Value), l[i]? = some v → ∃ x, v = Value.int .i64 x ∧ In64 x) → ∃ L : List Int, l = L.map (Value.int .i64) ∧ ∀ x ∈ L, In64 x := by
    intro l
    induction l with
    | nil => intro _ _; exact ⟨[], rfl, by simp⟩
    | cons a l ih =>
      intro k hl
      obtain ⟨x, rfl, hx⟩ := hl 0 a rfl
      obtain ⟨L, rfl, hL⟩ := ih k fun i v hv => hl (i + 1) v hv
      exact ⟨x :: L, rfl, by simpa using ⟨hx, hL⟩⟩
  obtain ⟨L, hL, hb⟩ := key cs.toList 0 fun i v hv => by
    obtain ⟨u', hu', hc'⟩ := hr i v (by simpa using hv)
    have : u' = u := by
      rw [List.getElem?_replicate] at hu'
      split at hu'
      · cases hu'; rfl
      · cases hu'
    subst this
    exact cell_int hu hc'
  refine ⟨L, ?_, ?_, hb⟩
  · simp only [ints]; rw [← hL]
  · have := congrArg List.length hL
    simp at this
    omega

theorem trodAll_below {H : Type} {enc : TypeId × Value → H} {W W' : World} (hb : Below W.heap.size W W') : ∀ {ts : List TypeId} {vs : List Value} {ds : List (DataW H)} {ps : List MemPlace}, DataW.TrodAll enc Try.prog W 0 (fun _ => true) true ts vs ds ps →
    (∀ t ∈ ts, Try.prog.readableRec t = true ∧ t < Try.prog.types.size) → (∀ x ∈ ps, x.block < W.heap.size) → DataW.TrodAll enc Try.prog W' 0 (fun b => decide (b < W.heap.size)) true ts vs ds ps
  | [], vs, ds, ps, h, _, _ => by
    obtain ⟨rfl, rfl, rfl⟩ := trodAll_nil h
    exact trodAll_mk0
  | t :: ts, vs, ds, ps, h, hr, hp => by
    obtain ⟨v0, vs0, d0, ds0, p0, q0, rfl, rfl, rfl, h0, r0⟩ := trodAll_cons h
    exact trodAll_cons_mk (Below.trod laid_out (hr t (by simp)).1 (hr t (by simp)).2 h0 hb fun x hx => hp x (by simp [hx])) (trodAll_below hb r0 (fun t' ht' => hr t' (by simp [ht'])) fun x hx => hp x (by simp [hx]))

theorem law_post {H : Type} {enc : TypeId × Value → H} {f : Func} {s : ChangeSpec} {W W' : World} {args : Array Value} {ds gs : List (DataW H)} {before : List MemPlace} (hb : Below W.heap.size W W') (hW : DataW.Whole enc Try.prog f.params.toList s.vars false W args.toList ds gs before)
    (hv : s.vars = []) (hrt : f.resultTypes = #[4]) (hs1 : (s.fn H (ds ++ gs)).results = [.lit (.bool true)]) (hs2 : (s.fn H (ds ++ gs)).args = ds) (hs3 : (s.fn H (ds ++ gs)).vars = []) (hr : ∀ t ∈ f.params.toList, Try.prog.readableRec t = true ∧ t < Try.prog.types.size) :
    s.post enc Try.prog f false true false false W args (.bool true) W' := by
  have hW' := hW
  obtain ⟨p, q, hA, hV, rfl, hfz, hnd⟩ := hW
  rw [hv] at hV
  obtain ⟨rfl, rfl⟩ := trodVars_none hV
  refine ⟨ds, _, _, [], p, [], hW', ?_, ?_, ?_, hb.frame _, fun h => by cases h⟩
  · rw [hs1, hrt]
    exact trodAll_cons_mk (shut_bool Try.underlying4 true) trodAll_mk0
  · rw [hs2]
    exact trodAll_below hb hA hr fun x hx => by simpa using hW'.lt x (by simpa using hx)
  · rw [hv, hs3]
    rfl
end Go.Proofs.Ytaopbefklkbmeaa
