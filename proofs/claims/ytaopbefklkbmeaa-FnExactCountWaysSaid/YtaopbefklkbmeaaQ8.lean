/- Texts of this claim, joined (Lf2, Cw0, Cw1, Cw2, Cw3, Cw4, Cw5, Cw6, Fin). -/
import Derived.Test.YtaopbefklkbmeaaQ1
import Derived.Test.YtaopbefklkbmeaaQ2
import Derived.Test.YtaopbefklkbmeaaQ3
import Derived.Test.YtaopbefklkbmeaaQ4
import Derived.Test.YtaopbefklkbmeaaQ5
import Derived.Test.YtaopbefklkbmeaaQ6
import Derived.Test.YtaopbefklkbmeaaQ7
import Derived.Test.YtaopbefklkbmeaaRows
import Derived.ProofKit
import Derived.OpenShut
set_option maxRecDepth 100000
set_option linter.unusedSimpArgs false
set_option linter.unusedVariables false
namespace Go.Proofs.Ytaopbefklkbmeaa
open Go Go.RowKit
/-- The set in the heap; numbers beside it. -/
def l3Leads_F : List SV → Heap → Option (Prop × SV)
  | [.stc [.slice f 0 len cf, v2, v3], .slice b 0 l2 c2, .int i, .int nm], H => match hget H f, hget H b with
    | some (.ints L _), some (.ints V e) => some ((∃ (s : SN) (A : Nat → Prop) (m : Nat) (K : List (List Int)) (P : List Int), SV.stc [.slice f 0 len cf, v2, v3] = s.val K.length ∧ SetH s A m H K P) ∧ (e = 3 ∧ l2 = len ∧ c2 = len ∧ V.length = len) ∧ 0 ≤ i ∧ i < len, .bool (ldF (chkR L 0 len) V ((chkR L 0 len).getD i.toNat []) nm))
    | _, _ => none
  | _, _ => none
--@tbl l3Leads = spec.l3Leads
theorem l3Leads_T : ∀ args H p v, l3Leads_F args H = some (p, v) → p → PureH Try.prog 43 args H v := by
  intro args H p v h hp
  unfold l3Leads_F at h
  split at h
  · rename_i f len cf v2 v3 b l2 c2 i nm
    split at h
    · rename_i L e V e' hf hb
      cases h
      obtain ⟨⟨s, A, m, K, P, hs, hS⟩, ⟨he, h2, h3, hV⟩, hi0, hi1⟩ := hp
      have e1 : f = s.f ∧ len = K.length := by
        unfold SN.val at hs
        simp only [SV.stc.injEq, List.cons.injEq, SV.slice.injEq] at hs
        exact ⟨hs.1.1, hs.1.2.2.1⟩
      obtain ⟨rfl, rfl⟩ := e1
      subst he; subst h2; subst h3
      obtain ⟨k, rfl⟩ := Int.eq_ofNat_of_zero_le hi0
      have hL := hS.f
      rw [hf] at hL
      cases hL
      rw [chkR_of hS.ok.all24, hs]
      exact l3Leads_ok s A m H K P b V k nm hS hb hV (by omega)
    · cases h
  · cases h
/-! A list that is done up to a place. -/
def mixL (f g : List Int → Int) (K : List (List Int)) (i : Nat) : List Int := (K.take i).map f ++ (K.drop i).map g
theorem mixL_zero (f g : List Int → Int) (K : List (List Int)) : mixL f g K 0 = K.map g := by simp [mixL]
theorem mixL_end (f g : List Int → Int) (K : List (List Int)) : mixL f g K K.length = K.map f := by simp [mixL]
theorem mixL_len (f g : List Int → Int) (K : List (List Int)) (i : Nat) : (mixL f g K i).length = K.length := by
  simp only [mixL, List.length_append, List.length_map, List.length_take, List.length_drop]; omega
theorem mixL_get (f g : List Int → Int) (K : List (List Int)) (i j : Nat) (hj : j < K.length) : (mixL f g K i).getD j 0 = if j < i then f (K.getD j []) else g (K.getD j []) := by
  have e : K.getD j [] = K[j] := by rw [List.getD_eq_getElem?_getD, List.getElem?_eq_getElem hj]; rfl
  rw [e, List.getD_eq_getElem?_getD]
  unfold mixL
  by_cases h : j < i
  · rw [if_pos h, List.getElem?_append_left (by simp; omega)]
    simp [h, hj]
  · rw [if_neg h, List.getElem?_append_right (by simp; omega)]
    simp only [List.length_map, List.length_take, List.getElem?_map, List.getElem?_drop]
    have : i + (j - min i K.length) = j := by omega
    rw [this, List.getElem?_eq_getElem hj]; rfl
theorem mixL_set (f g : List Int → Int) (K : List (List Int)) (i : Nat) (hi : i < K.length) : (mixL f g K i).set i (f (K.getD i [])) = mixL f g K (i + 1) := by
  refine List.ext_getElem (by rw [List.length_set, mixL_len, mixL_len]) fun j h1 h2 => ?_
  rw [mixL_len] at h2
  have e1 := mixL_get f g K i j h2
  have e2 := mixL_get f g K (i + 1) j h2
  rw [List.getD_eq_getElem?_getD, List.getElem?_eq_getElem (by rw [mixL_len]; exact h2)] at e1 e2
  simp only [Option.getD_some] at e1 e2
  rw [List.getElem_set, e1, e2]
  by_cases hj : i = j
  · subst hj
    rw [if_pos rfl, if_pos (by omega)]
  · rw [if_neg hj]
    by_cases h : j < i
    · rw [if_pos h, if_pos (by omega)]
    · rw [if_neg h, if_neg (by omega)]
theorem mixL_set2 (f g : List Int → Int) (K : List (List Int)) (i : Nat) (v : Int) (hi : i < K.length) : ((mixL f g K i).set i v).set i (f (K.getD i [])) = mixL f g K (i + 1) := by
  rw [List.set_set, mixL_set f g K i hi]
theorem mixL_skip (f g : List Int → Int) (K : List (List Int)) (i : Nat) (hi : i < K.length) (h : f (K.getD i []) = g (K.getD i [])) : mixL f g K (i + 1) = mixL f g K i := by
  rw [← mixL_set f g K i hi]
  refine List.ext_getElem (by rw [List.length_set]) fun j h1 h2 => ?_
  rw [List.getElem_set]
  rw [mixL_len] at h2
  by_cases hj : i = j
  · subst hj
    have e1 := mixL_get f g K i i hi
    rw [List.getD_eq_getElem?_getD, List.getElem?_eq_getElem (by rw [mixL_len]; exact hi)] at e1
    simp only [Option.getD_some] at e1
    rw [if_pos rfl, e1, if_neg (by omega), h]
  · rw [if_neg hj]
/-- In the midst of a round the same pours lead on. -/
theorem ld_mix {K : List (List Int)} {k i : Nat} {x : List Int} : ldF K (mixL (lf K (k + 1)) (lf K k) K i) x (k : Int) = ((sucU x).any fun y => decide (y ∈ K) && decide (lf K k y = (k : Int))) := by
  unfold ldF
  congr 1
  funext y
  by_cases hy : y ∈ K
  · obtain ⟨j, h1, h2, h3⟩ := idx_in hy
    rw [h1, Int.toNat_natCast, mixL_get _ _ _ _ _ h2, h3]
    congr 1
    by_cases hj : j < i
    · rw [if_pos hj]
      have : lf K (k + 1) y = (k : Int) ↔ lf K k y = (k : Int) := by
        by_cases h0 : 0 ≤ lf K k y
        · rw [lf_keep h0]
        · constructor
          · intro h
            rcases lf_rng K y (k + 1) with g | ⟨q, g1, g2, g3⟩
            · omega
            · have : q = k := by omega
              subst this; exact g3
          · intro h; omega
      exact decide_eq_decide.2 this
    · rw [if_neg hj]
  · simp [hy]
theorem lf_next {K : List (List Int)} {k : Nat} {x : List Int} (h : ¬ 0 ≤ lf K k x) (i : Nat) : (ldF K (mixL (lf K (k + 1)) (lf K k) K i) x (k : Int) = true ∧ lf K (k + 1) x = ((k + 1 : Nat) : Int)) ∨ (ldF K (mixL (lf K (k + 1)) (lf K k) K i) x (k : Int) = false ∧ lf K (k + 1) x = lf K k x) := by
  rw [ld_mix]
  cases ha : (sucU x).any fun y => decide (y ∈ K) && decide (lf K k y = (k : Int))
  · refine .inr ⟨rfl, ?_⟩
    rw [lf_s, if_neg h, if_neg (by rw [ha]; simp)]
    rcases lf_rng K x k with g | ⟨q, g1, g2, g3⟩ <;> omega
  · exact .inl ⟨rfl, by rw [lf_s, if_neg h, if_pos ha]⟩
theorem l3Left_vc (s : SN) (A : Nat → Prop) (m0 m n N : Nat) (H : Heap) (K : List (List Int)) (P : List Int) (h : SetH s A m0 H K P) (hwH : hwf n H) (hmn : m ≤ n) (hN : N ≤ 100000) :
    codeVC (⟨Try.prog, tys, [(42, l2Sorted_F), (43, l3Leads_F)], [], true, true, m, [], []⟩ : Cx) n (Try.f16.body.getD .skip) (argS 0 [s.val K.length, .int N]) H n
      (retK tys Try.f16.results.toList fun v H' n' => v = .slice (n + 1) 0 K.length K.length ∧ H' = (n + 1, .ints (K.map (lf K N)) 3) :: (n, .cells (s.cel K.length) 42) :: H ∧ n' = n + 2) := by
  obtain ⟨w1, w2, w3⟩ := h.wf hwH
  have hf := h.f
  have ok24 := h.ok.all24
  have hsm := h.sm
  have ek : chkR (K.flatten ++ s.J1) 0 K.length = K := chkR_of ok24 s.J1
  rw [SN.val_cel]
  unfold SN.cel
  have xf := ne_add w1; have xf' := ne_add' w1
  simp -implicitDefEqProofs only [Try.f16, Option.getD_some, argS, hf, xf, xf', Nat.add_assoc, add_self, self_add, add_add, ZB, Int.reduceToNat, Nat.reduceLT, Nat.reduceLeDiff, Int.reduceLE, Int.reduceLT, Nat.reduceEqDiff, Nat.reduceSub, SB, SV.known, packR, ne_eq, reduceCtorEq, Nat.reduceEqDiff, ↓reduceIte, if_true, if_false, eq_self, Nat.reduceAdd, Nat.reduceMul, Nat.reduceSub, forall_const, oneCellS, litOne, flat1, Kd.isSca, flat, TYB]
  refine ⟨by omega, by omega, by omega, ?_⟩
  refine loop_intro (fun i : Nat => [(6, .int i), (5, .slice (n + 1) 0 K.length K.length), (2, .ptr n 0), (1, .int N)]) (fun i => (n + 1, .ints (mixL (lf K 0) (fun _ => 0) K i) 3) :: (n, .cells [.slice s.f 0 K.length s.cf, .slice s.q 0 K.length s.cq, .slice s.u 0 1009 1009] 42) :: H) (n + 2) (fun i => i ≤ K.length) (fun i => K.length - i) ?_ ?_
  · refine ⟨0, Nat.zero_le _, ?_⟩
    rw [mixL_zero, List.map_const']
    exact Sub.same (by simp only [LB, subS, subH, wfS, wfH, SV.ren, renL, SObj.ren, SV.wf, SObj.wf, wfL, SV.known, Nat.reduceEqDiff, ↓reduceIte, if_true, if_false, eq_self, Nat.reduceAdd, Nat.reduceLT, Nat.reduceLeDiff, implies_true, reduceCtorEq, forall_const]) (by simp [subS, subH, wfS, wfH, SV.ren, renL, SObj.ren, SV.wf, SObj.wf, wfL, sget_cons, hget_cons] <;> omega) (hwf_cons (hwf_cons (hwf_mono (by omega) hwH) (by omega) (by simp [SObj.wf, wfL, SV.wf]; omega)) (by omega) trivial) (by omega)
  · intro i hi
    by_cases hlt : i < K.length
    · have hil : (i : Int) < K.length := by omega
      have i0 : 0 ≤ (i : Int) := by omega
      obtain ⟨lQ, eQ, x24, xr⟩ := h.Kbd hlt
      have lV := mixL_len (lf K 0) (fun _ => 0) K i
      have es := mixL_set (lf K 0) (fun _ => 0) K i hlt
      have es2 := mixL_set2 (lf K 0) (fun _ => 0) K i (-1) hlt
      have e0 : lf K 0 (K.getD i []) = if sortB (K.getD i []) = true then 0 else -1 := rfl
      generalize hx : K.getD i [] = x at *
      have tkx : List.take 24 x = x := List.take_of_length_le (by omega)
      generalize mixL (lf K 0) (fun _ => 0) K i = V at *
      cases hs : sortB x
      · rw [hs] at e0
        rw [e0] at es
        simp only [Bool.false_eq_true, if_false] at es
        simp -implicitDefEqProofs only [lk_normal, l2Sorted_F, hil, i0, lQ, eQ, x24, xr, tkx, lV, hs, es, hf, xf, xf', Nat.add_assoc, add_self, self_add, add_add, ZB, Int.reduceToNat, Nat.reduceLT, Nat.reduceLeDiff, Int.reduceLE, Int.reduceLT, Nat.reduceEqDiff, Nat.reduceSub, SB, SV.known, packR, ne_eq, reduceCtorEq, Nat.reduceEqDiff, ↓reduceIte, if_true, if_false, eq_self, Nat.reduceAdd, Nat.reduceMul, Nat.reduceSub, forall_const, oneCellS, litOne, flat1, Kd.isSca, flat, TYB]
        refine ⟨by omega, by omega, by unfold In64; omega, i + 1, by omega, by omega, Sub.mk_ext (l := [(n + 1, .ints _ _), (n, .cells _ _)]) ?_ ?_ ?_ ?_ (by omega) (by repeat' first | exact Ext.refl _ | refine Ext.cons hwH (by omega) ?_) (hwf_mono (by omega) hwH)⟩
        all_goals ((try simp only [LB, subS, subH, wfS, wfH, SV.ren, renL, SObj.ren, SV.wf, SObj.wf, wfL, SV.known, Nat.reduceEqDiff, ↓reduceIte, if_true, if_false, eq_self, Nat.reduceAdd, Nat.reduceLT, Nat.reduceLeDiff, implies_true, reduceCtorEq, forall_const]) <;> (try simp [subS, subH, wfS, wfH, SV.ren, renL, SObj.ren, SV.wf, SObj.wf, wfL, sget_cons, hget_cons]) <;> (try omega))
      · rw [hs] at e0
        rw [e0] at es2
        simp only [if_true] at es2
        simp -implicitDefEqProofs only [lk_normal, l2Sorted_F, hil, i0, lQ, eQ, x24, xr, tkx, lV, hs, es2, hf, xf, xf', Nat.add_assoc, add_self, self_add, add_add, ZB, Int.reduceToNat, Nat.reduceLT, Nat.reduceLeDiff, Int.reduceLE, Int.reduceLT, Nat.reduceEqDiff, Nat.reduceSub, SB, SV.known, packR, ne_eq, reduceCtorEq, Nat.reduceEqDiff, ↓reduceIte, if_true, if_false, eq_self, Nat.reduceAdd, Nat.reduceMul, Nat.reduceSub, forall_const, oneCellS, litOne, flat1, Kd.isSca, flat, TYB]
        refine ⟨by omega, by omega, by omega, by omega, by unfold In64; omega, i + 1, by omega, by omega, Sub.mk_ext (l := [(n + 1, .ints _ _), (n, .cells _ _)]) ?_ ?_ ?_ ?_ (by omega) (by repeat' first | exact Ext.refl _ | refine Ext.cons hwH (by omega) ?_) (hwf_mono (by omega) hwH)⟩
        all_goals ((try simp only [LB, subS, subH, wfS, wfH, SV.ren, renL, SObj.ren, SV.wf, SObj.wf, wfL, SV.known, Nat.reduceEqDiff, ↓reduceIte, if_true, if_false, eq_self, Nat.reduceAdd, Nat.reduceLT, Nat.reduceLeDiff, implies_true, reduceCtorEq, forall_const]) <;> (try simp [subS, subH, wfS, wfH, SV.ren, renL, SObj.ren, SV.wf, SObj.wf, wfL, sget_cons, hget_cons]) <;> (try omega))
    · have hil : ¬ (i : Int) < K.length := by omega
      obtain rfl : i = K.length := by omega
      rw [mixL_end]
      simp -implicitDefEqProofs only [lk_normal, hil, ZB, Int.reduceToNat, Nat.reduceLT, Nat.reduceLeDiff, Int.reduceLE, Int.reduceLT, Nat.reduceEqDiff, Nat.reduceSub, SB, SV.known, packR, ne_eq, reduceCtorEq, Nat.reduceEqDiff, ↓reduceIte, if_true, if_false, eq_self, Nat.reduceAdd, Nat.reduceMul, Nat.reduceSub, forall_const, oneCellS, litOne, flat1, Kd.isSca, flat, TYB]
      refine loop_intro (fun z : Nat × Bool => [(8, .bool z.2), (7, .int ((z.1 + 1 : Nat) : Int)), (5, .slice (n + 1) 0 K.length K.length), (2, .ptr n 0), (1, .int N)]) (fun z => (n + 1, .ints (K.map (lf K z.1)) 3) :: (n, .cells [.slice s.f 0 K.length s.cf, .slice s.q 0 K.length s.cq, .slice s.u 0 1009 1009] 42) :: H) (n + 2)
        (fun z => z.1 ≤ N ∧ (z.2 = false → ∀ m, ∀ x ∈ K, lf K (z.1 + m) x = lf K z.1 x)) (fun z => N - z.1) ?_ ?_
      · refine ⟨(0, true), ⟨Nat.zero_le _, fun h => by cases h⟩, Sub.same (by simp only [LB, subS, subH, wfS, wfH, SV.ren, renL, SObj.ren, SV.wf, SObj.wf, wfL, SV.known, Nat.reduceEqDiff, ↓reduceIte, if_true, if_false, eq_self, Nat.reduceAdd, Nat.reduceLT, Nat.reduceLeDiff, implies_true, reduceCtorEq, forall_const]) (by simp [subS, subH, wfS, wfH, SV.ren, renL, SObj.ren, SV.wf, SObj.wf, wfL, sget_cons, hget_cons] <;> omega) (hwf_cons (hwf_cons (hwf_mono (by omega) hwH) (by omega) (by simp [SObj.wf, wfL, SV.wf]; omega)) (by omega) trivial) (by omega)⟩
      · rintro ⟨k, g⟩ ⟨hk, hg⟩
        simp only at hk hg
        by_cases hgo : k + 1 ≤ N
        · have hgo' : ((k + 1 : Nat) : Int) ≤ N := by omega
          cases g with
          | false =>
            have e : K.map (lf K k) = K.map (lf K N) := List.map_congr_left fun x hx => by
              have := hg rfl (N - k) x hx
              rw [show k + (N - k) = N by omega] at this
              exact this.symm
            rw [e]
            simp -implicitDefEqProofs only [lk_normal, hgo', ZB, Int.reduceToNat, Nat.reduceLT, Nat.reduceLeDiff, Int.reduceLE, Int.reduceLT, Nat.reduceEqDiff, Nat.reduceSub, SB, SV.known, packR, ne_eq, reduceCtorEq, Nat.reduceEqDiff, ↓reduceIte, if_true, if_false, eq_self, Nat.reduceAdd, Nat.reduceMul, Nat.reduceSub, forall_const, oneCellS, litOne, flat1, Kd.isSca, flat, TYB]
          | true =>
            simp -implicitDefEqProofs only [lk_normal, hgo', ZB, Int.reduceToNat, Nat.reduceLT, Nat.reduceLeDiff, Int.reduceLE, Int.reduceLT, Nat.reduceEqDiff, Nat.reduceSub, SB, SV.known, packR, ne_eq, reduceCtorEq, Nat.reduceEqDiff, ↓reduceIte, if_true, if_false, eq_self, Nat.reduceAdd, Nat.reduceMul, Nat.reduceSub, forall_const, oneCellS, litOne, flat1, Kd.isSca, flat, TYB]
            refine loop_intro (fun z : Nat × Bool => [(9, .int z.1), (8, .bool z.2), (7, .int ((k + 1 : Nat) : Int)), (5, .slice (n + 1) 0 K.length K.length), (2, .ptr n 0), (1, .int N)]) (fun z => (n + 1, .ints (mixL (lf K (k + 1)) (lf K k) K z.1) 3) :: (n, .cells [.slice s.f 0 K.length s.cf, .slice s.q 0 K.length s.cq, .slice s.u 0 1009 1009] 42) :: H) (n + 2)
              (fun z => z.1 ≤ K.length ∧ (z.2 = false → ∀ j, j < z.1 → lf K (k + 1) (K.getD j []) = lf K k (K.getD j []))) (fun z => K.length - z.1) ?_ ?_
            · refine ⟨(0, false), ⟨Nat.zero_le _, fun _ j hj => by omega⟩, ?_⟩
              simp only [mixL_zero]
              exact Sub.same (by simp only [LB, subS, subH, wfS, wfH, SV.ren, renL, SObj.ren, SV.wf, SObj.wf, wfL, SV.known, Nat.reduceEqDiff, ↓reduceIte, if_true, if_false, eq_self, Nat.reduceAdd, Nat.reduceLT, Nat.reduceLeDiff, implies_true, reduceCtorEq, forall_const]) (by simp [subS, subH, wfS, wfH, SV.ren, renL, SObj.ren, SV.wf, SObj.wf, wfL, sget_cons, hget_cons] <;> omega) (hwf_cons (hwf_cons (hwf_mono (by omega) hwH) (by omega) (by simp [SObj.wf, wfL, SV.wf]; omega)) (by omega) trivial) (by omega)
            · rintro ⟨i, gr⟩ ⟨hi, hgr⟩
              simp only at hi hgr
              by_cases hlt : i < K.length
              · have hil : (i : Int) < K.length := by omega
                have i0 : 0 ≤ (i : Int) := by omega
                have lV := mixL_len (lf K (k + 1)) (lf K k) K i
                have gV := mixL_get (lf K (k + 1)) (lf K k) K i i hlt
                rw [if_neg (by omega)] at gV
                have es := mixL_set (lf K (k + 1)) (lf K k) K i hlt
                have eq := mixL_skip (lf K (k + 1)) (lf K k) K i hlt
                have nx := fun h => lf_next (K := K) (k := k) (x := K.getD i []) h i
                have kp := lf_keep (K := K) (k := k) (x := K.getD i [])
                have k1 : ((k + 1 : Nat) : Int) - 1 = k := by omega
                have iD : In64 (k : Int) := by unfold In64; omega
                have hgn : lf K (k + 1) (K.getD i []) = lf K k (K.getD i []) → gr = false → ∀ j, j < i + 1 → lf K (k + 1) (K.getD j []) = lf K k (K.getD j []) := fun h1 h2 j hj => by
                  by_cases hji : j = i
                  · rw [hji]; exact h1
                  · exact hgr h2 j (by omega)
                generalize hx : K.getD i [] = x at *
                by_cases h0 : 0 ≤ lf K k x
                · have hlt0 : ¬ lf K k x < 0 := by omega
                  have hld : True := trivial
                  have eq := eq (kp h0)
                  simp -implicitDefEqProofs only [lk_normal, l3Leads_F, hil, i0, lV, gV, hlt0, hf, ek, hx, hld, iD, k1, xf, xf', Nat.add_assoc, add_self, self_add, add_add, ZB, Int.reduceToNat, Nat.reduceLT, Nat.reduceLeDiff, Int.reduceLE, Int.reduceLT, Nat.reduceEqDiff, Nat.reduceSub, SB, SV.known, packR, ne_eq, reduceCtorEq, Nat.reduceEqDiff, ↓reduceIte, if_true, if_false, eq_self, Nat.reduceAdd, Nat.reduceMul, Nat.reduceSub, forall_const, oneCellS, litOne, flat1, Kd.isSca, flat, TYB]
                  refine ⟨by omega, by unfold In64; omega, (i + 1, gr), ⟨by show i + 1 ≤ K.length; omega, hgn (kp h0)⟩, by show K.length - (i + 1) < K.length - i; omega, ?_⟩
                  simp only [eq]
                  refine Sub.mk_ext (l := [(n + 1, .ints _ _), (n, .cells _ _)]) ?_ ?_ ?_ ?_ (by omega) (by repeat' first | exact Ext.refl _ | refine Ext.cons hwH (by omega) ?_) (hwf_mono (by omega) hwH)
                  all_goals ((try simp only [LB, subS, subH, wfS, wfH, SV.ren, renL, SObj.ren, SV.wf, SObj.wf, wfL, SV.known, Nat.reduceEqDiff, ↓reduceIte, if_true, if_false, eq_self, Nat.reduceAdd, Nat.reduceLT, Nat.reduceLeDiff, implies_true, reduceCtorEq, forall_const]) <;> (try simp [subS, subH, wfS, wfH, SV.ren, renL, SObj.ren, SV.wf, SObj.wf, wfL, sget_cons, hget_cons]) <;> (try omega))
                · have hlt0 : lf K k x < 0 := by omega
                  rcases nx h0 with ⟨hld, hv⟩ | ⟨hld, hv⟩
                  · rw [hv] at es
                    simp -implicitDefEqProofs only [lk_normal, l3Leads_F, hil, i0, lV, gV, hlt0, hf, ek, hx, hld, iD, k1, xf, xf', Nat.add_assoc, add_self, self_add, add_add, ZB, Int.reduceToNat, Nat.reduceLT, Nat.reduceLeDiff, Int.reduceLE, Int.reduceLT, Nat.reduceEqDiff, Nat.reduceSub, SB, SV.known, packR, ne_eq, reduceCtorEq, Nat.reduceEqDiff, ↓reduceIte, if_true, if_false, eq_self, Nat.reduceAdd, Nat.reduceMul, Nat.reduceSub, forall_const, oneCellS, litOne, flat1, Kd.isSca, flat, TYB]
                    refine ⟨by omega, ⟨s, A, m0, K, P, rfl, h.mono (Ext.cons hwH (by omega) (Ext.cons hwH (by omega) (Ext.refl _)))⟩, by omega, by omega, by unfold In64; omega, (i + 1, true), ⟨by show i + 1 ≤ K.length; omega, fun h => by cases h⟩, by show K.length - (i + 1) < K.length - i; omega, ?_⟩
                    simp only [es]
                    refine Sub.mk_ext (l := [(n + 1, .ints _ _), (n, .cells _ _)]) ?_ ?_ ?_ ?_ (by omega) (by repeat' first | exact Ext.refl _ | refine Ext.cons hwH (by omega) ?_) (hwf_mono (by omega) hwH)
                    all_goals ((try simp only [LB, subS, subH, wfS, wfH, SV.ren, renL, SObj.ren, SV.wf, SObj.wf, wfL, SV.known, Nat.reduceEqDiff, ↓reduceIte, if_true, if_false, eq_self, Nat.reduceAdd, Nat.reduceLT, Nat.reduceLeDiff, implies_true, reduceCtorEq, forall_const]) <;> (try simp [subS, subH, wfS, wfH, SV.ren, renL, SObj.ren, SV.wf, SObj.wf, wfL, sget_cons, hget_cons]) <;> (try omega))
                  · have eq := eq hv
                    simp -implicitDefEqProofs only [lk_normal, l3Leads_F, hil, i0, lV, gV, hlt0, hf, ek, hx, hld, iD, k1, xf, xf', Nat.add_assoc, add_self, self_add, add_add, ZB, Int.reduceToNat, Nat.reduceLT, Nat.reduceLeDiff, Int.reduceLE, Int.reduceLT, Nat.reduceEqDiff, Nat.reduceSub, SB, SV.known, packR, ne_eq, reduceCtorEq, Nat.reduceEqDiff, ↓reduceIte, if_true, if_false, eq_self, Nat.reduceAdd, Nat.reduceMul, Nat.reduceSub, forall_const, oneCellS, litOne, flat1, Kd.isSca, flat, TYB]
                    refine ⟨by omega, ⟨s, A, m0, K, P, rfl, h.mono (Ext.cons hwH (by omega) (Ext.cons hwH (by omega) (Ext.refl _)))⟩, by unfold In64; omega, (i + 1, gr), ⟨by show i + 1 ≤ K.length; omega, hgn hv⟩, by show K.length - (i + 1) < K.length - i; omega, ?_⟩
                    simp only [eq]
                    refine Sub.mk_ext (l := [(n + 1, .ints _ _), (n, .cells _ _)]) ?_ ?_ ?_ ?_ (by omega) (by repeat' first | exact Ext.refl _ | refine Ext.cons hwH (by omega) ?_) (hwf_mono (by omega) hwH)
                    all_goals ((try simp only [LB, subS, subH, wfS, wfH, SV.ren, renL, SObj.ren, SV.wf, SObj.wf, wfL, SV.known, Nat.reduceEqDiff, ↓reduceIte, if_true, if_false, eq_self, Nat.reduceAdd, Nat.reduceLT, Nat.reduceLeDiff, implies_true, reduceCtorEq, forall_const]) <;> (try simp [subS, subH, wfS, wfH, SV.ren, renL, SObj.ren, SV.wf, SObj.wf, wfL, sget_cons, hget_cons]) <;> (try omega))
              · have hil : ¬ (i : Int) < K.length := by omega
                obtain rfl : i = K.length := by omega
                rw [mixL_end]
                simp -implicitDefEqProofs only [lk_normal, hil, ZB, Int.reduceToNat, Nat.reduceLT, Nat.reduceLeDiff, Int.reduceLE, Int.reduceLT, Nat.reduceEqDiff, Nat.reduceSub, SB, SV.known, packR, ne_eq, reduceCtorEq, Nat.reduceEqDiff, ↓reduceIte, if_true, if_false, eq_self, Nat.reduceAdd, Nat.reduceMul, Nat.reduceSub, forall_const, oneCellS, litOne, flat1, Kd.isSca, flat, TYB]
                refine ⟨by unfold In64; omega, (k + 1, gr), ⟨hgo, fun hf m x hx => ?_⟩, by show N - (k + 1) < N - k; omega, Sub.mk_ext (l := [(n + 1, .ints _ _), (n, .cells _ _)]) ?_ ?_ ?_ ?_ (by omega) (by repeat' first | exact Ext.refl _ | refine Ext.cons hwH (by omega) ?_) (hwf_mono (by omega) hwH)⟩
                · have hall : ∀ y ∈ K, lf K (k + 1) y = lf K k y := fun y hy => by
                    obtain ⟨j, hj, rfl⟩ := List.getElem_of_mem hy
                    have := hgr hf j hj
                    rwa [List.getD_eq_getElem?_getD, List.getElem?_eq_getElem hj] at this
                  have h1 := lf_stab hall (1 + m) x hx
                  show lf K (k + 1 + m) x = lf K (k + 1) x
                  rw [Nat.add_assoc, h1, hall x hx]
                all_goals ((try simp only [LB, subS, subH, wfS, wfH, SV.ren, renL, SObj.ren, SV.wf, SObj.wf, wfL, SV.known, Nat.reduceEqDiff, ↓reduceIte, if_true, if_false, eq_self, Nat.reduceAdd, Nat.reduceLT, Nat.reduceLeDiff, implies_true, reduceCtorEq, forall_const]) <;> (try simp [subS, subH, wfS, wfH, SV.ren, renL, SObj.ren, SV.wf, SObj.wf, wfL, sget_cons, hget_cons]) <;> (try omega))
        · have hgo' : ¬ ((k + 1 : Nat) : Int) ≤ N := by omega
          obtain rfl : k = N := by omega
          simp -implicitDefEqProofs only [lk_normal, hgo', ZB, Int.reduceToNat, Nat.reduceLT, Nat.reduceLeDiff, Int.reduceLE, Int.reduceLT, Nat.reduceEqDiff, Nat.reduceSub, SB, SV.known, packR, ne_eq, reduceCtorEq, Nat.reduceEqDiff, ↓reduceIte, if_true, if_false, eq_self, Nat.reduceAdd, Nat.reduceMul, Nat.reduceSub, forall_const, oneCellS, litOne, flat1, Kd.isSca, flat, TYB]
/-- How many pours are left from every form. -/
def l3Left_F : List SV → Heap → Nat → Nat → K1 → Prop
  | [.stc [.slice f 0 len cf, v2, v3], .int N], H, n, m, κ => match hget H f with
    | some (.ints L _) => (∃ (s : SN) (A : Nat → Prop) (m0 : Nat) (K : List (List Int)) (P : List Int), SV.stc [.slice f 0 len cf, v2, v3] = s.val K.length ∧ SetH s A m0 H K P) ∧ (0 ≤ N ∧ N ≤ 100000) ∧ m ≤ n ∧
        κ (.slice (n + 1) 0 len len) ((n + 1, .ints ((chkR L 0 len).map (lf (chkR L 0 len) N.toNat)) 3) :: (n, .cells [.slice f 0 len cf, v2, v3] 42) :: H) (n + 2)
    | _ => False
  | _, _, _, _, _ => False
--@tbl l3Left = spec.l3Left
theorem l3Left_T : ∀ args H n m κ, l3Left_F args H n m κ → GenOK Try.prog 16 args H n m κ := by
  intro args H n m κ h
  unfold l3Left_F at h
  split at h
  · rename_i f len cf v2 v3 N
    split at h
    · rename_i L e hf
      obtain ⟨⟨s, A, m0, K, P, hs, hS⟩, ⟨hN0, hN⟩, hmn, hκ⟩ := h
      have e1 : f = s.f ∧ len = K.length := by
        unfold SN.val at hs
        simp only [SV.stc.injEq, List.cons.injEq, SV.slice.injEq] at hs
        exact ⟨hs.1.1, hs.1.2.2.1⟩
      obtain ⟨rfl, rfl⟩ := e1
      obtain ⟨N, rfl⟩ := Int.eq_ofNat_of_zero_le hN0
      have hL := hS.f
      rw [hf] at hL
      cases hL
      rw [chkR_of hS.ok.all24] at hκ
      have ec : [SV.slice s.f 0 K.length cf, v2, v3] = s.cel K.length := by
        rw [SN.val_cel] at hs
        exact SV.stc.inj hs
      rw [hs]
      rw [ec] at hκ
      exact gen_direct (X := ⟨Try.prog, tys, [(42, l2Sorted_F), (43, l3Leads_F)], [], true, true, m, [], []⟩) fn_16 ⟨tys_ok, .cons l2Sorted_T (.cons l3Leads_T .nil), .nil, mixed⟩ rfl (Nat.le_of_ble_eq_true rfl) (fun hwH hwa => l3Left_vc s A m0 m n N H K P hS hwH hmn (by omega)) fun hwH v H' n' hψ h3 h4 h5 => by
        obtain ⟨rfl, rfl, rfl⟩ := hψ
        exact hκ
    · exact h.elim
  · exact h.elim
end Go.Proofs.Ytaopbefklkbmeaa
set_option maxRecDepth 100000
set_option linter.unusedSimpArgs false
set_option linter.unusedVariables false
namespace Go.Proofs.Ytaopbefklkbmeaa
open Go Go.RowKit
def addW (a b : Int) : Int := IntKind.i64.wrap (a + b)
theorem addW_in (a b : Int) : In64 (addW a b) := by
  have key : ∀ m : Int, 0 ≤ m → m < 18446744073709551616 → In64 (if (true && decide (m ≥ 9223372036854775808)) = true then m - 18446744073709551616 else m) := fun m h1 h2 => by
    unfold In64
    by_cases h : m ≥ 9223372036854775808
    · rw [decide_eq_true h]; simp only [Bool.and_self, if_true]; omega
    · rw [decide_eq_false h]; simp only [Bool.and_false, Bool.false_eq_true, if_false]; omega
  exact key ((a + b) % 18446744073709551616) (Int.emod_nonneg _ (by decide)) (Int.emod_lt_of_pos _ (by decide))
theorem addW_zero {a : Int} (h : In64 a) : addW a 0 = a := by
  unfold addW
  rw [Int.add_zero]
  exact wrap_in h
/-- What the program counts. -/
def cw (R : List Int) (D : Nat) : Nat → List Int → Int
  | 0, x => if x ∈ lay R D ∧ sortB x = true then 1 else 0
  | j + 1, x => if x ∈ lay R (D - (j + 1)) then (sucU x).foldl (fun a y => addW a (cw R D j y)) 0 else 0
/-- What the model counts. -/
def gw (K : List (List Int)) (N : Nat) : Nat → List Int → Int
  | 0, _ => 1
  | k + 1, x => (sucU x).foldl (fun a y => if y ∈ K ∧ lf K N y = (k : Int) then addW a (gw K N k y) else a) 0
theorem fold_eq {α : Type} {f g : Int → α → Int} : ∀ (l : List α) (a : Int), In64 a → (∀ b y, In64 b → y ∈ l → f b y = g b y) → (∀ b y, In64 b → In64 (f b y)) → l.foldl f a = l.foldl g a
  | [], _, _, _, _ => rfl
  | y :: l, a, h, he, hi => by
    have e := he a y h (List.mem_cons_self ..)
    have h2 := hi a y h
    rw [List.foldl_cons, List.foldl_cons, ← e]
    exact fold_eq l _ h2 (fun b z hb hz => he b z hb (List.mem_cons_of_mem _ hz)) hi
theorem in0 : In64 0 := by unfold In64; omega
theorem lay_in_kn {R : List Int} {l d : Nat} (h : l ≤ d) {x : List Int} (hx : x ∈ lay R l) : x ∈ kn R d := by
  induction d with
  | zero => obtain rfl : l = 0 := by omega
            exact hx
  | succ d ih =>
    rw [kn_succ]
    by_cases hl : l = d + 1
    · subst hl; exact List.mem_append.2 (.inr hx)
    · exact List.mem_append.2 (.inl (ih (by omega)))
theorem kn_lay {R : List Int} {x : List Int} : ∀ d, x ∈ kn R d → ∃ l, l ≤ d ∧ x ∈ lay R l
  | 0, h => ⟨0, Nat.le_refl _, h⟩
  | d + 1, h => by
    rw [kn_succ] at h
    rcases List.mem_append.1 h with h | h
    · obtain ⟨l, h1, h2⟩ := kn_lay d h
      exact ⟨l, by omega, h2⟩
    · exact ⟨d + 1, Nat.le_refl _, h⟩
theorem kn_next {R x y : List Int} (hy : y ∈ sucU x) : ∀ d, x ∈ kn R d → y ∈ kn R (d + 1)
  | 0, h => by
    have h0 : x ∈ lay R 0 := h
    rw [kn_succ, lay_succ]
    exact nwF_all (kn R 0) _ y (List.mem_flatMap.2 ⟨x, h0, hy⟩)
  | d + 1, h => by
    have h' := h
    rw [kn_succ] at h'
    rcases List.mem_append.1 h' with h' | h'
    · rw [kn_succ]
      exact List.mem_append.2 (.inl (kn_next hy d h'))
    · rw [kn_succ, lay_succ]
      exact nwF_all (kn R (d + 1)) _ y (List.mem_flatMap.2 ⟨x, h', hy⟩)
/-- A number below a bound was found on the way. -/
theorem lf_at {K : List (List Int)} {N j : Nat} {x : List Int} (h : lf K N x = (j : Int)) : j ≤ N ∧ lf K j x = (j : Int) := by
  rcases lf_rng K x N with h1 | ⟨i, h1, h2, h3⟩
  · omega
  · obtain rfl : i = j := by omega
    exact ⟨h1, h3⟩
theorem lf_down {K : List (List Int)} {N j : Nat} {x : List Int} (h : lf K N x = ((j + 1 : Nat) : Int)) : ∃ y ∈ sucU x, y ∈ K ∧ lf K N y = (j : Int) := by
  obtain ⟨h1, h2⟩ := lf_at h
  rw [lf_s] at h2
  split at h2
  · rename_i h0
    rcases lf_rng K x j with h3 | ⟨i, h3, h4, _⟩ <;> omega
  · split at h2
    · rename_i ha
      obtain ⟨y, hy, hh⟩ := List.any_eq_true.1 ha
      simp only [Bool.and_eq_true, decide_eq_true_eq] at hh
      refine ⟨y, hy, hh.1, ?_⟩
      have := lf_up (K := K) (k := j) (x := y) (by omega) (N - j)
      rw [show j + (N - j) = N by omega] at this
      rw [this]; exact hh.2
    · omega
theorem lf_sorted {R : List Int} {K : List (List Int)} {N : Nat} : ∀ (j l : Nat) (x : List Int), x ∈ kn R l → lf K N x = (j : Int) → ∃ z ∈ kn R (l + j), sortB z = true
  | 0, l, x, hx, h => by
    obtain ⟨_, h2⟩ := lf_at (j := 0) h
    refine ⟨x, hx, ?_⟩
    by_cases hs : sortB x = true
    · exact hs
    · rw [show lf K 0 x = -1 from if_neg hs] at h2; omega
  | j + 1, l, x, hx, h => by
    obtain ⟨y, hy, _, h3⟩ := lf_down h
    obtain ⟨z, hz, hs⟩ := lf_sorted j (l + 1) y (kn_next hy l hx) h3
    exact ⟨z, by rw [show l + (j + 1) = l + 1 + j by omega]; exact hz, hs⟩
/-- No sorted form before the depth. -/
def firstS (R : List Int) (D : Nat) : Prop := ∀ k, k < D → ∀ z ∈ kn R k, sortB z = false
theorem firstS_dep {R : List Int} : firstS R (dep sortB R) := fun k hk => kn_any k fun i hi => by
  have := dep_low (pr := sortB) (R := R) (k := i) (by omega)
  unfold stp at this
  simp only [Bool.or_eq_false_iff] at this
  exact this.2.1
theorem lf_low {R : List Int} {D N j l : Nat} {K : List (List Int)} (hf : firstS R D) {x : List Int} (hx : x ∈ kn R l) (h : lf K N x = (j : Int)) : D ≤ l + j := by
  obtain ⟨z, hz, hs⟩ := lf_sorted j l x hx h
  by_cases hlt : l + j < D
  · rw [hf _ hlt z hz] at hs; cases hs
  · omega
theorem cw_out {R : List Int} {D j : Nat} {x : List Int} (h : x ∉ lay R (D - j)) : cw R D j x = 0 := by
  cases j with
  | zero => exact if_neg fun h' => h h'.1
  | succ j => exact if_neg h
/-- The two counts are the same. -/
theorem cw_gw {R : List Int} {D : Nat} (hf : firstS R D) : ∀ j, j ≤ D → ∀ x ∈ lay R (D - j), cw R D j x = if lf (kn R D) D x = (j : Int) then gw (kn R D) D j x else 0
  | 0, _, x, hx => by
    have e : cw R D 0 x = if x ∈ lay R D ∧ sortB x = true then 1 else 0 := rfl
    rw [e]
    have e2 : lf (kn R D) D x = ((0 : Nat) : Int) ↔ sortB x = true := by
      constructor
      · intro h
        obtain ⟨_, h2⟩ := lf_at h
        by_cases hs : sortB x = true
        · exact hs
        · rw [show lf (kn R D) 0 x = -1 from if_neg hs] at h2; omega
      · intro hs
        have h0 : lf (kn R D) 0 x = 0 := if_pos hs
        have := lf_up (K := kn R D) (k := 0) (x := x) (by omega) D
        rw [Nat.zero_add] at this
        rw [this, h0]; rfl
    by_cases hs : sortB x = true
    · rw [if_pos ⟨hx, hs⟩, if_pos (e2.2 hs)]; rfl
    · rw [if_neg fun h => hs h.2, if_neg fun h => hs (e2.1 h)]
  | j + 1, hj, x, hx => by
    have e : cw R D (j + 1) x = (sucU x).foldl (fun a y => addW a (cw R D j y)) 0 := if_pos hx
    have hxk : x ∈ kn R (D - (j + 1)) := lay_in_kn (Nat.le_refl _) hx
    have hnx : ∀ y ∈ sucU x, y ∈ kn R (D - j) := fun y hy => by
      have := kn_next hy _ hxk
      rwa [show D - (j + 1) + 1 = D - j by omega] at this
    have hin : ∀ y ∈ sucU x, y ∈ kn R D := fun y hy => by
      obtain ⟨l, h1, h2⟩ := kn_lay _ (hnx y hy)
      exact lay_in_kn (by omega) h2
    have hlv : ∀ y ∈ sucU x, lf (kn R D) D y = (j : Int) → y ∈ lay R (D - j) := fun y hy h => by
      obtain ⟨l, h1, h2⟩ := kn_lay _ (hnx y hy)
      have := lf_low hf (lay_in_kn (Nat.le_refl l) h2) h
      obtain rfl : l = D - j := by omega
      exact h2
    rw [e]
    by_cases hl : lf (kn R D) D x = ((j + 1 : Nat) : Int)
    · rw [if_pos hl]
      refine fold_eq _ _ in0 (fun b y hb hy => ?_) (fun b y _ => addW_in _ _)
      by_cases h : lf (kn R D) D y = (j : Int)
      · rw [if_pos ⟨hin y hy, h⟩, cw_gw hf j (by omega) y (hlv y hy h), if_pos h]
      · rw [if_neg fun h' => h h'.2]
        by_cases hyl : y ∈ lay R (D - j)
        · rw [cw_gw hf j (by omega) y hyl, if_neg h, addW_zero hb]
        · rw [cw_out hyl, addW_zero hb]
    · rw [if_neg hl]
      have hz : ∀ y ∈ sucU x, cw R D j y = 0 := fun y hy => by
        by_cases hyl : y ∈ lay R (D - j)
        · rw [cw_gw hf j (by omega) y hyl, if_neg]
          intro h
          have h1 : lf (kn R D) j y = (j : Int) := (lf_at h).2
          have h2 := lf_step (k := j) hy (hin y hy) (by omega)
          have h3 := lf_up h2 (D - (j + 1))
          rw [show j + 1 + (D - (j + 1)) = D by omega] at h3
          rcases lf_rng (kn R D) x (j + 1) with g | ⟨i, g1, g2, _⟩
          · omega
          · have := lf_low hf hxk (h3.trans g2)
            have : i = j + 1 := by omega
            subst this
            exact hl (h3.trans g2)
        · exact cw_out hyl
      have hs : ∀ (l : List (List Int)), (∀ y ∈ l, cw R D j y = 0) → l.foldl (fun a y => addW a (cw R D j y)) 0 = 0 := fun l => by
        induction l with
        | nil => intro _; rfl
        | cons y l ih =>
          intro h
          rw [List.foldl_cons, h y (List.mem_cons_self ..), addW_zero in0]
          exact ih fun z hz => h z (List.mem_cons_of_mem _ hz)
      exact hs _ hz
/-- Both start from the form of the rack. -/
theorem cw_start {R : List Int} (hu : unB sortB R = true) : lf (kn R (dep sortB R)) (dep sortB R) (frm R) = ((dep sortB R : Nat) : Int) ∧ cw R (dep sortB R) (dep sortB R) (frm R) = gw (kn R (dep sortB R)) (dep sortB R) (dep sortB R) (frm R) := by
  have hf := firstS_dep (R := R)
  have ha : (lay R (dep sortB R)).any sortB = true := by
    unfold unB at hu
    rw [Bool.and_eq_true] at hu
    exact hu.2
  generalize dep sortB R = D at *
  obtain ⟨z, hz, hs⟩ := List.any_eq_true.1 ha
  have h0 : frm R ∈ lay R 0 := by rw [lay_zero]; simp
  have key : ∀ l z, l ≤ D → z ∈ lay R l → ∀ k, 0 ≤ lf (kn R D) k z → 0 ≤ lf (kn R D) (k + l) (frm R) := fun l => by
    induction l with
    | zero =>
      intro z _ hz k h
      rw [lay_zero] at hz
      rw [← List.mem_singleton.1 hz]; exact h
    | succ l ih =>
      intro z hl hz k h
      have hzK : z ∈ kn R D := lay_in_kn hl hz
      rw [lay_succ] at hz
      obtain ⟨y, hy, hzy⟩ := List.mem_flatMap.1 (nwF_sub _ _ z hz).1
      have := ih y (by omega) hy (k + 1) (lf_step hzy hzK h)
      rw [show k + (l + 1) = k + 1 + l by omega]; exact this
  have hp : 0 ≤ lf (kn R D) D (frm R) := by
    have := key D z (Nat.le_refl _) hz 0 (by rw [show lf (kn R D) 0 z = 0 from if_pos hs]; omega)
    rwa [Nat.zero_add] at this
  have hD : lf (kn R D) D (frm R) = (D : Int) := by
    rcases lf_rng (kn R D) (frm R) D with h1 | ⟨j, h1, h2, _⟩
    · omega
    · have := lf_low hf (l := 0) h0 h2
      obtain rfl : j = D := by omega
      exact h2
  refine ⟨hD, ?_⟩
  have := cw_gw hf D (Nat.le_refl _) (frm R) (by rw [Nat.sub_self]; exact h0)
  rw [this, if_pos hD]
end Go.Proofs.Ytaopbefklkbmeaa
set_option maxRecDepth 100000
set_option linter.unusedSimpArgs false
set_option linter.unusedVariables false
namespace Go.Proofs.Ytaopbefklkbmeaa
open Go Go.RowKit
/-- Does a pour lead to a form of a number? -/
def gpP (K : List (List Int)) (V x : List Int) (nm : Int) (p : List Int) : Bool := decide (frm (pourF x (p.getD 0 0).toNat (p.getD 1 0).toNat) ∈ K) && decide (V.getD (idx K (frm (pourF x (p.getD 0 0).toNat (p.getD 1 0).toNat))).toNat 0 = nm)
def gpL (K : List (List Int)) (V x : List Int) (nm : Int) : List Int := kept (gpP K V x nm) (ulF x) (sucC x)
theorem gpL_even (K : List (List Int)) (V x : List Int) (nm : Int) : ∃ k, (gpL K V x nm).length = k * 2 ∧ k ≤ sucC x := by
  obtain ⟨k, hk, hkm⟩ := kept_even (gpP K V x nm) (ulF x) (sucC x) (by have := ulF_sucC x; omega)
  exact ⟨k, hk, hkm⟩
structure GpS (K : List (List Int)) (V x : List Int) (nm : Int) (P : List Int) (s : SN) (m n0 b : Nat) (junk : List Int) (k ob no co : Nat) (jo : List Int) (H : Heap) (n : Nat) : Prop where
  hk : k ≤ sucC x
  hob : n0 + 2 ≤ ob ∧ ob ≠ n0 + 3
  wf : hwf n H
  set : SetH s (fun j => n0 + 2 ≤ j) m H K P
  ga : hget H (n0 + 3) = some (.ints (ulF x ++ junk) 49)
  gv : hget H b = some (.ints V 3)
  gx : hget H n0 = some (.ints x 29)
  gs : hget H (n0 + 1) = some (.cells (s.cel K.length) 42)
  go : hget H ob = some (.ints (kept (gpP K V x nm) (ulF x) k ++ jo) 49)
  l : (kept (gpP K V x nm) (ulF x) k).length = no * 2
  hno : no ≤ k
  hjo : jo.length + no * 2 = co * 2
theorem l3Good_ok (s : SN) (A : Nat → Prop) (m : Nat) (H : Heap) (K : List (List Int)) (P : List Int) (b : Nat) (V : List Int) (x : List Int) (nm : Int) (h : SetH s A m H K P) (hb : hget H b = some (.ints V 3)) (hV : V.length = K.length) (hx : x.length = 24) (hr : rackB x = true) (hnm : 0 ≤ nm ∧ nm ≤ 100000) :
    FreshP Try.prog 63 [.arr x, s.val K.length, .slice b 0 K.length K.length, .int (nm + 1)] H (gpL K V x nm) ((gpL K V x nm).length / 2) 2 49 false .one := by
  obtain ⟨n0, hwH⟩ := ex_hwf H
  obtain ⟨w1, w2, w3⟩ := h.wf hwH
  have hb0 := (hwH b _ hb).1
  refine fresh_of_vc (X := ⟨Try.prog, tys, [(17, l2Pour_F), (19, l3Form_F), (18, l3At_F)], [(15, l2Useful_F)], true, true, n0, [], []⟩) fn_63 ⟨tys_ok, .cons l2Pour_T (.cons l3Form_T (.cons l3At_T .nil)), .cons l2Useful_T .nil, mixed⟩ (n0 := n0) rfl (Nat.le_of_ble_eq_true rfl) (by simp [wfL, SV.wf, SN.val]; omega) hwH (Nat.le_refl _) ?_
  have hf := h.f
  have ok24 := h.ok.all24
  have ek : chkR (K.flatten ++ s.J1) 0 K.length = K := chkR_of ok24 s.J1
  have hnp := ulF_sucC x
  have hnp36 := sucC_le x
  have ehp : (ulF x).length / 2 = sucC x := by omega
  have tkR : List.take 24 x = x := List.take_of_length_le (by omega)
  have enm : nm + 1 - 1 = nm := by omega
  have hn0 : 0 < nm + 1 := by omega
  have inm : In64 nm := by unfold In64; omega
  rw [SN.val_cel]
  unfold SN.cel
  have xf := ne_add w1; have xf' := ne_add' w1
  simp -implicitDefEqProofs only [Try.f63, Option.getD_some, argS, l2Useful_F, freshK, Wrap.ap, hx, hr, tkR, ehp, xf, xf', Nat.add_assoc, add_self, self_add, add_add, ZB, Int.reduceToNat, Nat.reduceLT, Nat.reduceLeDiff, Int.reduceLE, Int.reduceLT, Nat.reduceEqDiff, Nat.reduceSub, SB, SV.known, packR, ne_eq, reduceCtorEq, Nat.reduceEqDiff, ↓reduceIte, if_true, if_false, eq_self, Nat.reduceAdd, Nat.reduceMul, Nat.reduceSub, forall_const, oneCellS, litOne, flat1, Kd.isSca, flat, TYB]
  intro cap junk qj
  have wf5 : hwf (n0 + 4) ((n0 + 3, SObj.ints (ulF x ++ junk) 49) :: (n0 + 2, SObj.ints [] 49) :: (n0 + 1, SObj.cells [SV.slice s.f 0 K.length s.cf, SV.slice s.q 0 K.length s.cq, SV.slice s.u 0 1009 1009] 42) :: (n0, SObj.ints x 29) :: H) :=
    hwf_cons (hwf_cons (hwf_cons (hwf_cons (hwf_mono (by omega) hwH) (by omega) trivial) (by omega) (by simp [SObj.wf, wfL, SV.wf]; omega)) (by omega) trivial) (by omega) trivial
  have hE5 : Ext H ((n0 + 3, SObj.ints (ulF x ++ junk) 49) :: (n0 + 2, SObj.ints [] 49) :: (n0 + 1, SObj.cells [SV.slice s.f 0 K.length s.cf, SV.slice s.q 0 K.length s.cq, SV.slice s.u 0 1009 1009] 42) :: (n0, SObj.ints x 29) :: H) := Ext.cons hwH (by omega) (Ext.cons hwH (by omega) (Ext.cons hwH (by omega) (Ext.cons hwH (by omega) (Ext.refl H))))
  refine loop_introN (fun z : Nat × Nat × Nat × Nat × List Int × Heap × Nat => [(11, .int z.1), (10, .slice (n0 + 3) 0 (sucC x) cap), (9, .slice z.2.1 0 z.2.2.1 z.2.2.2.1), (5, .ptr (n0 + 1) 0), (4, .ptr n0 0), (2, .slice b 0 K.length K.length), (3, .int (nm + 1))]) (fun z => z.2.2.2.2.2.1) (fun z => z.2.2.2.2.2.2)
    (fun z => GpS K V x nm P s m n0 b junk z.1 z.2.1 z.2.2.1 z.2.2.2.1 z.2.2.2.2.1 z.2.2.2.2.2.1 z.2.2.2.2.2.2) (fun z => sucC x - z.1) ?_ ?_
  · refine ⟨(0, n0 + 2, 0, 0, [], ((n0 + 3, SObj.ints (ulF x ++ junk) 49) :: (n0 + 2, SObj.ints [] 49) :: (n0 + 1, SObj.cells [SV.slice s.f 0 K.length s.cf, SV.slice s.q 0 K.length s.cq, SV.slice s.u 0 1009 1009] 42) :: (n0, SObj.ints x 29) :: H), n0 + 4), ⟨Nat.zero_le _, ⟨by show n0 + 2 ≤ n0 + 2; omega, by show n0 + 2 ≠ n0 + 3; omega⟩, wf5, (h.more hwH fun j hj => .inr (by omega)).mono hE5, by simp [hget_cons], hE5 _ _ hb, by simp [hget_cons], by simp [hget_cons, SN.cel], by simp [hget_cons, kept_zero], by simp [kept_zero], Nat.le_refl _, rfl⟩, Sub.same ?_ ?_ wf5 (by show n0 ≤ n0 + 4; omega)⟩
    · simp only [LB, subS, subH, wfS, wfH, SV.ren, renL, SObj.ren, SV.wf, SObj.wf, wfL, SV.known, Nat.reduceEqDiff, ↓reduceIte, if_true, if_false, eq_self, Nat.reduceAdd, Nat.reduceLT, Nat.reduceLeDiff, implies_true, reduceCtorEq, forall_const]
    · simp [subS, subH, wfS, wfH, SV.ren, renL, SObj.ren, SV.wf, SObj.wf, wfL, sget_cons, hget_cons] <;> omega
  · rintro ⟨k, ob, no, co, jo, H6, n6⟩ hz
    obtain ⟨hk, hob, wf6, hset6, ga6, gv6, gx6, gs6, go6, hl6, hno6, hjo6⟩ := hz
    simp only at hk hob wf6 hset6 ga6 gv6 gx6 gs6 go6 hl6 hno6 hjo6
    by_cases hkn : k < sucC x
    · have hkl : (k : Int) < sucC x := by omega
      have lenP : (ulF x ++ junk).length = cap * 2 := by rw [List.length_append]; omega
      have lenL : (kept (gpP K V x nm) (ulF x) k ++ jo).length = co * 2 := by rw [List.length_append]; omega
      have tkL : (kept (gpP K V x nm) (ulF x) k ++ jo).take (no * 2) = kept (gpP K V x nm) (ulF x) k := List.take_left' hl6
      obtain ⟨i, j, hi, hj, huc, hij⟩ := GL_pair (uC x) 36 (Nat.le_refl _) k (by rw [← ulF_GL]; omega)
      rw [← ulF_GL] at hij
      have es := kept_succ (gpP K V x nm) (ulF x) k
      rw [hij] at es
      rw [take2_drop _ _ (by omega)] at hij
      simp only [List.cons.injEq, and_true] at hij
      have eP0 : (ulF x ++ junk).getD (k * 2) 0 = i := by rw [getD_app _ _ _ (by omega)]; exact hij.1
      have eP1 : (ulF x ++ junk).getD (k * 2 + 1) 0 = j := by rw [getD_app _ _ _ (by omega)]; exact hij.2
      have eP : List.take 2 (List.drop (k * 2) (ulF x ++ junk)) = [(i : Int), (j : Int)] := by rw [take2_drop _ _ (by omega), eP0, eP1]
      have i05 : 0 ≤ (i : Int) ∧ (i : Int) ≤ 5 := by omega
      have j05 : 0 ≤ (j : Int) ∧ (j : Int) ≤ 5 := by omega
      have pl := pourF_len hx i j
      have tkp := List.take_of_length_le (Nat.le_of_eq pl)
      have pr := pour_rack hx hr i05 j05 (uC_can huc)
      simp only [Int.toNat_natCast] at pr
      have fl := frm_len pl
      have fr := rack_frm pl pr
      have eg : gpP K V x nm [(i : Int), (j : Int)] = (decide (frm (pourF x i j) ∈ K) && decide (V.getD (idx K (frm (pourF x i j))).toNat 0 = nm)) := rfl
      rw [eg] at es
      have hf6 := hset6.f
      have q1 := (wf6 _ _ ga6).1; have q2 := (wf6 _ _ gv6).1; have q3 := (wf6 _ _ gx6).1; have q4 := (wf6 _ _ gs6).1; have q5 := (wf6 _ _ go6).1; have q6 := (wf6 _ _ hf6).1
      have y1 := ne_add q1; have y1' := ne_add' q1; have y2 := ne_add q2; have y2' := ne_add' q2; have y3 := ne_add q3; have y3' := ne_add' q3; have y4 := ne_add q4; have y4' := ne_add' q4; have y5 := ne_add q5; have y5' := ne_add' q5; have y6 := ne_add q6; have y6' := ne_add' q6
      have hset : ∀ o1 o2 : SObj, ∃ (s' : SN) (A' : Nat → Prop) (m' : Nat) (K' : List (List Int)) (P' : List Int), SV.stc [SV.slice s.f 0 K.length s.cf, SV.slice s.q 0 K.length s.cq, SV.slice s.u 0 1009 1009] = s'.val K'.length ∧ SetH s' A' m' ((n6, o1) :: (n6, o2) :: H6) K' P' :=
        fun o1 o2 => ⟨s, _, m, K, P, rfl, hset6.mono (Ext.cons wf6 (Nat.le_refl _) (Ext.cons wf6 (Nat.le_refl _) (Ext.refl _)))⟩
      unfold SN.cel at gs6
      generalize hy : frm (pourF x i j) = y at *
      by_cases hin : y ∈ K
      · obtain ⟨t, hid, htK, htk⟩ := idx_in hin
        rw [hid, Int.toNat_natCast, decide_eq_true hin, Bool.true_and] at es
        have t0 : 0 ≤ (t : Int) := by omega
        have tK : (t : Int) < (K.length : Int) := by omega
        have tV : t < V.length := by omega
        have gV := rfl (a := V.getD t 0)
        by_cases hvn : V.getD t 0 = nm
        · rw [decide_eq_true hvn] at es
          simp only [if_true] at es
          simp -implicitDefEqProofs only [lk_normal, l2Pour_F, l3Form_F, l3At_F, hkl, ga6, gv6, gx6, gs6, go6, hf6, lenP, lenL, tkL, eP0, eP1, eP, i05, j05, hx, hr, tkR, pl, tkp, pr, hy, fl, fr, hid, hV, gV, ek, t0, tK, tV, enm, hn0, inm, hvn, y1, y1', y2, y2', y3, y3', y4, y4', y5, y5', y6, y6', Nat.add_assoc, add_self, self_add, add_add, ZB, Int.reduceToNat, Nat.reduceLT, Nat.reduceLeDiff, Int.reduceLE, Int.reduceLT, Nat.reduceEqDiff, Nat.reduceSub, SB, SV.known, packR, ne_eq, reduceCtorEq, Nat.reduceEqDiff, ↓reduceIte, if_true, if_false, eq_self, Nat.reduceAdd, Nat.reduceMul, Nat.reduceSub, forall_const, oneCellS, litOne, flat1, Kd.isSca, flat, TYB]
          have hw7 : ∀ j2 : List Int, hwf (n6 + 3) ((n6 + 2, SObj.ints (kept (gpP K V x nm) (ulF x) k ++ [(i : Int), (j : Int)] ++ j2) 49) :: (ob, SObj.dead) :: (n6 + 1, SObj.ints [(i : Int), (j : Int)] 49) :: (n6, SObj.ints (pourF x i j) 29) :: (n6, SObj.ints (List.replicate 24 0) 29) :: H6) := fun j2 => hwf_cons (hwf_cons (hwf_cons (hwf_cons (hwf_cons (hwf_mono (by omega) wf6) (by omega) trivial) (by omega) trivial) (by omega) trivial) (by omega) trivial) (by omega) trivial
          have pas : ∀ (j2 : List Int) z o, z < n6 → z ≠ ob → hget H6 z = some o → hget ((n6 + 2, SObj.ints (kept (gpP K V x nm) (ulF x) k ++ [(i : Int), (j : Int)] ++ j2) 49) :: (ob, SObj.dead) :: (n6 + 1, SObj.ints [(i : Int), (j : Int)] 49) :: (n6, SObj.ints (pourF x i j) 29) :: (n6, SObj.ints (List.replicate 24 0) 29) :: H6) z = some o := fun j2 z o hz hzo ho => by
            rw [hget_cons, if_neg (by omega), hget_cons, if_neg hzo, hget_cons, if_neg (by omega), hget_cons, if_neg (by omega), hget_cons, if_neg (by omega)]
            exact ho
          refine ⟨by omega, by omega, by omega, by omega, by omega, hset _ _, by omega, by omega, by omega, by omega, by omega, by omega, by omega, fun j2 cap' hj2 => ⟨by unfold In64; omega, (k + 1, n6 + 2, no + 1, cap', j2, ((n6 + 2, SObj.ints (kept (gpP K V x nm) (ulF x) k ++ [(i : Int), (j : Int)] ++ j2) 49) :: (ob, SObj.dead) :: (n6 + 1, SObj.ints [(i : Int), (j : Int)] 49) :: (n6, SObj.ints (pourF x i j) 29) :: (n6, SObj.ints (List.replicate 24 0) 29) :: H6), n6 + 3), ?_, by show sucC x - (k + 1) < sucC x - k; omega, Sub.same (by simp only [LB, subS, subH, wfS, wfH, SV.ren, renL, SObj.ren, SV.wf, SObj.wf, wfL, SV.known, Nat.reduceEqDiff, ↓reduceIte, if_true, if_false, eq_self, Nat.reduceAdd, Nat.reduceLT, Nat.reduceLeDiff, implies_true, reduceCtorEq, forall_const]) (by simp [subS, subH, wfS, wfH, SV.ren, renL, SObj.ren, SV.wf, SObj.wf, wfL, sget_cons, hget_cons] <;> omega) (hw7 j2) (by show n0 ≤ n6 + 3; omega)⟩⟩
          refine ⟨by show k + 1 ≤ sucC x; omega, ⟨by show n0 + 2 ≤ n6 + 2; omega, by show n6 + 2 ≠ n0 + 3; omega⟩, hw7 j2, ((((hset6.upd _ (by show n0 + 2 ≤ n6; omega)).upd _ (by show n0 + 2 ≤ n6; omega)).upd _ (by show n0 + 2 ≤ n6 + 1; omega)).upd _ hob.1).upd _ (by show n0 + 2 ≤ n6 + 2; omega), pas _ _ _ q1 (Ne.symm hob.2) ga6, pas _ _ _ q2 (by omega) gv6, pas _ _ _ q3 (by omega) gx6, pas _ _ _ q4 (by omega) gs6, ?_, ?_, by show no + 1 ≤ k + 1; omega, by show j2.length + (no + 1) * 2 = cap' * 2; omega⟩
          · show hget (_ :: _) (n6 + 2) = some (.ints (kept (gpP K V x nm) (ulF x) (k + 1) ++ j2) _)
            rw [hget_cons, if_pos rfl, es]
          · show (kept (gpP K V x nm) (ulF x) (k + 1)).length = (no + 1) * 2
            rw [es, List.length_append, hl6]; simp only [List.length_cons, List.length_nil]; omega
        · rw [decide_eq_false hvn] at es
          simp only [Bool.false_eq_true, if_false, List.append_nil] at es
          simp -implicitDefEqProofs only [lk_normal, l2Pour_F, l3Form_F, l3At_F, hkl, ga6, gv6, gx6, gs6, go6, hf6, lenP, lenL, tkL, eP0, eP1, eP, i05, j05, hx, hr, tkR, pl, tkp, pr, hy, fl, fr, hid, hV, gV, ek, t0, tK, tV, enm, hn0, inm, hvn, y1, y1', y2, y2', y3, y3', y4, y4', y5, y5', y6, y6', Nat.add_assoc, add_self, self_add, add_add, ZB, Int.reduceToNat, Nat.reduceLT, Nat.reduceLeDiff, Int.reduceLE, Int.reduceLT, Nat.reduceEqDiff, Nat.reduceSub, SB, SV.known, packR, ne_eq, reduceCtorEq, Nat.reduceEqDiff, ↓reduceIte, if_true, if_false, eq_self, Nat.reduceAdd, Nat.reduceMul, Nat.reduceSub, forall_const, oneCellS, litOne, flat1, Kd.isSca, flat, TYB]
          refine ⟨by omega, by omega, by omega, by omega, by omega, hset _ _, by omega, by unfold In64; omega, (k + 1, ob, no, co, jo, H6, n6), ⟨by show k + 1 ≤ sucC x; omega, hob, wf6, hset6, ga6, gv6, gx6, gs6, ?_, ?_, by show no ≤ k + 1; omega, hjo6⟩, by show sucC x - (k + 1) < sucC x - k; omega, Sub.mk_ext (l := []) ?_ ?_ ?_ ?_ (by show n0 ≤ n6; omega) (Ext.cons wf6 (Nat.le_refl _) (Ext.cons wf6 (Nat.le_refl _) (Ext.refl _))) wf6⟩
          · show hget H6 ob = some (.ints (kept (gpP K V x nm) (ulF x) (k + 1) ++ jo) _)
            rw [es]; exact go6
          · show (kept (gpP K V x nm) (ulF x) (k + 1)).length = no * 2
            rw [es]; exact hl6
          all_goals ((try simp only [LB, subS, subH, wfS, wfH, SV.ren, renL, SObj.ren, SV.wf, SObj.wf, wfL, SV.known, Nat.reduceEqDiff, ↓reduceIte, if_true, if_false, eq_self, Nat.reduceAdd, Nat.reduceLT, Nat.reduceLeDiff, implies_true, reduceCtorEq, forall_const]) <;> (try simp [subS, subH, wfS, wfH, SV.ren, renL, SObj.ren, SV.wf, SObj.wf, wfL, sget_cons, hget_cons]) <;> (try omega))
      · have hid := idx_out hin
        rw [decide_eq_false hin] at es
        simp only [Bool.false_and, Bool.false_eq_true, if_false, List.append_nil] at es
        have t0 : True := trivial
        have tK : True := trivial
        have tV : True := trivial
        have gV : True := trivial
        have hvn : True := trivial
        simp -implicitDefEqProofs only [lk_normal, l2Pour_F, l3Form_F, l3At_F, hkl, ga6, gv6, gx6, gs6, go6, hf6, lenP, lenL, tkL, eP0, eP1, eP, i05, j05, hx, hr, tkR, pl, tkp, pr, hy, fl, fr, hid, hV, gV, ek, t0, tK, tV, enm, hn0, inm, hvn, y1, y1', y2, y2', y3, y3', y4, y4', y5, y5', y6, y6', Nat.add_assoc, add_self, self_add, add_add, ZB, Int.reduceToNat, Nat.reduceLT, Nat.reduceLeDiff, Int.reduceLE, Int.reduceLT, Nat.reduceEqDiff, Nat.reduceSub, SB, SV.known, packR, ne_eq, reduceCtorEq, Nat.reduceEqDiff, ↓reduceIte, if_true, if_false, eq_self, Nat.reduceAdd, Nat.reduceMul, Nat.reduceSub, forall_const, oneCellS, litOne, flat1, Kd.isSca, flat, TYB]
        refine ⟨by omega, by omega, by omega, by omega, by omega, hset _ _, by unfold In64; omega, (k + 1, ob, no, co, jo, H6, n6), ⟨by show k + 1 ≤ sucC x; omega, hob, wf6, hset6, ga6, gv6, gx6, gs6, ?_, ?_, by show no ≤ k + 1; omega, hjo6⟩, by show sucC x - (k + 1) < sucC x - k; omega, Sub.mk_ext (l := []) ?_ ?_ ?_ ?_ (by show n0 ≤ n6; omega) (Ext.cons wf6 (Nat.le_refl _) (Ext.cons wf6 (Nat.le_refl _) (Ext.refl _))) wf6⟩
        · show hget H6 ob = some (.ints (kept (gpP K V x nm) (ulF x) (k + 1) ++ jo) _)
          rw [es]; exact go6
        · show (kept (gpP K V x nm) (ulF x) (k + 1)).length = no * 2
          rw [es]; exact hl6
        all_goals ((try simp only [LB, subS, subH, wfS, wfH, SV.ren, renL, SObj.ren, SV.wf, SObj.wf, wfL, SV.known, Nat.reduceEqDiff, ↓reduceIte, if_true, if_false, eq_self, Nat.reduceAdd, Nat.reduceLT, Nat.reduceLeDiff, implies_true, reduceCtorEq, forall_const]) <;> (try simp [subS, subH, wfS, wfH, SV.ren, renL, SObj.ren, SV.wf, SObj.wf, wfL, sget_cons, hget_cons]) <;> (try omega))
    · have hkl : ¬ (k : Int) < sucC x := by omega
      obtain rfl : k = sucC x := by omega
      simp -implicitDefEqProofs only [lk_normal, hkl, ZB, Int.reduceToNat, Nat.reduceLT, Nat.reduceLeDiff, Int.reduceLE, Int.reduceLT, Nat.reduceEqDiff, Nat.reduceSub, SB, SV.known, packR, ne_eq, reduceCtorEq, Nat.reduceEqDiff, ↓reduceIte, if_true, if_false, eq_self, Nat.reduceAdd, Nat.reduceMul, Nat.reduceSub, forall_const, oneCellS, litOne, flat1, Kd.isSca, flat, TYB]
      have eL : gpL K V x nm = kept (gpP K V x nm) (ulF x) (sucC x) := rfl
      rw [eL, hl6]
      exact .inr ⟨ob, co, jo, by simp [Wrap.ap], go6, by omega, by omega, by simp⟩
end Go.Proofs.Ytaopbefklkbmeaa
set_option maxRecDepth 100000
set_option linter.unusedSimpArgs false
set_option linter.unusedVariables false
namespace Go.Proofs.Ytaopbefklkbmeaa
open Go Go.RowKit
def l3Good_F : List SV → Heap → Nat → Nat → K1 → Prop
  | [.arr x, .stc [.slice f 0 len cf, v2, v3], .slice b 0 l2 c2, .int nm], H, n, m, κ => match hget H f, hget H b with
    | some (.ints L _), some (.ints V e) => (∃ (s : SN) (A : Nat → Prop) (m0 : Nat) (K : List (List Int)) (P : List Int), SV.stc [.slice f 0 len cf, v2, v3] = s.val K.length ∧ SetH s A m0 H K P) ∧ (e = 3 ∧ l2 = len ∧ c2 = len ∧ V.length = len) ∧ (x.length = 24 ∧ rackB x = true) ∧ (1 ≤ nm ∧ nm ≤ 100001) ∧
        freshK .one (gpL (chkR L 0 len) V x (nm - 1)) ((gpL (chkR L 0 len) V x (nm - 1)).length / 2) 2 49 false H n κ
    | _, _ => False
  | _, _, _, _, _ => False
--@tbl l3Good = spec.l3Good
theorem l3Good_T : ∀ args H n m κ, l3Good_F args H n m κ → GenOK Try.prog 63 args H n m κ := by
  intro args H n m κ h
  unfold l3Good_F at h
  split at h
  · rename_i x f len cf v2 v3 b l2 c2 nm
    split at h
    · rename_i L e V e' hf hb
      obtain ⟨⟨s, A, m0, K, P, hs, hS⟩, ⟨he, h2, h3, hV⟩, ⟨hx, hr⟩, ⟨hn0, hn1⟩, h⟩ := h
      have e1 : f = s.f ∧ len = K.length := by
        unfold SN.val at hs
        simp only [SV.stc.injEq, List.cons.injEq, SV.slice.injEq] at hs
        exact ⟨hs.1.1, hs.1.2.2.1⟩
      obtain ⟨rfl, rfl⟩ := e1
      subst he; subst h2; subst h3
      have hL := hS.f
      rw [hf] at hL
      cases hL
      rw [chkR_of hS.ok.all24] at h
      rw [hs]
      have := l3Good_ok s A m0 H K P b V x (nm - 1) hS hb hV hx hr (by omega)
      rw [show nm - 1 + 1 = nm by omega] at this
      exact gen_of_fresh this (fun k o hk => hk) h
    · exact h.elim
  · exact h.elim
/-! Sums over pairs. -/
def gsum (f : List Int → Int) (x L : List Int) : Nat → Int
  | 0 => 0
  | j + 1 => IntKind.i64.wrap (gsum f x L j + f (frm (pourF x (L.getD (j * 2) 0).toNat (L.getD (j * 2 + 1) 0).toNat)))
theorem gsum_app (f : List Int → Int) (x L M : List Int) : ∀ j, j * 2 ≤ L.length → gsum f x (L ++ M) j = gsum f x L j
  | 0, _ => rfl
  | j + 1, h => by
    show IntKind.i64.wrap _ = IntKind.i64.wrap _
    rw [gsum_app f x L M j (by omega), getD_app _ _ _ (by omega), getD_app _ _ _ (by omega)]
theorem gsum_pre {K : List (List Int)} {N k : Nat} {x : List Int} (f : List Int → Int) : ∀ q, q ≤ sucC x →
    gsum f x (kept (gpP K (K.map (lf K N)) x (k : Int)) (ulF x) q) ((kept (gpP K (K.map (lf K N)) x (k : Int)) (ulF x) q).length / 2) = ((List.range q).map (diX x)).foldl (fun a y => if y ∈ K ∧ lf K N y = (k : Int) then addW a (f y) else a) 0
  | 0, _ => by simp only [kept_zero, List.length_nil, Nat.zero_div, List.range_zero, List.map_nil, List.foldl_nil]; rfl
  | q + 1, hq => by
    have ih := gsum_pre (K := K) (N := N) (k := k) (x := x) f q (by omega)
    have hl := ulF_sucC x
    obtain ⟨c, hc, _⟩ := kept_even (gpP K (K.map (lf K N)) x (k : Int)) (ulF x) q (by omega)
    have es := kept_succ (gpP K (K.map (lf K N)) x (k : Int)) (ulF x) q
    rw [take2_drop _ _ (by omega)] at es
    rw [List.range_succ, List.map_append, List.foldl_append, ← ih]
    simp only [List.map_cons, List.map_nil, List.foldl_cons, List.foldl_nil]
    have eg : gpP K (K.map (lf K N)) x (k : Int) [(ulF x).getD (q * 2) 0, (ulF x).getD (q * 2 + 1) 0] = decide (diX x q ∈ K ∧ lf K N (diX x q) = (k : Int)) := by
      show (decide (diX x q ∈ K) && decide ((K.map (lf K N)).getD (idx K (diX x q)).toNat 0 = (k : Int))) = _
      by_cases hin : diX x q ∈ K
      · obtain ⟨t, h1, h2, h3⟩ := idx_in hin
        have gV : (K.map (lf K N)).getD t 0 = lf K N (diX x q) := by
          rw [List.getD_eq_getElem?_getD, List.getElem?_map, List.getElem?_eq_getElem h2, ← h3, List.getD_eq_getElem?_getD, List.getElem?_eq_getElem h2]; rfl
        rw [h1, Int.toNat_natCast, gV]
        simp [hin]
      · simp [hin]
    rw [eg] at es
    by_cases h : diX x q ∈ K ∧ lf K N (diX x q) = (k : Int)
    · rw [decide_eq_true h] at es
      simp only [if_true] at es
      rw [es, if_pos h, List.length_append, hc]
      simp only [List.length_cons, List.length_nil]
      rw [show (c * 2 + (0 + 1 + 1)) / 2 = c + 1 by omega, show c * 2 / 2 = c by omega]
      show IntKind.i64.wrap _ = IntKind.i64.wrap _
      have g0 : (kept (gpP K (K.map (lf K N)) x (k : Int)) (ulF x) q ++ [(ulF x).getD (q * 2) 0, (ulF x).getD (q * 2 + 1) 0]).getD (c * 2) 0 = (ulF x).getD (q * 2) 0 := by
        rw [List.getD_eq_getElem?_getD, List.getElem?_append_right (by omega), show c * 2 - (kept (gpP K (K.map (lf K N)) x (k : Int)) (ulF x) q).length = 0 by omega]; rfl
      have g1 : (kept (gpP K (K.map (lf K N)) x (k : Int)) (ulF x) q ++ [(ulF x).getD (q * 2) 0, (ulF x).getD (q * 2 + 1) 0]).getD (c * 2 + 1) 0 = (ulF x).getD (q * 2 + 1) 0 := by
        rw [List.getD_eq_getElem?_getD, List.getElem?_append_right (by omega), show c * 2 + 1 - (kept (gpP K (K.map (lf K N)) x (k : Int)) (ulF x) q).length = 1 by omega]; rfl
      rw [gsum_app _ _ _ _ _ (by omega), g0, g1]
      rfl
    · rw [decide_eq_false h] at es
      simp only [Bool.false_eq_true, if_false, List.append_nil] at es
      rw [es, if_neg h]
theorem gsum_gw {K : List (List Int)} {N k : Nat} {x : List Int} : gsum (gw K N k) x (gpL K (K.map (lf K N)) x (k : Int)) ((gpL K (K.map (lf K N)) x (k : Int)).length / 2) = gw K N (k + 1) x := by
  unfold gpL
  rw [gsum_pre (gw K N k) (sucC x) (Nat.le_refl _)]
  rfl
/-! The table of ways. -/
def wE (K : List (List Int)) (N k i t : Nat) : Int := if 0 ≤ lf K N (K.getD t []) ∧ (lf K N (K.getD t []) < k ∨ (lf K N (K.getD t []) = k ∧ t < i)) then gw K N (lf K N (K.getD t [])).toNat (K.getD t []) else 0
def wL (K : List (List Int)) (N k i : Nat) : List Int := (List.range K.length).map (wE K N k i)
theorem wL_len (K : List (List Int)) (N k i : Nat) : (wL K N k i).length = K.length := by simp [wL]
theorem wL_get (K : List (List Int)) (N k i t : Nat) (ht : t < K.length) : (wL K N k i).getD t 0 = wE K N k i t := by
  simp [wL, List.getD, ht]
theorem wL_ext {K : List (List Int)} {N k i k' i' : Nat} (h : ∀ t, t < K.length → wE K N k i t = wE K N k' i' t) : wL K N k i = wL K N k' i' :=
  List.map_congr_left fun t ht => h t (List.mem_range.1 ht)
theorem wL_zero (K : List (List Int)) (N : Nat) : wL K N 0 0 = List.replicate K.length 0 := by
  unfold wL
  rw [show (List.range K.length).map (wE K N 0 0) = (List.range K.length).map (fun _ => (0 : Int)) from List.map_congr_left fun t _ => by unfold wE; rw [if_neg (by omega)], List.map_const', List.length_range]
theorem wL_next (K : List (List Int)) (N k : Nat) : wL K N k K.length = wL K N (k + 1) 0 := wL_ext fun t ht => by
  unfold wE
  have : (0 ≤ lf K N (K.getD t []) ∧ (lf K N (K.getD t []) < k ∨ (lf K N (K.getD t []) = k ∧ t < K.length))) ↔ (0 ≤ lf K N (K.getD t []) ∧ (lf K N (K.getD t []) < ((k + 1 : Nat) : Int) ∨ (lf K N (K.getD t []) = ((k + 1 : Nat) : Int) ∧ t < 0))) := by omega
  simp only [this]
theorem wL_skip {K : List (List Int)} {N k i : Nat} (h : lf K N (K.getD i []) ≠ (k : Int)) : wL K N k i = wL K N k (i + 1) := wL_ext fun t ht => by
  unfold wE
  by_cases hti : t = i
  · subst hti
    have : (0 ≤ lf K N (K.getD t []) ∧ (lf K N (K.getD t []) < k ∨ (lf K N (K.getD t []) = k ∧ t < t))) ↔ (0 ≤ lf K N (K.getD t []) ∧ (lf K N (K.getD t []) < k ∨ (lf K N (K.getD t []) = k ∧ t < t + 1))) := by omega
    simp only [this]
  · have : (0 ≤ lf K N (K.getD t []) ∧ (lf K N (K.getD t []) < k ∨ (lf K N (K.getD t []) = k ∧ t < i))) ↔ (0 ≤ lf K N (K.getD t []) ∧ (lf K N (K.getD t []) < k ∨ (lf K N (K.getD t []) = k ∧ t < i + 1))) := by omega
    simp only [this]
theorem wL_set {K : List (List Int)} {N k i : Nat} (hi : i < K.length) (h : lf K N (K.getD i []) = (k : Int)) : (wL K N k i).set i (gw K N k (K.getD i [])) = wL K N k (i + 1) := by
  refine List.ext_getElem (by rw [List.length_set, wL_len, wL_len]) fun t h1 h2 => ?_
  rw [wL_len] at h2
  have e1 := wL_get K N k i t h2
  have e2 := wL_get K N k (i + 1) t h2
  rw [List.getD_eq_getElem?_getD, List.getElem?_eq_getElem (by rw [wL_len]; exact h2)] at e1 e2
  simp only [Option.getD_some] at e1 e2
  rw [List.getElem_set, e1, e2]
  unfold wE
  by_cases hti : i = t
  · subst hti
    rw [if_pos rfl, if_pos (by omega), h, Int.toNat_natCast]
  · rw [if_neg hti]
    have : (0 ≤ lf K N (K.getD t []) ∧ (lf K N (K.getD t []) < k ∨ (lf K N (K.getD t []) = k ∧ t < i))) ↔ (0 ≤ lf K N (K.getD t []) ∧ (lf K N (K.getD t []) < k ∨ (lf K N (K.getD t []) = k ∧ t < i + 1))) := by omega
    simp only [this]
theorem wE_low {K : List (List Int)} {N k i t : Nat} (h : lf K N (K.getD t []) = (k : Int)) : wE K N (k + 1) i t = gw K N k (K.getD t []) := by
  unfold wE
  rw [if_pos (by omega), h, Int.toNat_natCast]
theorem wE_at {K : List (List Int)} {N k i : Nat} (h : lf K N (K.getD i []) = (k : Int)) : wE K N k i i = 0 := by
  unfold wE
  rw [if_neg (by omega)]
end Go.Proofs.Ytaopbefklkbmeaa
set_option maxRecDepth 100000
set_option linter.unusedSimpArgs false
set_option linter.unusedVariables false
namespace Go.Proofs.Ytaopbefklkbmeaa
open Go Go.RowKit
theorem wrap1 (i : Nat) (h : i ≤ 1000000) : IntKind.i64.wrap ((i : Int) + 1) = (i : Int) + 1 := wrap_in (by unfold In64; omega)
theorem fnx_l3Ways : FnOK Try.prog 33 Try.f33 (Try.f33.body.getD .skip) [63] [] := ⟨Try.func33, rfl, by kernel_rfl, by kernel_rfl⟩
theorem l3Ways_ok (s : SN) (A : Nat → Prop) (m : Nat) (H : Heap) (K : List (List Int)) (P : List Int) (b N : Nat) (h : SetH s A m H K P) (hb : hget H b = some (.ints (K.map (lf K N)) 3)) (hN : N ≤ 100000) (hK : 0 < K.length) (h0 : lf K N (K.getD 0 []) = (N : Int)) :
    PureH Try.prog 33 [s.val K.length, .slice b 0 K.length K.length, .int N] H (.int (gw K N N (K.getD 0 []))) := by
  obtain ⟨n0, hwH⟩ := ex_hwf H
  obtain ⟨w1, w2, w3⟩ := h.wf hwH
  have hb0 := (hwH b _ hb).1
  refine pure_of_vc (X := ⟨Try.prog, tys, [(17, l2Pour_F), (19, l3Form_F), (18, l3At_F)], [(63, l3Good_F)], false, true, n0, [63], []⟩) fnx_l3Ways ⟨tys_ok, .cons l2Pour_T (.cons l3Form_T (.cons l3At_T .nil)), .cons l3Good_T .nil, mixed⟩ (n0 := n0) (Nat.le_of_ble_eq_true rfl) (by simp [wfL, SV.wf, SN.val]; omega) hwH (Nat.le_refl _) (fun _ => trivial) ?_
  have hf := h.f
  have ok24 := h.ok.all24
  have hsm := h.sm
  have ek : chkR (K.flatten ++ s.J1) 0 K.length = K := chkR_of ok24 s.J1
  rw [SN.val_cel]
  unfold SN.cel
  have xf := ne_add w1; have xf' := ne_add' w1
  have xb := ne_add hb0; have xb' := ne_add' hb0
  simp -implicitDefEqProofs only [Try.f33, Option.getD_some, argS, hf, hb, xf, xf', xb, xb', Nat.add_assoc, add_self, self_add, add_add, ZB, Int.reduceToNat, Nat.reduceLT, Nat.reduceLeDiff, Int.reduceLE, Int.reduceLT, Nat.reduceEqDiff, Nat.reduceSub, SB, SV.known, packR, ne_eq, reduceCtorEq, Nat.reduceEqDiff, ↓reduceIte, if_true, if_false, eq_self, Nat.reduceAdd, Nat.reduceMul, Nat.reduceSub, forall_const, oneCellS, litOne, flat1, Kd.isSca, flat, TYB]
  refine ⟨by omega, by omega, by omega, ?_⟩
  have hwW : ∀ W : List Int, hwf (n0 + 2) ((n0 + 1, .ints W 3) :: (n0, .cells [.slice s.f 0 K.length s.cf, .slice s.q 0 K.length s.cq, .slice s.u 0 1009 1009] 42) :: H) := fun W =>
    hwf_cons (hwf_cons (hwf_mono (by omega) hwH) (by omega) (by simp [SObj.wf, wfL, SV.wf]; omega)) (by omega) trivial
  refine loop_intro (fun k : Nat => [(8, .int k), (7, .slice (n0 + 1) 0 K.length K.length), (3, .ptr n0 0), (1, .slice b 0 K.length K.length), (2, .int N)]) (fun k => (n0 + 1, .ints (wL K N k 0) 3) :: (n0, .cells [.slice s.f 0 K.length s.cf, .slice s.q 0 K.length s.cq, .slice s.u 0 1009 1009] 42) :: H) (n0 + 2) (fun k => k ≤ N + 1) (fun k => N + 1 - k) ?_ ?_
  · refine ⟨0, Nat.zero_le _, ?_⟩
    rw [wL_zero]
    exact Sub.same (by simp only [LB, subS, subH, wfS, wfH, SV.ren, renL, SObj.ren, SV.wf, SObj.wf, wfL, SV.known, Nat.reduceEqDiff, ↓reduceIte, if_true, if_false, eq_self, Nat.reduceAdd, Nat.reduceLT, Nat.reduceLeDiff, implies_true, reduceCtorEq, forall_const]) (by simp [subS, subH, wfS, wfH, SV.ren, renL, SObj.ren, SV.wf, SObj.wf, wfL, sget_cons, hget_cons] <;> omega) (hwW _) (by omega)
  · intro k hk
    by_cases hkN : k ≤ N
    · have hkl : (k : Int) ≤ N := by omega
      simp -implicitDefEqProofs only [lk_normal, hkl, ZB, Int.reduceToNat, Nat.reduceLT, Nat.reduceLeDiff, Int.reduceLE, Int.reduceLT, Nat.reduceEqDiff, Nat.reduceSub, SB, SV.known, packR, ne_eq, reduceCtorEq, Nat.reduceEqDiff, ↓reduceIte, if_true, if_false, eq_self, Nat.reduceAdd, Nat.reduceMul, Nat.reduceSub, forall_const, oneCellS, litOne, flat1, Kd.isSca, flat, TYB]
      refine loop_intro (fun i : Nat => [(9, .int i), (8, .int k), (7, .slice (n0 + 1) 0 K.length K.length), (3, .ptr n0 0), (1, .slice b 0 K.length K.length), (2, .int N)]) (fun i => (n0 + 1, .ints (wL K N k i) 3) :: (n0, .cells [.slice s.f 0 K.length s.cf, .slice s.q 0 K.length s.cq, .slice s.u 0 1009 1009] 42) :: H) (n0 + 2) (fun i => i ≤ K.length) (fun i => K.length - i) ?_ ?_
      · exact ⟨0, Nat.zero_le _, Sub.same (by simp only [LB, subS, subH, wfS, wfH, SV.ren, renL, SObj.ren, SV.wf, SObj.wf, wfL, SV.known, Nat.reduceEqDiff, ↓reduceIte, if_true, if_false, eq_self, Nat.reduceAdd, Nat.reduceLT, Nat.reduceLeDiff, implies_true, reduceCtorEq, forall_const]) (by simp [subS, subH, wfS, wfH, SV.ren, renL, SObj.ren, SV.wf, SObj.wf, wfL, sget_cons, hget_cons] <;> omega) (hwW _) (by omega)⟩
      · intro i hi
        by_cases hiK : i < K.length
        · have hil : (i : Int) < K.length := by omega
          have i0 : 0 ≤ (i : Int) := by omega
          have lV : (K.map (lf K N)).length = K.length := List.length_map ..
          have gV : (K.map (lf K N)).getD i 0 = lf K N (K.getD i []) := by
            rw [List.getD_eq_getElem?_getD, List.getElem?_map, List.getElem?_eq_getElem hiK, List.getD_eq_getElem?_getD, List.getElem?_eq_getElem hiK]; rfl
          have lW := wL_len K N k i
          have wi := wrap1 i (by omega)
          obtain ⟨lQ, eQ, x24, xr⟩ := h.Kbd hiK
          by_cases hv : lf K N (K.getD i []) = (k : Int)
          · have es := wL_set hiK hv
            cases k with
            | zero =>
              have hv' : lf K N (K.getD i []) = 0 := hv
              have e1 : gw K N 0 (K.getD i []) = 1 := rfl
              rw [e1] at es
              simp -implicitDefEqProofs only [lk_normal, hil, i0, hb, xb, xb', lV, gV, hv', lW, wi, es, Int.ofNat_zero, Nat.add_assoc, add_self, self_add, add_add, ZB, Int.reduceToNat, Nat.reduceLT, Nat.reduceLeDiff, Int.reduceLE, Int.reduceLT, Nat.reduceEqDiff, Nat.reduceSub, SB, SV.known, packR, ne_eq, reduceCtorEq, Nat.reduceEqDiff, ↓reduceIte, if_true, if_false, eq_self, Nat.reduceAdd, Nat.reduceMul, Nat.reduceSub, forall_const, oneCellS, litOne, flat1, Kd.isSca, flat, TYB]
              refine ⟨by omega, by omega, by omega, i + 1, by omega, by omega, Sub.mk_ext (l := [(n0 + 1, .ints _ _), (n0, .cells _ _)]) ?_ ?_ ?_ ?_ (by omega) (by repeat' first | exact Ext.refl _ | refine Ext.cons hwH (by omega) ?_) (hwf_mono (by omega) hwH)⟩
              all_goals ((try simp only [LB, subS, subH, wfS, wfH, SV.ren, renL, SObj.ren, SV.wf, SObj.wf, wfL, SV.known, Nat.reduceEqDiff, ↓reduceIte, if_true, if_false, eq_self, Nat.reduceAdd, Nat.reduceLT, Nat.reduceLeDiff, implies_true, reduceCtorEq, forall_const]) <;> (try simp [subS, subH, wfS, wfH, SV.ren, renL, SObj.ren, SV.wf, SObj.wf, wfL, sget_cons, hget_cons]) <;> (try omega))
            | succ k =>
              have hk1 : ¬ ((k + 1 : Nat) : Int) = 0 := by omega
              have e1 : ((k + 1 : Nat) : Int) - 1 = k := by omega
              have k1 : 1 ≤ ((k + 1 : Nat) : Int) ∧ ((k + 1 : Nat) : Int) ≤ 100001 := by omega
              have hsum := gsum_gw (K := K) (N := N) (k := k) (x := K.getD i [])
              have hself : (wL K N (k + 1) i).set i 0 = wL K N (k + 1) i := by
                have g := wL_get K N (k + 1) i i hiK
                rw [wE_at hv, List.getD_eq_getElem?_getD, List.getElem?_eq_getElem (by rw [lW]; exact hiK)] at g
                simp only [Option.getD_some] at g
                refine List.ext_getElem (by rw [List.length_set]) fun t h1 h2 => ?_
                rw [List.getElem_set]
                by_cases ht : i = t
                · subst ht; rw [if_pos rfl, g]
                · rw [if_neg ht]
              obtain ⟨g, hg, hg36⟩ := gpL_even K (K.map (lf K N)) (K.getD i []) (k : Int)
              have hc36 := sucC_le (K.getD i [])
              have eg2 : (gpL K (K.map (lf K N)) (K.getD i []) (k : Int)).length / 2 = g := by omega
              generalize hx : K.getD i [] = x at *
              have tkx : List.take 24 x = x := List.take_of_length_le (by omega)
              have hset : ∀ H' : Heap, Ext H H' → ∃ (s' : SN) (A' : Nat → Prop) (m' : Nat) (K' : List (List Int)) (P' : List Int), SV.stc [SV.slice s.f 0 K.length s.cf, SV.slice s.q 0 K.length s.cq, SV.slice s.u 0 1009 1009] = s'.val K'.length ∧ SetH s' A' m' H' K' P' := fun H' hE' => ⟨s, A, m, K, P, rfl, h.mono hE'⟩
              simp -implicitDefEqProofs only [lk_normal, l3Good_F, freshK, Wrap.ap, hil, i0, hb, hf, xb, xb', xf, xf', lV, gV, hv, hk1, e1, k1, lQ, eQ, x24, xr, tkx, ek, eg2, Nat.add_assoc, add_self, self_add, add_add, ZB, Int.reduceToNat, Nat.reduceLT, Nat.reduceLeDiff, Int.reduceLE, Int.reduceLT, Nat.reduceEqDiff, Nat.reduceSub, SB, SV.known, packR, ne_eq, reduceCtorEq, Nat.reduceEqDiff, ↓reduceIte, if_true, if_false, eq_self, Nat.reduceAdd, Nat.reduceMul, Nat.reduceSub, forall_const, oneCellS, litOne, flat1, Kd.isSca, flat, TYB]
              refine ⟨by omega, hset _ (by repeat' first | exact Ext.refl _ | refine Ext.cons hwH (by omega) ?_), ?_⟩
              intro cap junk hj
              have hwB : ∀ W : List Int, hwf (n0 + 3) ((n0 + 2, .ints (gpL K (K.map (lf K N)) x (k : Int) ++ junk) 49) :: (n0 + 1, .ints W 3) :: (n0, .cells [.slice s.f 0 K.length s.cf, .slice s.q 0 K.length s.cq, .slice s.u 0 1009 1009] 42) :: H) := fun W => hwf_cons (hwf_mono (by omega) (hwW W)) (by omega) trivial
              refine loop_intro (fun j : Nat => [(11, .int j), (10, .slice (n0 + 2) 0 g cap), (9, .int i), (8, .int ((k + 1 : Nat) : Int)), (7, .slice (n0 + 1) 0 K.length K.length), (3, .ptr n0 0), (1, .slice b 0 K.length K.length), (2, .int N)])
                (fun j => (n0 + 2, .ints (gpL K (K.map (lf K N)) x (k : Int) ++ junk) 49) :: (n0 + 1, .ints ((wL K N (k + 1) i).set i (gsum (gw K N k) x (gpL K (K.map (lf K N)) x (k : Int)) j)) 3) :: (n0, .cells [.slice s.f 0 K.length s.cf, .slice s.q 0 K.length s.cq, .slice s.u 0 1009 1009] 42) :: H) (n0 + 3) (fun j => j ≤ g) (fun j => g - j) ?_ ?_
              · refine ⟨0, Nat.zero_le _, ?_⟩
                rw [show gsum (gw K N k) x (gpL K (K.map (lf K N)) x (k : Int)) 0 = 0 from rfl, hself]
                exact Sub.same (by simp only [LB, subS, subH, wfS, wfH, SV.ren, renL, SObj.ren, SV.wf, SObj.wf, wfL, SV.known, Nat.reduceEqDiff, ↓reduceIte, if_true, if_false, eq_self, Nat.reduceAdd, Nat.reduceLT, Nat.reduceLeDiff, implies_true, reduceCtorEq, forall_const]) (by simp [subS, subH, wfS, wfH, SV.ren, renL, SObj.ren, SV.wf, SObj.wf, wfL, sget_cons, hget_cons] <;> omega) (hwB _) (by omega)
              · intro j hjg
                have lS : ∀ v : Int, ((wL K N (k + 1) i).set i v).length = K.length := fun v => by rw [List.length_set, lW]
                by_cases hlt : j < g
                · have hjl : (j : Int) < g := by omega
                  have wj := wrap1 j (by omega)
                  have lenP : (gpL K (K.map (lf K N)) x (k : Int) ++ junk).length = cap * 2 := by rw [List.length_append]; omega
                  have hlu := ulF_sucC x
                  obtain ⟨q, hq, hqe, hqp⟩ := kept_pair (np := gpP K (K.map (lf K N)) x (k : Int)) (L := ulF x) (sucC x) (by omega) j (by show j * 2 + 2 ≤ (gpL K (K.map (lf K N)) x (k : Int)).length; omega)
                  have hqe' : ((gpL K (K.map (lf K N)) x (k : Int)).drop (j * 2)).take 2 = ((ulF x).drop (q * 2)).take 2 := hqe
                  rw [take2_drop _ _ (by omega), take2_drop _ _ (by omega)] at hqe'
                  simp only [List.cons.injEq, and_true] at hqe'
                  rw [take2_drop _ _ (by omega)] at hqp
                  have egs : gsum (gw K N k) x (gpL K (K.map (lf K N)) x (k : Int)) (j + 1) = IntKind.i64.wrap (gsum (gw K N k) x (gpL K (K.map (lf K N)) x (k : Int)) j + gw K N k (frm (pourF x ((gpL K (K.map (lf K N)) x (k : Int)).getD (j * 2) 0).toNat ((gpL K (K.map (lf K N)) x (k : Int)).getD (j * 2 + 1) 0).toNat))) := rfl
                  rw [hqe'.1, hqe'.2] at egs
                  have eP0 : (gpL K (K.map (lf K N)) x (k : Int) ++ junk).getD (j * 2) 0 = (ulF x).getD (q * 2) 0 := by rw [getD_app _ _ _ (by omega)]; exact hqe'.1
                  have eP1 : (gpL K (K.map (lf K N)) x (k : Int) ++ junk).getD (j * 2 + 1) 0 = (ulF x).getD (q * 2 + 1) 0 := by rw [getD_app _ _ _ (by omega)]; exact hqe'.2
                  obtain ⟨a0, b0⟩ := ul_bd (R := x) (q := q) (by omega)
                  have pl := pourF_len x24 ((ulF x).getD (q * 2) 0).toNat ((ulF x).getD (q * 2 + 1) 0).toNat
                  have tkp := List.take_of_length_le (Nat.le_of_eq pl)
                  have xl := diX_len x24 q
                  have xrr := diX_rack x24 xr hq
                  have hyy : gpP K (K.map (lf K N)) x (k : Int) [(ulF x).getD (q * 2) 0, (ulF x).getD (q * 2 + 1) 0] = (decide (diX x q ∈ K) && decide ((K.map (lf K N)).getD (idx K (diX x q)).toNat 0 = (k : Int))) := rfl
                  rw [hyy] at hqp
                  simp only [Bool.and_eq_true, decide_eq_true_eq] at hqp
                  obtain ⟨t, hid, htK, htk⟩ := idx_in hqp.1
                  have hlt2 : lf K N (K.getD t []) = (k : Int) := by
                    have h2 := hqp.2
                    rw [hid, Int.toNat_natCast, List.getD_eq_getElem?_getD, List.getElem?_map, List.getElem?_eq_getElem htK] at h2
                    rw [List.getD_eq_getElem?_getD, List.getElem?_eq_getElem htK]
                    exact h2
                  have hti : i ≠ t := fun e => by
                    rw [← e, hx, hv] at hlt2
                    omega
                  have t0 : 0 ≤ (t : Int) := by omega
                  have tK : (t : Int) < (K.length : Int) := by omega
                  have gT : ∀ v : Int, ((wL K N (k + 1) i).set i v).getD t 0 = gw K N k (diX x q) := fun v => by
                    have g1 := wL_get K N (k + 1) i t htK
                    rw [wE_low hlt2, htk] at g1
                    rw [List.getD_eq_getElem?_getD, List.getElem?_set_ne hti, ← List.getD_eq_getElem?_getD]
                    exact g1
                  have gI : ∀ v : Int, ((wL K N (k + 1) i).set i v).getD i 0 = v := fun v => by
                    rw [List.getD_eq_getElem?_getD, List.getElem?_set_self (by rw [lW]; exact hiK)]; rfl
                  have ss : ∀ v w : Int, ((wL K N (k + 1) i).set i v).set i w = (wL K N (k + 1) i).set i w := fun v w => List.set_set ..
                  have ex : frm (pourF x ((ulF x).getD (q * 2) 0).toNat ((ulF x).getD (q * 2 + 1) 0).toNat) = diX x q := rfl
                  rw [ex] at egs
                  generalize gsum (gw K N k) x (gpL K (K.map (lf K N)) x (k : Int)) j = gj at *
                  simp -implicitDefEqProofs only [lk_normal, l2Pour_F, l3Form_F, l3At_F, hjl, hil, i0, hb, hf, xb, xb', xf, xf', lQ, eQ, x24, xr, tkx, lenP, eP0, eP1, a0, b0, pl, tkp, ex, xl, xrr, hid, t0, tK, gT, gI, lS, ss, wj, ek, Nat.add_assoc, add_self, self_add, add_add, ZB, Int.reduceToNat, Nat.reduceLT, Nat.reduceLeDiff, Int.reduceLE, Int.reduceLT, Nat.reduceEqDiff, Nat.reduceSub, SB, SV.known, packR, ne_eq, reduceCtorEq, Nat.reduceEqDiff, ↓reduceIte, if_true, if_false, eq_self, Nat.reduceAdd, Nat.reduceMul, Nat.reduceSub, forall_const, oneCellS, litOne, flat1, Kd.isSca, flat, TYB]
                  refine ⟨by omega, by omega, by omega, by omega, by omega, by omega, hset _ (by repeat' first | exact Ext.refl _ | refine Ext.cons hwH (by omega) ?_), by omega, by omega, by omega, j + 1, by omega, by omega, ?_⟩
                  rw [egs]
                  refine Sub.mk_ext (l := [(n0 + 2, .ints _ _), (n0 + 1, .ints _ _), (n0, .cells _ _)]) ?_ ?_ ?_ ?_ (by omega) (by repeat' first | exact Ext.refl _ | refine Ext.cons hwH (by omega) ?_) (hwf_mono (by omega) hwH)
                  all_goals ((try simp only [LB, subS, subH, wfS, wfH, SV.ren, renL, SObj.ren, SV.wf, SObj.wf, wfL, SV.known, Nat.reduceEqDiff, ↓reduceIte, if_true, if_false, eq_self, Nat.reduceAdd, Nat.reduceLT, Nat.reduceLeDiff, implies_true, reduceCtorEq, forall_const]) <;> (try simp [subS, subH, wfS, wfH, SV.ren, renL, SObj.ren, SV.wf, SObj.wf, wfL, sget_cons, hget_cons]) <;> (try omega))
                · have hjl : ¬ (j : Int) < g := by omega
                  obtain rfl : j = g := by omega
                  have hgw : gsum (gw K N k) x (gpL K (K.map (lf K N)) x (k : Int)) j = gw K N (k + 1) x := by rw [← eg2]; exact hsum
                  rw [hgw, es]
                  simp -implicitDefEqProofs only [lk_normal, hjl, wi, ZB, Int.reduceToNat, Nat.reduceLT, Nat.reduceLeDiff, Int.reduceLE, Int.reduceLT, Nat.reduceEqDiff, Nat.reduceSub, SB, SV.known, packR, ne_eq, reduceCtorEq, Nat.reduceEqDiff, ↓reduceIte, if_true, if_false, eq_self, Nat.reduceAdd, Nat.reduceMul, Nat.reduceSub, forall_const, oneCellS, litOne, flat1, Kd.isSca, flat, TYB]
                  refine ⟨i + 1, by omega, by omega, Sub.mk_ext (l := [(n0 + 1, .ints _ _), (n0, .cells _ _)]) ?_ ?_ ?_ ?_ (by omega) (by repeat' first | exact Ext.refl _ | refine Ext.cons hwH (by omega) ?_) (hwf_mono (by omega) hwH)⟩
                  all_goals ((try simp only [LB, subS, subH, wfS, wfH, SV.ren, renL, SObj.ren, SV.wf, SObj.wf, wfL, SV.known, Nat.reduceEqDiff, ↓reduceIte, if_true, if_false, eq_self, Nat.reduceAdd, Nat.reduceLT, Nat.reduceLeDiff, implies_true, reduceCtorEq, forall_const]) <;> (try simp [subS, subH, wfS, wfH, SV.ren, renL, SObj.ren, SV.wf, SObj.wf, wfL, sget_cons, hget_cons]) <;> (try omega))
          · have es := wL_skip (i := i) hv
            simp -implicitDefEqProofs only [lk_normal, hil, i0, hb, xb, xb', lV, gV, hv, wi, Nat.add_assoc, add_self, self_add, add_add, ZB, Int.reduceToNat, Nat.reduceLT, Nat.reduceLeDiff, Int.reduceLE, Int.reduceLT, Nat.reduceEqDiff, Nat.reduceSub, SB, SV.known, packR, ne_eq, reduceCtorEq, Nat.reduceEqDiff, ↓reduceIte, if_true, if_false, eq_self, Nat.reduceAdd, Nat.reduceMul, Nat.reduceSub, forall_const, oneCellS, litOne, flat1, Kd.isSca, flat, TYB]
            rw [es]
            refine ⟨by omega, i + 1, by omega, by omega, Sub.mk_ext (l := [(n0 + 1, .ints _ _), (n0, .cells _ _)]) ?_ ?_ ?_ ?_ (by omega) (by repeat' first | exact Ext.refl _ | refine Ext.cons hwH (by omega) ?_) (hwf_mono (by omega) hwH)⟩
            all_goals ((try simp only [LB, subS, subH, wfS, wfH, SV.ren, renL, SObj.ren, SV.wf, SObj.wf, wfL, SV.known, Nat.reduceEqDiff, ↓reduceIte, if_true, if_false, eq_self, Nat.reduceAdd, Nat.reduceLT, Nat.reduceLeDiff, implies_true, reduceCtorEq, forall_const]) <;> (try simp [subS, subH, wfS, wfH, SV.ren, renL, SObj.ren, SV.wf, SObj.wf, wfL, sget_cons, hget_cons]) <;> (try omega))
        · have hil : ¬ (i : Int) < K.length := by omega
          obtain rfl : i = K.length := by omega
          have wk := wrap1 k (by omega)
          rw [wL_next]
          simp -implicitDefEqProofs only [lk_normal, hil, wk, ZB, Int.reduceToNat, Nat.reduceLT, Nat.reduceLeDiff, Int.reduceLE, Int.reduceLT, Nat.reduceEqDiff, Nat.reduceSub, SB, SV.known, packR, ne_eq, reduceCtorEq, Nat.reduceEqDiff, ↓reduceIte, if_true, if_false, eq_self, Nat.reduceAdd, Nat.reduceMul, Nat.reduceSub, forall_const, oneCellS, litOne, flat1, Kd.isSca, flat, TYB]
          refine ⟨k + 1, by omega, by omega, Sub.mk_ext (l := [(n0 + 1, .ints _ _), (n0, .cells _ _)]) ?_ ?_ ?_ ?_ (by omega) (by repeat' first | exact Ext.refl _ | refine Ext.cons hwH (by omega) ?_) (hwf_mono (by omega) hwH)⟩
          all_goals ((try simp only [LB, subS, subH, wfS, wfH, SV.ren, renL, SObj.ren, SV.wf, SObj.wf, wfL, SV.known, Nat.reduceEqDiff, ↓reduceIte, if_true, if_false, eq_self, Nat.reduceAdd, Nat.reduceLT, Nat.reduceLeDiff, implies_true, reduceCtorEq, forall_const]) <;> (try simp [subS, subH, wfS, wfH, SV.ren, renL, SObj.ren, SV.wf, SObj.wf, wfL, sget_cons, hget_cons]) <;> (try omega))
    · have hkl : ¬ (k : Int) ≤ N := by omega
      obtain rfl : k = N + 1 := by omega
      have lW := wL_len K N (N + 1) 0
      have gW := wL_get K N (N + 1) 0 0 hK
      rw [wE_low h0] at gW
      simp -implicitDefEqProofs only [lk_normal, hkl, lW, gW, ZB, Int.reduceToNat, Nat.reduceLT, Nat.reduceLeDiff, Int.reduceLE, Int.reduceLT, Nat.reduceEqDiff, Nat.reduceSub, SB, SV.known, packR, ne_eq, reduceCtorEq, Nat.reduceEqDiff, ↓reduceIte, if_true, if_false, eq_self, Nat.reduceAdd, Nat.reduceMul, Nat.reduceSub, forall_const, oneCellS, litOne, flat1, Kd.isSca, flat, TYB]
      exact ⟨by omega, hK⟩
end Go.Proofs.Ytaopbefklkbmeaa
set_option maxRecDepth 100000
set_option linter.unusedSimpArgs false
set_option linter.unusedVariables false
namespace Go.Proofs.Ytaopbefklkbmeaa
open Go Go.RowKit
def l3Ways_F : List SV → Heap → Option (Prop × SV)
  | [.stc [.slice f 0 len cf, v2, v3], .slice b 0 l2 c2, .int N], H => match hget H f, hget H b with
    | some (.ints L _), some (.ints V e) => some ((∃ (s : SN) (A : Nat → Prop) (m : Nat) (K : List (List Int)) (P : List Int), SV.stc [.slice f 0 len cf, v2, v3] = s.val K.length ∧ SetH s A m H K P) ∧ (e = 3 ∧ l2 = len ∧ c2 = len ∧ V = (chkR L 0 len).map (lf (chkR L 0 len) N.toNat)) ∧ (0 ≤ N ∧ N ≤ 100000) ∧ 0 < len ∧ lf (chkR L 0 len) N.toNat ((chkR L 0 len).getD 0 []) = N, .int (gw (chkR L 0 len) N.toNat N.toNat ((chkR L 0 len).getD 0 [])))
    | _, _ => none
  | _, _ => none
--@tbl l3Ways = spec.l3Ways
theorem l3Ways_T : ∀ args H n p, l3Ways_F args H = some (n, p) → n → PureH Try.prog 33 args H p := by
  intro args H p v h hp
  unfold l3Ways_F at h
  split at h
  · rename_i f len cf v2 v3 b l2 c2 N
    split at h
    · rename_i L e V e' hf hb
      cases h
      obtain ⟨⟨s, A, m, K, P, hs, hS⟩, ⟨he, h2, h3, hV⟩, ⟨hN0, hN⟩, hK, h0⟩ := hp
      have e1 : f = s.f ∧ len = K.length := by
        unfold SN.val at hs
        simp only [SV.stc.injEq, List.cons.injEq, SV.slice.injEq] at hs
        exact ⟨hs.1.1, hs.1.2.2.1⟩
      obtain ⟨rfl, rfl⟩ := e1
      subst he; subst h2; subst h3
      obtain ⟨N, rfl⟩ := Int.eq_ofNat_of_zero_le hN0
      have hL := hS.f
      rw [hf] at hL
      cases hL
      rw [chkR_of hS.ok.all24] at hV h0 ⊢
      rw [Int.toNat_natCast] at hV h0 ⊢
      rw [hs]
      exact l3Ways_ok s A m H K P b N hS (by rw [← hV]; exact hb) (by omega) hK h0
    · cases h
  · cases h
def cwF (R : List Int) : Int := if fpB R = true then cw R (dep sortB R) (dep sortB R) (frm R) else 0
theorem kn_head (R : List Int) : ∀ d, ∃ r, kn R d = frm R :: r
  | 0 => ⟨[], rfl⟩
  | d + 1 => by
    obtain ⟨r, h⟩ := kn_head R d
    exact ⟨r ++ lay R (d + 1), by rw [kn_succ, h]; rfl⟩
theorem dep_600 {R : List Int} (hu : unB sortB R = true) : dep sortB R ≤ 700 ∧ ovf R (dep sortB R) = false := by
  have ho : ovf R (dep sortB R) = false := by
    unfold unB at hu
    rw [Bool.and_eq_true] at hu
    simpa using hu.1
  refine ⟨?_, ho⟩
  have h2 := pass_len (pr := sortB) (R := R) (d := dep sortB R) fun k hk => dep_low hk
  unfold ovf at ho
  have h3 := of_decide_eq_false ho
  split at h2 <;> omega
theorem fnx_CountWays : FnOK Try.prog 11 Try.f11 (Try.f11.body.getD .skip) [16] [(5, .tree (.one 1 (.one 2 (.one 4 (.alt 0 (.one 3 (.one 5 (.one 6 (.one 7 .done)))) (.alt 3 (.one 0 (.one 5 (.one 6 (.one 7 .done)))) .stop))))))] := ⟨Try.func11, rfl, by kernel_rfl, by kernel_rfl⟩
--@tbl sCountWays = spec.CountWays
theorem sCountWays_ok (R : List Int) (hR : R.length = 24) : PureH Try.prog 11 [.arr R] [] (.tup [.int (cwF R), .bool (fpB R)]) := by
  have tkR : R.take 24 = R := List.take_of_length_le (by omega)
  refine pure_of_vc (X := ⟨Try.prog, tys, [(32, sFewestPours_F), (33, l3Ways_F)], [(14, l3Upto_F), (16, l3Left_F)], true, true, 0, [16], [(5, .tree (.one 1 (.one 2 (.one 4 (.alt 0 (.one 3 (.one 5 (.one 6 (.one 7 .done)))) (.alt 3 (.one 0 (.one 5 (.one 6 (.one 7 .done)))) .stop))))))]⟩) fnx_CountWays ⟨tys_ok, .cons sFewestPours_T (.cons l3Ways_T .nil), .cons l3Upto_T (.cons l3Left_T .nil), mixed⟩ (n0 := 0) (Nat.le_of_ble_eq_true rfl) (by simp [wfL, SV.wf]) (hwf_nil _) (Nat.le_refl _) (fun _ => by simp [SV.wf, wfL]) ?_
  unfold cwF
  cases hb : fpB R
  · simp -implicitDefEqProofs only [Try.f11, Option.getD_some, argS, sFewestPours_F, hR, tkR, hb, Nat.add_assoc, add_self, self_add, add_add, ZB, Int.reduceToNat, Nat.reduceLT, Nat.reduceLeDiff, Int.reduceLE, Int.reduceLT, Nat.reduceEqDiff, Nat.reduceSub, SB, SV.known, packR, ne_eq, reduceCtorEq, Nat.reduceEqDiff, ↓reduceIte, if_true, if_false, eq_self, Nat.reduceAdd, Nat.reduceMul, Nat.reduceSub, forall_const, oneCellS, litOne, flat1, Kd.isSca, flat, TYB]
    try simp
  · have hbb := hb
    unfold fpB at hbb
    rw [Bool.and_eq_true] at hbb
    obtain ⟨hr, hu⟩ := hbb
    have eF : fpF R = ((dep sortB R : Nat) : Int) := if_pos hb
    obtain ⟨hd7, hov⟩ := dep_600 hu
    obtain ⟨c1, c2⟩ := cw_start hu
    generalize hD : dep sortB R = D at *
    simp -implicitDefEqProofs only [Try.f11, Option.getD_some, argS, sFewestPours_F, l3Upto_F, hR, hr, tkR, hb, eF, Nat.add_assoc, add_self, self_add, add_add, ZB, Int.reduceToNat, Nat.reduceLT, Nat.reduceLeDiff, Int.reduceLE, Int.reduceLT, Nat.reduceEqDiff, Nat.reduceSub, SB, SV.known, packR, ne_eq, reduceCtorEq, Nat.reduceEqDiff, ↓reduceIte, if_true, if_false, eq_self, Nat.reduceAdd, Nat.reduceMul, Nat.reduceSub, forall_const, oneCellS, litOne, flat1, Kd.isSca, flat, TYB]
    refine ⟨by omega, fun k => k = 0, fun k h => by omega, fun s K P o d H1 n1 h1 h2 h3 h4 h5 h6 h7 => ?_⟩
    have hdD : d ≤ D := by rcases h6 with h6 | h6 <;> omega
    have hR1 := h4 0 _ rfl (show hget [(0, SObj.ints R 29)] 0 = some (.ints R 29) by simp [hget_cons])
    have z1 : (0 = n1) = False := by simp; omega
    have z2 : (n1 = 0) = False := by simp; omega
    rcases h7 with ⟨rfl, rfl, rfl, h8, h9⟩ | ⟨rfl, h8⟩
    · have ek0 : kn R d = kn R D := by
        rcases h9 with h9 | h9
        · obtain rfl : d = D := by omega
          rfl
        · exact ((lay_nil R h9 D hdD).2).symm
      have hl0 : lvl R d = lvl R d := rfl
      rw [ek0] at h3 h8 ⊢
      obtain ⟨r, hkr⟩ := kn_head R D
      have hk0 : (kn R D).getD 0 [] = frm R := by rw [hkr]; rfl
      have hkl : 0 < (kn R D).length := by rw [hkr]; simp
      generalize kn R D = K at *
      generalize lvl R d = P at *
      obtain ⟨w1, w2, w3⟩ := h3.wf h2
      have hf := h3.f
      have ok24 := h3.ok.all24
      have ek : chkR (K.flatten ++ s.J1) 0 K.length = K := chkR_of ok24 s.J1
      have xf := ne_add w1; have xf' := ne_add' w1
      have x0 := ne_add (k := 0) (n := n1) (by omega); have x0' := add_ne (k := 0) (n := n1) (by omega)
      unfold SN.val
      have hset : ∀ H' : Heap, Ext H1 H' → ∃ (s' : SN) (A' : Nat → Prop) (m' : Nat) (K' : List (List Int)) (P' : List Int), SV.stc [SV.slice s.f 0 K.length s.cf, SV.slice s.q 0 K.length s.cq, SV.slice s.u 0 1009 1009] = s'.val K'.length ∧ SetH s' A' m' H' K' P' := fun H' hE' => ⟨s, _, 0, K, P, rfl, h3.mono hE'⟩
      simp -implicitDefEqProofs only [z1, z2, hR1, hf, hR, tkR, xf, xf', x0, x0', ek, hk0, Nat.add_assoc, add_self, self_add, add_add, ZB, Int.reduceToNat, Nat.reduceLT, Nat.reduceLeDiff, Int.reduceLE, Int.reduceLT, Nat.reduceEqDiff, Nat.reduceSub, SB, SV.known, packR, ne_eq, reduceCtorEq, Nat.reduceEqDiff, ↓reduceIte, if_true, if_false, eq_self, Nat.reduceAdd, Nat.reduceMul, Nat.reduceSub, forall_const, oneCellS, litOne, flat1, Kd.isSca, flat, TYB]
      refine ⟨Unit, fun _ => [(3, .bool true), (2, .int (gw K D D (frm R)))], fun _ => H1, fun _ => n1, ?_, fun _ => ?_⟩
      · simp -implicitDefEqProofs only [l3Left_F, l3Ways_F, z1, z2, hR1, hf, hR, tkR, xf, xf', x0, x0', ek, hk0, c1, hkl, Int.toNat_natCast, Nat.add_assoc, add_self, self_add, add_add, ZB, Int.reduceToNat, Nat.reduceLT, Nat.reduceLeDiff, Int.reduceLE, Int.reduceLT, Nat.reduceEqDiff, Nat.reduceSub, SB, SV.known, packR, ne_eq, reduceCtorEq, Nat.reduceEqDiff, ↓reduceIte, if_true, if_false, eq_self, Nat.reduceAdd, Nat.reduceMul, Nat.reduceSub, forall_const, oneCellS, litOne, flat1, Kd.isSca, flat, TYB]
        repeat' first
          | apply And.intro
          | exact hset _ (by repeat' first | exact Ext.refl _ | refine Ext.cons h2 (by omega) ?_)
          | omega
          | rfl
          | exact ⟨(), Sub.mk_ext (l := []) (by simp only [LB, subS, subH, wfS, wfH, SV.ren, renL, SObj.ren, SV.wf, SObj.wf, wfL, SV.known, Nat.reduceEqDiff, ↓reduceIte, if_true, if_false, eq_self, Nat.reduceAdd, Nat.reduceLT, Nat.reduceLeDiff, implies_true, reduceCtorEq, forall_const]) (by simp only [LB, subS, subH, wfS, wfH, SV.ren, renL, SObj.ren, SV.wf, SObj.wf, wfL, SV.known, Nat.reduceEqDiff, ↓reduceIte, if_true, if_false, eq_self, Nat.reduceAdd, Nat.reduceLT, Nat.reduceLeDiff, implies_true, reduceCtorEq, forall_const]) (by simp only [LB, subS, subH, wfS, wfH, SV.ren, renL, SObj.ren, SV.wf, SObj.wf, wfL, SV.known, Nat.reduceEqDiff, ↓reduceIte, if_true, if_false, eq_self, Nat.reduceAdd, Nat.reduceLT, Nat.reduceLeDiff, implies_true, reduceCtorEq, forall_const]) (by simp only [LB, subS, subH, wfS, wfH, SV.ren, renL, SObj.ren, SV.wf, SObj.wf, wfL, SV.known, Nat.reduceEqDiff, ↓reduceIte, if_true, if_false, eq_self, Nat.reduceAdd, Nat.reduceLT, Nat.reduceLeDiff, implies_true, reduceCtorEq, forall_const]) (by omega) (by repeat' first | exact Ext.refl _ | refine Ext.cons h2 (by omega) ?_) h2⟩
      · simp -implicitDefEqProofs only [lk_normal, ZB, Int.reduceToNat, Nat.reduceLT, Nat.reduceLeDiff, Int.reduceLE, Int.reduceLT, Nat.reduceEqDiff, Nat.reduceSub, SB, SV.known, packR, ne_eq, reduceCtorEq, Nat.reduceEqDiff, ↓reduceIte, if_true, if_false, eq_self, Nat.reduceAdd, Nat.reduceMul, Nat.reduceSub, forall_const, oneCellS, litOne, flat1, Kd.isSca, flat, TYB]
        rw [c2]
    · rw [ovf_mono hdD h8] at hov; cases hov
def sCountWays_F : List SV → Heap → Option (Prop × SV)
  | [.arr R], _ => some (R.length = 24, .tup [.int (cwF R), .bool (fpB R)])
  | _, _ => none
theorem sCountWays_T : ∀ args H p v, sCountWays_F args H = some (p, v) → p → PureH Try.prog 11 args H v := by
  intro args H p v h hp
  unfold sCountWays_F at h
  split at h
  · cases h; exact (sCountWays_ok _ hp).any _
  · cases h
end Go.Proofs.Ytaopbefklkbmeaa
set_option maxRecDepth 100000
set_option linter.unusedSimpArgs false
set_option linter.unusedVariables false
namespace Go.Proofs.Ytaopbefklkbmeaa
open Go Go.RowKit
theorem mget_app (K : List Int) : ∀ (l m : List (List Int × Int)), mget (l ++ m) K = if mhas l K = true then mget l K else mget m K
  | [], m => rfl
  | (k, v) :: l, m => by
    show (if K = k then v else mget (l ++ m) K) = if (if K = k then true else mhas l K) = true then (if K = k then v else mget l K) else mget m K
    by_cases h : K = k
    · simp [h]
    · simp only [if_neg h]; exact mget_app K l m
theorem mget_rep (x : List Int) (v : Int) : ∀ L : List (List Int), x ∈ L → mget (L.zip (List.replicate L.length v)) x = v
  | [], h => by cases h
  | y :: L, h => by
    show (if x = y then v else mget (L.zip (List.replicate L.length v)) x) = v
    by_cases hx : x = y
    · rw [if_pos hx]
    · rw [if_neg hx]; exact mget_rep x v L ((List.mem_cons.1 h).resolve_left hx)
theorem mget_lvl {R x : List Int} : ∀ (D l : Nat), l ≤ D → x ∈ lay R l → mget ((kn R D).zip (lvl R D)) x = (l : Int)
  | 0, l, h, hx => by
    obtain rfl : l = 0 := by omega
    have : x = frm R := by rw [lay_zero] at hx; exact List.mem_singleton.1 hx
    rw [kn_zero, lvl_zero, this]
    show (if frm R = frm R then (0 : Int) else _) = _
    rw [if_pos rfl]; rfl
  | D + 1, l, h, hx => by
    rw [kn_succ, lvl_succ, List.zip_append (lvl_len R D).symm, mget_app, mhas_zip x (lvl_len R D).symm]
    by_cases hl : l = D + 1
    · subst hl
      have hn : x ∉ kn R D := by rw [lay_succ] at hx; exact (nwF_sub _ _ x hx).2
      rw [if_neg (by simpa using hn)]
      exact mget_rep x _ _ hx
    · rw [if_pos (by simpa using lay_in_kn (show l ≤ D by omega) hx)]
      exact mget_lvl D l (by omega) hx
theorem lay_iff {R x : List Int} {D n : Nat} (hn : n ≤ D) : (x ∈ lay R n) ↔ (x ∈ kn R D ∧ mget ((kn R D).zip (lvl R D)) x = (n : Int)) := by
  constructor
  · intro h; exact ⟨lay_in_kn hn h, mget_lvl D n hn h⟩
  · rintro ⟨h1, h2⟩
    obtain ⟨l, g1, g2⟩ := kn_lay D h1
    rw [mget_lvl D l g1 g2] at h2
    have : l = n := by omega
    rw [← this]; exact g2
theorem mget_mset (x z : List Int) (v : Int) : ∀ l : List (List Int × Int), mget (mset l x v) z = if z = x then v else mget l z
  | [] => by
    show (if z = x then v else 0) = if z = x then v else 0
    rfl
  | (k, u) :: l => by
    show mget (if x = k then (k, v) :: l else (k, u) :: mset l x v) z = if z = x then v else (if z = k then u else mget l z)
    by_cases h : x = k
    · subst h
      rw [if_pos rfl]
      show (if z = x then v else mget l z) = _
      by_cases hz : z = x
      · simp [hz]
      · simp [hz]
    · rw [if_neg h]
      show (if z = k then u else mget (mset l x v) z) = _
      rw [mget_mset x z v l]
      by_cases hz : z = k
      · subst hz; simp [Ne.symm h]
      · simp [hz]
theorem mhas_mset (x z : List Int) (v : Int) : ∀ l : List (List Int × Int), mhas (mset l x v) z = if z = x then true else mhas l z
  | [] => by
    show (if z = x then true else false) = if z = x then true else false
    rfl
  | (k, u) :: l => by
    show mhas (if x = k then (k, v) :: l else (k, u) :: mset l x v) z = if z = x then true else (if z = k then true else mhas l z)
    by_cases h : x = k
    · subst h
      rw [if_pos rfl]
      show (if z = x then true else mhas l z) = _
      by_cases hz : z = x
      · simp [hz]
      · simp [hz]
    · rw [if_neg h]
      show (if z = k then true else mhas (mset l x v) z) = _
      rw [mhas_mset x z v l]
      by_cases hz : z = k
      · subst hz; simp
      · simp [hz]
theorem keys_mset {l : List (List Int × Int)} {x : List Int} {v : Int} {s : Nat} (h : keysOK l s) (hx : x.length = s) : keysOK (mset l x v) s := by
  induction l with
  | nil =>
    intro q hq
    have : q = (x, v) := by simpa [mset] using hq
    rw [this]; exact hx
  | cons a l ih =>
    obtain ⟨k, u⟩ := a
    intro q hq
    have hk := h (k, u) (List.mem_cons_self ..)
    have hr : keysOK l s := fun q hq => h q (List.mem_cons_of_mem _ hq)
    have hq' : q ∈ (if x = k then (k, v) :: l else (k, u) :: mset l x v) := hq
    split at hq'
    · rcases List.mem_cons.1 hq' with rfl | hq'
      · exact hk
      · exact hr q hq'
    · rcases List.mem_cons.1 hq' with rfl | hq'
      · exact hk
      · exact ih hr q hq'
/-- What the memory of ways holds. -/
def InvW (R : List Int) (D : Nat) (l : List (List Int × Int)) : Prop := keysOK l 24 ∧ ∀ x j, j < D → x ∈ lay R (D - (j + 1)) → mhas l x = true → mget l x = cw R D (j + 1) x
theorem InvW_nil (R : List Int) (D : Nat) : InvW R D [] := ⟨fun q hq => by simp at hq, fun x j _ _ h => by cases h⟩
theorem lay_one {R x : List Int} {D a b : Nat} (ha : a ≤ D) (hb : b ≤ D) (h1 : x ∈ lay R a) (h2 : x ∈ lay R b) : a = b := by
  have e1 := mget_lvl D a ha h1
  have e2 := mget_lvl D b hb h2
  omega
theorem InvW_set {R : List Int} {D j : Nat} {l : List (List Int × Int)} {x : List Int} (h : InvW R D l) (hj : j < D) (hx : x ∈ lay R (D - (j + 1))) (h24 : x.length = 24) : InvW R D (mset l x (cw R D (j + 1) x)) := by
  refine ⟨keys_mset h.1 h24, fun z i hi hz hm => ?_⟩
  rw [mget_mset]
  rw [mhas_mset] at hm
  by_cases hzx : z = x
  · subst hzx
    rw [if_pos rfl]
    have := lay_one (D := D) (by omega) (by omega) hz hx
    have : i = j := by omega
    rw [this]
  · rw [if_neg hzx] at hm ⊢
    exact h.2 z i hi hz hm
def asum (R : List Int) (D j : Nat) (x : List Int) (k : Nat) : Int := ((List.range k).map (diX x)).foldl (fun a y => addW a (cw R D j y)) 0
theorem asum_succ (R : List Int) (D j : Nat) (x : List Int) (k : Nat) : asum R D j x (k + 1) = IntKind.i64.wrap (asum R D j x k + cw R D j (diX x k)) := by
  unfold asum
  rw [List.range_succ, List.map_append, List.foldl_append]; rfl
theorem asum_end {R : List Int} {D j : Nat} {x : List Int} (h : x ∈ lay R (D - (j + 1))) : asum R D j x (sucC x) = cw R D (j + 1) x := by
  rw [show cw R D (j + 1) x = (sucU x).foldl (fun a y => addW a (cw R D j y)) 0 from if_pos h]; rfl
/-- The count from a rack, so far from the end. -/
def count_F (R : List Int) (D j : Nat) : List SV → Heap → Nat → Nat → K1 → Prop
  | [.ptr p 0, .arr y, .int i], H, n, m, κ => match hget H p with
    | some (.cells [.ptr q 0, .mp wm] _) => match hget H q with
      | some (.cells [.mp lv, _, .int d] _) => match hget H lv, hget H wm with
        | some (.mp false L), some (.mp false l) => (y.length = 24 ∧ rackB y = true) ∧ (j ≤ D ∧ i = ((D - j : Nat) : Int) ∧ d = (D : Int) ∧ L = (kn R D).zip (lvl R D)) ∧ InvW R D l ∧ (m ≤ wm ∧ lv ≠ wm) ∧
          ∀ l' H' n', InvW R D l' → n ≤ n' → hwf n' H' → hget H' wm = some (.mp false l') → (∀ k o, k ≠ wm → hget H k = some o → hget H' k = some o) → κ (.int (cw R D j (frm y))) H' n'
        | _, _ => False
      | _ => False
    | _ => False
  | _, _, _, _, _ => False
end Go.Proofs.Ytaopbefklkbmeaa
set_option maxRecDepth 100000
set_option linter.unusedSimpArgs false
set_option linter.unusedVariables false
namespace Go.Proofs.Ytaopbefklkbmeaa
open Go Go.RowKit
theorem count_vc0 (R : List Int) (D p q lv wm m n : Nat) (lvv : SV) (e1 e2 : Nat) (l : List (List Int × Int)) (y : List Int) (H : Heap) (hwH : hwf n H) (hp : hget H p = some (.cells [.ptr q 0, .mp wm] e1)) (hq : hget H q = some (.cells [.mp lv, lvv, .int (D : Int)] e2))
    (hl : hget H lv = some (.mp false ((kn R D).zip (lvl R D)))) (hw : hget H wm = some (.mp false l)) (hy : y.length = 24) (hr : rackB y = true) (hok : okU (kn R D)) (hI : InvW R D l) (hm : m ≤ wm) (hD : D ≤ 1000) (κ : SV → Heap → Nat → Prop)
    (hκ : ∀ l' H' n', InvW R D l' → n ≤ n' → hwf n' H' → hget H' wm = some (.mp false l') → (∀ k o, k ≠ wm → hget H k = some o → hget H' k = some o) → κ (.int (cw R D 0 (frm y))) H' n') :
    codeVC (⟨Try.prog, tys, [(52, formOf_F), (26, isSorted_F)], [], false, true, m, [], []⟩ : Cx) n (Try.f35.body.getD .skip) (argS 0 [.ptr p 0, .arr y, .int (D : Int)]) H n (retK tys Try.f35.results.toList κ) := by
  have tky : y.take 24 = y := List.take_of_length_le (by omega)
  have fl := frm_len hy
  have tkf := List.take_of_length_le (Nat.le_of_eq fl)
  have fr := rack_frm hy hr
  have kI := keyI_rack
  have k24 := zip_keys (lvl R D) hok.all24
  have p0 := (hwH p _ hp).1; have q0 := (hwH q _ hq).1; have l0 := (hwH lv _ hl).1; have w0 := (hwH wm _ hw).1
  have yp := ne_add p0; have yp' := ne_add' p0; have yq := ne_add q0; have yq' := ne_add' q0; have yl := ne_add l0; have yl' := ne_add' l0; have yw := ne_add w0; have yw' := ne_add' w0
  have hmh := mhas_zip (frm y) (lvl_len R D).symm
  have hE3 : ∀ k o, hget H k = some o → hget ((n + 1, SObj.ints (frm y) 29) :: (n + 1, SObj.ints (List.replicate 24 0) 29) :: (n, SObj.ints y 29) :: H) k = some o := fun k o ho => by
    have := (hwH k o ho).1
    rw [hget_cons, if_neg (by omega), hget_cons, if_neg (by omega), hget_cons, if_neg (by omega)]; exact ho
  have hfin : κ (.int (cw R D 0 (frm y))) ((n + 1, SObj.ints (frm y) 29) :: (n + 1, SObj.ints (List.replicate 24 0) 29) :: (n, SObj.ints y 29) :: H) (n + 2) := hκ l _ _ hI (by omega) (hwf_cons (hwf_cons (hwf_cons (hwf_mono (by omega) hwH) (by omega) trivial) (by omega) trivial) (by omega) trivial) (hE3 _ _ hw) (fun k o _ ho => hE3 k o ho)
  have hlay := lay_iff (R := R) (x := frm y) (D := D) (n := D) (Nat.le_refl _)
  by_cases hk : frm y ∈ kn R D
  · rw [decide_eq_true hk] at hmh
    by_cases hg : mget ((kn R D).zip (lvl R D)) (frm y) = (D : Int)
    · have hx : frm y ∈ lay R D := hlay.2 ⟨hk, hg⟩
      cases hs : sortB (frm y)
      · have ev : cw R D 0 (frm y) = 0 := if_neg fun h => by rw [hs] at h; cases h.2
        rw [ev] at hfin
        simp -implicitDefEqProofs only [Try.f35, Option.getD_some, argS, formOf_F, isSorted_F, hp, hq, hl, hw, hy, tky, fl, tkf, fr, kI, k24, hmh, hg, hs, yp, yp', yq, yq', yl, yl', yw, yw', Nat.add_assoc, add_self, self_add, add_add, ZB, Int.reduceToNat, Nat.reduceLT, Nat.reduceLeDiff, Int.reduceLE, Int.reduceLT, Nat.reduceEqDiff, Nat.reduceSub, SB, SV.known, packR, ne_eq, reduceCtorEq, Nat.reduceEqDiff, ↓reduceIte, if_true, if_false, eq_self, Nat.reduceAdd, Nat.reduceMul, Nat.reduceSub, forall_const, oneCellS, litOne, flat1, Kd.isSca, flat, TYB]
        exact ⟨by omega, hfin⟩
      · have ev : cw R D 0 (frm y) = 1 := if_pos ⟨hx, hs⟩
        rw [ev] at hfin
        simp -implicitDefEqProofs only [Try.f35, Option.getD_some, argS, formOf_F, isSorted_F, hp, hq, hl, hw, hy, tky, fl, tkf, fr, kI, k24, hmh, hg, hs, yp, yp', yq, yq', yl, yl', yw, yw', Nat.add_assoc, add_self, self_add, add_add, ZB, Int.reduceToNat, Nat.reduceLT, Nat.reduceLeDiff, Int.reduceLE, Int.reduceLT, Nat.reduceEqDiff, Nat.reduceSub, SB, SV.known, packR, ne_eq, reduceCtorEq, Nat.reduceEqDiff, ↓reduceIte, if_true, if_false, eq_self, Nat.reduceAdd, Nat.reduceMul, Nat.reduceSub, forall_const, oneCellS, litOne, flat1, Kd.isSca, flat, TYB]
        exact ⟨by omega, hfin⟩
    · have ev : cw R D 0 (frm y) = 0 := if_neg fun h => hg (hlay.1 h.1).2
      rw [ev] at hfin
      simp -implicitDefEqProofs only [Try.f35, Option.getD_some, argS, formOf_F, isSorted_F, hp, hq, hl, hw, hy, tky, fl, tkf, fr, kI, k24, hmh, hg, yp, yp', yq, yq', yl, yl', yw, yw', Nat.add_assoc, add_self, self_add, add_add, ZB, Int.reduceToNat, Nat.reduceLT, Nat.reduceLeDiff, Int.reduceLE, Int.reduceLT, Nat.reduceEqDiff, Nat.reduceSub, SB, SV.known, packR, ne_eq, reduceCtorEq, Nat.reduceEqDiff, ↓reduceIte, if_true, if_false, eq_self, Nat.reduceAdd, Nat.reduceMul, Nat.reduceSub, forall_const, oneCellS, litOne, flat1, Kd.isSca, flat, TYB]
      exact ⟨by omega, hfin⟩
  · rw [decide_eq_false hk] at hmh
    have ev : cw R D 0 (frm y) = 0 := if_neg fun h => hk (hlay.1 h.1).1
    rw [ev] at hfin
    simp -implicitDefEqProofs only [Try.f35, Option.getD_some, argS, formOf_F, isSorted_F, hp, hq, hl, hw, hy, tky, fl, tkf, fr, kI, k24, hmh, yp, yp', yq, yq', yl, yl', yw, yw', Nat.add_assoc, add_self, self_add, add_add, ZB, Int.reduceToNat, Nat.reduceLT, Nat.reduceLeDiff, Int.reduceLE, Int.reduceLT, Nat.reduceEqDiff, Nat.reduceSub, SB, SV.known, packR, ne_eq, reduceCtorEq, Nat.reduceEqDiff, ↓reduceIte, if_true, if_false, eq_self, Nat.reduceAdd, Nat.reduceMul, Nat.reduceSub, forall_const, oneCellS, litOne, flat1, Kd.isSca, flat, TYB]
    exact ⟨by omega, hfin⟩
theorem count_vcS (R : List Int) (D j p q lv wm m n : Nat) (lvv : SV) (e1 e2 : Nat) (l : List (List Int × Int)) (y : List Int) (H : Heap) (hwH : hwf n H) (hp : hget H p = some (.cells [.ptr q 0, .mp wm] e1)) (hq : hget H q = some (.cells [.mp lv, lvv, .int (D : Int)] e2))
    (hl : hget H lv = some (.mp false ((kn R D).zip (lvl R D)))) (hw : hget H wm = some (.mp false l)) (hy : y.length = 24) (hr : rackB y = true) (hok : okU (kn R D)) (hI : InvW R D l) (hm : m ≤ wm) (hlw : lv ≠ wm) (hD : D ≤ 1000) (hj : j < D) (κ : SV → Heap → Nat → Prop)
    (hκ : ∀ l' H' n', InvW R D l' → n ≤ n' → hwf n' H' → hget H' wm = some (.mp false l') → (∀ k o, k ≠ wm → hget H k = some o → hget H' k = some o) → κ (.int (cw R D (j + 1) (frm y))) H' n') :
    codeVC (⟨Try.prog, tys, [(52, formOf_F), (26, isSorted_F), (30, pour_F)], [(28, useful_F), (35, count_F R D j)], false, true, m, [], []⟩ : Cx) n (Try.f35.body.getD .skip) (argS 0 [.ptr p 0, .arr y, .int ((D - (j + 1) : Nat) : Int)]) H n (retK tys Try.f35.results.toList κ) := by
  have tky : y.take 24 = y := List.take_of_length_le (by omega)
  have fl := frm_len hy
  have tkf := List.take_of_length_le (Nat.le_of_eq fl)
  have fr := rack_frm hy hr
  have kI := keyI_rack
  have k24 := zip_keys (lvl R D) hok.all24
  have p0 := (hwH p _ hp).1; have q0 := (hwH q _ hq).1; have l0 := (hwH lv _ hl).1; have w0 := (hwH wm _ hw).1
  have yp := ne_add p0; have yp' := ne_add' p0; have yq := ne_add q0; have yq' := ne_add' q0; have yl := ne_add l0; have yl' := ne_add' l0; have yw := ne_add w0; have yw' := ne_add' w0
  have hmh := mhas_zip (frm y) (lvl_len R D).symm
  have hE3 : ∀ k o, hget H k = some o → hget ((n + 1, SObj.ints (frm y) 29) :: (n + 1, SObj.ints (List.replicate 24 0) 29) :: (n, SObj.ints y 29) :: H) k = some o := fun k o ho => by
    have := (hwH k o ho).1
    rw [hget_cons, if_neg (by omega), hget_cons, if_neg (by omega), hget_cons, if_neg (by omega)]; exact ho
  have hfin : κ (.int (cw R D (j + 1) (frm y))) ((n + 1, SObj.ints (frm y) 29) :: (n + 1, SObj.ints (List.replicate 24 0) 29) :: (n, SObj.ints y 29) :: H) (n + 2) := hκ l _ _ hI (by omega) (hwf_cons (hwf_cons (hwf_cons (hwf_mono (by omega) hwH) (by omega) trivial) (by omega) trivial) (by omega) trivial) (hE3 _ _ hw) (fun k o _ ho => hE3 k o ho)
  have hlay := lay_iff (R := R) (x := frm y) (D := D) (n := D - (j + 1)) (by omega)
  have nD : ¬ ((D - (j + 1) : Nat) : Int) = (D : Int) := by omega
  have kW := hI.1
  by_cases hk : frm y ∈ kn R D
  · rw [decide_eq_true hk] at hmh
    by_cases hg : mget ((kn R D).zip (lvl R D)) (frm y) = ((D - (j + 1) : Nat) : Int)
    · have hx : frm y ∈ lay R (D - (j + 1)) := hlay.2 ⟨hk, hg⟩
      cases hv : mhas l (frm y)
      · simp -implicitDefEqProofs only [Try.f35, Option.getD_some, argS, formOf_F, isSorted_F, useful_F, freshK, Wrap.ap, hp, hq, hl, hw, hy, tky, fl, tkf, fr, kI, k24, kW, hmh, hg, hv, nD, yp, yp', yq, yq', yl, yl', yw, yw', Nat.add_assoc, add_self, self_add, add_add, ZB, Int.reduceToNat, Nat.reduceLT, Nat.reduceLeDiff, Int.reduceLE, Int.reduceLT, Nat.reduceEqDiff, Nat.reduceSub, SB, SV.known, packR, ne_eq, reduceCtorEq, Nat.reduceEqDiff, ↓reduceIte, if_true, if_false, eq_self, Nat.reduceAdd, Nat.reduceMul, Nat.reduceSub, forall_const, oneCellS, litOne, flat1, Kd.isSca, flat, TYB]
        clear hfin
        have hpw : p ≠ wm := fun e => by rw [e, hw] at hp; cases hp
        have hqw : q ≠ wm := fun e => by rw [e, hw] at hq; cases hq
        have hfin2 : ∀ (l1 : List (List Int × Int)) (H1 : Heap) (n1 : Nat), InvW R D l1 → n ≤ n1 → hwf n1 H1 → hget H1 wm = some (.mp false l1) → (∀ k o, k ≠ wm → hget H k = some o → hget H1 k = some o) → κ (.int (cw R D (j + 1) (frm y))) ((wm, .mp false (mset l1 (frm y) (cw R D (j + 1) (frm y)))) :: H1) n1 := fun l1 H1 n1 g1 g2 g3 g4 g5 =>
          hκ _ _ _ (InvW_set g1 hj hx fl) g2 (hwf_cons g3 (g3 _ _ g4).1 trivial) (by rw [hget_cons, if_pos rfl]) (fun k o hk ho => by rw [hget_cons, if_neg hk]; exact g5 k o hk ho)
        have hw3 : hwf (n + 2) ((n + 1, SObj.ints (frm y) 29) :: (n + 1, SObj.ints (List.replicate 24 0) 29) :: (n, SObj.ints y 29) :: H) := hwf_cons (hwf_cons (hwf_cons (hwf_mono (by omega) hwH) (by omega) trivial) (by omega) trivial) (by omega) trivial
        have hnp := ulF_sucC (frm y)
        have hnp36 := sucC_le (frm y)
        have ehp : (ulF (frm y)).length / 2 = sucC (frm y) := by omega
        have hae := asum_end (R := R) (D := D) (j := j) hx
        generalize hX : frm y = x at *
        refine ⟨by omega, fun _ hu0 => ?_, fun _ cap junk hjk => ?_⟩
        · have hs0 : sucC x = 0 := by rw [hu0] at hnp; simp at hnp; omega
          have ev : cw R D (j + 1) x = 0 := by rw [← hae, hs0]; rfl
          rw [ev] at hfin2
          refine loop_intro (fun _ : Unit => [(63, .int 0), (62, .int 0), (61, .nils), (12, .int 0), (7, .ptr (n + 1) 0), (0, .ptr p 0), (2, .int ((D - (j + 1) : Nat) : Int))]) (fun _ => (n + 1, SObj.ints (x) 29) :: (n + 1, SObj.ints (List.replicate 24 0) 29) :: (n, SObj.ints y 29) :: H) (n + 2) (fun _ => True) (fun _ => 0) ?_ ?_
          · exact ⟨(), trivial, Sub.same (by simp only [LB, subS, subH, wfS, wfH, SV.ren, renL, SObj.ren, SV.wf, SObj.wf, wfL, SV.known, Nat.reduceEqDiff, ↓reduceIte, if_true, if_false, eq_self, Nat.reduceAdd, Nat.reduceLT, Nat.reduceLeDiff, implies_true, reduceCtorEq, forall_const]) (by simp [subS, subH, wfS, wfH, SV.ren, renL, SObj.ren, SV.wf, SObj.wf, wfL, sget_cons, hget_cons] <;> omega) hw3 (by omega)⟩
          · intro _ _
            simp -implicitDefEqProofs only [lk_normal, Int.lt_irrefl, hp, hw, kI, kW, fl, tkf, yp, yp', yw, yw', Nat.add_assoc, add_self, self_add, add_add, ZB, Int.reduceToNat, Nat.reduceLT, Nat.reduceLeDiff, Int.reduceLE, Int.reduceLT, Nat.reduceEqDiff, Nat.reduceSub, SB, SV.known, packR, ne_eq, reduceCtorEq, Nat.reduceEqDiff, ↓reduceIte, if_true, if_false, eq_self, Nat.reduceAdd, Nat.reduceMul, Nat.reduceSub, forall_const, oneCellS, litOne, flat1, Kd.isSca, flat, TYB]
            exact ⟨hm, hfin2 _ _ _ hI (by omega) hw3 (hE3 _ _ hw) fun k o _ ho => hE3 k o ho⟩
        · rw [ehp]
          have lenP : (ulF x ++ junk).length = cap * 2 := by rw [List.length_append]; omega
          have hw4 : hwf (n + 3) ((n + 2, SObj.ints (ulF x ++ junk) 49) :: (n + 1, SObj.ints (x) 29) :: (n + 1, SObj.ints (List.replicate 24 0) 29) :: (n, SObj.ints y 29) :: H) := hwf_cons (hwf_mono (by omega) hw3) (by omega) trivial
          have hE4 : ∀ k o, hget H k = some o → hget ((n + 2, SObj.ints (ulF x ++ junk) 49) :: (n + 1, SObj.ints (x) 29) :: (n + 1, SObj.ints (List.replicate 24 0) 29) :: (n, SObj.ints y 29) :: H) k = some o := fun k o ho => by
            have := (hwH k o ho).1
            rw [hget_cons, if_neg (by omega)]; exact hE3 k o ho
          have ga : hget ((n + 2, SObj.ints (ulF x ++ junk) 49) :: (n + 1, SObj.ints (x) 29) :: (n + 1, SObj.ints (List.replicate 24 0) 29) :: (n, SObj.ints y 29) :: H) (n + 2) = some (.ints (ulF x ++ junk) 49) := by simp [hget_cons]
          have gx : hget ((n + 2, SObj.ints (ulF x ++ junk) 49) :: (n + 1, SObj.ints (x) 29) :: (n + 1, SObj.ints (List.replicate 24 0) 29) :: (n, SObj.ints y 29) :: H) (n + 1) = some (.ints x 29) := by simp [hget_cons]
          generalize hHc : (n + 2, SObj.ints (ulF x ++ junk) 49) :: (n + 1, SObj.ints (x) 29) :: (n + 1, SObj.ints (List.replicate 24 0) 29) :: (n, SObj.ints y 29) :: H = Hc at *
          refine loop_introN (fun z : Nat × List (List Int × Int) × Heap × Nat => [(63, .int z.1), (62, .int (sucC x : Nat)), (61, .slice (n + 2) 0 (sucC x) cap), (12, .int (asum R D j x z.1)), (7, .ptr (n + 1) 0), (0, .ptr p 0), (2, .int ((D - (j + 1) : Nat) : Int))]) (fun z => z.2.2.1) (fun z => z.2.2.2)
            (fun z => z.1 ≤ sucC x ∧ InvW R D z.2.1 ∧ n + 3 ≤ z.2.2.2 ∧ hwf z.2.2.2 z.2.2.1 ∧ hget z.2.2.1 wm = some (.mp false z.2.1) ∧ ∀ k o, k ≠ wm → hget Hc k = some o → hget z.2.2.1 k = some o) (fun z => sucC x - z.1) ?_ ?_
          · refine ⟨(0, l, Hc, n + 3), ⟨Nat.zero_le _, hI, Nat.le_refl _, hw4, hE4 _ _ hw, fun k o _ ho => ho⟩, Sub.same ?_ ?_ hw4 (by show n ≤ n + 3; omega)⟩
            · simp only [show asum R D j x 0 = 0 from rfl, LB, subS, subH, wfS, wfH, SV.ren, renL, SObj.ren, SV.wf, SObj.wf, wfL, SV.known, Nat.reduceEqDiff, ↓reduceIte, if_true, if_false, eq_self, Nat.reduceAdd, Nat.reduceLT, Nat.reduceLeDiff, implies_true, reduceCtorEq, forall_const]
            · simp [subS, subH, wfS, wfH, SV.ren, renL, SObj.ren, SV.wf, SObj.wf, wfL, sget_cons, hget_cons] <;> omega
          · rintro ⟨k, l1, H1, n1⟩ ⟨hk1, hI1, hn1, hwf1, hw1, hfr1⟩
            simp only at hk1 hI1 hn1 hwf1 hw1 hfr1
            have ga1 := hfr1 _ _ (by omega) ga
            have gx1 := hfr1 _ _ (by omega) gx
            have hp1 := hfr1 _ _ hpw (hE4 _ _ hp)
            have hq1 := hfr1 _ _ hqw (hE4 _ _ hq)
            have hl1 := hfr1 _ _ hlw (hE4 _ _ hl)
            have kW1 := hI1.1
            by_cases hkn : k < sucC x
            · have hkl : (k : Int) < (sucC x : Nat) := by omega
              have wk := wrap_in (x := (k : Int) + 1) (by unfold In64; omega)
              have wn : IntKind.i64.wrap (((D - (j + 1) : Nat) : Int) + 1) = ((D - j : Nat) : Int) := by rw [wrap_in (by unfold In64; omega)]; omega
              obtain ⟨a0, b0⟩ := ul_bd (R := x) (q := k) (by omega)
              have hcan := ul_can fr hkn
              have pl := pourF_len fl ((ulF x).getD (k * 2) 0).toNat ((ulF x).getD (k * 2 + 1) 0).toNat
              have tkp := List.take_of_length_le (Nat.le_of_eq pl)
              have prk := pour_rack fl fr a0 b0 hcan
              have eP : List.take 2 (List.drop (k * 2) (ulF x ++ junk)) = [(ulF x).getD (k * 2) 0, (ulF x).getD (k * 2 + 1) 0] := by rw [take2_drop _ _ (by omega), getD_app _ _ _ (by omega), getD_app _ _ _ (by omega)]
              have ex : frm (pourF x ((ulF x).getD (k * 2) 0).toNat ((ulF x).getD (k * 2 + 1) 0).toNat) = diX x k := rfl
              have es := asum_succ R D j x k
              have jD : j ≤ D := by omega
              have r1 := (hwf1 _ _ hp1).1; have r2 := (hwf1 _ _ hq1).1; have r3 := (hwf1 _ _ hl1).1; have r4 := (hwf1 _ _ hw1).1
              have z1 := ne_add r1; have z1' := ne_add' r1; have z2 := ne_add r2; have z2' := ne_add' r2; have z3 := ne_add r3; have z3' := ne_add' r3; have z4 := ne_add r4; have z4' := ne_add' r4
              have z5 : (n + 1 = n1) = False := by simp; omega
              have z6 : ∀ i, (n + 1 = n1 + i) = False := fun i => by simp; omega
              have z7 : (n + 2 = n1) = False := by simp; omega
              simp -implicitDefEqProofs only [lk_normal, List.getD_cons_zero, List.getD_cons_succ, pour_F, count_F, hkl, lenP, eP, ga1, gx1, hp1, hq1, hl1, hw1, kI, fl, tkf, a0, b0, pl, tkp, prk, ex, wk, wn, jD, hI1, hm, hlw, z1, z1', z2, z2', z3, z3', z4, z4', z5, z6, z7, Nat.add_assoc, add_self, self_add, add_add, ne_eq, not_false_eq_true, ZB, Int.reduceToNat, Nat.reduceLT, Nat.reduceLeDiff, Int.reduceLE, Int.reduceLT, Nat.reduceEqDiff, Nat.reduceSub, SB, SV.known, packR, ne_eq, reduceCtorEq, Nat.reduceEqDiff, ↓reduceIte, if_true, if_false, eq_self, Nat.reduceAdd, Nat.reduceMul, Nat.reduceSub, forall_const, oneCellS, litOne, flat1, Kd.isSca, flat, TYB]
              refine ⟨by omega, by omega, by omega, by omega, fun l' H' n' g1 g2 g3 g4 g5 => ⟨(k + 1, l', H', n'), ⟨by show k + 1 ≤ sucC x; omega, g1, by show n + 3 ≤ n'; omega, g3, g4, fun b o hb ho => g5 b o hb ?_⟩, by show sucC x - (k + 1) < sucC x - k; omega, Sub.same (by simp only [es, LB, subS, subH, wfS, wfH, SV.ren, renL, SObj.ren, SV.wf, SObj.wf, wfL, SV.known, Nat.reduceEqDiff, ↓reduceIte, if_true, if_false, eq_self, Nat.reduceAdd, Nat.reduceLT, Nat.reduceLeDiff, implies_true, reduceCtorEq, forall_const]) (by simp [subS, subH, wfS, wfH, SV.ren, renL, SObj.ren, SV.wf, SObj.wf, wfL, sget_cons, hget_cons] <;> omega) g3 (by show n ≤ n'; omega)⟩⟩
              have hb1 := hfr1 b o hb ho
              have := (hwf1 _ _ hb1).1
              rw [if_neg (by omega), if_neg (by omega), if_neg (by omega), if_neg (by omega)]
              exact hb1
            · have hkl : ¬ (k : Int) < (sucC x : Nat) := by omega
              obtain rfl : k = sucC x := by omega
              rw [hae]
              simp -implicitDefEqProofs only [lk_normal, hkl, hp1, hw1, kI, kW1, fl, tkf, gx1, Nat.add_assoc, add_self, self_add, add_add, ZB, Int.reduceToNat, Nat.reduceLT, Nat.reduceLeDiff, Int.reduceLE, Int.reduceLT, Nat.reduceEqDiff, Nat.reduceSub, SB, SV.known, packR, ne_eq, reduceCtorEq, Nat.reduceEqDiff, ↓reduceIte, if_true, if_false, eq_self, Nat.reduceAdd, Nat.reduceMul, Nat.reduceSub, forall_const, oneCellS, litOne, flat1, Kd.isSca, flat, TYB]
              exact ⟨hm, hfin2 _ _ _ hI1 (by omega) hwf1 hw1 fun k o hk ho => hfr1 k o hk (hE4 k o ho)⟩
      · have ev := hI.2 (frm y) j hj hx hv
        simp -implicitDefEqProofs only [Try.f35, Option.getD_some, argS, formOf_F, isSorted_F, useful_F, freshK, Wrap.ap, hp, hq, hl, hw, hy, tky, fl, tkf, fr, kI, k24, kW, hmh, hg, hv, ev, nD, yp, yp', yq, yq', yl, yl', yw, yw', Nat.add_assoc, add_self, self_add, add_add, ZB, Int.reduceToNat, Nat.reduceLT, Nat.reduceLeDiff, Int.reduceLE, Int.reduceLT, Nat.reduceEqDiff, Nat.reduceSub, SB, SV.known, packR, ne_eq, reduceCtorEq, Nat.reduceEqDiff, ↓reduceIte, if_true, if_false, eq_self, Nat.reduceAdd, Nat.reduceMul, Nat.reduceSub, forall_const, oneCellS, litOne, flat1, Kd.isSca, flat, TYB]
        exact ⟨by omega, hfin⟩
    · have ev : cw R D (j + 1) (frm y) = 0 := if_neg fun h => hg (hlay.1 h).2
      rw [ev] at hfin
      simp -implicitDefEqProofs only [Try.f35, Option.getD_some, argS, formOf_F, isSorted_F, useful_F, freshK, Wrap.ap, hp, hq, hl, hw, hy, tky, fl, tkf, fr, kI, k24, kW, hmh, hg, nD, yp, yp', yq, yq', yl, yl', yw, yw', Nat.add_assoc, add_self, self_add, add_add, ZB, Int.reduceToNat, Nat.reduceLT, Nat.reduceLeDiff, Int.reduceLE, Int.reduceLT, Nat.reduceEqDiff, Nat.reduceSub, SB, SV.known, packR, ne_eq, reduceCtorEq, Nat.reduceEqDiff, ↓reduceIte, if_true, if_false, eq_self, Nat.reduceAdd, Nat.reduceMul, Nat.reduceSub, forall_const, oneCellS, litOne, flat1, Kd.isSca, flat, TYB]
      exact ⟨by omega, hfin⟩
  · rw [decide_eq_false hk] at hmh
    have ev : cw R D (j + 1) (frm y) = 0 := if_neg fun h => hk (hlay.1 h).1
    rw [ev] at hfin
    simp -implicitDefEqProofs only [Try.f35, Option.getD_some, argS, formOf_F, isSorted_F, useful_F, freshK, Wrap.ap, hp, hq, hl, hw, hy, tky, fl, tkf, fr, kI, k24, kW, hmh,  nD, yp, yp', yq, yq', yl, yl', yw, yw', Nat.add_assoc, add_self, self_add, add_add, ZB, Int.reduceToNat, Nat.reduceLT, Nat.reduceLeDiff, Int.reduceLE, Int.reduceLT, Nat.reduceEqDiff, Nat.reduceSub, SB, SV.known, packR, ne_eq, reduceCtorEq, Nat.reduceEqDiff, ↓reduceIte, if_true, if_false, eq_self, Nat.reduceAdd, Nat.reduceMul, Nat.reduceSub, forall_const, oneCellS, litOne, flat1, Kd.isSca, flat, TYB]
    exact ⟨by omega, hfin⟩
--@tbl count = (*impl.sorting).count
theorem count_T (R : List Int) (D : Nat) (hok : okU (kn R D)) (hD : D ≤ 1000) : ∀ j, ∀ args H n m κ, count_F R D j args H n m κ → GenOK Try.prog 35 args H n m κ
  | 0 => by
    intro args H n m κ h
    unfold count_F at h
    split at h
    · rename_i p y i
      split at h
      · rename_i q wm e1 hp
        split at h
        · rename_i lv lvv d e2 hq
          split at h
          · rename_i L l hl hw
            obtain ⟨⟨hy, hr⟩, ⟨hj, rfl, rfl, rfl⟩, hI, ⟨hm, hlw⟩, hκ⟩ := h
            exact gen_direct (X := ⟨Try.prog, tys, [(52, formOf_F), (26, isSorted_F)], [], false, true, m, [], []⟩) fn_35 ⟨tys_ok, .cons formOf_T (.cons isSorted_T .nil), .nil, mixed⟩ rfl (Nat.le_of_ble_eq_true rfl) (fun hwH hwa => count_vc0 R D p q lv wm m n lvv e1 e2 l y H hwH hp hq hl hw hy hr hok hI hm hD κ hκ) fun hwH v H' n' hψ h3 h4 h5 => hψ
          · exact h.elim
        · exact h.elim
      · exact h.elim
    · exact h.elim
  | j + 1 => by
    intro args H n m κ h
    unfold count_F at h
    split at h
    · rename_i p y i
      split at h
      · rename_i q wm e1 hp
        split at h
        · rename_i lv lvv d e2 hq
          split at h
          · rename_i L l hl hw
            obtain ⟨⟨hy, hr⟩, ⟨hj, rfl, rfl, rfl⟩, hI, ⟨hm, hlw⟩, hκ⟩ := h
            exact gen_direct (X := ⟨Try.prog, tys, [(52, formOf_F), (26, isSorted_F), (30, pour_F)], [(28, useful_F), (35, count_F R D j)], false, true, m, [], []⟩) fn_35 ⟨tys_ok, .cons formOf_T (.cons isSorted_T (.cons pour_T .nil)), .cons useful_T (.cons (count_T R D hok hD j) .nil), mixed⟩ rfl (Nat.le_of_ble_eq_true rfl) (fun hwH hwa => count_vcS R D j p q lv wm m n lvv e1 e2 l y H hwH hp hq hl hw hy hr hok hI hm hlw hD (by omega) κ hκ) fun hwH v H' n' hψ h3 h4 h5 => hψ
          · exact h.elim
        · exact h.elim
      · exact h.elim
    · exact h.elim
--@tbl CountWays = impl.CountWays
theorem CountWays_ok (R : List Int) (hR : R.length = 24) : PureH Try.prog 12 [.arr R] [] (.tup [.int (cwF R), .bool (fpB R)]) := by
  have tkR : R.take 24 = R := List.take_of_length_le (by omega)
  unfold cwF
  cases hr : rackB R
  · have hb : fpB R = false := by unfold fpB; rw [hr]; rfl
    rw [hb]
    refine pure_of_vc (X := ⟨Try.prog, tys, [], [(34, sortingOf_F)], true, true, 0, [], []⟩) fn_12 ⟨tys_ok, .nil, (.cons sortingOf_T .nil), mixed⟩ (n0 := 0) (Nat.le_of_ble_eq_true rfl) (by simp [wfL, SV.wf]) (wfH_spec (by simp [wfH, SObj.wf, wfL, SV.wf])) (Nat.le_refl _) (fun _ => by simp [SV.wf, wfL]) ?_
    simp -implicitDefEqProofs only [Try.f12, Option.getD_some, argS, sortingOf_F, hR, tkR, hr, ZB, Int.reduceToNat, Nat.reduceLT, Nat.reduceLeDiff, Int.reduceLE, Int.reduceLT, Nat.reduceEqDiff, Nat.reduceSub, SB, SV.known, packR, ne_eq, reduceCtorEq, Nat.reduceEqDiff, ↓reduceIte, if_true, if_false, eq_self, Nat.reduceAdd, Nat.reduceMul, Nat.reduceSub, forall_const, oneCellS, litOne, flat1, Kd.isSca, flat, TYB]
  cases hu : unB sortB R
  · have hb : fpB R = false := by unfold fpB; rw [hr, hu]; rfl
    rw [hb]
    refine pure_of_vc (X := ⟨Try.prog, tys, [], [(34, sortingOf_F)], true, true, 0, [], []⟩) fn_12 ⟨tys_ok, .nil, (.cons sortingOf_T .nil), mixed⟩ (n0 := 0) (Nat.le_of_ble_eq_true rfl) (by simp [wfL, SV.wf]) (wfH_spec (by simp [wfH, SObj.wf, wfL, SV.wf])) (Nat.le_refl _) (fun _ => by simp [SV.wf, wfL]) ?_
    simp -implicitDefEqProofs only [Try.f12, Option.getD_some, argS, sortingOf_F, hR, tkR, hr, hu, ZB, Int.reduceToNat, Nat.reduceLT, Nat.reduceLeDiff, Int.reduceLE, Int.reduceLT, Nat.reduceEqDiff, Nat.reduceSub, SB, SV.known, packR, ne_eq, reduceCtorEq, Nat.reduceEqDiff, ↓reduceIte, if_true, if_false, eq_self, Nat.reduceAdd, Nat.reduceMul, Nat.reduceSub, forall_const, oneCellS, litOne, flat1, Kd.isSca, flat, TYB]
    exact fun _ _ => trivial
  · have hb : fpB R = true := by unfold fpB; rw [hr, hu]; rfl
    rw [hb, if_pos rfl]
    obtain ⟨hd7, hov⟩ := dep_600 hu
    have hok := (lk_ok hR hr (dep sortB R)).1
    refine pure_of_vc (X := ⟨Try.prog, tys, [], [(34, sortingOf_F), (35, count_F R (dep sortB R) (dep sortB R))], true, true, 0, [], []⟩) fn_12 ⟨tys_ok, .nil, .cons sortingOf_T (.cons (count_T R (dep sortB R) hok (by omega) (dep sortB R)) .nil), mixed⟩ (n0 := 0) (Nat.le_of_ble_eq_true rfl) (by simp [wfL, SV.wf]) (hwf_nil _) (Nat.le_refl _) (fun _ => by simp [SV.wf, wfL]) ?_
    simp -implicitDefEqProofs only [Try.f12, Option.getD_some, argS, sortingOf_F, count_F, hR, tkR, hr, hu, ZB, Int.reduceToNat, Nat.reduceLT, Nat.reduceLeDiff, Int.reduceLE, Int.reduceLT, Nat.reduceEqDiff, Nat.reduceSub, SB, SV.known, packR, ne_eq, reduceCtorEq, Nat.reduceEqDiff, ↓reduceIte, if_true, if_false, eq_self, Nat.reduceAdd, Nat.reduceMul, Nat.reduceSub, forall_const, oneCellS, litOne, flat1, Kd.isSca, flat, TYB]
    exact fun _ _ => ⟨InvW_nil _ _, fun _ _ _ _ _ _ _ _ => trivial⟩
def CountWays_F : List SV → Heap → Option (Prop × SV)
  | [.arr R], _ => some (R.length = 24, .tup [.int (cwF R), .bool (fpB R)])
  | _, _ => none
theorem CountWays_T : ∀ args H p v, CountWays_F args H = some (p, v) → p → PureH Try.prog 12 args H v := by
  intro args H p v h hp
  unfold CountWays_F at h
  split at h
  · cases h; exact (CountWays_ok _ hp).any _
  · cases h
theorem lawCountWays (R : List Int) (hR : R.length = 24) (_ : ∀ x ∈ R, In64 x) : PureH Try.prog 4 [.arr R] [] (.bool true) := by
  have tkR : R.take 24 = R := List.take_of_length_le (by omega)
  cases hb : fpB R
  all_goals
    refine pure_of_vc (X := ⟨Try.prog, tys, [(6, toRack_F), (12, CountWays_F), (11, sCountWays_F)], [], true, true, 0, [], []⟩) fn_4 ⟨tys_ok, (.cons toRack_T (.cons CountWays_T (.cons sCountWays_T .nil))), .nil, mixed⟩ (n0 := 0) (Nat.le_of_ble_eq_true rfl) (by simp [wfL, SV.wf]) (wfH_spec (by simp [wfH, SObj.wf, wfL, SV.wf])) (Nat.le_refl _) (fun _ => by simp [SV.wf, wfL]) ?_
    simp -implicitDefEqProofs only [Try.f4, Option.getD_some, argS, toRack_F, CountWays_F, sCountWays_F, hR, tkR, hb, ZB, Int.reduceToNat, Nat.reduceLT, Nat.reduceLeDiff, Int.reduceLE, Int.reduceLT, Nat.reduceEqDiff, Nat.reduceSub, SB, SV.known, packR, ne_eq, reduceCtorEq, Nat.reduceEqDiff, ↓reduceIte, if_true, if_false, eq_self, Nat.reduceAdd, Nat.reduceMul, Nat.reduceSub, forall_const, oneCellS, litOne, flat1, Kd.isSca, flat, TYB]
end Go.Proofs.Ytaopbefklkbmeaa
set_option maxRecDepth 100000
set_option linter.unusedSimpArgs false
set_option linter.unusedVariables false
namespace Go.Proofs.Ytaopbefklkbmeaa
open Go Go.RowKit Go.ChangeShapes Go.WideShapes Go.ChangeAt

theorem own_knob : ownKnob Try.prog.godebug = none := by kernel_rfl
theorem laid_out : laidOutB Try.prog = true := by kernel_rfl

theorem cell_int {w : World} {base : Nat} {u : TypeId} {v : Value} (hu : Try.prog.underlying u = some (.int .i64)) (h : Cell.okWide Try.prog w .any base u v) : ∃ x, v = .int .i64 x ∧ In64 x := by
  unfold Cell.okWide at h
  rw [hu] at h
  cases v <;> simp only [Cell.ok, hu] at h <;> (try exact h.elim)
  rename_i k x
  obtain ⟨rfl, hx⟩ := h
  exact ⟨x, rfl, hx⟩

/-- An argument of all int64 cells. -/
theorem open_arr {w : World} {base t u size : Nat} {v : Value} {d : TypeDesc} (ht : Try.prog.underlying t = some d) (hd : tdAgg d = true) (hts : Try.prog.cellTypes Try.prog.depth t = some (List.replicate size u)) (hc : Try.prog.cellsOf t = size)
    (hu : Try.prog.underlying u = some (.int .i64)) (h : Value.okWide Try.prog w .any base t v) : ∃ L, v = .agg (ints L) ∧ L.length = size ∧ ∀ x ∈ L, In64 x := by
  unfold Value.okWide at h
  rw [ht] at h
  have h' : ∃ cs, v = .agg cs ∧ cs.size = Try.prog.cellsOf t ∧ Row.okWide Try.prog w .any base t cs := by
    cases d <;> simp [tdAgg] at hd <;> exact h
  obtain ⟨cs, rfl, hsz, ts, hts', _, hr⟩ := h'
  rw [hts] at hts'
  cases hts'
  have key : ∀ (l : List Value) (k : Nat), (∀ (i : Nat) (v : Value), l[i]? = some v → ∃ x, v = Value.int .i64 x ∧ In64 x) → ∃ L : List Int, l = L.map (Value.int .i64) ∧ ∀ x ∈ L, In64 x := by
    intro l
    induction l with
    | nil => intro _ _; exact ⟨[], rfl, by simp⟩
    | cons a l ih =>
      intro k hl
      obtain ⟨x, rfl, hx⟩ := hl 0 a rfl
      obtain ⟨L, rfl, hL⟩ := ih k fun i v hv => hl (i + 1) v hv
      exact ⟨x :: L, rfl, by simpa using ⟨hx, hL⟩⟩
  obtain ⟨L, hL, hb⟩ := key cs.toList 0 fun i v hv => by
    obtain ⟨u', hu', hc'⟩ := hr i v (by simpa using hv)
    have : u' = u := by
      rw [List.getElem?_replicate] at hu'
      split at hu'
      · cases hu'; rfl
      · cases hu'
    subst this
    exact cell_int hu hc'
  refine ⟨L, ?_, ?_, hb⟩
  · simp only [ints]; rw [← hL]
  · have := congrArg List.length hL
    simp at this
    omega

theorem trodAll_below {H : Type} {enc : TypeId × Value → H} {W W' : World} (hb : Below W.heap.size W W') : ∀ {ts : List TypeId} {vs : List Value} {ds : List (DataW H)} {ps : List MemPlace}, DataW.TrodAll enc Try.prog W 0 (fun _ => true) true ts vs ds ps →
    (∀ t ∈ ts, Try.prog.readableRec t = true ∧ t < Try.prog.types.size) → (∀ x ∈ ps, x.block < W.heap.size) → DataW.TrodAll enc Try.prog W' 0 (fun b => decide (b < W.heap.size)) true ts vs ds ps
  | [], vs, ds, ps, h, _, _ => by
    obtain ⟨rfl, rfl, rfl⟩ := trodAll_nil h
    exact trodAll_mk0
  | t :: ts, vs, ds, ps, h, hr, hp => by
    obtain ⟨v0, vs0, d0, ds0, p0, q0, rfl, rfl, rfl, h0, r0⟩ := trodAll_cons h
    exact trodAll_cons_mk (Below.trod laid_out (hr t (by simp)).1 (hr t (by simp)).2 h0 hb fun x hx => hp x (by simp [hx])) (trodAll_below hb r0 (fun t' ht' => hr t' (by simp [ht'])) fun x hx => hp x (by simp [hx]))

theorem law_post {H : Type} {enc : TypeId × Value → H} {f : Func} {s : ChangeSpec} {W W' : World} {args : Array Value} {ds gs : List (DataW H)} {before : List MemPlace} (hb : Below W.heap.size W W') (hW : DataW.Whole enc Try.prog f.params.toList s.vars false W args.toList ds gs before)
    (hv : s.vars = []) (hrt : f.resultTypes = #[4]) (hs1 : (s.fn H (ds ++ gs)).results = [.lit (.bool true)]) (hs2 : (s.fn H (ds ++ gs)).args = ds) (hs3 : (s.fn H (ds ++ gs)).vars = []) (hr : ∀ t ∈ f.params.toList, Try.prog.readableRec t = true ∧ t < Try.prog.types.size) :
    s.post enc Try.prog f false true false false W args (.bool true) W' := by
  have hW' := hW
  obtain ⟨p, q, hA, hV, rfl, hfz, hnd⟩ := hW
  rw [hv] at hV
  obtain ⟨rfl, rfl⟩ := trodVars_none hV
  refine ⟨ds, _, _, [], p, [], hW', ?_, ?_, ?_, hb.frame _, fun h => by cases h⟩
  · rw [hs1, hrt]
    exact trodAll_cons_mk (shut_bool Try.underlying4 true) trodAll_mk0
  · rw [hs2]
    exact trodAll_below hb hA hr fun x hx => by simpa using hW'.lt x (by simpa using hx)
  · rw [hv, hs3]
    rfl
end Go.Proofs.Ytaopbefklkbmeaa
