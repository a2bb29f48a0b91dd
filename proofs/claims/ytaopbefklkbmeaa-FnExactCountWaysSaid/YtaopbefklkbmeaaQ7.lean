/- Texts of this claim, joined (SetA, SetB, UPours, View, FP1, FP0, RE0, RE1, Lf0, Lf1). -/
import Derived.Test.YtaopbefklkbmeaaQ1
import Derived.Test.YtaopbefklkbmeaaQ2
import Derived.Test.YtaopbefklkbmeaaQ3
import Derived.Test.YtaopbefklkbmeaaQ4
import Derived.Test.YtaopbefklkbmeaaQ5
import Derived.Test.YtaopbefklkbmeaaQ6
set_option maxRecDepth 100000
set_option linter.unusedSimpArgs false
set_option linter.unusedVariables false
namespace Go.Proofs.Ytaopbefklkbmeaa
open Go Go.RowKit
theorem rack_Bd {R : List Int} (hR : R.length = 24) (hr : rackB R = true) : Bd 0 5 R := fun x hx => by
  obtain ⟨i, hi, rfl⟩ := List.getElem_of_mem hx
  have h := (rackB_iff R hR).1 hr (i / 4) (i % 4) (by omega) (by omega)
  have e : i / 4 * 4 + i % 4 = i := by omega
  have g : R.getD i 0 = R[i] := by rw [List.getD_eq_getElem?_getD, List.getElem?_eq_getElem hi]; rfl
  unfold cB at h
  rw [e, g] at h
  omega
def codS (c x : Int) : Int := (c * 7 + x).tmod 1009
def codF (R : List Int) : Int := R.foldl codS 0
theorem codS_bd {c x : Int} (hc : 0 ≤ c ∧ c < 1009) (hx : 0 ≤ x ∧ x ≤ 5) : 0 ≤ codS c x ∧ codS c x < 1009 := by
  unfold codS
  rw [Int.tmod_eq_emod_of_nonneg (by omega)]
  omega
theorem cod_take {R : List Int} (hb : Bd 0 5 R) : ∀ i, i ≤ R.length → 0 ≤ (R.take i).foldl codS 0 ∧ (R.take i).foldl codS 0 < 1009
  | 0, _ => by simp
  | i + 1, hi => by
    have ih := cod_take hb i (by omega)
    rw [List.take_succ_eq_append_getElem (by omega), List.foldl_append]
    exact codS_bd ih (hb _ (List.getElem_mem _))
theorem cod_bd {R : List Int} (hb : Bd 0 5 R) : 0 ≤ codF R ∧ codF R < 1009 := by
  have := cod_take hb R.length (Nat.le_refl _)
  rwa [List.take_of_length_le (Nat.le_refl _)] at this
--@tbl l3Code = spec.l3Code
theorem l3Code_ok (R : List Int) (hR : R.length = 24) (hb : Bd 0 5 R) : PureH Try.prog 47 [.arr R] [] (.int (codF R)) := by
  have tkR : R.take 24 = R := List.take_of_length_le (by omega)
  refine pure_of_vc (X := ⟨Try.prog, tys, [], [], true, true, 0, [], []⟩) fn_47 ⟨tys_ok, .nil, .nil, mixed⟩ (n0 := 0) (Nat.le_of_ble_eq_true rfl) (by simp [wfL, SV.wf]) (wfH_spec (by simp [wfH, SObj.wf, wfL, SV.wf])) (Nat.le_refl _) (fun _ => by simp [SV.wf, wfL]) ?_
  simp -implicitDefEqProofs only [Try.f47, Option.getD_some, argS, hR, tkR, ZB, Int.reduceToNat, Nat.reduceLT, Nat.reduceLeDiff, Int.reduceLE, Int.reduceLT, Nat.reduceEqDiff, Nat.reduceSub, SB, SV.known, packR, ne_eq, reduceCtorEq, Nat.reduceEqDiff, ↓reduceIte, if_true, if_false, eq_self, Nat.reduceAdd, Nat.reduceMul, Nat.reduceSub, forall_const, oneCellS, litOne, flat1, Kd.isSca, flat, TYB]
  refine loop_intro (fun i : Nat => [(4, .int i), (3, .int ((R.take (i * 4)).foldl codS 0)), (1, .ptr 0 0)]) (fun _ => [(0, .ints R 29)]) 1 (fun i => i ≤ 6) (fun i => 6 - i) ?_ ?_
  · refine ⟨0, by omega, Sub.mk_id ?_ ?_ ?_ ?_ ?_⟩
    all_goals ((try simp only [LB, subS, subH, wfS, wfH, SV.ren, renL, SObj.ren, SV.wf, SObj.wf, wfL, SV.known, Nat.reduceEqDiff, ↓reduceIte, if_true, if_false, eq_self, Nat.reduceAdd, Nat.reduceLT, Nat.reduceLeDiff, implies_true, reduceCtorEq, forall_const]) <;> simp)
  · intro i hi
    by_cases hlt : i < 6
    · have hil : (i : Int) < 6 := by omega
      simp -implicitDefEqProofs only [lk_normal, hil, ZB, Int.reduceToNat, Nat.reduceLT, Nat.reduceLeDiff, Int.reduceLE, Int.reduceLT, Nat.reduceEqDiff, Nat.reduceSub, SB, SV.known, packR, ne_eq, reduceCtorEq, Nat.reduceEqDiff, ↓reduceIte, if_true, if_false, eq_self, Nat.reduceAdd, Nat.reduceMul, Nat.reduceSub, forall_const, oneCellS, litOne, flat1, Kd.isSca, flat, TYB]
      refine loop_intro (fun k : Nat => [(5, .int k), (4, .int i), (3, .int ((R.take (i * 4 + k)).foldl codS 0)), (1, .ptr 0 0)]) (fun _ => [(0, .ints R 29)]) 1 (fun k => k ≤ 4) (fun k => 4 - k) ?_ ?_
      · refine ⟨0, by omega, Sub.mk_id ?_ ?_ ?_ ?_ ?_⟩
        all_goals ((try simp only [LB, subS, subH, wfS, wfH, SV.ren, renL, SObj.ren, SV.wf, SObj.wf, wfL, SV.known, Nat.reduceEqDiff, ↓reduceIte, if_true, if_false, eq_self, Nat.reduceAdd, Nat.reduceLT, Nat.reduceLeDiff, implies_true, reduceCtorEq, forall_const]) <;> simp)
      · intro k hk
        by_cases hk4 : k < 4
        · have hkl : (k : Int) < 4 := by omega
          have lx : i * 4 + k < R.length := by omega
          have e1 : (R.take (i * 4 + (k + 1))).foldl codS 0 = ((R.take (i * 4 + k)).foldl codS 0 * 7 + R.getD (i * 4 + k) 0).tmod 1009 := by
            rw [show i * 4 + (k + 1) = i * 4 + k + 1 by omega, List.take_succ_eq_append_getElem lx, List.foldl_append, List.getD_eq_getElem?_getD, List.getElem?_eq_getElem lx]; rfl
          have cb := cod_take hb (i * 4 + k) (by omega)
          have xb : 0 ≤ R.getD (i * 4 + k) 0 ∧ R.getD (i * 4 + k) 0 ≤ 5 := hb.getD lx
          generalize (R.take (i * 4 + k)).foldl codS 0 = c at *
          generalize hx : R.getD (i * 4 + k) 0 = x at *
          simp -implicitDefEqProofs only [lk_normal, hil, hkl, hR, hx, ZB, Int.reduceToNat, Nat.reduceLT, Nat.reduceLeDiff, Int.reduceLE, Int.reduceLT, Nat.reduceEqDiff, Nat.reduceSub, SB, SV.known, packR, ne_eq, reduceCtorEq, Nat.reduceEqDiff, ↓reduceIte, if_true, if_false, eq_self, Nat.reduceAdd, Nat.reduceMul, Nat.reduceSub, forall_const, oneCellS, litOne, flat1, Kd.isSca, flat, TYB]
          refine ⟨by unfold In64; omega, by omega, by omega, by omega, by unfold In64; omega, by omega, by unfold In64; omega, k + 1, by omega, by omega, Sub.mk_id ?_ ?_ ?_ ?_ ?_⟩
          all_goals (try simp only [e1])
          all_goals ((try simp only [LB, subS, subH, wfS, wfH, SV.ren, renL, SObj.ren, SV.wf, SObj.wf, wfL, SV.known, Nat.reduceEqDiff, ↓reduceIte, if_true, if_false, eq_self, Nat.reduceAdd, Nat.reduceLT, Nat.reduceLeDiff, implies_true, reduceCtorEq, forall_const]) <;> simp)
        · have hkl : ¬ (k : Int) < 4 := by omega
          simp -implicitDefEqProofs only [lk_normal, hkl, ZB, Int.reduceToNat, Nat.reduceLT, Nat.reduceLeDiff, Int.reduceLE, Int.reduceLT, Nat.reduceEqDiff, Nat.reduceSub, SB, SV.known, packR, ne_eq, reduceCtorEq, Nat.reduceEqDiff, ↓reduceIte, if_true, if_false, eq_self, Nat.reduceAdd, Nat.reduceMul, Nat.reduceSub, forall_const, oneCellS, litOne, flat1, Kd.isSca, flat, TYB]
          obtain rfl : k = 4 := by omega
          refine ⟨by unfold In64; omega, i + 1, by omega, by omega, Sub.mk_id ?_ ?_ ?_ ?_ ?_⟩
          all_goals (try simp only [show (i + 1) * 4 = i * 4 + 4 by omega])
          all_goals ((try simp only [LB, subS, subH, wfS, wfH, SV.ren, renL, SObj.ren, SV.wf, SObj.wf, wfL, SV.known, Nat.reduceEqDiff, ↓reduceIte, if_true, if_false, eq_self, Nat.reduceAdd, Nat.reduceLT, Nat.reduceLeDiff, implies_true, reduceCtorEq, forall_const]) <;> simp)
    · have hil : ¬ (i : Int) < 6 := by omega
      obtain rfl : i = 6 := by omega
      simp -implicitDefEqProofs only [lk_normal, hil, ZB, Int.reduceToNat, Nat.reduceLT, Nat.reduceLeDiff, Int.reduceLE, Int.reduceLT, Nat.reduceEqDiff, Nat.reduceSub, SB, SV.known, packR, ne_eq, reduceCtorEq, Nat.reduceEqDiff, ↓reduceIte, if_true, if_false, eq_self, Nat.reduceAdd, Nat.reduceMul, Nat.reduceSub, forall_const, oneCellS, litOne, flat1, Kd.isSca, flat, TYB]
      rw [List.take_of_length_le (by omega)]
      rfl
def l3Code_F : List SV → Heap → Option (Prop × SV)
  | [.arr R], _ => some (R.length = 24 ∧ Bd 0 5 R, .int (codF R))
  | _, _ => none
theorem l3Code_T : ∀ args H p v, l3Code_F args H = some (p, v) → p → PureH Try.prog 47 args H v := by
  intro args H p v h hp
  unfold l3Code_F at h
  split at h
  · cases h; exact (l3Code_ok _ hp.1 hp.2).any _
  · cases h
/-! What a bucket holds. -/
def bk (K : List (List Int)) (c : Nat) : List Int := ((List.range K.length).filter fun i => decide ((codF (K.getD i [])).toNat = c)).map Int.ofNat
theorem bk_snoc (K : List (List Int)) (x : List Int) (c : Nat) : bk (K ++ [x]) c = bk K c ++ if (codF x).toNat = c then [(K.length : Int)] else [] := by
  unfold bk
  rw [List.length_append, List.length_singleton, List.range_succ, List.filter_append, List.map_append]
  congr 1
  · congr 1
    refine List.filter_congr fun i hi => ?_
    have := List.mem_range.1 hi
    rw [List.getD_eq_getElem?_getD, List.getElem?_append_left this, ← List.getD_eq_getElem?_getD]
  · have e : (K ++ [x]).getD K.length [] = x := by rw [List.getD_eq_getElem?_getD, List.getElem?_append_right (Nat.le_refl _)]; simp
    rw [List.filter_cons, List.filter_nil, e]
    by_cases h : (codF x).toNat = c
    · rw [if_pos h, if_pos (by simpa using h)]; rfl
    · rw [if_neg h, if_neg (by simpa using h)]; rfl
theorem bk_mem {K : List (List Int)} {c : Nat} {v : Int} : v ∈ bk K c ↔ ∃ i : Nat, i < K.length ∧ v = (i : Int) ∧ (codF (K.getD i [])).toNat = c := by
  unfold bk
  simp only [List.mem_map, List.mem_filter, List.mem_range, decide_eq_true_eq]
  constructor
  · rintro ⟨i, ⟨h1, h2⟩, rfl⟩; exact ⟨i, h1, rfl, h2⟩
  · rintro ⟨i, h1, rfl, h2⟩; exact ⟨i, ⟨h1, h2⟩, rfl⟩
theorem bk_len (K : List (List Int)) (c : Nat) : (bk K c).length ≤ K.length := by
  unfold bk
  rw [List.length_map]
  have := List.length_filter_le (fun i => decide ((codF (K.getD i [])).toNat = c)) (List.range K.length)
  rwa [List.length_range] at this
theorem bk_nil (c : Nat) : bk [] c = [] := rfl
/-- Where a form stands. -/
def idx (K : List (List Int)) (x : List Int) : Int := match K.findIdx? fun y => decide (y = x) with
  | some i => (i : Int)
  | none => -1
theorem idx_in {K : List (List Int)} {x : List Int} (h : x ∈ K) : ∃ i : Nat, idx K x = (i : Int) ∧ i < K.length ∧ K.getD i [] = x := by
  unfold idx
  cases hq : K.findIdx? fun y => decide (y = x) with
  | none => exact absurd (List.findIdx?_eq_none_iff.1 hq x h) (by simp)
  | some i =>
    obtain ⟨h1, h2, _⟩ := List.findIdx?_eq_some_iff_getElem.1 hq
    refine ⟨i, rfl, h1, ?_⟩
    rw [List.getD_eq_getElem?_getD, List.getElem?_eq_getElem h1]
    simpa using h2
theorem idx_out {K : List (List Int)} {x : List Int} (h : x ∉ K) : idx K x = -1 := by
  unfold idx
  rw [List.findIdx?_eq_none_iff.2 fun y hy => by
    have : ¬ y = x := fun e => h (e ▸ hy)
    simp [this]]
theorem idx_at {K : List (List Int)} {i : Nat} (hn : K.Nodup) (hi : i < K.length) : idx K (K.getD i []) = (i : Int) := by
  obtain ⟨j, h1, h2, h3⟩ := idx_in (getD_mem hi)
  rw [h1]
  have : j = i := by
    rw [List.getD_eq_getElem?_getD, List.getElem?_eq_getElem h2, List.getD_eq_getElem?_getD, List.getElem?_eq_getElem hi] at h3
    have hp := List.pairwise_iff_getElem.1 hn
    have h3' : K[j] = K[i] := h3
    rcases Nat.lt_trichotomy j i with h | h | h
    · exact absurd h3' (hp j i h2 hi h)
    · exact h
    · exact absurd h3'.symm (hp i j hi h2 h)
  rw [this]
theorem idx_neg (K : List (List Int)) (x : List Int) : idx K x < 0 ↔ x ∉ K := by
  constructor
  · intro h hx
    obtain ⟨i, h1, _⟩ := idx_in hx
    omega
  · intro h; rw [idx_out h]; omega
/-- A set in the heap: names and rests. -/
structure SN where
  f : Nat
  cf : Nat
  J1 : List Int
  q : Nat
  cq : Nat
  J2 : List Int
  u : Nat
  bn : Nat → Nat
  bj : Nat → List Int
def SN.val (s : SN) (len : Nat) : SV := .stc [.slice s.f 0 len s.cf, .slice s.q 0 len s.cq, .slice s.u 0 1009 1009]
def SN.bv (s : SN) (K : List (List Int)) (c : Nat) : SV := match bk K c with
  | [] => .nils
  | y :: l => .slice (s.bn c) 0 (l.length + 1) (l.length + 1 + (s.bj c).length)
def SN.bl (s : SN) (K : List (List Int)) : List SV := (List.range 1009).map (s.bv K)
theorem SN.bl_len (s : SN) (K : List (List Int)) : (s.bl K).length = 1009 := by simp [SN.bl]
theorem SN.bl_get (s : SN) (K : List (List Int)) {c : Nat} (hc : c < 1009) : (s.bl K)[c]? = some (s.bv K c) := by simp [SN.bl, hc]
structure SetH (s : SN) (A : Nat → Prop) (m : Nat) (H : Heap) (K : List (List Int)) (P : List Int) : Prop where
  f : hget H s.f = some (.ints (K.flatten ++ s.J1) 29)
  fl : (K.flatten ++ s.J1).length = s.cf * 24
  q : hget H s.q = some (.ints (P ++ s.J2) 3)
  pl : P.length = K.length
  ql : (P ++ s.J2).length = s.cq
  u : hget H s.u = some (.cells (s.bl K) 39)
  b : ∀ c, c < 1009 → bk K c ≠ [] → hget H (s.bn c) = some (.ints (bk K c ++ s.bj c) 3) ∧ m ≤ s.bn c ∧ s.bn c ≠ s.f ∧ s.bn c ≠ s.q ∧ s.bn c ≠ s.u ∧ ¬ A (s.bn c)
  inj : ∀ c c', c < 1009 → c' < 1009 → bk K c ≠ [] → bk K c' ≠ [] → s.bn c = s.bn c' → c = c'
  m : m ≤ s.f ∧ m ≤ s.q ∧ m ≤ s.u
  ne : s.f ≠ s.q ∧ s.f ≠ s.u ∧ s.q ≠ s.u
  nA : ¬ A s.f ∧ ¬ A s.q ∧ ¬ A s.u
  ok : okU K
  nd : K.Nodup
  sm : K.length ≤ 30000
theorem SetH.mono {s : SN} {A : Nat → Prop} {m : Nat} {H H' : Heap} {K : List (List Int)} {P : List Int} (h : SetH s A m H K P) (hE : Ext H H') : SetH s A m H' K P :=
  { h with f := hE _ _ h.f, q := hE _ _ h.q, u := hE _ _ h.u, b := fun c hc hb => ⟨hE _ _ (h.b c hc hb).1, (h.b c hc hb).2⟩ }
theorem not_bk {K : List (List Int)} {x : List Int} (h : ∀ v ∈ bk K (codF x).toNat, K.getD v.toNat [] ≠ x) : x ∉ K := fun hx => by
  obtain ⟨i, h1, h2, h3⟩ := idx_in hx
  exact h (i : Int) (bk_mem.2 ⟨i, h2, rfl, by rw [h3]⟩) (by simpa using h3)
theorem l3At_ok (s : SN) (A : Nat → Prop) (m : Nat) (H : Heap) (K : List (List Int)) (P : List Int) (x : List Int) (h : SetH s A m H K P) (hx : x.length = 24) (hr : rackB x = true) :
    PureH Try.prog 18 [s.val K.length, .arr x] H (.int (idx K x)) := by
  obtain ⟨f, cf, J1, q, cq, J2, u, bn, bj⟩ := s
  obtain ⟨n0, hwH⟩ := ex_hwf H
  have hf := h.f; have hq := h.q; have hu := h.u
  simp only at hf hq hu
  have f0 := (hwH f _ hf).1; have q0 := (hwH q _ hq).1; have u0 := (hwH u _ hu).1
  have ok24 := h.ok.all24
  have tkx : x.take 24 = x := List.take_of_length_le (by omega)
  have hbd := rack_Bd hx hr
  have hc := cod_bd hbd
  have hc9 : (codF x).toNat < 1009 := by omega
  have lb := SN.bl_len ⟨f, cf, J1, q, cq, J2, u, bn, bj⟩ K
  have gb := SN.bl_get ⟨f, cf, J1, q, cq, J2, u, bn, bj⟩ K hc9
  have hB := h.b _ hc9
  have eqr := eqI_rack
  refine pure_of_vc (X := ⟨Try.prog, tys, [(47, l3Code_F)], [], true, true, n0, [], []⟩) fn_18 ⟨tys_ok, .cons l3Code_T .nil, .nil, mixed⟩ (n0 := n0) (Nat.le_of_ble_eq_true rfl) (by simp [wfL, SV.wf, SN.val]; omega) hwH (Nat.le_refl _) (fun _ => trivial) ?_
  unfold SN.val
  have hHH : hwf (n0 + 1 + 1) ((n0 + 1, .ints x 29) :: (n0, .cells [.slice f 0 K.length cf, .slice q 0 K.length cq, .slice u 0 1009 1009] 42) :: H) :=
    hwf_cons (hwf_cons (hwf_mono (by omega) hwH) (by omega) (by simp [SObj.wf, wfL, SV.wf]; omega)) (by omega) trivial
  have xf := ne_add f0; have xf' := ne_add' f0; have xu := ne_add u0; have xu' := ne_add' u0
  cases hb : bk K (codF x).toNat with
  | nil =>
    have ev : (SN.bv ⟨f, cf, J1, q, cq, J2, u, bn, bj⟩ K (codF x).toNat) = .nils := by unfold SN.bv; rw [hb]
    rw [ev] at gb
    have hnx : x ∉ K := not_bk (by rw [hb]; simp)
    simp -implicitDefEqProofs only [Try.f18, Option.getD_some, argS, l3Code_F, hx, hbd, tkx, hc, hc9, gb, hf, hu, xf, xf', xu, xu', add_self, ZB, Int.reduceToNat, Nat.reduceLT, Nat.reduceLeDiff, Int.reduceLE, Int.reduceLT, Nat.reduceEqDiff, Nat.reduceSub, SB, SV.known, packR, ne_eq, reduceCtorEq, Nat.reduceEqDiff, ↓reduceIte, if_true, if_false, eq_self, Nat.reduceAdd, Nat.reduceMul, Nat.reduceSub, forall_const, oneCellS, litOne, flat1, Kd.isSca, flat, TYB]
    refine loop_intro (fun _ : Unit => [(6, .int 0), (5, .nils), (4, .int 0), (3, .ptr (n0 + 1) 0), (2, .ptr n0 0)]) (fun _ => ((n0 + 1, .ints x 29) :: (n0, .cells [.slice f 0 K.length cf, .slice q 0 K.length cq, .slice u 0 1009 1009] 42) :: H)) (n0 + 1 + 1) (fun _ => True) (fun _ => 0) ?_ ?_
    · refine ⟨(), trivial, Sub.same ?_ ?_ hHH (by omega)⟩
      · simp only [LB, subS, subH, wfS, wfH, SV.ren, renL, SObj.ren, SV.wf, SObj.wf, wfL, SV.known, Nat.reduceEqDiff, ↓reduceIte, if_true, if_false, eq_self, Nat.reduceAdd, Nat.reduceLT, Nat.reduceLeDiff, implies_true, reduceCtorEq, forall_const]
      · simp [subS, subH, wfS, wfH, SV.ren, renL, SObj.ren, SV.wf, SObj.wf, wfL, sget_cons, hget_cons]; omega
    · intro _ _
      simp -implicitDefEqProofs only [lk_normal, Int.lt_irrefl, ZB, Int.reduceToNat, Nat.reduceLT, Nat.reduceLeDiff, Int.reduceLE, Int.reduceLT, Nat.reduceEqDiff, Nat.reduceSub, SB, SV.known, packR, ne_eq, reduceCtorEq, Nat.reduceEqDiff, ↓reduceIte, if_true, if_false, eq_self, Nat.reduceAdd, Nat.reduceMul, Nat.reduceSub, forall_const, oneCellS, litOne, flat1, Kd.isSca, flat, TYB]
      rw [idx_out hnx]
  | cons y l =>
    have ev : (SN.bv ⟨f, cf, J1, q, cq, J2, u, bn, bj⟩ K (codF x).toNat) = .slice (bn (codF x).toNat) 0 (l.length + 1) (l.length + 1 + (bj (codF x).toNat).length) := by unfold SN.bv; rw [hb]
    rw [ev] at gb
    obtain ⟨hbb, _⟩ := hB (by rw [hb]; simp)
    have b0 := (hwH _ _ hbb).1
    simp only at hbb b0
    rw [hb] at hbb
    generalize bn (codF x).toNat = b at *
    generalize bj (codF x).toNat = jb at *
    have xb := ne_add b0; have xb' := ne_add' b0
    have hYl : (y :: l).length = l.length + 1 := rfl
    clear hB
    generalize y :: l = Y at *
    generalize l.length + 1 = nb at *
    simp -implicitDefEqProofs only [Try.f18, Option.getD_some, argS, l3Code_F, hx, hbd, tkx, hc, hc9, gb, hf, hu, xf, xf', xu, xu', add_self, ZB, Int.reduceToNat, Nat.reduceLT, Nat.reduceLeDiff, Int.reduceLE, Int.reduceLT, Nat.reduceEqDiff, Nat.reduceSub, SB, SV.known, packR, ne_eq, reduceCtorEq, Nat.reduceEqDiff, ↓reduceIte, if_true, if_false, eq_self, Nat.reduceAdd, Nat.reduceMul, Nat.reduceSub, forall_const, oneCellS, litOne, flat1, Kd.isSca, flat, TYB]
    have hnb : nb ≤ 30000 := by
      have h1 := bk_len K (codF x).toNat
      rw [hb, hYl] at h1
      have h2 := h.sm
      omega
    have hlj : (Y ++ jb).length = nb + jb.length := by rw [List.length_append, hYl]
    have hfl := flat_len ok24
    have hKJ := h.fl
    simp only at hKJ
    refine loop_intro (fun i : Nat => [(6, .int i), (5, .slice b 0 (nb) (nb + jb.length)), (4, .int 0), (3, .ptr (n0 + 1) 0), (2, .ptr n0 0)]) (fun _ => ((n0 + 1, .ints x 29) :: (n0, .cells [.slice f 0 K.length cf, .slice q 0 K.length cq, .slice u 0 1009 1009] 42) :: H)) (n0 + 1 + 1) (fun i => i ≤ nb ∧ ∀ k, k < i → K.getD (Y.getD k 0).toNat [] ≠ x) (fun i => nb - i) ?_ ?_
    · refine ⟨0, ⟨by omega, by simp⟩, Sub.same ?_ ?_ hHH (by omega)⟩
      · simp only [LB, subS, subH, wfS, wfH, SV.ren, renL, SObj.ren, SV.wf, SObj.wf, wfL, SV.known, Nat.reduceEqDiff, ↓reduceIte, if_true, if_false, eq_self, Nat.reduceAdd, Nat.reduceLT, Nat.reduceLeDiff, implies_true, reduceCtorEq, forall_const]
      · simp [subS, subH, wfS, wfH, SV.ren, renL, SObj.ren, SV.wf, SObj.wf, wfL, sget_cons, hget_cons]; omega
    · rintro i ⟨hi, hall⟩
      by_cases hlt : i < nb
      · have hil : (i : Int) < (nb : Int) := by omega
        have lb2 : i < (Y ++ jb).length := by rw [hlj]; omega
        have gd : (Y ++ jb).getD i 0 = Y.getD i 0 := getD_app _ _ _ (by omega)
        have hmem : Y.getD i 0 ∈ bk K (codF x).toNat := by
          rw [hb, List.getD_eq_getElem?_getD, List.getElem?_eq_getElem (by omega)]
          exact List.getElem_mem _
        obtain ⟨v, v1, v2, v3⟩ := bk_mem.1 hmem
        rw [v2] at gd
        have hall' := hall
        have vK : (v : Int) < (K.length : Int) := by omega
        have lK : v * 24 + 24 ≤ (K.flatten ++ J1).length := by rw [List.length_append, hfl]; omega
        have eK : List.take 24 (List.drop (v * 24) (K.flatten ++ J1)) = K.getD v [] := flat_get ok24 v1 J1
        have k24 := ok24 _ (getD_mem v1)
        have v0 : 0 ≤ (v : Int) := by omega
        by_cases he : K.getD v [] = x
        · have he' := decide_eq_true he
          have hid : idx K x = (v : Int) := by rw [← he]; exact idx_at h.nd v1
          simp -implicitDefEqProofs only [lk_normal, hil, lb2, gd, vK, v0, lK, eK, k24, he', he, hf, hbb, xf, xf', xb, xb', add_self, eqr, hx, tkx, hid, ZB, Int.reduceToNat, Nat.reduceLT, Nat.reduceLeDiff, Int.reduceLE, Int.reduceLT, Nat.reduceEqDiff, Nat.reduceSub, SB, SV.known, packR, ne_eq, reduceCtorEq, Nat.reduceEqDiff, ↓reduceIte, if_true, if_false, eq_self, Nat.reduceAdd, Nat.reduceMul, Nat.reduceSub, forall_const, oneCellS, litOne, flat1, Kd.isSca, flat, TYB]
          omega
        · have he' := decide_eq_false he
          simp -implicitDefEqProofs only [lk_normal, hil, lb2, gd, vK, v0, lK, eK, k24, he', hf, hbb, xf, xf', xb, xb', add_self, eqr, hx, tkx, ZB, Int.reduceToNat, Nat.reduceLT, Nat.reduceLeDiff, Int.reduceLE, Int.reduceLT, Nat.reduceEqDiff, Nat.reduceSub, SB, SV.known, packR, ne_eq, reduceCtorEq, Nat.reduceEqDiff, ↓reduceIte, if_true, if_false, eq_self, Nat.reduceAdd, Nat.reduceMul, Nat.reduceSub, forall_const, oneCellS, litOne, flat1, Kd.isSca, flat, TYB]
          refine ⟨by omega, by unfold In64; omega, i + 1, ⟨by omega, fun k hk => ?_⟩, by omega, Sub.same ?_ ?_ hHH (by omega)⟩
          · by_cases hki : k = i
            · subst hki
              rw [v2]
              exact he
            · exact hall k (by omega)
          · simp only [LB, subS, subH, wfS, wfH, SV.ren, renL, SObj.ren, SV.wf, SObj.wf, wfL, SV.known, Nat.reduceEqDiff, ↓reduceIte, if_true, if_false, eq_self, Nat.reduceAdd, Nat.reduceLT, Nat.reduceLeDiff, implies_true, reduceCtorEq, forall_const]
          · simp [subS, subH, wfS, wfH, SV.ren, renL, SObj.ren, SV.wf, SObj.wf, wfL, sget_cons, hget_cons]; omega
      · have hil : ¬ (i : Int) < (nb : Int) := by omega
        obtain rfl : i = nb := by omega
        have hnx : x ∉ K := not_bk (by
          rw [hb]
          intro v hv
          obtain ⟨k, hk, rfl⟩ := List.getElem_of_mem hv
          have := hall k (by omega)
          have e : Y.getD k 0 = Y[k] := by rw [List.getD_eq_getElem?_getD, List.getElem?_eq_getElem hk]; rfl
          rwa [e] at this)
        simp -implicitDefEqProofs only [lk_normal, hil, ZB, Int.reduceToNat, Nat.reduceLT, Nat.reduceLeDiff, Int.reduceLE, Int.reduceLT, Nat.reduceEqDiff, Nat.reduceSub, SB, SV.known, packR, ne_eq, reduceCtorEq, Nat.reduceEqDiff, ↓reduceIte, if_true, if_false, eq_self, Nat.reduceAdd, Nat.reduceMul, Nat.reduceSub, forall_const, oneCellS, litOne, flat1, Kd.isSca, flat, TYB]
        rw [idx_out hnx]
/-- The set in the heap; what is asked of it. -/
def l3At_F : List SV → Heap → Option (Prop × SV)
  | [.stc [.slice f 0 len cf, v2, v3], .arr x], H => match hget H f with
    | some (.ints L _) => some ((x.length = 24 ∧ rackB x = true) ∧ ∃ (s : SN) (A : Nat → Prop) (m : Nat) (K : List (List Int)) (P : List Int), SV.stc [.slice f 0 len cf, v2, v3] = s.val K.length ∧ SetH s A m H K P, .int (idx (chkR L 0 len) x))
    | _ => none
  | _, _ => none
--@tbl l3At = spec.l3At
theorem l3At_T : ∀ args H p v, l3At_F args H = some (p, v) → p → PureH Try.prog 18 args H v := by
  intro args H p v h hp
  unfold l3At_F at h
  split at h
  · rename_i f len cf v2 v3 x
    split at h
    · rename_i L e hf
      cases h
      obtain ⟨⟨hx, hr⟩, s, A, m, K, P, hs, hS⟩ := hp
      have e1 : f = s.f ∧ len = K.length := by
        unfold SN.val at hs
        simp only [SV.stc.injEq, List.cons.injEq, SV.slice.injEq] at hs
        exact ⟨hs.1.1, hs.1.2.2.1⟩
      obtain ⟨rfl, rfl⟩ := e1
      have hL := hS.f
      rw [hf] at hL
      cases hL
      rw [chkR_of hS.ok.all24, hs]
      exact l3At_ok s A m H K P x hS hx hr
    · cases h
  · cases h
/-- A walk in the caller's own heap. -/
theorem SN.bl_set (s : SN) (K : List (List Int)) (x : List Int) (b : Nat) (j : List Int) (f cf : Nat) (J1 : List Int) (q cq : Nat) (J2 : List Int) {c : Nat} (hcx : (codF x).toNat = c) (cap : Nat) (hcap : j.length + ((bk K c).length + 1) = cap) :
    (s.bl K).set c (.slice b 0 ((bk K c).length + 1) cap) = SN.bl ⟨f, cf, J1, q, cq, J2, s.u, fun k => if k = c then b else s.bn k, fun k => if k = c then j else s.bj k⟩ (K ++ [x]) := by
  refine List.ext_getElem (by rw [List.length_set, SN.bl_len, SN.bl_len]) fun i h1 h2 => ?_
  rw [List.length_set, SN.bl_len] at h1
  rw [List.getElem_set]
  have g1 : (s.bl K)[i]'(by rw [SN.bl_len]; exact h1) = s.bv K i := by simp [SN.bl]
  have g2 : (SN.bl ⟨f, cf, J1, q, cq, J2, s.u, fun k => if k = c then b else s.bn k, fun k => if k = c then j else s.bj k⟩ (K ++ [x]))[i]'h2 = SN.bv ⟨f, cf, J1, q, cq, J2, s.u, fun k => if k = c then b else s.bn k, fun k => if k = c then j else s.bj k⟩ (K ++ [x]) i := by simp [SN.bl]
  rw [g2]
  by_cases hi : c = i
  · subst hi
    rw [if_pos rfl]
    unfold SN.bv
    have e := bk_snoc K x c
    rw [if_pos hcx] at e
    cases hq : bk (K ++ [x]) c with
    | nil => rw [hq] at e; have := congrArg List.length e; simp at this
    | cons y l =>
      have hl : l.length + 1 = (bk K c).length + 1 := by
        rw [hq] at e
        have := congrArg List.length e
        simpa using this
      simp only [if_true]
      rw [hl, ← hcap]
      congr 1
      omega
  · rw [if_neg hi, g1]
    unfold SN.bv
    have e := bk_snoc K x i
    rw [if_neg (by omega), List.append_nil] at e
    rw [e]
    have hi2 : ¬ i = c := fun h => hi h.symm
    cases bk K i with
    | nil => rfl
    | cons y l => simp only [if_neg hi2]
/-- What is known of other blocks stays. -/
def Frm (A : Nat → Prop) (H H' : Heap) : Prop := ∀ k o, A k → hget H k = some o → hget H' k = some o
/-- The set with one more form, whatever the heap looks like. -/
theorem SetH.put {s : SN} {A : Nat → Prop} {m n : Nat} {H H' : Heap} {K : List (List Int)} {P : List Int} {x : List Int} {p : Int} (h : SetH s A m H K P) (hx : x.length = 24) (hr : rackB x = true) (hin : x ∉ K) (hA : ∀ k, A k → k < n) (hwH : hwf n H) (hsm : K.length < 30000) (hmn : m ≤ n)
    {f' cf' q' cq' b' cap : Nat} {J1' J2' jb' : List Int} (hc9 : (codF x).toNat < 1009) (hcap : jb'.length + ((bk K (codF x).toNat).length + 1) = cap)
    (hf : hget H' f' = some (.ints ((K.flatten ++ x) ++ J1') 29)) (hfl : J1'.length + (K.length + 1) * 24 = cf' * 24)
    (hq : hget H' q' = some (.ints ((P ++ [p]) ++ J2') 3)) (hql : J2'.length + (K.length + 1) = cq')
    (hu : hget H' s.u = some (.cells ((s.bl K).set (codF x).toNat (.slice b' 0 ((bk K (codF x).toNat).length + 1) cap)) 39))
    (hb : hget H' b' = some (.ints (bk K (codF x).toNat ++ [(K.length : Int)] ++ jb') 3))
    (ho : ∀ k o, hget H k = some o → k ≠ s.f → k ≠ s.q → k ≠ s.u → (bk K (codF x).toNat ≠ [] → k ≠ s.bn (codF x).toNat) → k < n → hget H' k = some o)
    (f0 : n ≤ f') (q0 : n ≤ q') (b0 : n ≤ b') (fq : f' ≠ q') (fb : b' ≠ f') (qb : b' ≠ q') :
    SetH ⟨f', cf', J1', q', cq', J2', s.u, fun k => if k = (codF x).toNat then b' else s.bn k, fun k => if k = (codF x).toNat then jb' else s.bj k⟩ A m H' (K ++ [x]) (P ++ [p]) ∧ Frm A H H' := by
  have lt : ∀ k o, hget H k = some o → k < n := fun k o hk => (hwH k o hk).1
  have u0 := lt _ _ h.u
  have nA : ∀ k, n ≤ k → ¬ A k := fun k hk ha => by have := hA k ha; omega
  have hkf := flat_len h.ok.all24
  refine ⟨⟨?_, ?_, ?_, ?_, ?_, ?_, ?_, ?_, ?_, ?_, ?_, ?_, ?_, ?_⟩, fun k o ha hk => ?_⟩
  · simpa using hf
  · simp only [List.flatten_append, List.flatten_cons, List.flatten_nil, List.append_nil, List.length_append, hkf, hx]; omega
  · simpa using hq
  · rw [List.length_append, List.length_append, h.pl]; rfl
  · simp only [List.length_append, List.length_singleton, h.pl]; omega
  · rw [hu, SN.bl_set s K x b' jb' f' cf' J1' q' cq' J2' rfl cap hcap]
  · intro c hc hne
    by_cases hcc : c = (codF x).toNat
    · subst hcc
      simp only [if_true]
      refine ⟨?_, by omega, by omega, by omega, by omega, nA _ b0⟩
      rw [hb, bk_snoc, if_pos rfl]
    · have e := bk_snoc K x c
      rw [if_neg (fun h => hcc h.symm), List.append_nil] at e
      rw [e] at hne ⊢
      obtain ⟨g1, g2, g3, g4, g5, g6⟩ := h.b c hc hne
      have g0 := lt _ _ g1
      simp only [if_neg hcc]
      refine ⟨ho _ _ g1 g3 g4 g5 (fun hne2 heq => hcc (h.inj c _ hc hc9 hne hne2 heq)) g0, g2, by omega, by omega, g5, g6⟩
  · intro c c' hc hc' hne hne' heq
    have sn : ∀ d, d ≠ (codF x).toNat → bk (K ++ [x]) d = bk K d := fun d hd => by
      rw [bk_snoc, if_neg (fun h => hd h.symm), List.append_nil]
    by_cases h1 : c = (codF x).toNat
    · by_cases h2 : c' = (codF x).toNat
      · rw [h1, h2]
      · rw [sn c' h2] at hne'
        have g0 := lt _ _ (h.b c' hc' hne').1
        simp only [if_pos h1, if_neg h2] at heq
        omega
    · rw [sn c h1] at hne
      have g0 := lt _ _ (h.b c hc hne).1
      by_cases h2 : c' = (codF x).toNat
      · simp only [if_neg h1, if_pos h2] at heq
        omega
      · rw [sn c' h2] at hne'
        simp only [if_neg h1, if_neg h2] at heq
        exact h.inj c c' hc hc' hne hne' heq
  · exact ⟨by show m ≤ f'; omega, by show m ≤ q'; omega, h.m.2.2⟩
  · exact ⟨fq, by show f' ≠ s.u; omega, by show q' ≠ s.u; omega⟩
  · exact ⟨nA _ f0, nA _ q0, h.nA.2.2⟩
  · exact okU_app h.ok fun y hy => by rw [List.mem_singleton] at hy; subst hy; exact ⟨hx, hr⟩
  · rw [List.nodup_append]
    refine ⟨h.nd, by simp, fun a ha b hb hab => ?_⟩
    rw [List.mem_singleton] at hb
    subst hb; subst hab
    exact hin ha
  · rw [List.length_append, List.length_singleton]; omega
  · exact ho k o hk (fun e => h.nA.1 (e ▸ ha)) (fun e => h.nA.2.1 (e ▸ ha)) (fun e => h.nA.2.2 (e ▸ ha)) (fun hne e => (h.b _ hc9 hne).2.2.2.2.2 (e ▸ ha)) (hA k ha)
theorem wfL_set {n : Nat} (l : List SV) (c : Nat) {v : SV} (h : wfL n l) (hv : v.wf n) : wfL n (l.set c v) := by
  rw [wfL_iff] at *
  intro x hx
  rcases List.mem_or_eq_of_mem_set hx with hx | rfl
  · exact h x hx
  · exact hv
theorem l3Put_vc (s : SN) (A : Nat → Prop) (m n : Nat) (H : Heap) (K : List (List Int)) (P : List Int) (x : List Int) (p : Int) (h : SetH s A m H K P) (hx : x.length = 24) (hr : rackB x = true) (hA : ∀ k, A k → k < n) (hwH : hwf n H) (hsm : K.length < 30000) :
    codeVC (⟨Try.prog, tys, [(18, l3At_F), (47, l3Code_F)], [], true, true, m, [], [(4, .tree (.one 0 (.one 2 (.one 3 (.one 4 (.one 5 (.one 6 (.one 7 (.one 8 (.one 9 (.one 10 (.alt 1 (.one 11 (.one 12 (.one 13 (.one 14 .done)))) (.alt 11 (.alt 1 (.one 12 (.one 13 (.one 14 .done))) (.alt 12 (.one 1 (.one 13 (.one 14 .done))) .stop)) .stop)))))))))))))]⟩ : Cx) n (Try.f65.body.getD .skip) (argS 0 [s.val K.length, .arr x, .int p]) H n
      (retK tys Try.f65.results.toList fun v H' n' => (x ∈ K → v = s.val K.length ∧ Ext H H') ∧ (x ∉ K → ∃ s' : SN, v = s'.val (K.length + 1) ∧ SetH s' A m H' (K ++ [x]) (P ++ [p]) ∧ Frm A H H')) := by
  obtain ⟨f, cf, J1, q, cq, J2, u, bn, bj⟩ := s
  have hf := h.f; have hq := h.q; have hu := h.u; have hfl := h.fl; have hql := h.ql; have hpl := h.pl
  simp only at hf hq hu hfl hql
  have f0 := (hwH f _ hf).1; have q0 := (hwH q _ hq).1; have u0 := (hwH u _ hu).1
  obtain ⟨mf, mq, mu⟩ := h.m
  obtain ⟨fq, fu, qu⟩ := h.ne
  simp only at mf mq mu fq fu qu
  have ok24 := h.ok.all24
  have hkf := flat_len ok24
  have tkx : x.take 24 = x := List.take_of_length_le (by omega)
  have hbd := rack_Bd hx hr
  have hc := cod_bd hbd
  have hc9 : (codF x).toNat < 1009 := by omega
  have lb := SN.bl_len ⟨f, cf, J1, q, cq, J2, u, bn, bj⟩ K
  have gb := SN.bl_get ⟨f, cf, J1, q, cq, J2, u, bn, bj⟩ K hc9
  have hB := h.b _ hc9
  have eqr := eqI_rack
  have ck : chkR (K.flatten ++ J1) 0 K.length = K := chkR_of ok24 J1
  have xf := ne_add f0; have xf' := ne_add' f0; have xu := ne_add u0; have xu' := ne_add' u0; have xq := ne_add q0; have xq' := ne_add' q0
  have yf := add_ne f0; have yf' := add_ne' f0; have yu := add_ne u0; have yu' := add_ne' u0; have yq := add_ne q0; have yq' := add_ne' q0
  have qf : ¬ q = f := fun h => fq h.symm
  have uf : ¬ u = f := fun h => fu h.symm
  have uq : ¬ u = q := fun h => qu h.symm
  have hS3 : ∀ o1 o2 o3 : SObj, Ext H ((n + 2, o1) :: (n + 1, o2) :: (n, o3) :: H) := fun o1 o2 o3 => Ext.cons hwH (by omega) (Ext.cons hwH (by omega) (Ext.cons hwH (by omega) (Ext.refl H)))
  have hE2 : ∀ o1 o2 o3 : SObj, (∃ (s : SN) (A : Nat → Prop) (m : Nat) (K_1 : List (List Int)) (P : List Int), SV.stc [.slice f 0 K.length cf, .slice q 0 K.length cq, .slice u 0 1009 1009] = s.val K_1.length ∧ SetH s A m ((n + 2, o1) :: (n + 1, o2) :: (n, o3) :: H) K_1 P) = True := fun o1 o2 o3 => by
    refine eq_true ?_
    exact ⟨_, A, m, K, P, rfl, h.mono (hS3 _ _ _)⟩
  have hE : ∀ o1 o2 : SObj, Ext H ((n + 1, o1) :: (n, o2) :: H) := fun o1 o2 => Ext.cons hwH (by omega) (Ext.cons hwH (by omega) (Ext.refl H))
  unfold SN.val
  by_cases hin : x ∈ K
  · have hid : ¬ idx K x < 0 := fun h => (idx_neg K x).1 h hin
    simp -implicitDefEqProofs only [Try.f65, Option.getD_some, argS, l3Code_F, l3At_F, hx, hr, hbd, tkx, hc, hc9, gb, hf, hu, ck, xf, xf', xu, xu', xq, xq', yf, yf', yu, yu', yq, yq', Nat.add_assoc, add_self, self_add, add_add, hE2, hin, hid, ZB, Int.reduceToNat, Nat.reduceLT, Nat.reduceLeDiff, Int.reduceLE, Int.reduceLT, Nat.reduceEqDiff, Nat.reduceSub, SB, SV.known, packR, ne_eq, reduceCtorEq, Nat.reduceEqDiff, ↓reduceIte, if_true, if_false, eq_self, Nat.reduceAdd, Nat.reduceMul, Nat.reduceSub, forall_const, oneCellS, litOne, flat1, Kd.isSca, flat, TYB]
    have h0 := (not_congr (idx_neg K x)).2 (fun h => h hin)
    exact ⟨fun _ => ⟨by omega, Ext.cons hwH (by omega) (hS3 _ _ _), fun h => absurd trivial h⟩, fun h => absurd (by omega) h⟩
  · have hid : idx K x = -1 := idx_out hin
    simp -implicitDefEqProofs only [Try.f65, Option.getD_some, argS, l3Code_F, l3At_F, hx, hr, hbd, tkx, hc, hc9, gb, hf, hu, ck, xf, xf', xu, xu', xq, xq', yf, yf', yu, yu', yq, yq', Nat.add_assoc, add_self, self_add, add_add, hE2, hin, hid, ZB, Int.reduceToNat, Nat.reduceLT, Nat.reduceLeDiff, Int.reduceLE, Int.reduceLT, Nat.reduceEqDiff, Nat.reduceSub, SB, SV.known, packR, ne_eq, reduceCtorEq, Nat.reduceEqDiff, ↓reduceIte, if_true, if_false, eq_self, Nat.reduceAdd, Nat.reduceMul, Nat.reduceSub, forall_const, oneCellS, litOne, flat1, Kd.isSca, flat, TYB]
    have lK : K.length ≤ 9223372036854775807 := by omega
    have r1 : ∀ v : Int, (List.replicate 1 (0 : Int)).set 0 v = [v] := fun _ => rfl
    have wbl : wfL n (SN.bl ⟨f, cf, J1, q, cq, J2, u, bn, bj⟩ K) := (hwH u _ hu).2
    have hw3 : hwf (n + 3) ((n + 2, .cells [.nils, .nils, .nils] 42) :: (n + 1, .ints x 29) :: (n, .cells [.slice f 0 K.length cf, .slice q 0 K.length cq, .slice u 0 1009 1009] 42) :: H) :=
      hwf_cons (hwf_cons (hwf_cons (hwf_mono (by omega) hwH) (by omega) (by simp [SObj.wf, wfL, SV.wf]; omega)) (by omega) trivial) (by omega) (by simp [SObj.wf, wfL, SV.wf])
    cases hb : bk K (codF x).toNat with
    | nil =>
      have ev : (SN.bv ⟨f, cf, J1, q, cq, J2, u, bn, bj⟩ K (codF x).toNat) = .nils := by unfold SN.bv; rw [hb]
      rw [ev] at gb
      refine ⟨{s : Nat × List Int // s.2.length + 1 = s.1}, fun s => [(7, .int (codF x)), (6, .ptr (n + 2) 0), (4, .ptr (n + 1) 0), (3, .ptr n 0), (2, .int p)],
        fun s => (u, .cells ((SN.bl ⟨f, cf, J1, q, cq, J2, u, bn, bj⟩ K).set (codF x).toNat (.slice (n + 4) 0 1 s.1.1)) 39) :: (n + 4, .ints ([(K.length : Int)] ++ s.1.2) 3) :: (n + 3, .ints [(K.length : Int)] 3) :: (n + 2, .cells [.nils, .nils, .nils] 42) :: (n + 1, .ints x 29) :: (n, .cells [.slice f 0 K.length cf, .slice q 0 K.length cq, .slice u 0 1009 1009] 42) :: H, fun _ => n + 5, ?_, ?_⟩
      · simp -implicitDefEqProofs only [l3Code_F, gb, hx, hr, hbd, tkx, hc, hc9, lb, hf, hu, hq, mu, mf, mq, xf, xf', xu, xu', xq, xq', yf, yf', yu, yu', yq, yq', fq, fu, qu, qf, uf, uq, r1, Nat.add_assoc, add_self, self_add, add_add, ZB, Int.reduceToNat, Nat.reduceLT, Nat.reduceLeDiff, Int.reduceLE, Int.reduceLT, Nat.reduceEqDiff, Nat.reduceSub, SB, SV.known, packR, ne_eq, reduceCtorEq, Nat.reduceEqDiff, ↓reduceIte, if_true, if_false, eq_self, Nat.reduceAdd, Nat.reduceMul, Nat.reduceSub, forall_const, oneCellS, litOne, flat1, Kd.isSca, flat, TYB]
        repeat' apply And.intro
        all_goals (first
          | omega
          | (intro junk cap hj
             refine ⟨⟨(cap, junk), hj⟩, Sub.same (by simp only [LB, subS, subH, wfS, wfH, SV.ren, renL, SObj.ren, SV.wf, SObj.wf, wfL, SV.known, Nat.reduceEqDiff, ↓reduceIte, if_true, if_false, eq_self, Nat.reduceAdd, Nat.reduceLT, Nat.reduceLeDiff, implies_true, reduceCtorEq, forall_const]) (by simp [subS, subH, wfS, wfH, SV.ren, renL, SObj.ren, SV.wf, SObj.wf, wfL, sget_cons, hget_cons] <;> omega) ?_ (by omega)⟩
             exact hwf_cons (hwf_cons (hwf_cons (hwf_mono (by omega) hw3) (by omega) trivial) (by omega) trivial) (by omega) (wfL_set _ _ (wfL_mono (by omega) _ wbl) (by simp [SV.wf]))))
      · rintro ⟨⟨cap, j⟩, hj⟩
        simp only at hj
        simp -implicitDefEqProofs only [lk_normal, hx, hr, hbd, tkx, hc, hc9, lb, hf, hu, hq, mu, mf, mq, xf, xf', xu, xu', xq, xq', yf, yf', yu, yu', yq, yq', fq, fu, qu, qf, uf, uq, r1, Nat.add_assoc, add_self, self_add, add_add, ZB, Int.reduceToNat, Nat.reduceLT, Nat.reduceLeDiff, Int.reduceLE, Int.reduceLT, Nat.reduceEqDiff, Nat.reduceSub, SB, SV.known, packR, ne_eq, reduceCtorEq, Nat.reduceEqDiff, ↓reduceIte, if_true, if_false, eq_self, Nat.reduceAdd, Nat.reduceMul, Nat.reduceSub, forall_const, oneCellS, litOne, flat1, Kd.isSca, flat, TYB]
        refine ⟨by rw [List.length_append, hkf] at hfl ⊢; omega, by rw [List.length_append, hkf] at hfl; omega, by omega, by omega, fun j1 c1 hj1 => ⟨by omega, hql, by rw [List.length_append, hpl] at hql; omega, by omega, by omega, fun j2 c2 hj2 => ⟨by omega, by omega, ?_⟩⟩⟩
        have tkK : List.take (K.length * 24) (K.flatten ++ J1) = K.flatten := List.take_left' hkf
        have tkP : List.take K.length (P ++ J2) = P := List.take_left' hpl
        rw [tkK, tkP]
        refine ⟨⟨n + 6, c1, j1, n + 8, c2, j2, u, fun k => if k = (codF x).toNat then n + 4 else bn k, fun k => if k = (codF x).toNat then j else bj k⟩, rfl, SetH.put (s := ⟨f, cf, J1, q, cq, J2, u, bn, bj⟩) h hx hr hin hA hwH hsm (by omega) (b' := n + 4) (cap := cap) (jb' := j) hc9 (by rw [hb]; simpa using hj) ?_ hj1 ?_ hj2 ?_ ?_ ?_ (by omega) (by omega) (by omega) (by omega) (by omega) (by omega)⟩
        · simp [hget_cons, hb, yq, yf, yu]
        · simp [hget_cons, hb, yq, yf, yu]
        · simp [hget_cons, hb, xu, xu', fq, fu, qu, uf, uq]
        · simp [hget_cons, hb, yf, yq, yu]
        · intro k o hk h1 h2 h3 h4 h5
          simp only at h1 h2 h3 h4
          simp only [hget_cons]
          repeat rw [if_neg (by omega)]
          exact hk
    | cons y l =>
      have ev : (SN.bv ⟨f, cf, J1, q, cq, J2, u, bn, bj⟩ K (codF x).toNat) = .slice (bn (codF x).toNat) 0 (l.length + 1) (l.length + 1 + (bj (codF x).toNat).length) := by unfold SN.bv; rw [hb]
      rw [ev] at gb
      obtain ⟨hbb, mb, bf, bq, bu, _⟩ := hB (by rw [hb]; simp)
      simp only at hbb mb bf bq bu
      have b0 := (hwH _ _ hbb).1
      rw [hb] at hbb
      generalize hbn : bn (codF x).toNat = b at *
      generalize hbj : bj (codF x).toNat = jb at *
      have xb := ne_add b0; have xb' := ne_add' b0; have yb := add_ne b0; have yb' := add_ne' b0
      have fb : ¬ f = b := fun h => bf h.symm
      have qb : ¬ q = b := fun h => bq h.symm
      have ub : ¬ u = b := fun h => bu h.symm
      have hYl : (y :: l).length = l.length + 1 := rfl
      have hnb := bk_len K (codF x).toNat
      rw [hb, hYl] at hnb
      generalize hY : y :: l = Y at *
      generalize hnbq : l.length + 1 = nb at *
      have hlj : (Y ++ jb).length = nb + jb.length := by rw [List.length_append, hYl]
      have tkY : List.take nb (Y ++ jb) = Y := List.take_left' hYl
      have nbl : nb ≤ nb + jb.length := by omega
      have nb1 : (nb + 1) * 8 ≤ 140737488355328 := by omega
      have nb2 : nb + 1 ≤ 9223372036854775807 := by omega
      have nb3 : nb ≤ 9223372036854775806 := by omega
      refine ⟨{s : Nat × List Int // s.2.length + (nb + 1) = s.1}, fun s => [(7, .int (codF x)), (6, .ptr (n + 2) 0), (4, .ptr (n + 1) 0), (3, .ptr n 0), (2, .int p)],
        fun s => (u, .cells ((SN.bl ⟨f, cf, J1, q, cq, J2, u, bn, bj⟩ K).set (codF x).toNat (.slice (n + 4) 0 (nb + 1) s.1.1)) 39) :: (n + 4, .ints (Y ++ [(K.length : Int)] ++ s.1.2) 3) :: (b, .dead) :: (n + 3, .ints [(K.length : Int)] 3) :: (n + 2, .cells [.nils, .nils, .nils] 42) :: (n + 1, .ints x 29) :: (n, .cells [.slice f 0 K.length cf, .slice q 0 K.length cq, .slice u 0 1009 1009] 42) :: H, fun _ => n + 5, ?_, ?_⟩
      · simp -implicitDefEqProofs only [l3Code_F, gb, hbb, hlj, tkY, nbl, nb1, nb2, nb3, mb, xb, xb', yb, yb', bf, bq, bu, fb, qb, ub, hx, hr, hbd, tkx, hc, hc9, lb, hf, hu, hq, mu, mf, mq, xf, xf', xu, xu', xq, xq', yf, yf', yu, yu', yq, yq', fq, fu, qu, qf, uf, uq, r1, Nat.add_assoc, add_self, self_add, add_add, ZB, Int.reduceToNat, Nat.reduceLT, Nat.reduceLeDiff, Int.reduceLE, Int.reduceLT, Nat.reduceEqDiff, Nat.reduceSub, SB, SV.known, packR, ne_eq, reduceCtorEq, Nat.reduceEqDiff, ↓reduceIte, if_true, if_false, eq_self, Nat.reduceAdd, Nat.reduceMul, Nat.reduceSub, forall_const, oneCellS, litOne, flat1, Kd.isSca, flat, TYB]
        repeat' apply And.intro
        all_goals (first
          | omega
          | (intro junk cap hj
             refine ⟨⟨(cap, junk), hj⟩, Sub.same (by simp only [LB, subS, subH, wfS, wfH, SV.ren, renL, SObj.ren, SV.wf, SObj.wf, wfL, SV.known, Nat.reduceEqDiff, ↓reduceIte, if_true, if_false, eq_self, Nat.reduceAdd, Nat.reduceLT, Nat.reduceLeDiff, implies_true, reduceCtorEq, forall_const]) (by simp [subS, subH, wfS, wfH, SV.ren, renL, SObj.ren, SV.wf, SObj.wf, wfL, sget_cons, hget_cons] <;> omega) ?_ (by omega)⟩
             exact hwf_cons (hwf_cons (hwf_cons (hwf_cons (hwf_mono (by omega) hw3) (by omega) trivial) (by omega) trivial) (by omega) trivial) (by omega) (wfL_set _ _ (wfL_mono (by omega) _ wbl) (by simp [SV.wf])))
)
      · rintro ⟨⟨cap, j⟩, hj⟩
        simp only at hj
        simp -implicitDefEqProofs only [lk_normal, xb, xb', yb, yb', bf, bq, bu, fb, qb, ub, hx, hr, hbd, tkx, hc, hc9, lb, hf, hu, hq, mu, mf, mq, xf, xf', xu, xu', xq, xq', yf, yf', yu, yu', yq, yq', fq, fu, qu, qf, uf, uq, r1, Nat.add_assoc, add_self, self_add, add_add, ZB, Int.reduceToNat, Nat.reduceLT, Nat.reduceLeDiff, Int.reduceLE, Int.reduceLT, Nat.reduceEqDiff, Nat.reduceSub, SB, SV.known, packR, ne_eq, reduceCtorEq, Nat.reduceEqDiff, ↓reduceIte, if_true, if_false, eq_self, Nat.reduceAdd, Nat.reduceMul, Nat.reduceSub, forall_const, oneCellS, litOne, flat1, Kd.isSca, flat, TYB]
        refine ⟨by rw [List.length_append, hkf] at hfl ⊢; omega, by rw [List.length_append, hkf] at hfl; omega, by omega, by omega, fun j1 c1 hj1 => ⟨by omega, hql, by rw [List.length_append, hpl] at hql; omega, by omega, by omega, fun j2 c2 hj2 => ⟨by omega, by omega, ?_⟩⟩⟩
        have tkK : List.take (K.length * 24) (K.flatten ++ J1) = K.flatten := List.take_left' hkf
        have tkP : List.take K.length (P ++ J2) = P := List.take_left' hpl
        rw [tkK, tkP]
        refine ⟨⟨n + 6, c1, j1, n + 8, c2, j2, u, fun k => if k = (codF x).toNat then n + 4 else bn k, fun k => if k = (codF x).toNat then j else bj k⟩, rfl, SetH.put (s := ⟨f, cf, J1, q, cq, J2, u, bn, bj⟩) h hx hr hin hA hwH hsm (by omega) (b' := n + 4) (cap := cap) (jb' := j) hc9 (by rw [hb, hYl]; exact hj) ?_ hj1 ?_ hj2 ?_ ?_ ?_ (by omega) (by omega) (by omega) (by omega) (by omega) (by omega)⟩
        · simp [hget_cons, yq, yf, yu, yb]
        · simp [hget_cons, yq, yf, yu, yb]
        · simp [hget_cons, hb, hYl, xu, xu', fq, fu, qu, uf, uq]
        · simp [hget_cons, hb, yf, yq, yu, yb]
        · intro k o hk h1 h2 h3 h4 h5
          simp only at h1 h2 h3 h4
          have h6 : k ≠ b := by
            have := h4 (by rw [hb]; intro h0; rw [h0] at hYl; simp at hYl; omega)
            rwa [hbn] at this
          simp only [hget_cons]
          repeat rw [if_neg (by omega)]
          exact hk
def l3Put_F : List SV → Heap → Nat → Nat → K1 → Prop
  | [v, .arr x, .int p], H, n, m, κ => (x.length = 24 ∧ rackB x = true) ∧ ∃ (s : SN) (A : Nat → Prop) (K : List (List Int)) (P : List Int), v = s.val K.length ∧ SetH s A m H K P ∧ (∀ k, A k → k < n) ∧ K.length < 30000 ∧
      (x ∈ K → ∀ H' n', n ≤ n' → hwf n' H' → SetH s A m H' K P → Frm A H H' → κ (s.val K.length) H' n') ∧
      (x ∉ K → ∀ (s' : SN) H' n', n ≤ n' → hwf n' H' → SetH s' A m H' (K ++ [x]) (P ++ [p]) → Frm A H H' → κ (s'.val (K.length + 1)) H' n')
  | _, _, _, _, _ => False
--@tbl l3Put = spec.l3Put
theorem l3Put_T : ∀ args H n m κ, l3Put_F args H n m κ → GenOK Try.prog 65 args H n m κ := by
  intro args H n m κ h
  unfold l3Put_F at h
  split at h
  · rename_i v x p
    obtain ⟨⟨hx, hr⟩, s, A, K, P, rfl, hS, hA, hsm, h1, h2⟩ := h
    refine gen_direct (X := ⟨Try.prog, tys, [(18, l3At_F), (47, l3Code_F)], [], true, true, m, [], [(4, .tree (.one 0 (.one 2 (.one 3 (.one 4 (.one 5 (.one 6 (.one 7 (.one 8 (.one 9 (.one 10 (.alt 1 (.one 11 (.one 12 (.one 13 (.one 14 .done)))) (.alt 11 (.alt 1 (.one 12 (.one 13 (.one 14 .done))) (.alt 12 (.one 1 (.one 13 (.one 14 .done))) .stop)) .stop)))))))))))))]⟩) fn_65 ⟨tys_ok, .cons l3At_T (.cons l3Code_T .nil), .nil, mixed⟩ rfl (Nat.le_of_ble_eq_true rfl) (fun hwH hwa => l3Put_vc s A m n H K P x p hS hx hr hA hwH hsm) fun hwH v H' n' hψ h3 h4 h5 => ?_
    by_cases hin : x ∈ K
    · obtain ⟨rfl, hE⟩ := hψ.1 hin
      exact h1 hin H' n' h3 h4 (hS.mono hE) fun k o _ hk => hE k o hk
    · obtain ⟨s', rfl, hS', hF⟩ := hψ.2 hin
      exact h2 hin s' H' n' h3 h4 hS' hF
  · exact h.elim
def nilB : List SV := List.replicate 1009 .nils
theorem nilB_len : nilB.length = 1009 := List.length_replicate ..
theorem nilB_get {c : Nat} (hc : c < 1009) : nilB[c]? = some .nils := by unfold nilB; rw [List.getElem?_replicate, if_pos hc]
theorem nilB_wf (n : Nat) : wfL n nilB := by
  rw [wfL_iff]
  intro v hv
  obtain rfl := (List.mem_replicate.1 hv).2
  trivial
theorem nilB_bl (s : SN) : s.bl [] = nilB := by
  refine List.ext_getElem (by rw [SN.bl_len, nilB_len]) fun i h1 h2 => ?_
  have g1 : (s.bl [])[i]'h1 = s.bv [] i := by simp [SN.bl]
  have g2 : nilB[i]'h2 = .nils := List.getElem_replicate ..
  rw [g1, g2]
  unfold SN.bv
  rw [bk_nil]
theorem l3At0_ok (H : Heap) (u e : Nat) (x : List Int) (hu : hget H u = some (.cells nilB e)) (hx : x.length = 24) (hr : rackB x = true) :
    PureH Try.prog 18 [.stc [.nils, .nils, .slice u 0 1009 1009], .arr x] H (.int (-1)) := by
  obtain ⟨n0, hwH⟩ := ex_hwf H
  have u0 := (hwH u _ hu).1
  have tkx : x.take 24 = x := List.take_of_length_le (by omega)
  have hbd := rack_Bd hx hr
  have hc := cod_bd hbd
  have hc9 : (codF x).toNat < 1009 := by omega
  have gb := nilB_get hc9
  have xu := ne_add u0; have xu' := ne_add' u0
  refine pure_of_vc (X := ⟨Try.prog, tys, [(47, l3Code_F)], [], true, true, n0, [], []⟩) fn_18 ⟨tys_ok, .cons l3Code_T .nil, .nil, mixed⟩ (n0 := n0) (Nat.le_of_ble_eq_true rfl) (by simp [wfL, SV.wf]; omega) hwH (Nat.le_refl _) (fun _ => trivial) ?_
  simp -implicitDefEqProofs only [Try.f18, Option.getD_some, argS, l3Code_F, hx, hbd, tkx, hc, hc9, gb, hu, xu, xu', add_self, ZB, Int.reduceToNat, Nat.reduceLT, Nat.reduceLeDiff, Int.reduceLE, Int.reduceLT, Nat.reduceEqDiff, Nat.reduceSub, SB, SV.known, packR, ne_eq, reduceCtorEq, Nat.reduceEqDiff, ↓reduceIte, if_true, if_false, eq_self, Nat.reduceAdd, Nat.reduceMul, Nat.reduceSub, forall_const, oneCellS, litOne, flat1, Kd.isSca, flat, TYB]
  refine loop_intro (fun _ : Unit => [(6, .int 0), (5, .nils), (4, .int 0), (3, .ptr (n0 + 1) 0), (2, .ptr n0 0)]) (fun _ => ((n0 + 1, .ints x 29) :: (n0, .cells [.nils, .nils, .slice u 0 1009 1009] 42) :: H)) (n0 + 1 + 1) (fun _ => True) (fun _ => 0) ?_ ?_
  · refine ⟨(), trivial, Sub.same ?_ ?_ ?_ (by omega)⟩
    · simp only [LB, subS, subH, wfS, wfH, SV.ren, renL, SObj.ren, SV.wf, SObj.wf, wfL, SV.known, Nat.reduceEqDiff, ↓reduceIte, if_true, if_false, eq_self, Nat.reduceAdd, Nat.reduceLT, Nat.reduceLeDiff, implies_true, reduceCtorEq, forall_const]
    · simp [subS, subH, wfS, wfH, SV.ren, renL, SObj.ren, SV.wf, SObj.wf, wfL, sget_cons, hget_cons]; omega
    · exact hwf_cons (hwf_cons (hwf_mono (by omega) hwH) (by omega) (by simp [SObj.wf, wfL, SV.wf]; omega)) (by omega) trivial
  · intro _ _
    simp -implicitDefEqProofs only [lk_normal, Int.lt_irrefl, ZB, Int.reduceToNat, Nat.reduceLT, Nat.reduceLeDiff, Int.reduceLE, Int.reduceLT, Nat.reduceEqDiff, Nat.reduceSub, SB, SV.known, packR, ne_eq, reduceCtorEq, Nat.reduceEqDiff, ↓reduceIte, if_true, if_false, eq_self, Nat.reduceAdd, Nat.reduceMul, Nat.reduceSub, forall_const, oneCellS, litOne, flat1, Kd.isSca, flat, TYB]
def l3At0_F : List SV → Heap → Option (Prop × SV)
  | [.stc [.nils, .nils, .slice u 0 1009 1009], .arr x], H => match hget H u with
    | some (.cells l _) => some ((x.length = 24 ∧ rackB x = true) ∧ l = nilB, .int (-1))
    | _ => none
  | _, _ => none
theorem l3At0_T : ∀ args H p v, l3At0_F args H = some (p, v) → p → PureH Try.prog 18 args H v := by
  intro args H p v h hp
  unfold l3At0_F at h
  split at h
  · split at h
    · rename_i hu
      cases h
      obtain ⟨⟨hx, hr⟩, rfl⟩ := hp
      exact l3At0_ok H _ _ _ hu hx hr
    · cases h
  · cases h
theorem SetH.one {A : Nat → Prop} {m n u : Nat} {H H' : Heap} {x : List Int} {p : Int} (hu0 : hget H u = some (.cells nilB 39)) (hx : x.length = 24) (hr : rackB x = true) (hA : ∀ k, A k → k < n) (hAu : ¬ A u) (hmu : m ≤ u) (hwH : hwf n H)
    {f' cf' q' cq' b' cap : Nat} {J1' J2' jb' : List Int} (hcap : jb'.length + 1 = cap)
    (hf : hget H' f' = some (.ints (x ++ J1') 29)) (hfl : J1'.length + 24 = cf' * 24)
    (hq : hget H' q' = some (.ints ([p] ++ J2') 3)) (hql : J2'.length + 1 = cq')
    (hu : hget H' u = some (.cells (nilB.set (codF x).toNat (.slice b' 0 1 cap)) 39))
    (hb : hget H' b' = some (.ints ([0] ++ jb') 3))
    (ho : ∀ k o, hget H k = some o → k ≠ u → k < n → hget H' k = some o)
    (f0 : n + 2 ≤ f') (q0 : n + 2 ≤ q') (b0 : n + 2 ≤ b') (fq : f' ≠ q') (fb : b' ≠ f') (qb : b' ≠ q') :
    SetH ⟨f', cf', J1', q', cq', J2', u, fun k => if k = (codF x).toNat then b' else 0, fun k => if k = (codF x).toNat then jb' else []⟩ A m H' [x] [p] ∧ Frm A H H' := by
  have u0 := (hwH u _ hu0).1
  have hbd := rack_Bd hx hr
  have hc := cod_bd hbd
  have hS : SetH ⟨n, 0, [], n + 1, 0, [], u, fun _ => 0, fun _ => []⟩ A m ((n, .ints [] 29) :: (n + 1, .ints [] 3) :: H) [] [] := by
    refine ⟨by simp [hget_cons], rfl, by simp [hget_cons], rfl, rfl, ?_, fun c _ h => absurd (bk_nil c) h, fun c c' _ _ h => absurd (bk_nil c) h, ⟨by show m ≤ n; omega, by show m ≤ n + 1; omega, hmu⟩, ⟨by show n ≠ n + 1; omega, by show n ≠ u; omega, by show n + 1 ≠ u; omega⟩, ⟨fun h => by have h' : n < n := hA _ h; omega, fun h => by have h' : n + 1 < n := hA _ h; omega, hAu⟩, fun y hy => by simp at hy, List.nodup_nil, by simp⟩
    simp only [hget_cons]
    rw [if_neg (by show ¬ u = n; omega), if_neg (by show ¬ u = n + 1; omega), nilB_bl]
    exact hu0
  have := SetH.put (n := n + 2) (H' := H') (p := p) (J1' := J1') (J2' := J2') (cf' := cf') (cq' := cq') (f' := f') (q' := q') hS hx hr (by simp) (fun k hk => by have := hA k hk; omega) (hwf_cons (hwf_cons (hwf_mono (by omega) hwH) (by omega) trivial) (by omega) trivial) (by simp) (by omega) (b' := b') (cap := cap) (jb' := jb') (by omega) (by simpa [bk_nil] using hcap) (by simpa using hf) (by simpa using hfl) (by simpa using hq) (by simpa using hql) (by rw [nilB_bl]; simpa [bk_nil] using hu) (by simpa [bk_nil] using hb)
    (fun k o hk h1 h2 h3 _ h5 => by
      simp only at h1 h2 h3
      simp only [hget_cons] at hk
      rw [if_neg h1, if_neg h2] at hk
      exact ho k o hk h3 (hwH k o hk).1) f0 q0 b0 fq fb qb
  refine ⟨this.1, fun k o ha hk => this.2 k o ha ?_⟩
  have := hA k ha
  simp only [hget_cons]
  rw [if_neg (by omega), if_neg (by omega)]
  exact hk
theorem l3Put0_vc (A : Nat → Prop) (m n u : Nat) (H : Heap) (x : List Int) (p : Int) (hu : hget H u = some (.cells nilB 39)) (hx : x.length = 24) (hr : rackB x = true) (hA : ∀ k, A k → k < n) (hAu : ¬ A u) (hmu : m ≤ u) (hwH : hwf n H) :
    codeVC (⟨Try.prog, tys, [(18, l3At0_F), (47, l3Code_F)], [], true, true, m, [], [(4, .tree (.one 0 (.one 2 (.one 3 (.one 4 (.one 5 (.one 6 (.one 7 (.one 8 (.one 9 (.one 10 (.alt 1 (.one 11 (.one 12 (.one 13 (.one 14 .done)))) (.alt 11 (.alt 1 (.one 12 (.one 13 (.one 14 .done))) (.alt 12 (.one 1 (.one 13 (.one 14 .done))) .stop)) .stop)))))))))))))]⟩ : Cx) n (Try.f65.body.getD .skip) (argS 0 [.stc [.nils, .nils, .slice u 0 1009 1009], .arr x, .int p]) H n
      (retK tys Try.f65.results.toList fun v H' n' => ∃ s' : SN, v = s'.val 1 ∧ SetH s' A m H' [x] [p] ∧ Frm A H H') := by
  have u0 := (hwH u _ hu).1
  have tkx : x.take 24 = x := List.take_of_length_le (by omega)
  have hbd := rack_Bd hx hr
  have hc := cod_bd hbd
  have hc9 : (codF x).toNat < 1009 := by omega
  have lb := nilB_len
  have gb := nilB_get hc9
  have xu := ne_add u0; have xu' := ne_add' u0
  have yu := add_ne u0; have yu' := add_ne' u0
  have r1 : ∀ v : Int, (List.replicate 1 (0 : Int)).set 0 v = [v] := fun _ => rfl
  have hw3 : hwf (n + 3) ((n + 2, .cells [.nils, .nils, .nils] 42) :: (n + 1, .ints x 29) :: (n, .cells [.nils, .nils, .slice u 0 1009 1009] 42) :: H) :=
    hwf_cons (hwf_cons (hwf_cons (hwf_mono (by omega) hwH) (by omega) (by simp [SObj.wf, wfL, SV.wf]; omega)) (by omega) trivial) (by omega) (by simp [SObj.wf, wfL, SV.wf])
  simp -implicitDefEqProofs only [Try.f65, Option.getD_some, argS, l3Code_F, l3At0_F, hx, hr, hbd, tkx, hc, hc9, gb, lb, hu, xu, xu', yu, yu', Nat.add_assoc, add_self, self_add, add_add, ZB, Int.reduceToNat, Nat.reduceLT, Nat.reduceLeDiff, Int.reduceLE, Int.reduceLT, Nat.reduceEqDiff, Nat.reduceSub, SB, SV.known, packR, ne_eq, reduceCtorEq, Nat.reduceEqDiff, ↓reduceIte, if_true, if_false, eq_self, Nat.reduceAdd, Nat.reduceMul, Nat.reduceSub, forall_const, oneCellS, litOne, flat1, Kd.isSca, flat, TYB]
  refine ⟨{s : Nat × List Int // s.2.length + 1 = s.1}, fun s => [(7, .int (codF x)), (6, .ptr (n + 2) 0), (4, .ptr (n + 1) 0), (3, .ptr n 0), (2, .int p)],
    fun s => (u, .cells (nilB.set (codF x).toNat (.slice (n + 4) 0 1 s.1.1)) 39) :: (n + 4, .ints ([(0 : Int)] ++ s.1.2) 3) :: (n + 3, .ints [(0 : Int)] 3) :: (n + 2, .cells [.nils, .nils, .nils] 42) :: (n + 1, .ints x 29) :: (n, .cells [.nils, .nils, .slice u 0 1009 1009] 42) :: H, fun _ => n + 5, ?_, ?_⟩
  · simp -implicitDefEqProofs only [l3Code_F, gb, hx, hr, hbd, tkx, hc, hc9, lb, hu, hmu, xu, xu', yu, yu', r1, Nat.add_assoc, add_self, self_add, add_add, ZB, Int.reduceToNat, Nat.reduceLT, Nat.reduceLeDiff, Int.reduceLE, Int.reduceLT, Nat.reduceEqDiff, Nat.reduceSub, SB, SV.known, packR, ne_eq, reduceCtorEq, Nat.reduceEqDiff, ↓reduceIte, if_true, if_false, eq_self, Nat.reduceAdd, Nat.reduceMul, Nat.reduceSub, forall_const, oneCellS, litOne, flat1, Kd.isSca, flat, TYB]
    repeat' apply And.intro
    all_goals (first
      | omega
      | (intro junk cap hj
         refine ⟨⟨(cap, junk), hj⟩, Sub.same (by simp only [LB, subS, subH, wfS, wfH, SV.ren, renL, SObj.ren, SV.wf, SObj.wf, wfL, SV.known, Nat.reduceEqDiff, ↓reduceIte, if_true, if_false, eq_self, Nat.reduceAdd, Nat.reduceLT, Nat.reduceLeDiff, implies_true, reduceCtorEq, forall_const]) (by simp [subS, subH, wfS, wfH, SV.ren, renL, SObj.ren, SV.wf, SObj.wf, wfL, sget_cons, hget_cons] <;> omega) ?_ (by omega)⟩
         exact hwf_cons (hwf_cons (hwf_cons (hwf_mono (by omega) hw3) (by omega) trivial) (by omega) trivial) (by omega) (wfL_set _ _ (nilB_wf _) (by simp [SV.wf])))
      | skip)
  · rintro ⟨⟨cap, j⟩, hj⟩
    simp only at hj
    simp -implicitDefEqProofs only [lk_normal, hx, hr, hbd, tkx, hc, hc9, lb, hu, hmu, xu, xu', yu, yu', r1, Nat.add_assoc, add_self, self_add, add_add, ZB, Int.reduceToNat, Nat.reduceLT, Nat.reduceLeDiff, Int.reduceLE, Int.reduceLT, Nat.reduceEqDiff, Nat.reduceSub, SB, SV.known, packR, ne_eq, reduceCtorEq, Nat.reduceEqDiff, ↓reduceIte, if_true, if_false, eq_self, Nat.reduceAdd, Nat.reduceMul, Nat.reduceSub, forall_const, oneCellS, litOne, flat1, Kd.isSca, flat, TYB]
    refine fun j1 c1 hj1 => ⟨by omega, fun j2 c2 hj2 => ⟨by omega, by omega, ⟨n + 6, c1, j1, n + 8, c2, j2, u, fun k => if k = (codF x).toNat then n + 4 else 0, fun k => if k = (codF x).toNat then j else []⟩, rfl,
      SetH.one hu hx hr hA hAu hmu hwH (b' := n + 4) (cap := cap) (jb' := j) hj ?_ hj1 ?_ hj2 ?_ ?_ ?_ (by omega) (by omega) (by omega) (by omega) (by omega) (by omega)⟩⟩
    · simp [hget_cons, yu]
    · simp [hget_cons, yu]
    · simp [hget_cons, xu, xu']
    · simp [hget_cons, yu]
    · intro k o hk h1 h2
      simp only [hget_cons]
      repeat rw [if_neg (by omega)]
      exact hk
/-- The set of one form alone: what is asked, what comes back. -/
def l3Put0_F : List SV → Heap → Nat → Nat → K1 → Prop
  | [.stc [.nils, .nils, .slice u 0 1009 1009], .arr x, .int p], H, n, m, κ => match hget H u with
    | some (.cells l e) => (x.length = 24 ∧ rackB x = true) ∧ l = nilB ∧ e = 39 ∧ m ≤ u ∧ ∃ A : Nat → Prop, (∀ k, A k → k < n) ∧ ¬ A u ∧ ∀ (s' : SN) H' n', n ≤ n' → hwf n' H' → SetH s' A m H' [x] [p] → Frm A H H' → κ (s'.val 1) H' n'
    | _ => False
  | _, _, _, _, _ => False
theorem l3Put0_T : ∀ args H n m κ, l3Put0_F args H n m κ → GenOK Try.prog 65 args H n m κ := by
  intro args H n m κ h
  unfold l3Put0_F at h
  split at h
  · rename_i u x p
    split at h
    · rename_i l e hu
      obtain ⟨⟨hx, hr⟩, rfl, rfl, hmu, A, hA, hAu, h1⟩ := h
      exact gen_direct (X := ⟨Try.prog, tys, [(18, l3At0_F), (47, l3Code_F)], [], true, true, m, [], [(4, .tree (.one 0 (.one 2 (.one 3 (.one 4 (.one 5 (.one 6 (.one 7 (.one 8 (.one 9 (.one 10 (.alt 1 (.one 11 (.one 12 (.one 13 (.one 14 .done)))) (.alt 11 (.alt 1 (.one 12 (.one 13 (.one 14 .done))) (.alt 12 (.one 1 (.one 13 (.one 14 .done))) .stop)) .stop)))))))))))))]⟩) fn_65 ⟨tys_ok, .cons l3At0_T (.cons l3Code_T .nil), .nil, mixed⟩ rfl (Nat.le_of_ble_eq_true rfl) (fun hwH hwa => l3Put0_vc A m n u H x p hu hx hr hA hAu hmu hwH) fun hwH v H' n' hψ h3 h4 h5 => by
        obtain ⟨s', rfl, hS, hF⟩ := hψ
        exact h1 s' H' n' h3 h4 hS hF
    · exact h.elim
  · exact h.elim
theorem SetH.upd {s : SN} {A : Nat → Prop} {m : Nat} {H : Heap} {K : List (List Int)} {P : List Int} (h : SetH s A m H K P) {k : Nat} (o : SObj) (hk : A k) : SetH s A m ((k, o) :: H) K P := by
  have g : ∀ j, ¬ A j → hget ((k, o) :: H) j = hget H j := fun j hj => by
    rw [hget_cons]
    exact if_neg fun e => hj (by rw [e]; exact hk)
  exact { h with f := by rw [g _ h.nA.1]; exact h.f, q := by rw [g _ h.nA.2.1]; exact h.q, u := by rw [g _ h.nA.2.2]; exact h.u, b := fun c hc hb => ⟨by rw [g _ (h.b c hc hb).2.2.2.2.2]; exact (h.b c hc hb).1, (h.b c hc hb).2⟩ }
theorem SetH.weak {s : SN} {A A' : Nat → Prop} {m : Nat} {H : Heap} {K : List (List Int)} {P : List Int} (h : SetH s A m H K P) (hA : ∀ k, A' k → A k) : SetH s A' m H K P :=
  { h with b := fun c hc hb => ⟨(h.b c hc hb).1, (h.b c hc hb).2.1, (h.b c hc hb).2.2.1, (h.b c hc hb).2.2.2.1, (h.b c hc hb).2.2.2.2.1, fun ha => (h.b c hc hb).2.2.2.2.2 (hA _ ha)⟩, nA := ⟨fun ha => h.nA.1 (hA _ ha), fun ha => h.nA.2.1 (hA _ ha), fun ha => h.nA.2.2 (hA _ ha)⟩ }
theorem SetH.wf {s : SN} {A : Nat → Prop} {m n : Nat} {H : Heap} {K : List (List Int)} {P : List Int} (h : SetH s A m H K P) (hwH : hwf n H) : s.f < n ∧ s.q < n ∧ s.u < n := ⟨(hwH _ _ h.f).1, (hwH _ _ h.q).1, (hwH _ _ h.u).1⟩
/-- A new set of one form. -/
def l3Start_F : List SV → Heap → Nat → Nat → K1 → Prop
  | [.arr R], H, n, m, κ => (R.length = 24 ∧ rackB R = true) ∧ m ≤ n ∧ ∃ A : Nat → Prop, (∀ k, A k → k < n) ∧ ∀ (s' : SN) H' n', n ≤ n' → hwf n' H' → SetH s' A m H' [frm R] [0] → Frm A H H' → κ (s'.val 1) H' n'
  | _, _, _, _, _ => False
--@tbl l3Start = spec.l3Start
theorem l3Start_vc (A : Nat → Prop) (m n : Nat) (H : Heap) (R : List Int) (hR : R.length = 24) (hr : rackB R = true) (hA : ∀ k, A k → k < n) (hmn : m ≤ n) (hwH : hwf n H) :
    codeVC (⟨Try.prog, tys, [(19, l3Form_F)], [(65, l3Put0_F)], true, true, m, [65], [(1, .tree (.one 2 (.one 3 (.one 0 (.one 1 (.one 4 (.one 5 .done)))))))]⟩ : Cx) n (Try.f38.body.getD .skip) (argS 0 [.arr R]) H n
      (retK tys Try.f38.results.toList fun v H' n' => ∃ s' : SN, v = s'.val 1 ∧ SetH s' A m H' [frm R] [0] ∧ Frm A H H') := by
  have tkR : R.take 24 = R := List.take_of_length_le (by omega)
  have fl : (frm R).length = 24 := frm_len hR
  have fr := rack_frm hR hr
  simp -implicitDefEqProofs only [Try.f38, Option.getD_some, argS, l3Form_F, l3Put0_F, hR, tkR, fl, fr, Nat.add_assoc, add_self, self_add, add_add, ZB, Int.reduceToNat, Nat.reduceLT, Nat.reduceLeDiff, Int.reduceLE, Int.reduceLT, Nat.reduceEqDiff, Nat.reduceSub, SB, SV.known, packR, ne_eq, reduceCtorEq, Nat.reduceEqDiff, ↓reduceIte, if_true, if_false, eq_self, Nat.reduceAdd, Nat.reduceMul, Nat.reduceSub, forall_const, oneCellS, litOne, flat1, Kd.isSca, flat, TYB]
  have hE : ∀ o1 o2 o3 : SObj, Ext H ((n + 2, o1) :: (n + 1, o2) :: (n, o3) :: H) := fun o1 o2 o3 => Ext.cons hwH (by omega) (Ext.cons hwH (by omega) (Ext.cons hwH (by omega) (Ext.refl H)))
  refine ⟨{q : SN × Heap × Nat // n + 3 ≤ q.2.2 ∧ hwf q.2.2 q.2.1 ∧ SetH q.1 (fun k => A k ∨ k = n + 1) m q.2.1 [frm R] [0] ∧ Frm A H q.2.1},
    fun q => [(2, .ptr (n + 1) 0)], fun q => (n + 1, .cells [.slice q.1.1.f 0 1 q.1.1.cf, .slice q.1.1.q 0 1 q.1.1.cq, .slice q.1.1.u 0 1009 1009] 42) :: q.1.2.1, fun q => q.1.2.2, ?_, ?_⟩
  · have nb : (List.replicate 1009 SV.nils) = nilB := rfl
    simp -implicitDefEqProofs only [l3Form_F, l3Put0_F, hR, tkR, fl, fr, nb, Nat.add_assoc, add_self, self_add, add_add, ZB, Int.reduceToNat, Nat.reduceLT, Nat.reduceLeDiff, Int.reduceLE, Int.reduceLT, Nat.reduceEqDiff, Nat.reduceSub, SB, SV.known, packR, ne_eq, reduceCtorEq, Nat.reduceEqDiff, ↓reduceIte, if_true, if_false, eq_self, Nat.reduceAdd, Nat.reduceMul, Nat.reduceSub, forall_const, oneCellS, litOne, flat1, Kd.isSca, flat, TYB]
    refine ⟨by omega, by omega, fun k => A k ∨ k = n + 1, fun k hk => by
      rcases hk with hk | hk
      · have := hA k hk; omega
      · omega, fun h => by
      rcases h with h | h
      · have := hA _ h; omega
      · omega, fun s' H' n' h1 h2 h3 h4 => ?_⟩
    have hg : hget H' (n + 1) = some (.cells [.nils, .nils, .nils] 42) := h4 (n + 1) _ (.inr rfl) (by simp [hget_cons])
    obtain ⟨w1, w2, w3⟩ := h3.wf h2
    unfold SN.val
    simp -implicitDefEqProofs only [hg, ZB, Int.reduceToNat, Nat.reduceLT, Nat.reduceLeDiff, Int.reduceLE, Int.reduceLT, Nat.reduceEqDiff, Nat.reduceSub, SB, SV.known, packR, ne_eq, reduceCtorEq, Nat.reduceEqDiff, ↓reduceIte, if_true, if_false, eq_self, Nat.reduceAdd, Nat.reduceMul, Nat.reduceSub, forall_const, oneCellS, litOne, flat1, Kd.isSca, flat, TYB]
    refine ⟨by omega, ⟨⟨(s', H', n'), h1, h2, h3, fun k o ha hk => h4 k o (.inl ha) (hE _ _ _ k o hk)⟩, Sub.same (by simp only [LB, subS, subH, wfS, wfH, SV.ren, renL, SObj.ren, SV.wf, SObj.wf, wfL, SV.known, Nat.reduceEqDiff, ↓reduceIte, if_true, if_false, eq_self, Nat.reduceAdd, Nat.reduceLT, Nat.reduceLeDiff, implies_true, reduceCtorEq, forall_const]) (by simp [subS, subH, wfS, wfH, SV.ren, renL, SObj.ren, SV.wf, SObj.wf, wfL, sget_cons, hget_cons] <;> omega) (hwf_cons h2 (show n + 1 < n' by omega) (by simp [SObj.wf, wfL, SV.wf]; omega)) (by show n ≤ n'; omega)⟩⟩
  · rintro ⟨⟨s', H', n'⟩, h1, h2, h3, h4⟩
    simp only at h1 h2 h3 h4
    simp -implicitDefEqProofs only [lk_normal, Nat.add_assoc, add_self, self_add, add_add, ZB, Int.reduceToNat, Nat.reduceLT, Nat.reduceLeDiff, Int.reduceLE, Int.reduceLT, Nat.reduceEqDiff, Nat.reduceSub, SB, SV.known, packR, ne_eq, reduceCtorEq, Nat.reduceEqDiff, ↓reduceIte, if_true, if_false, eq_self, Nat.reduceAdd, Nat.reduceMul, Nat.reduceSub, forall_const, oneCellS, litOne, flat1, Kd.isSca, flat, TYB]
    exact ⟨s', rfl, (h3.upd _ (.inr rfl)).weak (fun k h => .inl h), fun k o ha hk => by
      have := hA k ha
      rw [hget_cons, if_neg (by omega)]
      exact h4 k o ha hk⟩
theorem l3Start_T : ∀ args H n m κ, l3Start_F args H n m κ → GenOK Try.prog 38 args H n m κ := by
  intro args H n m κ h
  unfold l3Start_F at h
  split at h
  · rename_i R
    obtain ⟨⟨hR, hr⟩, hmn, A, hA, h1⟩ := h
    exact gen_direct (X := ⟨Try.prog, tys, [(19, l3Form_F)], [(65, l3Put0_F)], true, true, m, [65], [(1, .tree (.one 2 (.one 3 (.one 0 (.one 1 (.one 4 (.one 5 .done)))))))]⟩) (show FnOK Try.prog 38 Try.f38 (Try.f38.body.getD .skip) [65] [(1, .tree (.one 2 (.one 3 (.one 0 (.one 1 (.one 4 (.one 5 .done)))))))] from ⟨Try.func38, rfl, by kernel_rfl, by kernel_rfl⟩) ⟨tys_ok, .cons l3Form_T .nil, .cons l3Put0_T .nil, mixed⟩ rfl (Nat.le_of_ble_eq_true rfl) (fun hwH hwa => l3Start_vc A m n H R hR hr hA hmn hwH) fun hwH v H' n' hψ h3 h4 h5 => by
      obtain ⟨s', rfl, hS, hF⟩ := hψ
      exact h1 s' H' n' h3 h4 hS hF
  · exact h.elim
end Go.Proofs.Ytaopbefklkbmeaa
set_option maxRecDepth 100000
set_option linter.unusedSimpArgs false
set_option linter.unusedVariables false
namespace Go.Proofs.Ytaopbefklkbmeaa
open Go Go.RowKit
/-- The cells of a set. -/
def SN.cel (s : SN) (len : Nat) : List SV := [.slice s.f 0 len s.cf, .slice s.q 0 len s.cq, .slice s.u 0 1009 1009]
theorem SN.val_cel (s : SN) (len : Nat) : s.val len = .stc (s.cel len) := rfl
theorem SetH.Kbd {s : SN} {A : Nat → Prop} {m : Nat} {H : Heap} {K : List (List Int)} {P : List Int} (h : SetH s A m H K P) {i : Nat} (hi : i < K.length) : i * 24 + 24 ≤ (K.flatten ++ s.J1).length ∧ List.take 24 (List.drop (i * 24) (K.flatten ++ s.J1)) = K.getD i [] ∧ (K.getD i []).length = 24 ∧ rackB (K.getD i []) = true := by
  have h1 := flat_len h.ok.all24
  exact ⟨by rw [List.length_append, h1]; omega, flat_get h.ok.all24 hi s.J1, h.ok _ (getD_mem hi)⟩
theorem SetH.more {s : SN} {A A' : Nat → Prop} {m n : Nat} {H : Heap} {K : List (List Int)} {P : List Int} (h : SetH s A m H K P) (hwH : hwf n H) (hA : ∀ k, A' k → A k ∨ n ≤ k) : SetH s A' m H K P := by
  have lt : ∀ k o, hget H k = some o → k < n := fun k o hk => (hwH k o hk).1
  have g : ∀ k o, hget H k = some o → ¬ A k → ¬ A' k := fun k o hk hn ha => by
    rcases hA k ha with h1 | h1
    · exact hn h1
    · have := lt k o hk; omega
  exact { h with b := fun c hc hb => ⟨(h.b c hc hb).1, (h.b c hc hb).2.1, (h.b c hc hb).2.2.1, (h.b c hc hb).2.2.2.1, (h.b c hc hb).2.2.2.2.1, g _ _ (h.b c hc hb).1 (h.b c hc hb).2.2.2.2.2⟩, nA := ⟨g _ _ h.f h.nA.1, g _ _ h.q h.nA.2.1, g _ _ h.u h.nA.2.2⟩ }
/-- Blocks that a walk holds beside a set. -/
structure MoreI (A : Nat → Prop) (m n : Nat) (H0 : Heap) (K : List (List Int)) (P : List Int) (s : SN) (H : Heap) (n' : Nat) : Prop where
  le : n + 2 ≤ n'
  wf : hwf n' H
  set : SetH s (fun k => A k ∨ k = n ∨ k = n + 1) m H K P
  bx : hget H n = some (.cells [.slice s.f 0 K.length s.cf, .slice s.q 0 K.length s.cq, .slice s.u 0 1009 1009] 42)
  rt : hget H (n + 1) = some (.cells [.nils, .nils, .nils] 42)
  fr : Frm A H0 H
theorem MoreI.put {A : Nat → Prop} {m n n' n2 : Nat} {H0 H Hc H2 : Heap} {K K2 : List (List Int)} {P P2 : List Int} {s s2 : SN} (hI : MoreI A m n H0 K P s H n') (hA : ∀ k, A k → k ≠ n) (hE : Ext H Hc) (h1 : n' ≤ n2) (h2 : hwf n2 H2)
    (h3 : SetH s2 (fun k => A k ∨ k = n ∨ k = n + 1) m H2 K2 P2) (h4 : Frm (fun k => A k ∨ k = n ∨ k = n + 1) Hc H2) :
    MoreI A m n H0 K2 P2 s2 ((n, .cells [.slice s2.f 0 K2.length s2.cf, .slice s2.q 0 K2.length s2.cq, .slice s2.u 0 1009 1009] 42) :: H2) n2 := by
  obtain ⟨hle, hwf, hset, hbx, hrt, hfr⟩ := hI
  obtain ⟨v1, v2, v3⟩ := h3.wf h2
  refine ⟨by omega, hwf_cons h2 (by omega) (by simp [SObj.wf, wfL, SV.wf]; omega), h3.upd _ (.inr (.inl rfl)), by simp [hget_cons], ?_, fun k o hk ho => ?_⟩
  · rw [hget_cons, if_neg (by omega)]
    exact h4 (n + 1) _ (.inr (.inr rfl)) (hE _ _ hrt)
  · rw [hget_cons, if_neg (hA k hk)]
    exact h4 k o (.inl hk) (hE _ _ (hfr k o hk ho))
theorem nwF_app_len (K xs ys : List (List Int)) : (nwF K xs).length ≤ (nwF K (xs ++ ys)).length := by
  refine snoc_ind (P := fun ys => (nwF K xs).length ≤ (nwF K (xs ++ ys)).length) (by simp) (fun l x ih => ?_) ys
  rw [← List.append_assoc, nwF_snoc, nwS]
  split
  · exact ih
  · rw [List.length_append]; omega
theorem upU_pre (Q : List (List Int)) (a : Nat) : ∃ r, Q.flatMap sucU = upU Q a 0 ++ r := by
  refine ⟨(Q.drop a).flatMap sucU, ?_⟩
  unfold upU
  rw [List.take_zero, List.append_nil, ← List.flatMap_append, List.take_append_drop]
theorem l3More_vc (s : SN) (A : Nat → Prop) (m n fr : Nat) (D : Int) (H : Heap) (K0 : List (List Int)) (P0 : List Int) (h : SetH s A m H K0 P0) (hA : ∀ k, A k → k < n) (hwH : hwf n H) (hfr : fr ≤ K0.length) (hk6 : K0.length ≤ 600) (hD : 0 ≤ D ∧ D ≤ 100000) (hPd : ∀ i, fr ≤ i → i < K0.length → P0.getD i 0 = D) :
    codeVC (⟨Try.prog, tys, [(17, l2Pour_F), (19, l3Form_F)], [(15, l2Useful_F), (65, l3Put_F)], true, true, m, [65], []⟩ : Cx) n (Try.f39.body.getD .skip) (argS 0 [s.val K0.length, .int fr]) H n
      (retK tys Try.f39.results.toList fun v H' n' => ∃ (s' : SN) (K' : List (List Int)) (P' : List Int), v = s'.val K'.length ∧ SetH s' A m H' K' P' ∧ Frm A H H' ∧ ((K' = K0 ++ nwU K0 (K0.drop fr) ∧ P' = P0 ++ List.replicate (nwU K0 (K0.drop fr)).length (D + 1)) ∨ (600 < K'.length ∧ 600 < (K0 ++ nwU K0 (K0.drop fr)).length))) := by
  obtain ⟨w1, w2, w3⟩ := h.wf hwH
  have hmn : m ≤ n := by have := h.m.1; omega
  have hE : ∀ o1 o2 : SObj, Ext H ((n + 1, o1) :: (n, o2) :: H) := fun o1 o2 => Ext.cons hwH (by omega) (Ext.cons hwH (by omega) (Ext.refl H))
  have hpl := h.pl
  have hQo : okU (K0.drop fr) := fun x hx => h.ok x (List.mem_of_mem_drop hx)
  have hQl : (K0.drop fr).length = K0.length - fr := List.length_drop ..
  have hQg : ∀ a, (K0.drop fr).getD a [] = K0.getD (fr + a) [] := fun a => by simp [List.getD]
  rw [SN.val_cel]
  unfold SN.cel
  simp -implicitDefEqProofs only [Try.f39, Option.getD_some, argS, Nat.add_assoc, add_self, self_add, add_add, ZB, Int.reduceToNat, Nat.reduceLT, Nat.reduceLeDiff, Int.reduceLE, Int.reduceLT, Nat.reduceEqDiff, Nat.reduceSub, SB, SV.known, packR, ne_eq, reduceCtorEq, Nat.reduceEqDiff, ↓reduceIte, if_true, if_false, eq_self, Nat.reduceAdd, Nat.reduceMul, Nat.reduceSub, forall_const, oneCellS, litOne, flat1, Kd.isSca, flat, TYB]
  generalize hQ : K0.drop fr = Q at *
  have nlen : ∀ a j, (nwF K0 (upU Q a j)).length ≤ 36 * a + j := fun a j => Nat.le_trans (nwF_len _ _) (upU_len Q a j)
  refine loop_introN (fun s : Nat × SN × Heap × Nat => [(6, .int ((fr + s.1 : Nat) : Int)), (5, .int K0.length), (4, .ptr (n + 1) 0), (2, .ptr n 0)]) (fun s => s.2.2.1) (fun s => s.2.2.2)
    (fun s => s.1 ≤ Q.length ∧ MoreI A m n H (K0 ++ nwF K0 (upU Q s.1 0)) (P0 ++ List.replicate (nwF K0 (upU Q s.1 0)).length (D + 1)) s.2.1 s.2.2.1 s.2.2.2) (fun s => Q.length - s.1) ?_ ?_
  · have hw2 : hwf (n + 2) ((n + 1, .cells [.nils, .nils, .nils] 42) :: (n, .cells [.slice s.f 0 K0.length s.cf, .slice s.q 0 K0.length s.cq, .slice s.u 0 1009 1009] 42) :: H) :=
      hwf_cons (hwf_cons (hwf_mono (by omega) hwH) (by omega) (by simp [SObj.wf, wfL, SV.wf]; omega)) (by omega) (by simp [SObj.wf, wfL, SV.wf])
    refine ⟨(0, s, (n + 1, .cells [.nils, .nils, .nils] 42) :: (n, .cells [.slice s.f 0 K0.length s.cf, .slice s.q 0 K0.length s.cq, .slice s.u 0 1009 1009] 42) :: H, n + 2), ⟨Nat.zero_le _, ?_⟩, Sub.same ?_ ?_ hw2 (by show n ≤ n + 2; omega)⟩
    · simp only [upU_zero, nwF_nil, List.length_nil, List.replicate_zero, List.append_nil]
      exact ⟨by omega, hw2, (h.more hwH fun k hk => hk.elim .inl fun hk => .inr (by omega)).mono (hE _ _), by simp [hget_cons], by simp [hget_cons], fun k o _ hk => hE _ _ k o hk⟩
    · simp only [Nat.add_zero, LB, subS, subH, wfS, wfH, SV.ren, renL, SObj.ren, SV.wf, SObj.wf, wfL, SV.known, Nat.reduceEqDiff, ↓reduceIte, if_true, if_false, eq_self, Nat.reduceAdd, Nat.reduceLT, Nat.reduceLeDiff, implies_true, reduceCtorEq, forall_const]
    · simp [subS, subH, wfS, wfH, SV.ren, renL, SObj.ren, SV.wf, SObj.wf, wfL, sget_cons, hget_cons] <;> omega
  · rintro ⟨a, s', H', n'⟩ ⟨ha, hI⟩
    simp only at ha hI
    obtain ⟨hle, hwf', hset, hbx, hrt, hfrm⟩ := hI
    obtain ⟨v1, v2, v3⟩ := hset.wf hwf'
    have hna := nlen a 0
    by_cases hlt : a < Q.length
    · have hil : ((fr + a : Nat) : Int) < K0.length := by omega
      by_cases h6 : (K0 ++ nwF K0 (upU Q a 0)).length ≤ 600
      · have h6' : ((K0 ++ nwF K0 (upU Q a 0)).length : Int) ≤ 600 := by omega
        have hf := hset.f
        have hKl : (K0 ++ nwF K0 (upU Q a 0)).length = K0.length + (nwF K0 (upU Q a 0)).length := List.length_append
        obtain ⟨lQ, eQ, x24, xr⟩ := hset.Kbd (i := fr + a) (by omega)
        have gK : (K0 ++ nwF K0 (upU Q a 0)).getD (fr + a) [] = Q.getD a [] := by
          rw [hQg, List.getD_eq_getElem?_getD, List.getElem?_append_left (by omega), ← List.getD_eq_getElem?_getD]
        rw [gK] at eQ x24 xr
        have i0 : 0 ≤ ((fr + a : Nat) : Int) := by omega
        have iK : ((fr + a : Nat) : Int) < ((K0 ++ nwF K0 (upU Q a 0)).length : Int) := by omega
        have unext := upU_next Q hlt
        have usn := fun q (hq : q < sucC (Q.getD a [])) => upU_snoc Q hq
        have okUp := fun q => upU_ok hQo (j := q) (.inl hlt)
        generalize hxx : Q.getD a [] = x at *
        have hnp := ulF_sucC x
        have hnp36 := sucC_le x
        generalize hsc : sucC x = np at *
        have ehp : (ulF x).length / 2 = np := by omega
        simp -implicitDefEqProofs only [lk_normal, l2Useful_F, freshK, Wrap.ap, hbx, hf, hil, h6', i0, iK, lQ, eQ, x24, xr, ehp, ZB, Int.reduceToNat, Nat.reduceLT, Nat.reduceLeDiff, Int.reduceLE, Int.reduceLT, Nat.reduceEqDiff, Nat.reduceSub, SB, SV.known, packR, ne_eq, reduceCtorEq, Nat.reduceEqDiff, ↓reduceIte, if_true, if_false, eq_self, Nat.reduceAdd, Nat.reduceMul, Nat.reduceSub, forall_const, oneCellS, litOne, flat1, Kd.isSca, flat, TYB]
        intro cp jp hjp
        refine loop_introN (fun s : Nat × SN × Heap × Nat => [(8, .int s.1), (7, .slice n' 0 np cp), (6, .int ((fr + a : Nat) : Int)), (5, .int K0.length), (4, .ptr (n + 1) 0), (2, .ptr n 0)]) (fun s => s.2.2.1) (fun s => s.2.2.2)
          (fun s => s.1 ≤ np ∧ MoreI (fun k => A k ∨ k = n') m n H (K0 ++ nwF K0 (upU Q a s.1)) (P0 ++ List.replicate (nwF K0 (upU Q a s.1)).length (D + 1)) s.2.1 s.2.2.1 s.2.2.2 ∧ hget s.2.2.1 n' = some (.ints (ulF x ++ jp) 49)) (fun s => np - s.1) ?_ ?_
        · have hw2 : hwf (n' + 1) ((n', .ints (ulF x ++ jp) 49) :: H') := hwf_cons (hwf_mono (by omega) hwf') (by omega) trivial
          have hE' : Ext H' ((n', .ints (ulF x ++ jp) 49) :: H') := Ext.cons hwf' (by omega) (Ext.refl H')
          refine ⟨(0, s', (n', .ints (ulF x ++ jp) 49) :: H', n' + 1), ⟨Nat.zero_le _, ⟨show n + 2 ≤ n' + 1 by omega, hw2, (hset.more hwf' fun k hk => ?_).mono hE', hE' _ _ hbx, hE' _ _ hrt, fun k o hk ho => ?_⟩, by simp [hget_cons]⟩, Sub.same ?_ ?_ hw2 (by show n ≤ n' + 1; omega)⟩
          · rcases hk with (hk | hk) | hk | hk
            · exact .inl (.inl hk)
            · exact .inr (by omega)
            · exact .inl (.inr (.inl hk))
            · exact .inl (.inr (.inr hk))
          · rcases hk with hk | hk
            · exact hE' _ _ (hfrm k o hk ho)
            · have := (hwH k o ho).1; omega
          · simp only [LB, subS, subH, wfS, wfH, SV.ren, renL, SObj.ren, SV.wf, SObj.wf, wfL, SV.known, Nat.reduceEqDiff, ↓reduceIte, if_true, if_false, eq_self, Nat.reduceAdd, Nat.reduceLT, Nat.reduceLeDiff, implies_true, reduceCtorEq, forall_const]
          · simp [subS, subH, wfS, wfH, SV.ren, renL, SObj.ren, SV.wf, SObj.wf, wfL, sget_cons, hget_cons] <;> omega
        · rintro ⟨q, s1, H1, n1⟩ ⟨hq, hI, hall⟩
          simp only at hq hI hall
          obtain ⟨hle1, hwf1, hset1, hbx1, hrt1, hfrm1⟩ := hI
          obtain ⟨v4, v5, v6⟩ := hset1.wf hwf1
          have hnq := nlen a q
          have lenP : (ulF x ++ jp).length = cp * 2 := by rw [List.length_append]; omega
          have hn1 := (hwf1 _ _ hall).1
          have hn2 := (hwf1 _ _ hbx1).1
          by_cases hqn : q < np
          · have hql : (q : Int) < np := by omega
            have hf1 := hset1.f
            have hq1 := hset1.q
            have hql1 := hset1.ql
            have hpl1 := hset1.pl
            have hKl1 : (K0 ++ nwF K0 (upU Q a q)).length = K0.length + (nwF K0 (upU Q a q)).length := List.length_append
            obtain ⟨lQ1, eQ1, _, _⟩ := hset1.Kbd (i := fr + a) (by omega)
            have gK1 : (K0 ++ nwF K0 (upU Q a q)).getD (fr + a) [] = x := by
              rw [← hxx, hQg, List.getD_eq_getElem?_getD, List.getElem?_append_left (by omega), ← List.getD_eq_getElem?_getD]
            rw [gK1] at eQ1
            have iK1 : ((fr + a : Nat) : Int) < ((K0 ++ nwF K0 (upU Q a q)).length : Int) := by omega
            have gP1 : (P0 ++ List.replicate (nwF K0 (upU Q a q)).length (D + 1) ++ s1.J2).getD (fr + a) 0 = D := by
              rw [List.append_assoc, getD_app _ _ _ (by omega)]
              exact hPd _ (by omega) (by omega)
            have lP1 : fr + a < (P0 ++ List.replicate (nwF K0 (upU Q a q)).length (D + 1) ++ s1.J2).length := by rw [List.length_append]; omega
            obtain ⟨a0, b0⟩ := ul_bd (R := x) (q := q) (by omega)
            have eP0 : (ulF x ++ jp).getD (q * 2) 0 = (ulF x).getD (q * 2) 0 := getD_app _ _ _ (by omega)
            have eP1 : (ulF x ++ jp).getD (q * 2 + 1) 0 = (ulF x).getD (q * 2 + 1) 0 := getD_app _ _ _ (by omega)
            have tkR : List.take 24 x = x := List.take_of_length_le (by omega)
            have pl := pourF_len x24 ((ulF x).getD (q * 2) 0).toNat ((ulF x).getD (q * 2 + 1) 0).toNat
            have tkp := List.take_of_length_le (Nat.le_of_eq pl)
            have xl := diX_len x24 q
            have xrr := diX_rack x24 xr (q := q) (by omega)
            have ex : frm (pourF x ((ulF x).getD (q * 2) 0).toNat ((ulF x).getD (q * 2 + 1) 0).toNat) = diX x q := rfl
            have us := usn q hqn
            have iD : In64 (D + 1) := by unfold In64; omega
            have xn := ne_add hn2; have xn' := ne_add' hn2; have xm := ne_add hn1; have xm' := ne_add' hn1; have xf := ne_add v4; have xf' := ne_add' v4; have xq := ne_add v5; have xq' := ne_add' v5
            simp -implicitDefEqProofs only [lk_normal, l2Pour_F, l3Form_F, l3Put_F, hbx1, hall, hf1, hq1, hql, i0, iK1, lQ1, eQ1, lenP, eP0, eP1, gP1, lP1, iD, x24, xr, tkR, a0, b0, pl, tkp, ex, xl, xrr, xn, xn', xm, xm', xf, xf', xq, xq', Nat.add_assoc, add_self, self_add, add_add, ZB, Int.reduceToNat, Nat.reduceLT, Nat.reduceLeDiff, Int.reduceLE, Int.reduceLT, Nat.reduceEqDiff, Nat.reduceSub, SB, SV.known, packR, ne_eq, reduceCtorEq, Nat.reduceEqDiff, ↓reduceIte, if_true, if_false, eq_self, Nat.reduceAdd, Nat.reduceMul, Nat.reduceSub, forall_const, oneCellS, litOne, flat1, Kd.isSca, flat, TYB]
            have hI1 : MoreI (fun k => A k ∨ k = n') m n H (K0 ++ nwF K0 (upU Q a q)) (P0 ++ List.replicate (nwF K0 (upU Q a q)).length (D + 1)) s1 H1 n1 := ⟨hle1, hwf1, hset1, hbx1, hrt1, hfrm1⟩
            have hA1 : ∀ k, (A k ∨ k = n') → k ≠ n := fun k hk => by
              rcases hk with hk | hk
              · have := hA k hk; omega
              · omega
            have hE1 : ∀ o1 o2 : SObj, Ext H1 ((n1, o1) :: (n1, o2) :: H1) := fun o1 o2 => Ext.cons hwf1 (by omega) (Ext.cons hwf1 (by omega) (Ext.refl H1))
            refine ⟨by omega, by omega, by omega, by omega, by omega, s1, fun k => (A k ∨ k = n') ∨ k = n ∨ k = n + 1, K0 ++ nwF K0 (upU Q a q), P0 ++ List.replicate (nwF K0 (upU Q a q)).length (D + 1), rfl, hset1.mono (hE1 _ _), fun k hk => ?_, by omega, fun hin H2 n2 h1 h2 h3 h4 => ?_, fun hin s2 H2 n2 h1 h2 h3 h4 => ?_⟩
            · rcases hk with (hk | hk) | hk | hk
              · have := hA k hk; omega
              · omega
              · omega
              · omega
            · have hb2 := h4 n _ (.inr (.inl rfl)) (hE1 _ _ _ _ hbx1)
              have ha2 := h4 n' _ (.inl (.inr rfl)) (hE1 _ _ _ _ hall)
              have hI2 := hI1.put hA1 (hE1 _ _) (by omega) h2 h3 h4
              have eo := nwF_old (by simpa using hin)
              rw [← us] at eo
              unfold SN.val
              simp -implicitDefEqProofs only [lk_normal, hb2, ZB, Int.reduceToNat, Nat.reduceLT, Nat.reduceLeDiff, Int.reduceLE, Int.reduceLT, Nat.reduceEqDiff, Nat.reduceSub, SB, SV.known, packR, ne_eq, reduceCtorEq, Nat.reduceEqDiff, ↓reduceIte, if_true, if_false, eq_self, Nat.reduceAdd, Nat.reduceMul, Nat.reduceSub, forall_const, oneCellS, litOne, flat1, Kd.isSca, flat, TYB]
              refine ⟨by omega, by unfold In64; omega, (q + 1, s1, _, n2), ⟨by show q + 1 ≤ np; omega, by rw [eo]; exact hI2, ?_⟩, by show np - (q + 1) < np - q; omega, Sub.same ?_ ?_ hI2.wf (by show n ≤ n2; omega)⟩
              · show hget (_ :: H2) n' = _
                rw [hget_cons, if_neg (by omega)]; exact ha2
              · simp only [LB, subS, subH, wfS, wfH, SV.ren, renL, SObj.ren, SV.wf, SObj.wf, wfL, SV.known, Nat.reduceEqDiff, ↓reduceIte, if_true, if_false, eq_self, Nat.reduceAdd, Nat.reduceLT, Nat.reduceLeDiff, implies_true, reduceCtorEq, forall_const]
              · simp [subS, subH, wfS, wfH, SV.ren, renL, SObj.ren, SV.wf, SObj.wf, wfL, sget_cons, hget_cons] <;> omega
            · have hb2 := h4 n _ (.inr (.inl rfl)) (hE1 _ _ _ _ hbx1)
              have ha2 := h4 n' _ (.inl (.inr rfl)) (hE1 _ _ _ _ hall)
              have hI2 := hI1.put hA1 (hE1 _ _) (by omega) h2 h3 h4
              have eo := nwF_new hin
              rw [← us] at eo
              have e5 : K0 ++ nwF K0 (upU Q a (q + 1)) = K0 ++ nwF K0 (upU Q a q) ++ [diX x q] := by rw [eo, List.append_assoc]
              have e6 : P0 ++ List.replicate (nwF K0 (upU Q a (q + 1))).length (D + 1) = P0 ++ List.replicate (nwF K0 (upU Q a q)).length (D + 1) ++ [D + 1] := by
                rw [eo, List.length_append, List.length_singleton, List.replicate_succ', List.append_assoc]
              have e7 : (K0 ++ nwF K0 (upU Q a q) ++ [diX x q]).length = (K0 ++ nwF K0 (upU Q a q)).length + 1 := by rw [List.length_append]; rfl
              rw [e7] at hI2
              unfold SN.val
              simp -implicitDefEqProofs only [lk_normal, hb2, ZB, Int.reduceToNat, Nat.reduceLT, Nat.reduceLeDiff, Int.reduceLE, Int.reduceLT, Nat.reduceEqDiff, Nat.reduceSub, SB, SV.known, packR, ne_eq, reduceCtorEq, Nat.reduceEqDiff, ↓reduceIte, if_true, if_false, eq_self, Nat.reduceAdd, Nat.reduceMul, Nat.reduceSub, forall_const, oneCellS, litOne, flat1, Kd.isSca, flat, TYB]
              refine ⟨by omega, by unfold In64; omega, (q + 1, s2, _, n2), ⟨by show q + 1 ≤ np; omega, by rw [e5, e6]; exact hI2, ?_⟩, by show np - (q + 1) < np - q; omega, Sub.same ?_ ?_ hI2.wf (by show n ≤ n2; omega)⟩
              · show hget (_ :: H2) n' = _
                rw [hget_cons, if_neg (by omega)]; exact ha2
              · simp only [LB, subS, subH, wfS, wfH, SV.ren, renL, SObj.ren, SV.wf, SObj.wf, wfL, SV.known, Nat.reduceEqDiff, ↓reduceIte, if_true, if_false, eq_self, Nat.reduceAdd, Nat.reduceLT, Nat.reduceLeDiff, implies_true, reduceCtorEq, forall_const]
              · simp [subS, subH, wfS, wfH, SV.ren, renL, SObj.ren, SV.wf, SObj.wf, wfL, sget_cons, hget_cons] <;> omega
          · have hql : ¬ (q : Int) < np := by omega
            obtain rfl : q = np := by omega
            simp -implicitDefEqProofs only [lk_normal, hql, ZB, Int.reduceToNat, Nat.reduceLT, Nat.reduceLeDiff, Int.reduceLE, Int.reduceLT, Nat.reduceEqDiff, Nat.reduceSub, SB, SV.known, packR, ne_eq, reduceCtorEq, Nat.reduceEqDiff, ↓reduceIte, if_true, if_false, eq_self, Nat.reduceAdd, Nat.reduceMul, Nat.reduceSub, forall_const, oneCellS, litOne, flat1, Kd.isSca, flat, TYB]
            rw [unext] at hset1 hbx1
            have hI3 : MoreI A m n H (K0 ++ nwF K0 (upU Q (a + 1) 0)) (P0 ++ List.replicate (nwF K0 (upU Q (a + 1) 0)).length (D + 1)) s1 H1 n1 :=
              ⟨hle1, hwf1, hset1.weak fun k hk => hk.elim (fun h => .inl (.inl h)) .inr, hbx1, hrt1, fun k o hk ho => hfrm1 k o (.inl hk) ho⟩
            refine ⟨by unfold In64; omega, (a + 1, s1, H1, n1), ⟨by show a + 1 ≤ Q.length; omega, hI3⟩, by show Q.length - (a + 1) < Q.length - a; omega, Sub.same ?_ ?_ hwf1 (by show n ≤ n1; omega)⟩
            · simp only [show ((fr + (a + 1) : Nat) : Int) = ((fr + a : Nat) : Int) + 1 by omega, LB, subS, subH, wfS, wfH, SV.ren, renL, SObj.ren, SV.wf, SObj.wf, wfL, SV.known, Nat.reduceEqDiff, ↓reduceIte, if_true, if_false, eq_self, Nat.reduceAdd, Nat.reduceLT, Nat.reduceLeDiff, implies_true, reduceCtorEq, forall_const]
            · simp [subS, subH, wfS, wfH, SV.ren, renL, SObj.ren, SV.wf, SObj.wf, wfL, sget_cons, hget_cons] <;> omega
      · have h6' : ¬ ((K0 ++ nwF K0 (upU Q a 0)).length : Int) ≤ 600 := by omega
        simp -implicitDefEqProofs only [lk_normal, hbx, hrt, hil, h6', ZB, Int.reduceToNat, Nat.reduceLT, Nat.reduceLeDiff, Int.reduceLE, Int.reduceLT, Nat.reduceEqDiff, Nat.reduceSub, SB, SV.known, packR, ne_eq, reduceCtorEq, Nat.reduceEqDiff, ↓reduceIte, if_true, if_false, eq_self, Nat.reduceAdd, Nat.reduceMul, Nat.reduceSub, forall_const, oneCellS, litOne, flat1, Kd.isSca, flat, TYB]
        obtain ⟨r, hr⟩ := upU_pre Q a
        have hl := nwF_app_len K0 (upU Q a 0) r
        rw [← hr] at hl
        exact ⟨by omega, s', _, _, rfl, (hset.upd _ (.inr (.inr rfl))).weak (fun k h => .inl h), fun k o ha' hk => by
          have := hA k ha'
          rw [hget_cons, if_neg (by omega)]
          exact hfrm k o ha' hk, .inr ⟨by omega, by unfold nwU; rw [List.length_append] at h6 ⊢; omega⟩⟩
    · have hil : ¬ ((fr + a : Nat) : Int) < K0.length := by omega
      obtain rfl : a = Q.length := by omega
      simp -implicitDefEqProofs only [lk_normal, hbx, hrt, hil, ZB, Int.reduceToNat, Nat.reduceLT, Nat.reduceLeDiff, Int.reduceLE, Int.reduceLT, Nat.reduceEqDiff, Nat.reduceSub, SB, SV.known, packR, ne_eq, reduceCtorEq, Nat.reduceEqDiff, ↓reduceIte, if_true, if_false, eq_self, Nat.reduceAdd, Nat.reduceMul, Nat.reduceSub, forall_const, oneCellS, litOne, flat1, Kd.isSca, flat, TYB]
      exact ⟨by omega, s', _, _, rfl, (hset.upd _ (.inr (.inr rfl))).weak (fun k h => .inl h), fun k o ha' hk => by
          have := hA k ha'
          rw [hget_cons, if_neg (by omega)]
          exact hfrm k o ha' hk, .inl ⟨by rw [upU_end]; rfl, by rw [upU_end]; rfl⟩⟩
def l3More_F : List SV → Heap → Nat → Nat → K1 → Prop
  | [v, .int fr], H, n, m, κ => ∃ (s : SN) (A : Nat → Prop) (K : List (List Int)) (P : List Int) (f : Nat) (D : Int), fr = (f : Int) ∧ v = s.val K.length ∧ SetH s A m H K P ∧ (∀ k, A k → k < n) ∧ f ≤ K.length ∧ K.length ≤ 600 ∧ (0 ≤ D ∧ D ≤ 100000) ∧ (∀ i, f ≤ i → i < K.length → P.getD i 0 = D) ∧
      ∀ (s' : SN) (K' : List (List Int)) (P' : List Int) H' n', n ≤ n' → hwf n' H' → SetH s' A m H' K' P' → Frm A H H' → ((K' = K ++ nwU K (K.drop f) ∧ P' = P ++ List.replicate (nwU K (K.drop f)).length (D + 1)) ∨ (600 < K'.length ∧ 600 < (K ++ nwU K (K.drop f)).length)) → κ (s'.val K'.length) H' n'
  | _, _, _, _, _ => False
--@tbl l3More = spec.l3More
theorem l3More_T : ∀ args H n m κ, l3More_F args H n m κ → GenOK Try.prog 39 args H n m κ := by
  intro args H n m κ h
  unfold l3More_F at h
  split at h
  · rename_i v fr
    obtain ⟨s, A, K, P, f, D, rfl, rfl, hS, hA, hf, hk, hD, hP, h1⟩ := h
    exact gen_direct (X := ⟨Try.prog, tys, [(17, l2Pour_F), (19, l3Form_F)], [(15, l2Useful_F), (65, l3Put_F)], true, true, m, [65], []⟩) (show FnOK Try.prog 39 Try.f39 (Try.f39.body.getD .skip) [65] [] from ⟨Try.func39, rfl, by kernel_rfl, by kernel_rfl⟩) ⟨tys_ok, .cons l2Pour_T (.cons l3Form_T .nil), .cons l2Useful_T (.cons l3Put_T .nil), mixed⟩ rfl (Nat.le_of_ble_eq_true rfl) (fun hwH hwa => l3More_vc s A m n f D H K P hS hA hwH hf hk hD hP) fun hwH v H' n' hψ h3 h4 h5 => by
      obtain ⟨s', K', P', rfl, hS', hF, hO⟩ := hψ
      exact h1 s' K' P' H' n' h3 h4 hS' hF hO
  · exact h.elim
/-- Where the last layer begins. -/
def frA (R : List Int) : Nat → Nat
  | 0 => 0
  | d + 1 => (kn R d).length
theorem kn_drop (R : List Int) : ∀ d, (kn R d).drop (frA R d) = lay R d
  | 0 => rfl
  | d + 1 => by
    show (kn R d ++ lay R (d + 1)).drop (kn R d).length = _
    exact List.drop_left' rfl
theorem frA_le (R : List Int) : ∀ d, frA R d + (lay R d).length = (kn R d).length
  | 0 => rfl
  | d + 1 => by rw [kn_len]; rfl
theorem lvl_at (R : List Int) : ∀ d i, frA R d ≤ i → i < (kn R d).length → (lvl R d).getD i 0 = (d : Int)
  | 0, i, _, h => by
    obtain rfl : i = 0 := by rw [kn_zero] at h; simp at h; omega
    rfl
  | d + 1, i, h1, h2 => by
    have h1' : (kn R d).length ≤ i := h1
    rw [kn_len] at h2
    have hl := lvl_len R d
    rw [lvl_succ, List.getD_eq_getElem?_getD, List.getElem?_append_right (by omega), List.getElem?_replicate, if_pos (by omega)]
    rfl
theorem stp_nev (R : List Int) (d : Nat) (h6 : (kn R d).length ≤ 600) : stp nev R d = decide (lay R d = []) := by
  unfold stp ovf
  rw [decide_eq_false (by omega)]
  cases lay R d with
  | nil => rfl
  | cons x l =>
    have : (x :: l).any nev = false := by simp [nev]
    rw [this]; rfl
/-- Blocks that a walk holds beside a set of its own. -/
structure UpI (A : Nat → Prop) (m b0 b : Nat) (H0 : Heap) (K : List (List Int)) (P : List Int) (s : SN) (H : Heap) (n' : Nat) : Prop where
  le : b0 ≤ b ∧ b < n'
  wf : hwf n' H
  set : SetH s (fun k => A k ∨ k = b) m H K P
  bx : hget H b = some (.cells [.slice s.f 0 K.length s.cf, .slice s.q 0 K.length s.cq, .slice s.u 0 1009 1009] 42)
  fr : Frm A H0 H
theorem UpI.put {A : Nat → Prop} {m b0 b n' n2 : Nat} {H0 H H2 : Heap} {K K2 : List (List Int)} {P P2 : List Int} {s s2 : SN} (hI : UpI A m b0 b H0 K P s H n') (hA : ∀ k, A k → k < b) (h1 : n' ≤ n2) (h2 : hwf n2 H2)
    (h3 : SetH s2 (fun k => A k ∨ k = b) m H2 K2 P2) (h4 : Frm (fun k => A k ∨ k = b) H H2) :
    UpI A m b0 b H0 K2 P2 s2 ((b, .cells [.slice s2.f 0 K2.length s2.cf, .slice s2.q 0 K2.length s2.cq, .slice s2.u 0 1009 1009] 42) :: H2) n2 := by
  obtain ⟨hle, hwf, hset, hbx, hfr⟩ := hI
  obtain ⟨v1, v2, v3⟩ := h3.wf h2
  refine ⟨⟨hle.1, by omega⟩, hwf_cons h2 (by omega) (by simp [SObj.wf, wfL, SV.wf]; omega), h3.upd _ (.inr rfl), by simp [hget_cons], fun k o hk ho => ?_⟩
  have := hA k hk
  rw [hget_cons, if_neg (by omega)]
  exact h4 k o (.inl hk) (hfr k o hk ho)
theorem UpI.start {A : Nat → Prop} {m n0 n1 : Nat} {H0 H1 : Heap} {K : List (List Int)} {P : List Int} {s : SN} (h0 : n0 ≤ n1) (hA : ∀ k, A k → k < n1) (h2 : hwf n1 H1) (h3 : SetH s A m H1 K P) (h4 : Frm A H0 H1) (o : SObj) :
    UpI A m n0 n1 H0 K P s ((n1, .cells [.slice s.f 0 K.length s.cf, .slice s.q 0 K.length s.cq, .slice s.u 0 1009 1009] 42) :: (n1, o) :: H1) (n1 + 1) := by
  obtain ⟨v1, v2, v3⟩ := h3.wf h2
  have hw : hwf (n1 + 1) ((n1, .cells [.slice s.f 0 K.length s.cf, .slice s.q 0 K.length s.cq, .slice s.u 0 1009 1009] 42) :: (n1, o) :: H1) := by
    intro k o' hk
    rw [hget_cons] at hk
    split at hk
    · rename_i hkn; cases hk; exact ⟨by omega, by simp [SObj.wf, wfL, SV.wf]; omega⟩
    · rename_i hkn
      rw [hget_cons, if_neg hkn] at hk
      have := h2 k o' hk
      exact ⟨by omega, SObj.wf_mono (by omega) o' this.2⟩
  have hE : Ext H1 ((n1, .cells [.slice s.f 0 K.length s.cf, .slice s.q 0 K.length s.cq, .slice s.u 0 1009 1009] 42) :: (n1, o) :: H1) := Ext.cons h2 (Nat.le_refl _) (Ext.cons h2 (Nat.le_refl _) (Ext.refl H1))
  exact ⟨⟨h0, by omega⟩, hw, (h3.more h2 fun k hk => hk.elim .inl fun h => .inr (by omega)).mono hE, by simp [hget_cons], fun k o' hk ho => hE _ _ (h4 k o' hk ho)⟩
theorem l3Upto_vc (A : Nat → Prop) (m n : Nat) (H : Heap) (R : List Int) (N : Int) (hR : R.length = 24) (hr : rackB R = true) (hA : ∀ k, A k → k < n) (hmn : m ≤ n) (hwH : hwf n H) (hN : N ≤ 1000 ∧ -1 ≤ N) :
    codeVC (⟨Try.prog, tys, [], [(38, l3Start_F), (39, l3More_F)], true, true, m, [], []⟩ : Cx) n (Try.f14.body.getD .skip) (argS 0 [.arr R, .int N]) H n
      (retK tys Try.f14.results.toList fun v H' n' => ∃ (s' : SN) (K' : List (List Int)) (P' : List Int) (o : Bool) (d : Nat), v = .tup [s'.val K'.length, .bool o] ∧ SetH s' A m H' K' P' ∧ Frm A H H' ∧ (∀ k, k < d → stp nev R k = false) ∧ (N < 0 ∨ (d : Int) ≤ N) ∧
        ((o = true ∧ K' = kn R d ∧ P' = lvl R d ∧ (kn R d).length ≤ 600 ∧ ((d : Int) = N ∨ lay R d = [])) ∨ (o = false ∧ ovf R d = true))) := by
  have tkR : R.take 24 = R := List.take_of_length_le (by omega)
  simp -implicitDefEqProofs only [Try.f14, Option.getD_some, argS, l3Start_F, hR, hr, tkR, Nat.add_assoc, add_self, self_add, add_add, ZB, Int.reduceToNat, Nat.reduceLT, Nat.reduceLeDiff, Int.reduceLE, Int.reduceLT, Nat.reduceEqDiff, Nat.reduceSub, SB, SV.known, packR, ne_eq, reduceCtorEq, Nat.reduceEqDiff, ↓reduceIte, if_true, if_false, eq_self, Nat.reduceAdd, Nat.reduceMul, Nat.reduceSub, forall_const, oneCellS, litOne, flat1, Kd.isSca, flat, TYB]
  have hE0 : ∀ o1 o2 : SObj, Ext H ((n + 1, o1) :: (n, o2) :: H) := fun o1 o2 => Ext.cons hwH (by omega) (Ext.cons hwH (by omega) (Ext.refl H))
  refine ⟨by omega, fun k => A k ∨ k = n + 1, fun k hk => ?_, fun s1 H1 n1 h1 h2 h3 h4 => ?_⟩
  · rcases hk with hk | hk
    · have := hA k hk; omega
    · omega
  unfold SN.val
  have hA1 : ∀ k, (A k ∨ k = n + 1) → k < n1 := fun k hk => by
    rcases hk with hk | hk
    · have := hA k hk; omega
    · omega
  have hrt1 := h4 (n + 1) _ (.inr rfl) (by simp [hget_cons]; rfl)
  have hI0 := UpI.start (n0 := n + 2) h1 hA1 h2 h3 h4 (.cells [.nils, .nils, .nils] 42)
  simp -implicitDefEqProofs only [Nat.add_assoc, add_self, self_add, add_add, ZB, Int.reduceToNat, Nat.reduceLT, Nat.reduceLeDiff, Int.reduceLE, Int.reduceLT, Nat.reduceEqDiff, Nat.reduceSub, SB, SV.known, packR, ne_eq, reduceCtorEq, Nat.reduceEqDiff, ↓reduceIte, if_true, if_false, eq_self, Nat.reduceAdd, Nat.reduceMul, Nat.reduceSub, forall_const, oneCellS, litOne, flat1, Kd.isSca, flat, TYB]
  refine ⟨by omega, ?_⟩
  refine loop_introN (fun s : Nat × SN × Heap × Nat => [(8, .int s.1), (7, .int (frA R s.1 : Nat)), (6, .ptr n1 0), (4, .ptr (n + 1) 0), (1, .int N)]) (fun s => s.2.2.1) (fun s => s.2.2.2)
    (fun s => (∀ k, k < s.1 → stp nev R k = false) ∧ (N < 0 ∨ (s.1 : Int) ≤ N) ∧ (kn R s.1).length ≤ 600 ∧ UpI (fun k => A k ∨ k = n + 1) m (n + 2) n1 ((n + 1, .cells [.nils, .nils, .nils] 42) :: (n, .ints R 29) :: H) (kn R s.1) (lvl R s.1) s.2.1 s.2.2.1 s.2.2.2) (fun s => 700 - s.1) ?_ ?_
  · refine ⟨(0, s1, _, n1 + 1), ⟨fun k hk => absurd hk (by show ¬ k < 0; omega), by omega, by show (kn R 0).length ≤ 600; rw [kn_zero]; simp, hI0⟩, Sub.same ?_ ?_ hI0.wf (by show n ≤ n1 + 1; omega)⟩
    · simp only [frA, LB, subS, subH, wfS, wfH, SV.ren, renL, SObj.ren, SV.wf, SObj.wf, wfL, SV.known, Nat.reduceEqDiff, ↓reduceIte, if_true, if_false, eq_self, Nat.reduceAdd, Nat.reduceLT, Nat.reduceLeDiff, implies_true, reduceCtorEq, forall_const]
    · simp [subS, subH, wfS, wfH, SV.ren, renL, SObj.ren, SV.wf, SObj.wf, wfL, sget_cons, hget_cons] <;> omega
  · rintro ⟨d, s', H', n'⟩ ⟨hps, hdN, hk6, hI⟩
    simp only at hps hdN hk6 hI
    obtain ⟨hle, hwf', hset, hbx, hfrm⟩ := hI
    have hI' : UpI (fun k => A k ∨ k = n + 1) m (n + 2) n1 ((n + 1, .cells [.nils, .nils, .nils] 42) :: (n, .ints R 29) :: H) (kn R d) (lvl R d) s' H' n' := ⟨hle, hwf', hset, hbx, hfrm⟩
    have hrt := hfrm (n + 1) _ (.inr rfl) (by simp [hget_cons]; rfl)
    have hfa := frA_le R d
    have hd7 : d ≤ 601 := by
      cases d with
      | zero => omega
      | succ d => have := (pass_bound (pr := nev) (R := R) (d := d) fun k hk => hps k (by omega)).1; omega
    have hfin : ∀ o : SObj, SetH s' A m ((n + 1, o) :: H') (kn R d) (lvl R d) ∧ Frm A H ((n + 1, o) :: H') := fun o => ⟨(hset.upd o (.inl (.inr rfl))).weak fun k h => .inl (.inl h), fun k o' ha hk => by
      have := hA k ha
      rw [hget_cons, if_neg (by omega)]
      exact hfrm k o' (.inl ha) (hE0 _ _ k o' hk)⟩
    by_cases hdn : (d : Int) = N
    · simp -implicitDefEqProofs only [lk_normal, hbx, hrt, hdn, ZB, Int.reduceToNat, Nat.reduceLT, Nat.reduceLeDiff, Int.reduceLE, Int.reduceLT, Nat.reduceEqDiff, Nat.reduceSub, SB, SV.known, packR, ne_eq, reduceCtorEq, Nat.reduceEqDiff, ↓reduceIte, if_true, if_false, eq_self, Nat.reduceAdd, Nat.reduceMul, Nat.reduceSub, forall_const, oneCellS, litOne, flat1, Kd.isSca, flat, TYB]
      exact ⟨by omega, s', kn R d, lvl R d, true, d, ⟨rfl, rfl⟩, (hfin _).1, (hfin _).2, hps, hdN, .inl ⟨rfl, rfl, rfl, hk6, .inl hdn⟩⟩
    · by_cases hl0 : frA R d < (kn R d).length
      · have hil : (frA R d : Int) < ((kn R d).length : Int) := by omega
        simp -implicitDefEqProofs only [lk_normal, l3More_F, hbx, hrt, hdn, hil, ZB, Int.reduceToNat, Nat.reduceLT, Nat.reduceLeDiff, Int.reduceLE, Int.reduceLT, Nat.reduceEqDiff, Nat.reduceSub, SB, SV.known, packR, ne_eq, reduceCtorEq, Nat.reduceEqDiff, ↓reduceIte, if_true, if_false, eq_self, Nat.reduceAdd, Nat.reduceMul, Nat.reduceSub, forall_const, oneCellS, litOne, flat1, Kd.isSca, flat, TYB]
        refine ⟨s', fun k => (A k ∨ k = n + 1) ∨ k = n1, kn R d, lvl R d, frA R d, d, rfl, rfl, hset, fun k hk => ?_, by omega, hk6, ⟨by omega, by omega⟩, lvl_at R d, fun s2 K2 P2 H2 n2 g1 g2 g3 g4 g5 => ?_⟩
        · rcases hk with hk | hk
          · have := hA1 k hk; omega
          · omega
        rw [kn_drop] at g5
        have hb2 := g4 n1 _ (.inr rfl) hbx
        have hr2 := g4 (n + 1) _ (.inl (.inr rfl)) hrt
        have hI2 := hI'.put hA1 g1 g2 g3 g4
        have en1 : (n + 1 = n1) = False := by simp; omega
        have hst0 : stp nev R d = false := by
          rw [stp_nev R d hk6]
          exact decide_eq_false fun h0 => by rw [h0] at hfa; simp at hfa; omega
        have hps1 : ∀ k, k < d + 1 → stp nev R k = false := fun k hk => by
          by_cases hkd : k = d
          · subst hkd; exact hst0
          · exact hps k (by omega)
        have hfin2 : ∀ o o2 : SObj, SetH s2 A m ((n + 1, o) :: (n1, o2) :: H2) K2 P2 ∧ Frm A H ((n + 1, o) :: (n1, o2) :: H2) := fun o o2 => ⟨((g3.upd o2 (.inr rfl)).upd o (.inl (.inr rfl))).weak fun k h => .inl (.inl h), fun k o' ha hk => by
          have := hA k ha
          rw [hget_cons, if_neg (by omega), hget_cons, if_neg (by omega)]
          exact g4 k o' (.inl (.inl ha)) (hfrm k o' (.inl ha) (hE0 _ _ k o' hk))⟩
        have ekn : kn R d ++ nwU (kn R d) (lay R d) = kn R (d + 1) := rfl
        have elv : lvl R d ++ List.replicate (nwU (kn R d) (lay R d)).length ((d : Int) + 1) = lvl R (d + 1) := by
          show lvl R d ++ List.replicate (lay R (d + 1)).length ((d : Int) + 1) = lvl R (d + 1)
          rw [lvl_succ, Int.natCast_add]; rfl
        rw [ekn, elv] at g5
        unfold SN.val
        by_cases h6 : 600 < K2.length
        · have h6' : (600 : Int) < (K2.length : Int) := by omega
          have hov : ovf R (d + 1) = true := by
            rcases g5 with ⟨rfl, _⟩ | ⟨_, h7⟩
            · exact decide_eq_true h6
            · exact decide_eq_true h7
          simp -implicitDefEqProofs only [hb2, hr2, en1, h6', ZB, Int.reduceToNat, Nat.reduceLT, Nat.reduceLeDiff, Int.reduceLE, Int.reduceLT, Nat.reduceEqDiff, Nat.reduceSub, SB, SV.known, packR, ne_eq, reduceCtorEq, Nat.reduceEqDiff, ↓reduceIte, if_true, if_false, eq_self, Nat.reduceAdd, Nat.reduceMul, Nat.reduceSub, forall_const, oneCellS, litOne, flat1, Kd.isSca, flat, TYB]
          exact ⟨by omega, by omega, s2, K2, P2, false, d + 1, ⟨rfl, rfl⟩, (hfin2 _ _).1, (hfin2 _ _).2, hps1, by omega, .inr ⟨rfl, hov⟩⟩
        · have h6' : ¬ (600 : Int) < (K2.length : Int) := by omega
          obtain ⟨rfl, rfl⟩ : K2 = kn R (d + 1) ∧ P2 = lvl R (d + 1) := by
            rcases g5 with h7 | ⟨h7, _⟩
            · exact h7
            · exact absurd h7 h6
          simp -implicitDefEqProofs only [lk_normal, hb2, hr2, en1, h6', ZB, Int.reduceToNat, Nat.reduceLT, Nat.reduceLeDiff, Int.reduceLE, Int.reduceLT, Nat.reduceEqDiff, Nat.reduceSub, SB, SV.known, packR, ne_eq, reduceCtorEq, Nat.reduceEqDiff, ↓reduceIte, if_true, if_false, eq_self, Nat.reduceAdd, Nat.reduceMul, Nat.reduceSub, forall_const, oneCellS, litOne, flat1, Kd.isSca, flat, TYB]
          refine ⟨by omega, by unfold In64; omega, (d + 1, s2, _, n2), ⟨hps1, by show N < 0 ∨ ((d + 1 : Nat) : Int) ≤ N; omega, by show (kn R (d + 1)).length ≤ 600; omega, hI2⟩, by show 700 - (d + 1) < 700 - d; omega, Sub.same ?_ ?_ hI2.wf (by show n ≤ n2; omega)⟩
          · simp only [frA, Int.natCast_add, LB, subS, subH, wfS, wfH, SV.ren, renL, SObj.ren, SV.wf, SObj.wf, wfL, SV.known, Nat.reduceEqDiff, ↓reduceIte, if_true, if_false, eq_self, Nat.reduceAdd, Nat.reduceLT, Nat.reduceLeDiff, implies_true, reduceCtorEq, forall_const]
            try rfl
          · simp [subS, subH, wfS, wfH, SV.ren, renL, SObj.ren, SV.wf, SObj.wf, wfL, sget_cons, hget_cons] <;> omega
      · have hil : ¬ (frA R d : Int) < ((kn R d).length : Int) := by omega
        simp -implicitDefEqProofs only [lk_normal, hbx, hrt, hdn, hil, ZB, Int.reduceToNat, Nat.reduceLT, Nat.reduceLeDiff, Int.reduceLE, Int.reduceLT, Nat.reduceEqDiff, Nat.reduceSub, SB, SV.known, packR, ne_eq, reduceCtorEq, Nat.reduceEqDiff, ↓reduceIte, if_true, if_false, eq_self, Nat.reduceAdd, Nat.reduceMul, Nat.reduceSub, forall_const, oneCellS, litOne, flat1, Kd.isSca, flat, TYB]
        exact ⟨by omega, s', kn R d, lvl R d, true, d, ⟨rfl, rfl⟩, (hfin _).1, (hfin _).2, hps, hdN, .inl ⟨rfl, rfl, rfl, hk6, .inr (List.length_eq_zero_iff.1 (by omega))⟩⟩
/-- Forms up to a number of pours, or all of them. -/
def l3Upto_F : List SV → Heap → Nat → Nat → K1 → Prop
  | [.arr R, .int N], H, n, m, κ => (R.length = 24 ∧ rackB R = true) ∧ (N ≤ 1000 ∧ -1 ≤ N) ∧ m ≤ n ∧ ∃ A : Nat → Prop, (∀ k, A k → k < n) ∧
      ∀ (s' : SN) (K' : List (List Int)) (P' : List Int) (o : Bool) (d : Nat) H' n', n ≤ n' → hwf n' H' → SetH s' A m H' K' P' → Frm A H H' → (∀ k, k < d → stp nev R k = false) → (N < 0 ∨ (d : Int) ≤ N) →
        ((o = true ∧ K' = kn R d ∧ P' = lvl R d ∧ (kn R d).length ≤ 600 ∧ ((d : Int) = N ∨ lay R d = [])) ∨ (o = false ∧ ovf R d = true)) → κ (.tup [s'.val K'.length, .bool o]) H' n'
  | _, _, _, _, _ => False
--@tbl l3Upto = spec.l3Upto
theorem l3Upto_T : ∀ args H n m κ, l3Upto_F args H n m κ → GenOK Try.prog 14 args H n m κ := by
  intro args H n m κ h
  unfold l3Upto_F at h
  split at h
  · rename_i R N
    obtain ⟨⟨hR, hr⟩, hN, hmn, A, hA, h1⟩ := h
    exact gen_direct (X := ⟨Try.prog, tys, [], [(38, l3Start_F), (39, l3More_F)], true, true, m, [], []⟩) fn_14 ⟨tys_ok, .nil, .cons l3Start_T (.cons l3More_T .nil), mixed⟩ rfl (Nat.le_of_ble_eq_true rfl) (fun hwH hwa => l3Upto_vc A m n H R N hR hr hA hmn hwH hN) fun hwH v H' n' hψ h3 h4 h5 => by
      obtain ⟨s', K', P', o, d, rfl, hS, hF, g1, g2, g3⟩ := hψ
      exact h1 s' K' P' o d H' n' h3 h4 hS hF g1 g2 g3
  · exact h.elim
theorem ovf_stp {pr : List Int → Bool} {R : List Int} {d : Nat} (h : ovf R d = true) : stp pr R d = true := by unfold stp; rw [h]; rfl
--@tbl sCountReached = spec.CountReached
--@tbl sReachedAll = spec.ReachedAll
theorem lay_any {pr : List Int → Bool} {R : List Int} {d : Nat} (h : ∀ j, frA R d ≤ j → j < (kn R d).length → pr ((kn R d).getD j []) = false) : (lay R d).any pr = false := by
  rw [List.any_eq_false]
  intro x hx
  rw [← kn_drop R d] at hx
  obtain ⟨j, hj, rfl⟩ := List.getElem_of_mem hx
  rw [List.length_drop] at hj
  rw [List.getElem_drop]
  have := h (frA R d + j) (by omega) (by omega)
  rw [List.getD_eq_getElem?_getD, List.getElem?_eq_getElem (by omega)] at this
  simpa using this
theorem lay_some {pr : List Int → Bool} {R : List Int} {d i : Nat} (h1 : frA R d ≤ i) (h2 : i < (kn R d).length) (h : pr ((kn R d).getD i []) = true) : (lay R d).any pr = true := by
  rw [List.any_eq_true]
  refine ⟨(kn R d).getD i [], ?_, h⟩
  rw [← kn_drop R d, List.getD_eq_getElem?_getD, List.getElem?_eq_getElem h2]
  exact List.mem_iff_getElem.2 ⟨i - frA R d, by rw [List.length_drop]; omega, by rw [List.getElem_drop]; simp only [show frA R d + (i - frA R d) = i by omega]; rfl⟩
/-- What a search for a form answers. -/
def fwF (pr : List Int → Bool) (R : List Int) : Int := if unO pr R = true then (if unB pr R = true then ((dep pr R : Nat) : Int) else -1) else 0
theorem fw_hit {pr : List Int → Bool} {R : List Int} {d : Nat} (hps : ∀ k, k < d → stp pr R k = false) (h6 : (kn R d).length ≤ 600) (h : (lay R d).any pr = true) : fwF pr R = (d : Int) ∧ unO pr R = true := by
  have hd : dep pr R = d := dep_eq (by unfold stp; rw [h]; simp) hps
  have ho : unO pr R = true := by
    unfold unO
    rw [hd]
    show (!decide _) = true
    rw [decide_eq_false (by omega)]; rfl
  have hb : unB pr R = true := by
    have : unB pr R = (unO pr R && (lay R (dep pr R)).any pr) := rfl
    rw [this, ho, hd, h]; rfl
  exact ⟨by unfold fwF; rw [if_pos ho, if_pos hb, hd], ho⟩
theorem fw_none {pr : List Int → Bool} {R : List Int} {d : Nat} (hps : ∀ k, k < d → stp pr R k = false) (h6 : (kn R d).length ≤ 600) (h : lay R d = []) : fwF pr R = -1 ∧ unO pr R = true := by
  have hd : dep pr R = d := dep_eq (by unfold stp; rw [h]; simp) hps
  have ho : unO pr R = true := by
    unfold unO
    rw [hd]
    show (!decide _) = true
    rw [decide_eq_false (by omega)]; rfl
  have hb : unB pr R = false := by
    have : unB pr R = (unO pr R && (lay R (dep pr R)).any pr) := rfl
    rw [this, ho, hd, h]; rfl
  exact ⟨by unfold fwF; rw [if_pos ho, if_neg (by rw [hb]; simp)], ho⟩
theorem fw_ovf {pr : List Int → Bool} {R : List Int} {d : Nat} (hps : ∀ k, k < d → stp pr R k = false) (h : ovf R d = true) : fwF pr R = 0 ∧ unO pr R = false := by
  have hd : dep pr R = d := dep_eq (ovf_stp h) hps
  have ho : unO pr R = false := by
    unfold unO
    rw [hd, h]; rfl
  exact ⟨by unfold fwF; rw [if_neg (by rw [ho]; simp)], ho⟩
--@tbl l3Fewest = spec.l3Fewest
theorem l3Fewest_ok (R T : List Int) (b : Bool) (pr : List Int → Bool) (hpr : (b = true ∧ pr = sortB) ∨ (b = false ∧ pr = eqB T)) (hR : R.length = 24) (hr : rackB R = true) (hT : T.length = 24) :
    PureH Try.prog 37 [.arr R, .arr T, .bool b] [] (.tup [.int (fwF pr R), .bool (unO pr R)]) := by
  have tkR : R.take 24 = R := List.take_of_length_le (by omega)
  have tkT : T.take 24 = T := List.take_of_length_le (by omega)
  refine pure_of_vc (X := ⟨Try.prog, tys, [(42, l2Sorted_F)], [(38, l3Start_F), (39, l3More_F)], true, true, 0, [], []⟩) fn_37 ⟨tys_ok, (.cons l2Sorted_T .nil), (.cons l3Start_T (.cons l3More_T .nil)), mixed⟩ (n0 := 0) (Nat.le_of_ble_eq_true rfl) (by simp [wfL, SV.wf]) (wfH_spec (by simp [wfH, SObj.wf, wfL, SV.wf])) (Nat.le_refl _) (fun _ => by simp [SV.wf, wfL]) ?_
  simp -implicitDefEqProofs only [Try.f37, Option.getD_some, argS, l2Sorted_F, l3Start_F, l3More_F, hR, tkR, hr, hT, tkT, ZB, Int.reduceToNat, Nat.reduceLT, Nat.reduceLeDiff, Int.reduceLE, Int.reduceLT, Nat.reduceEqDiff, Nat.reduceSub, SB, SV.known, packR, ne_eq, reduceCtorEq, Nat.reduceEqDiff, ↓reduceIte, if_true, if_false, eq_self, Nat.reduceAdd, Nat.reduceMul, Nat.reduceSub, forall_const, oneCellS, litOne, flat1, Kd.isSca, flat, TYB]
  refine ⟨fun k => k = 1, fun k hk => by omega, fun s1 H1 n1 h1 h2 h3 h4 => ?_⟩
  unfold SN.val
  have hA1 : ∀ k, k = 1 → k < n1 := fun k hk => by omega
  have hrt1 := h4 1 _ rfl (by simp [hget_cons]; rfl)
  have hI0 := UpI.start (n0 := 2) h1 hA1 h2 h3 h4 (.cells [.nils, .nils, .nils] 42)
  simp -implicitDefEqProofs only [ZB, Int.reduceToNat, Nat.reduceLT, Nat.reduceLeDiff, Int.reduceLE, Int.reduceLT, Nat.reduceEqDiff, Nat.reduceSub, SB, SV.known, packR, ne_eq, reduceCtorEq, Nat.reduceEqDiff, ↓reduceIte, if_true, if_false, eq_self, Nat.reduceAdd, Nat.reduceMul, Nat.reduceSub, forall_const, oneCellS, litOne, flat1, Kd.isSca, flat, TYB]
  refine loop_introN (fun s : Nat × SN × Heap × Nat => [(9, .int (frA R s.1 : Nat)), (8, .ptr n1 0), (4, .ptr 1 0), (2, .bool b)]) (fun s => s.2.2.1) (fun s => s.2.2.2)
    (fun s => (∀ k, k < s.1 → stp pr R k = false) ∧ (kn R s.1).length ≤ 600 ∧ UpI (fun k => k = 1) 0 2 n1 [(1, .ints T 29), (0, .ints R 29)] (kn R s.1) (lvl R s.1) s.2.1 s.2.2.1 s.2.2.2) (fun s => 700 - s.1) ?_ ?_
  · refine ⟨(0, s1, _, n1 + 1), ⟨fun k hk => absurd hk (by show ¬ k < 0; omega), by show (kn R 0).length ≤ 600; rw [kn_zero]; simp, hI0⟩, Sub.same ?_ ?_ hI0.wf (by show 0 ≤ n1 + 1; omega)⟩
    · simp only [frA, LB, subS, subH, wfS, wfH, SV.ren, renL, SObj.ren, SV.wf, SObj.wf, wfL, SV.known, Nat.reduceEqDiff, ↓reduceIte, if_true, if_false, eq_self, Nat.reduceAdd, Nat.reduceLT, Nat.reduceLeDiff, implies_true, reduceCtorEq, forall_const]
      try rfl
    · simp [subS, subH, wfS, wfH, SV.ren, renL, SObj.ren, SV.wf, SObj.wf, wfL, sget_cons, hget_cons] <;> omega
  · rintro ⟨d, s', H', n'⟩ ⟨hps, hk6, hI⟩
    simp only at hps hk6 hI
    have hI' := hI
    obtain ⟨hle, hwf', hset, hbx, hfrm⟩ := hI
    have hT1 := hfrm 1 _ rfl (by simp [hget_cons]; rfl)
    have hfa := frA_le R d
    have hd7 : d ≤ 601 := by
      cases d with
      | zero => omega
      | succ d => have := (pass_bound (pr := pr) (R := R) (d := d) fun k hk => hps k (by omega)).1; omega
    by_cases hl0 : frA R d < (kn R d).length
    · have hil : (frA R d : Int) < ((kn R d).length : Int) := by omega
      simp -implicitDefEqProofs only [lk_normal, hbx, hT1, hil, ZB, Int.reduceToNat, Nat.reduceLT, Nat.reduceLeDiff, Int.reduceLE, Int.reduceLT, Nat.reduceEqDiff, Nat.reduceSub, SB, SV.known, packR, ne_eq, reduceCtorEq, Nat.reduceEqDiff, ↓reduceIte, if_true, if_false, eq_self, Nat.reduceAdd, Nat.reduceMul, Nat.reduceSub, forall_const, oneCellS, litOne, flat1, Kd.isSca, flat, TYB]
      refine loop_intro (fun i : Nat => [(11, .int i), (10, .int (kn R d).length), (9, .int (frA R d : Nat)), (8, .ptr n1 0), (4, .ptr 1 0), (2, .bool b)]) (fun _ => H') n'
        (fun i => frA R d ≤ i ∧ i ≤ (kn R d).length ∧ ∀ j, frA R d ≤ j → j < i → pr ((kn R d).getD j []) = false) (fun i => (kn R d).length - i) ?_ ?_
      · refine ⟨frA R d, ⟨Nat.le_refl _, by omega, fun j h1 h2 => absurd h1 (by omega)⟩, Sub.same ?_ ?_ hwf' (by omega)⟩
        · simp only [LB, subS, subH, wfS, wfH, SV.ren, renL, SObj.ren, SV.wf, SObj.wf, wfL, SV.known, Nat.reduceEqDiff, ↓reduceIte, if_true, if_false, eq_self, Nat.reduceAdd, Nat.reduceLT, Nat.reduceLeDiff, implies_true, reduceCtorEq, forall_const]
        · simp [subS, subH, wfS, wfH, SV.ren, renL, SObj.ren, SV.wf, SObj.wf, wfL, sget_cons, hget_cons] <;> omega
      · rintro i ⟨hi1, hi2, hpi⟩
        by_cases hin : i < (kn R d).length
        · have hil2 : (i : Int) < ((kn R d).length : Int) := by omega
          have i0 : 0 ≤ (i : Int) := by omega
          obtain ⟨lQ, eQ, x24, xr⟩ := hset.Kbd (i := i) hin
          have hf := hset.f
          have hq := hset.q
          have hql := hset.ql
          have hpl := hset.pl
          have gP : (lvl R d ++ s'.J2).getD i 0 = (d : Int) := by
            rw [getD_app _ _ _ (by omega)]
            exact lvl_at R d i hi1 hin
          have lP : i < (lvl R d ++ s'.J2).length := by rw [List.length_append]; omega
          have hsome := lay_some (pr := pr) hi1 hin
          have hnext : pr ((kn R d).getD i []) = false → ∀ j, frA R d ≤ j → j < i + 1 → pr ((kn R d).getD j []) = false := fun h j h1 h2 => by
            by_cases hji : j = i
            · subst hji; exact h
            · exact hpi j h1 (by omega)
          have tkx : ((kn R d).getD i []).take 24 = (kn R d).getD i [] := List.take_of_length_le (by omega)
          generalize (kn R d).getD i [] = x at *
          cases hp : pr x
          · have hgo := hnext hp
            rcases hpr with ⟨rfl, rfl⟩ | ⟨rfl, rfl⟩
            · simp -implicitDefEqProofs only [lk_normal, l2Sorted_F, hbx, hT1, hf, hil2, i0, lQ, eQ, x24, xr, tkx, hp, ZB, Int.reduceToNat, Nat.reduceLT, Nat.reduceLeDiff, Int.reduceLE, Int.reduceLT, Nat.reduceEqDiff, Nat.reduceSub, SB, SV.known, packR, ne_eq, reduceCtorEq, Nat.reduceEqDiff, ↓reduceIte, if_true, if_false, eq_self, Nat.reduceAdd, Nat.reduceMul, Nat.reduceSub, forall_const, oneCellS, litOne, flat1, Kd.isSca, flat, TYB]
              exact ⟨by unfold In64; omega, i + 1, ⟨by omega, by omega, hgo⟩, by omega, Sub.same (by simp only [LB, subS, subH, wfS, wfH, SV.ren, renL, SObj.ren, SV.wf, SObj.wf, wfL, SV.known, Nat.reduceEqDiff, ↓reduceIte, if_true, if_false, eq_self, Nat.reduceAdd, Nat.reduceLT, Nat.reduceLeDiff, implies_true, reduceCtorEq, forall_const]) (by simp [subS, subH, wfS, wfH, SV.ren, renL, SObj.ren, SV.wf, SObj.wf, wfL, sget_cons, hget_cons] <;> omega) hwf' (by omega)⟩
            · have hp' := of_decide_eq_false hp
              simp -implicitDefEqProofs only [lk_normal, l2Sorted_F, hbx, hT1, hf, hil2, i0, lQ, eQ, x24, xr, tkx, hp', hT, tkT, eqI_rack, ZB, Int.reduceToNat, Nat.reduceLT, Nat.reduceLeDiff, Int.reduceLE, Int.reduceLT, Nat.reduceEqDiff, Nat.reduceSub, SB, SV.known, packR, ne_eq, reduceCtorEq, Nat.reduceEqDiff, ↓reduceIte, if_true, if_false, eq_self, Nat.reduceAdd, Nat.reduceMul, Nat.reduceSub, forall_const, oneCellS, litOne, flat1, Kd.isSca, flat, TYB]
              exact ⟨by unfold In64; omega, i + 1, ⟨by omega, by omega, hgo⟩, by omega, Sub.same (by simp only [LB, subS, subH, wfS, wfH, SV.ren, renL, SObj.ren, SV.wf, SObj.wf, wfL, SV.known, Nat.reduceEqDiff, ↓reduceIte, if_true, if_false, eq_self, Nat.reduceAdd, Nat.reduceLT, Nat.reduceLeDiff, implies_true, reduceCtorEq, forall_const]) (by simp [subS, subH, wfS, wfH, SV.ren, renL, SObj.ren, SV.wf, SObj.wf, wfL, sget_cons, hget_cons] <;> omega) hwf' (by omega)⟩
          · obtain ⟨e1, e2⟩ := fw_hit hps hk6 (hsome hp)
            rcases hpr with ⟨rfl, rfl⟩ | ⟨rfl, rfl⟩
            · simp -implicitDefEqProofs only [lk_normal, l2Sorted_F, hbx, hT1, hf, hq, hil2, i0, lQ, eQ, x24, xr, tkx, hp, gP, lP, hql, e1, e2, ZB, Int.reduceToNat, Nat.reduceLT, Nat.reduceLeDiff, Int.reduceLE, Int.reduceLT, Nat.reduceEqDiff, Nat.reduceSub, SB, SV.known, packR, ne_eq, reduceCtorEq, Nat.reduceEqDiff, ↓reduceIte, if_true, if_false, eq_self, Nat.reduceAdd, Nat.reduceMul, Nat.reduceSub, forall_const, oneCellS, litOne, flat1, Kd.isSca, flat, TYB]
              exact (by omega : i < s'.cq)
            · have hp' := of_decide_eq_true hp
              simp -implicitDefEqProofs only [lk_normal, l2Sorted_F, hbx, hT1, hf, hq, hil2, i0, lQ, eQ, x24, xr, tkx, hp', hT, tkT, eqI_rack, gP, lP, hql, e1, e2, ZB, Int.reduceToNat, Nat.reduceLT, Nat.reduceLeDiff, Int.reduceLE, Int.reduceLT, Nat.reduceEqDiff, Nat.reduceSub, SB, SV.known, packR, ne_eq, reduceCtorEq, Nat.reduceEqDiff, ↓reduceIte, if_true, if_false, eq_self, Nat.reduceAdd, Nat.reduceMul, Nat.reduceSub, forall_const, oneCellS, litOne, flat1, Kd.isSca, flat, TYB]
              exact (by omega : i < s'.cq)
        · have hil2 : ¬ (i : Int) < ((kn R d).length : Int) := by omega
          obtain rfl : i = (kn R d).length := by omega
          have hany := lay_any hpi
          have hst0 : stp pr R d = false := by
            unfold stp ovf
            rw [decide_eq_false (by omega), hany]
            cases hl : lay R d with
            | nil => rw [hl] at hfa; simp at hfa; omega
            | cons x l => rfl
          have hps1 : ∀ k, k < d + 1 → stp pr R k = false := fun k hk => by
            by_cases hkd : k = d
            · subst hkd; exact hst0
            · exact hps k (by omega)
          simp -implicitDefEqProofs only [lk_normal, l3More_F, hbx, hT1, hil2, ZB, Int.reduceToNat, Nat.reduceLT, Nat.reduceLeDiff, Int.reduceLE, Int.reduceLT, Nat.reduceEqDiff, Nat.reduceSub, SB, SV.known, packR, ne_eq, reduceCtorEq, Nat.reduceEqDiff, ↓reduceIte, if_true, if_false, eq_self, Nat.reduceAdd, Nat.reduceMul, Nat.reduceSub, forall_const, oneCellS, litOne, flat1, Kd.isSca, flat, TYB]
          refine ⟨s', fun k => k = 1 ∨ k = n1, kn R d, lvl R d, frA R d, d, rfl, rfl, hset, fun k hk => by omega, by omega, hk6, ⟨by omega, by omega⟩, lvl_at R d, fun s2 K2 P2 H2 n2 g1 g2 g3 g4 g5 => ?_⟩
          rw [kn_drop] at g5
          have hb2 := g4 n1 _ (.inr rfl) hbx
          have hr2 := g4 1 _ (.inl rfl) hT1
          have hI2 := hI'.put hA1 g1 g2 g3 g4
          have ekn : kn R d ++ nwU (kn R d) (lay R d) = kn R (d + 1) := rfl
          have elv : lvl R d ++ List.replicate (nwU (kn R d) (lay R d)).length ((d : Int) + 1) = lvl R (d + 1) := by
            show lvl R d ++ List.replicate (lay R (d + 1)).length ((d : Int) + 1) = lvl R (d + 1)
            rw [lvl_succ, Int.natCast_add]; rfl
          rw [ekn, elv] at g5
          unfold SN.val
          by_cases h6 : 600 < K2.length
          · have h6' : (600 : Int) < (K2.length : Int) := by omega
            have hov : ovf R (d + 1) = true := by
              rcases g5 with ⟨rfl, _⟩ | ⟨_, h7⟩
              · exact decide_eq_true h6
              · exact decide_eq_true h7
            obtain ⟨e1, e2⟩ := fw_ovf hps1 hov
            simp -implicitDefEqProofs only [lk_normal, hb2, hr2, h6', e1, e2, ZB, Int.reduceToNat, Nat.reduceLT, Nat.reduceLeDiff, Int.reduceLE, Int.reduceLT, Nat.reduceEqDiff, Nat.reduceSub, SB, SV.known, packR, ne_eq, reduceCtorEq, Nat.reduceEqDiff, ↓reduceIte, if_true, if_false, eq_self, Nat.reduceAdd, Nat.reduceMul, Nat.reduceSub, forall_const, oneCellS, litOne, flat1, Kd.isSca, flat, TYB]
          · have h6' : ¬ (600 : Int) < (K2.length : Int) := by omega
            obtain ⟨rfl, rfl⟩ : K2 = kn R (d + 1) ∧ P2 = lvl R (d + 1) := by
              rcases g5 with h7 | ⟨h7, _⟩
              · exact h7
              · exact absurd h7 h6
            simp -implicitDefEqProofs only [lk_normal, hb2, hr2, h6', ZB, Int.reduceToNat, Nat.reduceLT, Nat.reduceLeDiff, Int.reduceLE, Int.reduceLT, Nat.reduceEqDiff, Nat.reduceSub, SB, SV.known, packR, ne_eq, reduceCtorEq, Nat.reduceEqDiff, ↓reduceIte, if_true, if_false, eq_self, Nat.reduceAdd, Nat.reduceMul, Nat.reduceSub, forall_const, oneCellS, litOne, flat1, Kd.isSca, flat, TYB]
            refine ⟨(d + 1, s2, _, n2), ⟨hps1, by show (kn R (d + 1)).length ≤ 600; omega, hI2⟩, by show 700 - (d + 1) < 700 - d; omega, Sub.same ?_ ?_ hI2.wf (by show 0 ≤ n2; omega)⟩
            · simp only [frA, LB, subS, subH, wfS, wfH, SV.ren, renL, SObj.ren, SV.wf, SObj.wf, wfL, SV.known, Nat.reduceEqDiff, ↓reduceIte, if_true, if_false, eq_self, Nat.reduceAdd, Nat.reduceLT, Nat.reduceLeDiff, implies_true, reduceCtorEq, forall_const]
            · simp [subS, subH, wfS, wfH, SV.ren, renL, SObj.ren, SV.wf, SObj.wf, wfL, sget_cons, hget_cons] <;> omega
    · have hil : ¬ (frA R d : Int) < ((kn R d).length : Int) := by omega
      obtain ⟨e1, e2⟩ := fw_none hps hk6 (List.length_eq_zero_iff.1 (by omega))
      simp -implicitDefEqProofs only [lk_normal, hbx, hT1, hil, e1, e2, ZB, Int.reduceToNat, Nat.reduceLT, Nat.reduceLeDiff, Int.reduceLE, Int.reduceLT, Nat.reduceEqDiff, Nat.reduceSub, SB, SV.known, packR, ne_eq, reduceCtorEq, Nat.reduceEqDiff, ↓reduceIte, if_true, if_false, eq_self, Nat.reduceAdd, Nat.reduceMul, Nat.reduceSub, forall_const, oneCellS, litOne, flat1, Kd.isSca, flat, TYB]
def prT (b : Bool) (T : List Int) : List Int → Bool := if b = true then sortB else eqB T
theorem prT_ok (b : Bool) (T : List Int) : (b = true ∧ prT b T = sortB) ∨ (b = false ∧ prT b T = eqB T) := by cases b <;> simp [prT]
def l3Fewest_F : List SV → Heap → Option (Prop × SV)
  | [.arr R, .arr T, .bool b], _ => some ((R.length = 24 ∧ rackB R = true) ∧ T.length = 24, .tup [.int (fwF (prT b T) R), .bool (unO (prT b T) R)])
  | _, _ => none
theorem l3Fewest_T : ∀ args H p v, l3Fewest_F args H = some (p, v) → p → PureH Try.prog 37 args H v := by
  intro args H p v h hp
  unfold l3Fewest_F at h
  split at h
  · cases h; exact (l3Fewest_ok _ _ _ _ (prT_ok _ _) hp.1.1 hp.1.2 hp.2).any _
  · cases h
theorem fw_pos (pr : List Int → Bool) (R : List Int) : (unO pr R && decide (0 ≤ fwF pr R)) = unB pr R := by
  have hb : unB pr R = (unO pr R && (lay R (dep pr R)).any pr) := rfl
  unfold fwF
  cases ho : unO pr R
  · rw [hb, ho]; rfl
  · rw [if_pos rfl]
    cases hu : unB pr R
    · rfl
    · rw [if_pos rfl, Bool.true_and]
      exact decide_eq_true (by omega)
theorem fw_most (pr : List Int → Bool) (R : List Int) : max (fwF pr R) 0 = if unB pr R = true then ((dep pr R : Nat) : Int) else 0 := by
  unfold fwF
  cases hu : unB pr R
  · split <;> rfl
  · rw [if_pos (unB_unO hu), if_pos rfl, if_pos rfl]
    omega
--@tbl sCanBeSorted = spec.CanBeSorted
theorem sFewestPours_ok (R : List Int) (hR : R.length = 24) : PureH Try.prog 32 [.arr R] [] (.tup [.int (fpF R), .bool (fpB R)]) := by
  have tkR : R.take 24 = R := List.take_of_length_le (by omega)
  have ep : prT true R = sortB := rfl
  have e1 := fw_pos sortB R
  have e2 := fw_most sortB R
  unfold fpF fpB
  cases hr : rackB R
  · refine pure_of_vc (X := ⟨Try.prog, tys, [(36, l2Rack_F), (37, l3Fewest_F), (62, l1Most_F)], [], true, true, 0, [], []⟩) fn_32 ⟨tys_ok, (.cons l2Rack_T (.cons l3Fewest_T (.cons l1Most_T .nil))), .nil, mixed⟩ (n0 := 0) (Nat.le_of_ble_eq_true rfl) (by simp [wfL, SV.wf]) (wfH_spec (by simp [wfH, SObj.wf, wfL, SV.wf])) (Nat.le_refl _) (fun _ => by simp [SV.wf, wfL]) ?_
    simp -implicitDefEqProofs only [Try.f32, Option.getD_some, argS, l2Rack_F, l3Fewest_F, l1Most_F, hR, tkR, hr, ZB, Int.reduceToNat, Nat.reduceLT, Nat.reduceLeDiff, Int.reduceLE, Int.reduceLT, Nat.reduceEqDiff, Nat.reduceSub, SB, SV.known, packR, ne_eq, reduceCtorEq, Nat.reduceEqDiff, ↓reduceIte, if_true, if_false, eq_self, Nat.reduceAdd, Nat.reduceMul, Nat.reduceSub, forall_const, oneCellS, litOne, flat1, Kd.isSca, flat, TYB]
  · cases ho : unO sortB R
    all_goals
      rw [ho] at e1
      refine pure_of_vc (X := ⟨Try.prog, tys, [(36, l2Rack_F), (37, l3Fewest_F), (62, l1Most_F)], [], true, true, 0, [], []⟩) fn_32 ⟨tys_ok, (.cons l2Rack_T (.cons l3Fewest_T (.cons l1Most_T .nil))), .nil, mixed⟩ (n0 := 0) (Nat.le_of_ble_eq_true rfl) (by simp [wfL, SV.wf]) (wfH_spec (by simp [wfH, SObj.wf, wfL, SV.wf])) (Nat.le_refl _) (fun _ => by simp [SV.wf, wfL]) ?_
      simp -implicitDefEqProofs only [Try.f32, Option.getD_some, argS, l2Rack_F, l3Fewest_F, l1Most_F, hR, tkR, hr, ep, ho, e2, ZB, Int.reduceToNat, Nat.reduceLT, Nat.reduceLeDiff, Int.reduceLE, Int.reduceLT, Nat.reduceEqDiff, Nat.reduceSub, SB, SV.known, packR, ne_eq, reduceCtorEq, Nat.reduceEqDiff, ↓reduceIte, if_true, if_false, eq_self, Nat.reduceAdd, Nat.reduceMul, Nat.reduceSub, forall_const, oneCellS, litOne, flat1, Kd.isSca, flat, TYB]
      try (rw [← e1]; simp; done)
--@tbl sFewestTo = spec.FewestTo
def sFewestPours_F : List SV → Heap → Option (Prop × SV)
  | [.arr R], _ => some (R.length = 24, .tup [.int (fpF R), .bool (fpB R)])
  | _, _ => none
theorem sFewestPours_T : ∀ args H p v, sFewestPours_F args H = some (p, v) → p → PureH Try.prog 32 args H v := by
  intro args H p v h hp
  unfold sFewestPours_F at h
  split at h
  · cases h; exact (sFewestPours_ok _ hp).any _
  · cases h
end Go.Proofs.Ytaopbefklkbmeaa
set_option maxRecDepth 100000
set_option linter.unusedSimpArgs false
set_option linter.unusedVariables false
namespace Go.Proofs.Ytaopbefklkbmeaa
open Go Go.RowKit
end Go.Proofs.Ytaopbefklkbmeaa
set_option maxRecDepth 100000
set_option linter.unusedSimpArgs false
set_option linter.unusedVariables false
namespace Go.Proofs.Ytaopbefklkbmeaa
open Go Go.RowKit
/-! Colors counted. -/
--@tbl countColors = impl.countColors
--@tbl l2Counts = spec.l2Counts
/-! Views. -/
end Go.Proofs.Ytaopbefklkbmeaa
set_option maxRecDepth 100000
set_option linter.unusedSimpArgs false
set_option linter.unusedVariables false
namespace Go.Proofs.Ytaopbefklkbmeaa
open Go Go.RowKit
end Go.Proofs.Ytaopbefklkbmeaa
set_option maxRecDepth 100000
set_option linter.unusedSimpArgs false
set_option linter.unusedVariables false
namespace Go.Proofs.Ytaopbefklkbmeaa
open Go Go.RowKit
/-! A pour exchanges cells. -/
/-! Sorted racks. -/
end Go.Proofs.Ytaopbefklkbmeaa
set_option maxRecDepth 100000
set_option linter.unusedSimpArgs false
set_option linter.unusedVariables false
namespace Go.Proofs.Ytaopbefklkbmeaa
open Go Go.RowKit
/-! Searches. -/
theorem fsN_low {p : Nat → Bool} : ∀ (f d k : Nat), d ≤ k → k < fsN p f d → p k = false
  | 0, d, k, h1, h2 => by unfold fsN at h2; omega
  | f + 1, d, k, h1, h2 => by
    unfold fsN at h2
    split at h2
    · omega
    · rename_i hp
      by_cases hk : k = d
      · subst hk; simpa using hp
      · exact fsN_low f (d + 1) k (by omega) h2
theorem dep_low {pr : List Int → Bool} {R : List Int} {k : Nat} (h : k < dep pr R) : stp pr R k = false := fsN_low 700 0 k (Nat.zero_le _) h
end Go.Proofs.Ytaopbefklkbmeaa
set_option maxRecDepth 100000
set_option linter.unusedSimpArgs false
set_option linter.unusedVariables false
namespace Go.Proofs.Ytaopbefklkbmeaa
open Go Go.RowKit
def uC (R : List Int) (i j : Nat) : Bool := canF R i j && !idleF R [(i : Int), (j : Int)]
theorem ulF_GL {R : List Int} : ulF R = GL (uC R) 36 := by
  obtain ⟨n, h1, h2⟩ := kept_GL (fun i j => canF R i j) (uC R) (fun p => !idleF R p) (fun i j _ _ hc => by
    unfold uC; rw [show canF R i j = true from hc]; simp) (fun i j _ _ h => by unfold uC at h; simp at h; exact h.1) 36 (Nat.le_refl _)
  have e : PL R 36 = GL (fun i j => canF R i j) 36 := rfl
  unfold ulF
  rw [e, show (GL (fun i j => canF R i j) 36).length / 2 = n by omega]
  exact h2
end Go.Proofs.Ytaopbefklkbmeaa
set_option maxRecDepth 100000
set_option linter.unusedSimpArgs false
set_option linter.unusedVariables false
namespace Go.Proofs.Ytaopbefklkbmeaa
open Go Go.RowKit
/-! The same pours in any order of the tubes. -/
theorem uC_can {R : List Int} {i j : Nat} (h : uC R i j = true) : canF R i j = true := by
  unfold uC at h
  simp only [Bool.and_eq_true] at h
  exact h.1
/-! How many pours are left. -/
def lf (K : List (List Int)) : Nat → List Int → Int
  | 0, x => if sortB x = true then 0 else -1
  | k + 1, x => if 0 ≤ lf K k x then lf K k x else if ((sucU x).any fun y => decide (y ∈ K) && decide (lf K k y = (k : Int))) = true then ((k + 1 : Nat) : Int) else -1
theorem lf_s (K : List (List Int)) (k : Nat) (x : List Int) : lf K (k + 1) x = if 0 ≤ lf K k x then lf K k x else if ((sucU x).any fun y => decide (y ∈ K) && decide (lf K k y = (k : Int))) = true then ((k + 1 : Nat) : Int) else -1 := rfl
theorem lf_keep {K : List (List Int)} {k : Nat} {x : List Int} (h : 0 ≤ lf K k x) : lf K (k + 1) x = lf K k x := if_pos h
theorem lf_up {K : List (List Int)} {k : Nat} {x : List Int} (h : 0 ≤ lf K k x) : ∀ m, lf K (k + m) x = lf K k x
  | 0 => rfl
  | m + 1 => by
    have ih := lf_up h m
    rw [← Nat.add_assoc, lf_keep (by omega), ih]
theorem lf_rng (K : List (List Int)) (x : List Int) : ∀ k, lf K k x = -1 ∨ ∃ j : Nat, j ≤ k ∧ lf K k x = (j : Int) ∧ lf K j x = (j : Int)
  | 0 => by
    by_cases h : sortB x = true
    · exact .inr ⟨0, by omega, if_pos h, if_pos h⟩
    · exact .inl (if_neg h)
  | k + 1 => by
    by_cases h : 0 ≤ lf K k x
    · rcases lf_rng K x k with h1 | ⟨j, h1, h2, h3⟩
      · omega
      · exact .inr ⟨j, by omega, by rw [lf_keep h, h2], h3⟩
    · by_cases h2 : ((sucU x).any fun y => decide (y ∈ K) && decide (lf K k y = (k : Int))) = true
      · have e : lf K (k + 1) x = ((k + 1 : Nat) : Int) := by rw [lf_s, if_neg h, if_pos h2]
        exact .inr ⟨k + 1, by omega, e, e⟩
      · exact .inl (by rw [lf_s, if_neg h, if_neg h2])
theorem lf_step {K : List (List Int)} {k : Nat} {x y : List Int} (hy : y ∈ sucU x) (hK : y ∈ K) (h : 0 ≤ lf K k y) : 0 ≤ lf K (k + 1) x := by
  rcases lf_rng K y k with h1 | ⟨j, h1, h2, h3⟩
  · omega
  · have e : 0 ≤ lf K (j + 1) x := by
      by_cases hx : 0 ≤ lf K j x
      · rw [lf_keep hx]; exact hx
      · have ha : ((sucU x).any fun y => decide (y ∈ K) && decide (lf K j y = (j : Int))) = true := List.any_eq_true.2 ⟨y, hy, by simp [hK, h3]⟩
        rw [lf_s, if_neg hx, if_pos ha]; omega
    have := lf_up e (k - j)
    rw [show j + 1 + (k - j) = k + 1 by omega] at this
    rw [this]; exact e
theorem lf_stab1 {K : List (List Int)} {k : Nat} (h : ∀ x ∈ K, lf K (k + 1) x = lf K k x) : ∀ x ∈ K, lf K (k + 2) x = lf K (k + 1) x := fun x hx => by
  by_cases h0 : 0 ≤ lf K (k + 1) x
  · exact lf_keep h0
  · have hn : ¬ ((sucU x).any fun y => decide (y ∈ K) && decide (lf K (k + 1) y = ((k + 1 : Nat) : Int))) = true := fun ha => by
      obtain ⟨y, _, hy⟩ := List.any_eq_true.1 ha
      simp only [Bool.and_eq_true, decide_eq_true_eq] at hy
      have e := h y hy.1
      rcases lf_rng K y k with h1 | ⟨j, h1, h2, _⟩ <;> omega
    have e : lf K (k + 2) x = -1 := by rw [lf_s, if_neg h0, if_neg hn]
    rcases lf_rng K x (k + 1) with h1 | ⟨j, _, h1, _⟩ <;> omega
theorem lf_stab {K : List (List Int)} {k : Nat} (h : ∀ x ∈ K, lf K (k + 1) x = lf K k x) : ∀ m, ∀ x ∈ K, lf K (k + m) x = lf K k x := by
  have h1 : ∀ m, ∀ x ∈ K, lf K (k + m + 1) x = lf K (k + m) x := fun m => by
    induction m with
    | zero => exact h
    | succ m ih => exact lf_stab1 ih
  intro m
  induction m with
  | zero => intro x _; rfl
  | succ m ih => intro x hx; rw [← Nat.add_assoc, h1 m x hx]; exact ih x hx
/-- A number says that a sorted form is reached. -/
inductive toS (K : List (List Int)) : List Int → Prop
  | here {x} : sortB x = true → toS K x
  | step {x y} : y ∈ sucU x → y ∈ K → toS K y → toS K x
/-- The search from a rack whose form is among closed forms stays there. -/
def closed (K : List (List Int)) : Prop := ∀ x ∈ K, ∀ y ∈ sucU x, y ∈ K
/-- What the layers hold, one by one. -/
theorem kn_any {pr : List Int → Bool} {R : List Int} : ∀ d, (∀ k, k ≤ d → (lay R k).any pr = false) → ∀ x ∈ kn R d, pr x = false
  | 0, h, x, hx => by
    have := h 0 (Nat.le_refl _)
    rw [List.any_eq_false] at this
    exact Bool.eq_false_iff.2 (this x hx)
  | d + 1, h, x, hx => by
    rw [kn_succ] at hx
    rcases List.mem_append.1 hx with hx | hx
    · exact kn_any d (fun k hk => h k (by omega)) x hx
    · have := h (d + 1) (Nat.le_refl _)
      rw [List.any_eq_false] at this
      exact Bool.eq_false_iff.2 (this x hx)
end Go.Proofs.Ytaopbefklkbmeaa
set_option maxRecDepth 100000
set_option linter.unusedSimpArgs false
set_option linter.unusedVariables false
namespace Go.Proofs.Ytaopbefklkbmeaa
open Go Go.RowKit
def ldF (K : List (List Int)) (V : List Int) (x : List Int) (nm : Int) : Bool := (sucU x).any fun y => decide (y ∈ K) && decide (V.getD (idx K y).toNat 0 = nm)
theorem ld_hit {K : List (List Int)} {V x : List Int} {nm : Int} {q : Nat} (hq : q < sucC x) (h1 : diX x q ∈ K) (h2 : V.getD (idx K (diX x q)).toNat 0 = nm) : ldF K V x nm = true :=
  List.any_eq_true.2 ⟨diX x q, List.mem_map.2 ⟨q, List.mem_range.2 hq, rfl⟩, by rw [h2]; simp [h1]⟩
theorem ld_none {K : List (List Int)} {V x : List Int} {nm : Int} (h : ∀ q, q < sucC x → ¬ (diX x q ∈ K ∧ V.getD (idx K (diX x q)).toNat 0 = nm)) : ldF K V x nm = false := by
  unfold ldF
  rw [List.any_eq_false]
  intro y hy
  obtain ⟨q, hq, rfl⟩ := List.mem_map.1 hy
  have := h q (List.mem_range.1 hq)
  simpa using this
theorem l3Leads_ok (s : SN) (A : Nat → Prop) (m : Nat) (H : Heap) (K : List (List Int)) (P : List Int) (b : Nat) (V : List Int) (i : Nat) (nm : Int) (h : SetH s A m H K P) (hb : hget H b = some (.ints V 3)) (hV : V.length = K.length) (hi : i < K.length) :
    PureH Try.prog 43 [s.val K.length, .slice b 0 K.length K.length, .int i, .int nm] H (.bool (ldF K V (K.getD i []) nm)) := by
  obtain ⟨n0, hwH⟩ := ex_hwf H
  obtain ⟨w1, w2, w3⟩ := h.wf hwH
  have hb0 := (hwH b _ hb).1
  refine pure_of_vc (X := ⟨Try.prog, tys, [(17, l2Pour_F), (19, l3Form_F), (18, l3At_F)], [(15, l2Useful_F)], true, true, n0, [], []⟩) fn_43 ⟨tys_ok, .cons l2Pour_T (.cons l3Form_T (.cons l3At_T .nil)), .cons l2Useful_T .nil, mixed⟩ (n0 := n0) (Nat.le_of_ble_eq_true rfl) (by simp [wfL, SV.wf, SN.val]; omega) hwH (Nat.le_refl _) (fun _ => trivial) ?_
  have hf := h.f
  have i0 : 0 ≤ (i : Int) := by omega
  have iK : (i : Int) < (K.length : Int) := by omega
  obtain ⟨lQ, eQ, x24, xr⟩ := h.Kbd hi
  have ok24 := h.ok.all24
  generalize hx : K.getD i [] = x at *
  have hnp := ulF_sucC x
  have hnp36 := sucC_le x
  generalize hsc : sucC x = np at *
  have ehp : (ulF x).length / 2 = np := by omega
  have tkx : List.take 24 x = x := List.take_of_length_le (by omega)
  rw [SN.val_cel]
  unfold SN.cel
  have xf := ne_add w1; have xf' := ne_add' w1
  simp -implicitDefEqProofs only [Try.f43, Option.getD_some, argS, l2Useful_F, freshK, Wrap.ap, hf, i0, iK, lQ, eQ, x24, xr, tkx, ehp, xf, xf', Nat.add_assoc, add_self, self_add, add_add, ZB, Int.reduceToNat, Nat.reduceLT, Nat.reduceLeDiff, Int.reduceLE, Int.reduceLT, Nat.reduceEqDiff, Nat.reduceSub, SB, SV.known, packR, ne_eq, reduceCtorEq, Nat.reduceEqDiff, ↓reduceIte, if_true, if_false, eq_self, Nat.reduceAdd, Nat.reduceMul, Nat.reduceSub, forall_const, oneCellS, litOne, flat1, Kd.isSca, flat, TYB]
  intro cap junk hj
  have hw2 : hwf (n0 + 2) ((n0 + 1, .ints (ulF x ++ junk) 49) :: (n0, .cells [.slice s.f 0 K.length s.cf, .slice s.q 0 K.length s.cq, .slice s.u 0 1009 1009] 42) :: H) :=
    hwf_cons (hwf_cons (hwf_mono (by omega) hwH) (by omega) (by simp [SObj.wf, wfL, SV.wf]; omega)) (by omega) trivial
  have hEH : Ext H ((n0 + 1, .ints (ulF x ++ junk) 49) :: (n0, .cells [.slice s.f 0 K.length s.cf, .slice s.q 0 K.length s.cq, .slice s.u 0 1009 1009] 42) :: H) := Ext.cons hwH (by omega) (Ext.cons hwH (by omega) (Ext.refl H))
  have ga : hget ((n0 + 1, SObj.ints (ulF x ++ junk) 49) :: (n0, .cells [.slice s.f 0 K.length s.cf, .slice s.q 0 K.length s.cq, .slice s.u 0 1009 1009] 42) :: H) (n0 + 1) = some (.ints (ulF x ++ junk) 49) := by simp [hget_cons]
  have gb : hget ((n0 + 1, SObj.ints (ulF x ++ junk) 49) :: (n0, .cells [.slice s.f 0 K.length s.cf, .slice s.q 0 K.length s.cq, .slice s.u 0 1009 1009] 42) :: H) n0 = some (.cells [.slice s.f 0 K.length s.cf, .slice s.q 0 K.length s.cq, .slice s.u 0 1009 1009] 42) := by simp [hget_cons]
  generalize (n0 + 1, SObj.ints (ulF x ++ junk) 49) :: (n0, SObj.cells [.slice s.f 0 K.length s.cf, .slice s.q 0 K.length s.cq, .slice s.u 0 1009 1009] 42) :: H = Hc at *
  refine loop_introN (fun z : Nat × Heap × Nat => [(10, .int z.1), (9, .slice (n0 + 1) 0 np cap), (4, .ptr n0 0), (1, .slice b 0 K.length K.length), (2, .int i), (3, .int nm)]) (fun z => z.2.1) (fun z => z.2.2)
    (fun z => z.1 ≤ np ∧ n0 + 2 ≤ z.2.2 ∧ hwf z.2.2 z.2.1 ∧ Ext Hc z.2.1 ∧ ∀ q, q < z.1 → ¬ (diX x q ∈ K ∧ V.getD (idx K (diX x q)).toNat 0 = nm)) (fun z => np - z.1) ?_ ?_
  · refine ⟨(0, Hc, n0 + 2), ⟨Nat.zero_le _, Nat.le_refl _, hw2, Ext.refl _, fun q hq => by omega⟩, Sub.same ?_ ?_ hw2 (by show n0 ≤ n0 + 2; omega)⟩
    · simp only [LB, subS, subH, wfS, wfH, SV.ren, renL, SObj.ren, SV.wf, SObj.wf, wfL, SV.known, Nat.reduceEqDiff, ↓reduceIte, if_true, if_false, eq_self, Nat.reduceAdd, Nat.reduceLT, Nat.reduceLeDiff, implies_true, reduceCtorEq, forall_const]
    · simp [subS, subH, wfS, wfH, SV.ren, renL, SObj.ren, SV.wf, SObj.wf, wfL, sget_cons, hget_cons]; omega
  · rintro ⟨q, H1, n1⟩ ⟨hq, hn1, hwf1, hE1, hall⟩
    simp only at hq hn1 hwf1 hE1 hall
    have hE : Ext H H1 := fun k o hk => hE1 k o (hEH k o hk)
    have hS1 := h.mono hE
    have hf1 := hE _ _ hf
    have hb1 := hE _ _ hb
    have ga1 := hE1 _ _ ga
    have gb1 := hE1 _ _ gb
    by_cases hqn : q < np
    · have hql : (q : Int) < np := by omega
      have lenP : (ulF x ++ junk).length = cap * 2 := by rw [List.length_append]; omega
      obtain ⟨a0, b0⟩ := ul_bd (R := x) (q := q) (by omega)
      have eP0 : (ulF x ++ junk).getD (q * 2) 0 = (ulF x).getD (q * 2) 0 := getD_app _ _ _ (by omega)
      have eP1 : (ulF x ++ junk).getD (q * 2 + 1) 0 = (ulF x).getD (q * 2 + 1) 0 := getD_app _ _ _ (by omega)
      have pl := pourF_len x24 ((ulF x).getD (q * 2) 0).toNat ((ulF x).getD (q * 2 + 1) 0).toNat
      have tkp := List.take_of_length_le (Nat.le_of_eq pl)
      have xl := diX_len x24 q
      have xrr := diX_rack x24 xr (q := q) (by omega)
      have ex : frm (pourF x ((ulF x).getD (q * 2) 0).toNat ((ulF x).getD (q * 2 + 1) 0).toNat) = diX x q := rfl
      have ek : chkR (K.flatten ++ s.J1) 0 K.length = K := chkR_of ok24 s.J1
      have yf := ne_add (n := n1) (k := s.f) (by have := (hwf1 _ _ hf1).1; omega); have yf' := ne_add' (n := n1) (k := s.f) (by have := (hwf1 _ _ hf1).1; omega)
      have yb := ne_add (n := n1) (k := b) (by have := (hwf1 _ _ hb1).1; omega); have yb' := ne_add' (n := n1) (k := b) (by have := (hwf1 _ _ hb1).1; omega)
      have ya' : (n0 + 1 = n1) = False := by simp; omega
      have yc' : (n0 = n1) = False := by simp; omega
      have hset : ∀ o1 o2 : SObj, ∃ (s' : SN) (A' : Nat → Prop) (m' : Nat) (K' : List (List Int)) (P' : List Int), SV.stc [SV.slice s.f 0 K.length s.cf, SV.slice s.q 0 K.length s.cq, SV.slice s.u 0 1009 1009] = s'.val K'.length ∧ SetH s' A' m' ((n1, o1) :: (n1, o2) :: H1) K' P' :=
        fun o1 o2 => ⟨s, A, m, K, P, rfl, hS1.mono (Ext.cons hwf1 (Nat.le_refl _) (Ext.cons hwf1 (Nat.le_refl _) (Ext.refl _)))⟩
      have hgo : ¬ (diX x q ∈ K ∧ V.getD (idx K (diX x q)).toNat 0 = nm) → ∀ k, k < q + 1 → ¬ (diX x k ∈ K ∧ V.getD (idx K (diX x k)).toNat 0 = nm) := fun hn k hk => by
        by_cases hkq : k = q
        · rw [hkq]; exact hn
        · exact hall k (by omega)
      by_cases hin : diX x q ∈ K
      · obtain ⟨j, hid, hjK, _⟩ := idx_in hin
        have j0 : 0 ≤ (j : Int) := by omega
        have jK : (j : Int) < (K.length : Int) := by omega
        have jv : j < V.length := by omega
        by_cases hnm : V.getD j 0 = nm
        · have hh : ldF K V x nm = true := ld_hit (q := q) (by omega) hin (by rw [hid]; simpa using hnm)
          simp -implicitDefEqProofs only [lk_normal, l2Pour_F, l3Form_F, l3At_F, hql, ga1, gb1, hf1, hb1, i0, iK, lQ, eQ, lenP, eP0, eP1, x24, xr, tkx, a0, b0, pl, tkp, ex, xl, xrr, ek, yf, yf', yb, yb', ya', yc', hid, jv, jK, j0, hnm, Nat.add_assoc, add_self, self_add, add_add, ZB, Int.reduceToNat, Nat.reduceLT, Nat.reduceLeDiff, Int.reduceLE, Int.reduceLT, Nat.reduceEqDiff, Nat.reduceSub, SB, SV.known, packR, ne_eq, reduceCtorEq, Nat.reduceEqDiff, ↓reduceIte, if_true, if_false, eq_self, Nat.reduceAdd, Nat.reduceMul, Nat.reduceSub, forall_const, oneCellS, litOne, flat1, Kd.isSca, flat, TYB]
          refine ⟨by omega, by omega, by omega, by omega, by omega, hset _ _, ?_⟩
          rw [hh]
        · simp -implicitDefEqProofs only [lk_normal, l2Pour_F, l3Form_F, l3At_F, hql, ga1, gb1, hf1, hb1, i0, iK, lQ, eQ, lenP, eP0, eP1, x24, xr, tkx, a0, b0, pl, tkp, ex, xl, xrr, ek, yf, yf', yb, yb', ya', yc', hid, jv, jK, j0, hnm, Nat.add_assoc, add_self, self_add, add_add, ZB, Int.reduceToNat, Nat.reduceLT, Nat.reduceLeDiff, Int.reduceLE, Int.reduceLT, Nat.reduceEqDiff, Nat.reduceSub, SB, SV.known, packR, ne_eq, reduceCtorEq, Nat.reduceEqDiff, ↓reduceIte, if_true, if_false, eq_self, Nat.reduceAdd, Nat.reduceMul, Nat.reduceSub, forall_const, oneCellS, litOne, flat1, Kd.isSca, flat, TYB]
          refine ⟨by omega, by omega, by omega, by omega, by omega, hset _ _, by unfold In64; omega, (q + 1, H1, n1), ⟨by show q + 1 ≤ np; omega, hn1, hwf1, hE1, hgo fun hc => hnm (by have := hc.2; rw [hid] at this; simpa using this)⟩, by show np - (q + 1) < np - q; omega, Sub.mk_ext (l := []) ?_ ?_ ?_ ?_ (by show n0 ≤ n1; omega) (Ext.cons hwf1 (Nat.le_refl _) (Ext.cons hwf1 (Nat.le_refl _) (Ext.refl _))) hwf1⟩
          all_goals ((try simp only [LB, subS, subH, wfS, wfH, SV.ren, renL, SObj.ren, SV.wf, SObj.wf, wfL, SV.known, Nat.reduceEqDiff, ↓reduceIte, if_true, if_false, eq_self, Nat.reduceAdd, Nat.reduceLT, Nat.reduceLeDiff, implies_true, reduceCtorEq, forall_const]) <;> (try simp [subS, subH, wfS, wfH, SV.ren, renL, SObj.ren, SV.wf, SObj.wf, wfL, sget_cons, hget_cons]) <;> (try omega))
      · have hid := idx_out hin
        have j0 : ¬ (0 : Int) ≤ -1 := by omega
        have jK : True := trivial
        have jv : True := trivial
        have hnm : True := trivial
        simp -implicitDefEqProofs only [lk_normal, l2Pour_F, l3Form_F, l3At_F, hql, ga1, gb1, hf1, hb1, i0, iK, lQ, eQ, lenP, eP0, eP1, x24, xr, tkx, a0, b0, pl, tkp, ex, xl, xrr, ek, yf, yf', yb, yb', ya', yc', hid, jv, jK, j0, hnm, Nat.add_assoc, add_self, self_add, add_add, ZB, Int.reduceToNat, Nat.reduceLT, Nat.reduceLeDiff, Int.reduceLE, Int.reduceLT, Nat.reduceEqDiff, Nat.reduceSub, SB, SV.known, packR, ne_eq, reduceCtorEq, Nat.reduceEqDiff, ↓reduceIte, if_true, if_false, eq_self, Nat.reduceAdd, Nat.reduceMul, Nat.reduceSub, forall_const, oneCellS, litOne, flat1, Kd.isSca, flat, TYB]
        refine ⟨by omega, by omega, by omega, by omega, by omega, hset _ _, by unfold In64; omega, (q + 1, H1, n1), ⟨by show q + 1 ≤ np; omega, hn1, hwf1, hE1, hgo fun hc => hin hc.1⟩, by show np - (q + 1) < np - q; omega, Sub.mk_ext (l := []) ?_ ?_ ?_ ?_ (by show n0 ≤ n1; omega) (Ext.cons hwf1 (Nat.le_refl _) (Ext.cons hwf1 (Nat.le_refl _) (Ext.refl _))) hwf1⟩
        all_goals ((try simp only [LB, subS, subH, wfS, wfH, SV.ren, renL, SObj.ren, SV.wf, SObj.wf, wfL, SV.known, Nat.reduceEqDiff, ↓reduceIte, if_true, if_false, eq_self, Nat.reduceAdd, Nat.reduceLT, Nat.reduceLeDiff, implies_true, reduceCtorEq, forall_const]) <;> (try simp [subS, subH, wfS, wfH, SV.ren, renL, SObj.ren, SV.wf, SObj.wf, wfL, sget_cons, hget_cons]) <;> (try omega))
    · have hql : ¬ (q : Int) < np := by omega
      obtain rfl : q = np := by omega
      have hn : ldF K V x nm = false := ld_none (by rw [hsc]; exact hall)
      simp -implicitDefEqProofs only [lk_normal, hql, hn, ZB, Int.reduceToNat, Nat.reduceLT, Nat.reduceLeDiff, Int.reduceLE, Int.reduceLT, Nat.reduceEqDiff, Nat.reduceSub, SB, SV.known, packR, ne_eq, reduceCtorEq, Nat.reduceEqDiff, ↓reduceIte, if_true, if_false, eq_self, Nat.reduceAdd, Nat.reduceMul, Nat.reduceSub, forall_const, oneCellS, litOne, flat1, Kd.isSca, flat, TYB]
end Go.Proofs.Ytaopbefklkbmeaa
