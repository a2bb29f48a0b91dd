/- Walks: sets of forms. -/
import Derived.Test.YtdnechlmkbchaaaSeA
set_option maxRecDepth 100000
set_option linter.unusedSimpArgs false
set_option linter.unusedVariables false
namespace Go.Proofs.Ytdnechlmkbchaaa
open Go Go.RowKit
theorem rack_Bd {R : List Int} (hR : R.length = 24) (hr : rackB R = true) : Bd 0 5 R := fun x hx => by
  obtain ⟨i, hi, rfl⟩ := List.getElem_of_mem hx
  have h := (rackB_iff R hR).1 hr (i / 4) (i % 4) (by omega) (by omega)
  have e : i / 4 * 4 + i % 4 = i := by omega
  have g : R.getD i 0 = R[i] := by rw [List.getD_eq_getElem?_getD, List.getElem?_eq_getElem hi]; rfl
  unfold cB at h
  rw [e, g] at h
  omega
def codS (c x : Int) : Int := (c * 7 + x).tmod 1009
def codF (R : List Int) : Int := R.foldl codS 0
theorem codS_bd {c x : Int} (hc : 0 ≤ c ∧ c < 1009) (hx : 0 ≤ x ∧ x ≤ 5) : 0 ≤ codS c x ∧ codS c x < 1009 := by
  unfold codS
  rw [Int.tmod_eq_emod_of_nonneg (by omega)]
  omega
theorem cod_take {R : List Int} (hb : Bd 0 5 R) : ∀ i, i ≤ R.length → 0 ≤ (R.take i).foldl codS 0 ∧ (R.take i).foldl codS 0 < 1009
  | 0, _ => by simp
  | i + 1, hi => by
    have ih := cod_take hb i (by omega)
    rw [List.take_succ_eq_append_getElem (by omega), List.foldl_append]
    exact codS_bd ih (hb _ (List.getElem_mem _))
theorem cod_bd {R : List Int} (hb : Bd 0 5 R) : 0 ≤ codF R ∧ codF R < 1009 := by
  have := cod_take hb R.length (Nat.le_refl _)
  rwa [List.take_of_length_le (Nat.le_refl _)] at this
--@tbl l3Code = spec.l3Code
theorem l3Code_ok (R : List Int) (hR : R.length = 24) (hb : Bd 0 5 R) : PureH Try.prog 116 [.arr R] [] (.int (codF R)) := by
  have tkR : R.take 24 = R := List.take_of_length_le (by omega)
  refine pure_of_vc (X := ⟨Try.prog, tys, [], [], true, true, 0, [], []⟩) fn_116 ⟨tys_ok, .nil, .nil, mixed⟩ (n0 := 0) (Nat.le_of_ble_eq_true rfl) (by simp [wfL, SV.wf]) (wfH_spec (by simp [wfH, SObj.wf])) (Nat.le_refl _) (fun _ => by simp [SV.wf, wfL]) ?_
  simp -implicitDefEqProofs only [Try.f116, Option.getD_some, argS, hR, tkR, ZB, Int.reduceToNat, Nat.reduceLT, Nat.reduceLeDiff, Int.reduceLE, Int.reduceLT, Nat.reduceEqDiff, Nat.reduceSub, SB, SV.known, packR, ne_eq, reduceCtorEq, Nat.reduceEqDiff, ↓reduceIte, if_true, if_false, eq_self, Nat.reduceAdd, Nat.reduceMul, Nat.reduceSub, forall_const, oneCellS, litOne, flat1, Kd.isSca, flat, TYB]
  refine loop_intro (fun i : Nat => [(4, .int i), (3, .int ((R.take (i * 4)).foldl codS 0)), (1, .ptr 0 0)]) (fun _ => [(0, .ints R 29)]) 1 (fun i => i ≤ 6) (fun i => 6 - i) ?_ ?_
  · refine ⟨0, by omega, Sub.mk_id ?_ ?_ ?_ ?_ ?_⟩
    all_goals ((try simp only [LB, subS, subH, wfS, wfH, SV.ren, renL, SObj.ren, SV.wf, SObj.wf, wfL, SV.known, Nat.reduceEqDiff, ↓reduceIte, if_true, if_false, eq_self, Nat.reduceAdd, Nat.reduceLT, Nat.reduceLeDiff, implies_true, reduceCtorEq, forall_const]) <;> simp)
  · intro i hi
    by_cases hlt : i < 6
    · have hil : (i : Int) < 6 := by omega
      simp -implicitDefEqProofs only [lk_normal, hil, ZB, Int.reduceToNat, Nat.reduceLT, Nat.reduceLeDiff, Int.reduceLE, Int.reduceLT, Nat.reduceEqDiff, Nat.reduceSub, SB, SV.known, packR, ne_eq, reduceCtorEq, Nat.reduceEqDiff, ↓reduceIte, if_true, if_false, eq_self, Nat.reduceAdd, Nat.reduceMul, Nat.reduceSub, forall_const, oneCellS, litOne, flat1, Kd.isSca, flat, TYB]
      refine loop_intro (fun k : Nat => [(5, .int k), (4, .int i), (3, .int ((R.take (i * 4 + k)).foldl codS 0)), (1, .ptr 0 0)]) (fun _ => [(0, .ints R 29)]) 1 (fun k => k ≤ 4) (fun k => 4 - k) ?_ ?_
      · refine ⟨0, by omega, Sub.mk_id ?_ ?_ ?_ ?_ ?_⟩
        all_goals ((try simp only [LB, subS, subH, wfS, wfH, SV.ren, renL, SObj.ren, SV.wf, SObj.wf, wfL, SV.known, Nat.reduceEqDiff, ↓reduceIte, if_true, if_false, eq_self, Nat.reduceAdd, Nat.reduceLT, Nat.reduceLeDiff, implies_true, reduceCtorEq, forall_const]) <;> simp)
      · intro k hk
        by_cases hk4 : k < 4
        · have hkl : (k : Int) < 4 := by omega
          have lx : i * 4 + k < R.length := by omega
          have e1 : (R.take (i * 4 + (k + 1))).foldl codS 0 = ((R.take (i * 4 + k)).foldl codS 0 * 7 + R.getD (i * 4 + k) 0).tmod 1009 := by
            rw [show i * 4 + (k + 1) = i * 4 + k + 1 by omega, List.take_succ_eq_append_getElem lx, List.foldl_append, List.getD_eq_getElem?_getD, List.getElem?_eq_getElem lx]; rfl
          have cb := cod_take hb (i * 4 + k) (by omega)
          have xb : 0 ≤ R.getD (i * 4 + k) 0 ∧ R.getD (i * 4 + k) 0 ≤ 5 := hb.getD lx
          generalize (R.take (i * 4 + k)).foldl codS 0 = c at *
          generalize hx : R.getD (i * 4 + k) 0 = x at *
          simp -implicitDefEqProofs only [lk_normal, hil, hkl, hR, hx, ZB, Int.reduceToNat, Nat.reduceLT, Nat.reduceLeDiff, Int.reduceLE, Int.reduceLT, Nat.reduceEqDiff, Nat.reduceSub, SB, SV.known, packR, ne_eq, reduceCtorEq, Nat.reduceEqDiff, ↓reduceIte, if_true, if_false, eq_self, Nat.reduceAdd, Nat.reduceMul, Nat.reduceSub, forall_const, oneCellS, litOne, flat1, Kd.isSca, flat, TYB]
          refine ⟨by unfold In64; omega, by omega, by omega, by omega, by unfold In64; omega, by omega, by unfold In64; omega, k + 1, by omega, by omega, Sub.mk_id ?_ ?_ ?_ ?_ ?_⟩
          all_goals (try simp only [e1])
          all_goals ((try simp only [LB, subS, subH, wfS, wfH, SV.ren, renL, SObj.ren, SV.wf, SObj.wf, wfL, SV.known, Nat.reduceEqDiff, ↓reduceIte, if_true, if_false, eq_self, Nat.reduceAdd, Nat.reduceLT, Nat.reduceLeDiff, implies_true, reduceCtorEq, forall_const]) <;> simp)
        · have hkl : ¬ (k : Int) < 4 := by omega
          simp -implicitDefEqProofs only [lk_normal, hkl, ZB, Int.reduceToNat, Nat.reduceLT, Nat.reduceLeDiff, Int.reduceLE, Int.reduceLT, Nat.reduceEqDiff, Nat.reduceSub, SB, SV.known, packR, ne_eq, reduceCtorEq, Nat.reduceEqDiff, ↓reduceIte, if_true, if_false, eq_self, Nat.reduceAdd, Nat.reduceMul, Nat.reduceSub, forall_const, oneCellS, litOne, flat1, Kd.isSca, flat, TYB]
          obtain rfl : k = 4 := by omega
          refine ⟨by unfold In64; omega, i + 1, by omega, by omega, Sub.mk_id ?_ ?_ ?_ ?_ ?_⟩
          all_goals (try simp only [show (i + 1) * 4 = i * 4 + 4 by omega])
          all_goals ((try simp only [LB, subS, subH, wfS, wfH, SV.ren, renL, SObj.ren, SV.wf, SObj.wf, wfL, SV.known, Nat.reduceEqDiff, ↓reduceIte, if_true, if_false, eq_self, Nat.reduceAdd, Nat.reduceLT, Nat.reduceLeDiff, implies_true, reduceCtorEq, forall_const]) <;> simp)
    · have hil : ¬ (i : Int) < 6 := by omega
      obtain rfl : i = 6 := by omega
      simp -implicitDefEqProofs only [lk_normal, hil, ZB, Int.reduceToNat, Nat.reduceLT, Nat.reduceLeDiff, Int.reduceLE, Int.reduceLT, Nat.reduceEqDiff, Nat.reduceSub, SB, SV.known, packR, ne_eq, reduceCtorEq, Nat.reduceEqDiff, ↓reduceIte, if_true, if_false, eq_self, Nat.reduceAdd, Nat.reduceMul, Nat.reduceSub, forall_const, oneCellS, litOne, flat1, Kd.isSca, flat, TYB]
      rw [List.take_of_length_le (by omega)]
      rfl
def l3Code_F : List SV → Heap → Option (Prop × SV)
  | [.arr R], _ => some (R.length = 24 ∧ Bd 0 5 R, .int (codF R))
  | _, _ => none
theorem l3Code_T : ∀ args H p v, l3Code_F args H = some (p, v) → p → PureH Try.prog 116 args H v := by
  intro args H p v h hp
  unfold l3Code_F at h
  split at h
  · cases h; exact (l3Code_ok _ hp.1 hp.2).any _
  · cases h
/-! What a bucket holds. -/
def bk (K : List (List Int)) (c : Nat) : List Int := ((List.range K.length).filter fun i => decide ((codF (K.getD i [])).toNat = c)).map Int.ofNat
theorem bk_snoc (K : List (List Int)) (x : List Int) (c : Nat) : bk (K ++ [x]) c = bk K c ++ if (codF x).toNat = c then [(K.length : Int)] else [] := by
  unfold bk
  rw [List.length_append, List.length_singleton, List.range_succ, List.filter_append, List.map_append]
  congr 1
  · congr 1
    refine List.filter_congr fun i hi => ?_
    have := List.mem_range.1 hi
    rw [List.getD_eq_getElem?_getD, List.getElem?_append_left this, ← List.getD_eq_getElem?_getD]
  · have e : (K ++ [x]).getD K.length [] = x := by rw [List.getD_eq_getElem?_getD, List.getElem?_append_right (Nat.le_refl _)]; simp
    rw [List.filter_cons, List.filter_nil, e]
    by_cases h : (codF x).toNat = c
    · rw [if_pos h, if_pos (by simpa using h)]; rfl
    · rw [if_neg h, if_neg (by simpa using h)]; rfl
theorem bk_mem {K : List (List Int)} {c : Nat} {v : Int} : v ∈ bk K c ↔ ∃ i : Nat, i < K.length ∧ v = (i : Int) ∧ (codF (K.getD i [])).toNat = c := by
  unfold bk
  simp only [List.mem_map, List.mem_filter, List.mem_range, decide_eq_true_eq]
  constructor
  · rintro ⟨i, ⟨h1, h2⟩, rfl⟩; exact ⟨i, h1, rfl, h2⟩
  · rintro ⟨i, h1, rfl, h2⟩; exact ⟨i, ⟨h1, h2⟩, rfl⟩
theorem bk_len (K : List (List Int)) (c : Nat) : (bk K c).length ≤ K.length := by
  unfold bk
  rw [List.length_map]
  have := List.length_filter_le (fun i => decide ((codF (K.getD i [])).toNat = c)) (List.range K.length)
  rwa [List.length_range] at this
theorem bk_nil (c : Nat) : bk [] c = [] := rfl
/-- Where a form stands. -/
def idx (K : List (List Int)) (x : List Int) : Int := match K.findIdx? fun y => decide (y = x) with
  | some i => (i : Int)
  | none => -1
theorem idx_in {K : List (List Int)} {x : List Int} (h : x ∈ K) : ∃ i : Nat, idx K x = (i : Int) ∧ i < K.length ∧ K.getD i [] = x := by
  unfold idx
  cases hq : K.findIdx? fun y => decide (y = x) with
  | none => exact absurd (List.findIdx?_eq_none_iff.1 hq x h) (by simp)
  | some i =>
    obtain ⟨h1, h2, _⟩ := List.findIdx?_eq_some_iff_getElem.1 hq
    refine ⟨i, rfl, h1, ?_⟩
    rw [List.getD_eq_getElem?_getD, List.getElem?_eq_getElem h1]
    simpa using h2
theorem idx_out {K : List (List Int)} {x : List Int} (h : x ∉ K) : idx K x = -1 := by
  unfold idx
  rw [List.findIdx?_eq_none_iff.2 fun y hy => by
    have : ¬ y = x := fun e => h (e ▸ hy)
    simp [this]]
theorem idx_at {K : List (List Int)} {i : Nat} (hn : K.Nodup) (hi : i < K.length) : idx K (K.getD i []) = (i : Int) := by
  obtain ⟨j, h1, h2, h3⟩ := idx_in (getD_mem hi)
  rw [h1]
  have : j = i := by
    rw [List.getD_eq_getElem?_getD, List.getElem?_eq_getElem h2, List.getD_eq_getElem?_getD, List.getElem?_eq_getElem hi] at h3
    have hp := List.pairwise_iff_getElem.1 hn
    have h3' : K[j] = K[i] := h3
    rcases Nat.lt_trichotomy j i with h | h | h
    · exact absurd h3' (hp j i h2 hi h)
    · exact h
    · exact absurd h3'.symm (hp i j hi h2 h)
  rw [this]
theorem idx_neg (K : List (List Int)) (x : List Int) : idx K x < 0 ↔ x ∉ K := by
  constructor
  · intro h hx
    obtain ⟨i, h1, _⟩ := idx_in hx
    omega
  · intro h; rw [idx_out h]; omega
/-- A set in the heap: names and rests. -/
structure SN where
  f : Nat
  cf : Nat
  J1 : List Int
  q : Nat
  cq : Nat
  J2 : List Int
  u : Nat
  bn : Nat → Nat
  bj : Nat → List Int
def SN.val (s : SN) (len : Nat) : SV := .stc [.slice s.f 0 len s.cf, .slice s.q 0 len s.cq, .slice s.u 0 1009 1009]
def SN.bv (s : SN) (K : List (List Int)) (c : Nat) : SV := match bk K c with
  | [] => .nils
  | y :: l => .slice (s.bn c) 0 (l.length + 1) (l.length + 1 + (s.bj c).length)
def SN.bl (s : SN) (K : List (List Int)) : List SV := (List.range 1009).map (s.bv K)
theorem SN.bl_len (s : SN) (K : List (List Int)) : (s.bl K).length = 1009 := by simp [SN.bl]
theorem SN.bl_get (s : SN) (K : List (List Int)) {c : Nat} (hc : c < 1009) : (s.bl K)[c]? = some (s.bv K c) := by simp [SN.bl, hc]
structure SetH (s : SN) (A : Nat → Prop) (m : Nat) (H : Heap) (K : List (List Int)) (P : List Int) : Prop where
  f : hget H s.f = some (.ints (K.flatten ++ s.J1) 29)
  fl : (K.flatten ++ s.J1).length = s.cf * 24
  q : hget H s.q = some (.ints (P ++ s.J2) 3)
  pl : P.length = K.length
  ql : (P ++ s.J2).length = s.cq
  u : hget H s.u = some (.cells (s.bl K) 57)
  b : ∀ c, c < 1009 → bk K c ≠ [] → hget H (s.bn c) = some (.ints (bk K c ++ s.bj c) 3) ∧ m ≤ s.bn c ∧ s.bn c ≠ s.f ∧ s.bn c ≠ s.q ∧ s.bn c ≠ s.u ∧ ¬ A (s.bn c)
  inj : ∀ c c', c < 1009 → c' < 1009 → bk K c ≠ [] → bk K c' ≠ [] → s.bn c = s.bn c' → c = c'
  m : m ≤ s.f ∧ m ≤ s.q ∧ m ≤ s.u
  ne : s.f ≠ s.q ∧ s.f ≠ s.u ∧ s.q ≠ s.u
  nA : ¬ A s.f ∧ ¬ A s.q ∧ ¬ A s.u
  ok : okU K
  nd : K.Nodup
  sm : K.length ≤ 30000
theorem SetH.mono {s : SN} {A : Nat → Prop} {m : Nat} {H H' : Heap} {K : List (List Int)} {P : List Int} (h : SetH s A m H K P) (hE : Ext H H') : SetH s A m H' K P :=
  { h with f := hE _ _ h.f, q := hE _ _ h.q, u := hE _ _ h.u, b := fun c hc hb => ⟨hE _ _ (h.b c hc hb).1, (h.b c hc hb).2⟩ }
theorem ne_add {k n : Nat} (h : k < n) (i : Nat) : (k = n + i) = False := by simp; omega
theorem ne_add' {k n : Nat} (h : k < n) : (k = n) = False := by simp; omega
theorem add_ne {k n : Nat} (h : k < n) (i : Nat) : (n + i = k) = False := by simp; omega
theorem add_ne' {k n : Nat} (h : k < n) : (n = k) = False := by simp; omega
theorem add_self (n i : Nat) : (n = n + (i + 1)) = False := by simp
theorem self_add (n i : Nat) : (n + (i + 1) = n) = False := by simp
theorem add_add (n i j : Nat) : (n + i = n + j) = (i = j) := by simp
theorem not_bk {K : List (List Int)} {x : List Int} (h : ∀ v ∈ bk K (codF x).toNat, K.getD v.toNat [] ≠ x) : x ∉ K := fun hx => by
  obtain ⟨i, h1, h2, h3⟩ := idx_in hx
  exact h (i : Int) (bk_mem.2 ⟨i, h2, rfl, by rw [h3]⟩) (by simpa using h3)
theorem l3At_ok (s : SN) (A : Nat → Prop) (m : Nat) (H : Heap) (K : List (List Int)) (P : List Int) (x : List Int) (h : SetH s A m H K P) (hx : x.length = 24) (hr : rackB x = true) :
    PureH Try.prog 77 [s.val K.length, .arr x] H (.int (idx K x)) := by
  obtain ⟨f, cf, J1, q, cq, J2, u, bn, bj⟩ := s
  obtain ⟨n0, hwH⟩ := ex_hwf H
  have hf := h.f; have hq := h.q; have hu := h.u
  simp only at hf hq hu
  have f0 := (hwH f _ hf).1; have q0 := (hwH q _ hq).1; have u0 := (hwH u _ hu).1
  have ok24 := h.ok.all24
  have tkx : x.take 24 = x := List.take_of_length_le (by omega)
  have hbd := rack_Bd hx hr
  have hc := cod_bd hbd
  have hc9 : (codF x).toNat < 1009 := by omega
  have lb := SN.bl_len ⟨f, cf, J1, q, cq, J2, u, bn, bj⟩ K
  have gb := SN.bl_get ⟨f, cf, J1, q, cq, J2, u, bn, bj⟩ K hc9
  have hB := h.b _ hc9
  have eqr := eqI_rack
  refine pure_of_vc (X := ⟨Try.prog, tys, [(116, l3Code_F)], [], true, true, n0, [], []⟩) fn_77 ⟨tys_ok, .cons l3Code_T .nil, .nil, mixed⟩ (n0 := n0) (Nat.le_of_ble_eq_true rfl) (by simp [wfL, SV.wf, SN.val]; omega) hwH (Nat.le_refl _) (fun _ => trivial) ?_
  unfold SN.val
  have hHH : hwf (n0 + 1 + 1) ((n0 + 1, .ints x 29) :: (n0, .cells [.slice f 0 K.length cf, .slice q 0 K.length cq, .slice u 0 1009 1009] 60) :: H) :=
    hwf_cons (hwf_cons (hwf_mono (by omega) hwH) (by omega) (by simp [SObj.wf, wfL, SV.wf]; omega)) (by omega) trivial
  have xf := ne_add f0; have xf' := ne_add' f0; have xu := ne_add u0; have xu' := ne_add' u0
  cases hb : bk K (codF x).toNat with
  | nil =>
    have ev : (SN.bv ⟨f, cf, J1, q, cq, J2, u, bn, bj⟩ K (codF x).toNat) = .nils := by unfold SN.bv; rw [hb]
    rw [ev] at gb
    have hnx : x ∉ K := not_bk (by rw [hb]; simp)
    simp -implicitDefEqProofs only [Try.f77, Option.getD_some, argS, l3Code_F, hx, hbd, tkx, hc, hc9, gb, hf, hu, xf, xf', xu, xu', add_self, ZB, Int.reduceToNat, Nat.reduceLT, Nat.reduceLeDiff, Int.reduceLE, Int.reduceLT, Nat.reduceEqDiff, Nat.reduceSub, SB, SV.known, packR, ne_eq, reduceCtorEq, Nat.reduceEqDiff, ↓reduceIte, if_true, if_false, eq_self, Nat.reduceAdd, Nat.reduceMul, Nat.reduceSub, forall_const, oneCellS, litOne, flat1, Kd.isSca, flat, TYB]
    refine loop_intro (fun _ : Unit => [(6, .int 0), (5, .nils), (4, .int 0), (3, .ptr (n0 + 1) 0), (2, .ptr n0 0)]) (fun _ => ((n0 + 1, .ints x 29) :: (n0, .cells [.slice f 0 K.length cf, .slice q 0 K.length cq, .slice u 0 1009 1009] 60) :: H)) (n0 + 1 + 1) (fun _ => True) (fun _ => 0) ?_ ?_
    · refine ⟨(), trivial, Sub.same ?_ ?_ hHH (by omega)⟩
      · simp only [LB, subS, subH, wfS, wfH, SV.ren, renL, SObj.ren, SV.wf, SObj.wf, wfL, SV.known, Nat.reduceEqDiff, ↓reduceIte, if_true, if_false, eq_self, Nat.reduceAdd, Nat.reduceLT, Nat.reduceLeDiff, implies_true, reduceCtorEq, forall_const]
      · simp [subS, subH, wfS, wfH, SV.ren, renL, SObj.ren, SV.wf, SObj.wf, wfL, sget_cons, hget_cons]; omega
    · intro _ _
      simp -implicitDefEqProofs only [lk_normal, Int.lt_irrefl, ZB, Int.reduceToNat, Nat.reduceLT, Nat.reduceLeDiff, Int.reduceLE, Int.reduceLT, Nat.reduceEqDiff, Nat.reduceSub, SB, SV.known, packR, ne_eq, reduceCtorEq, Nat.reduceEqDiff, ↓reduceIte, if_true, if_false, eq_self, Nat.reduceAdd, Nat.reduceMul, Nat.reduceSub, forall_const, oneCellS, litOne, flat1, Kd.isSca, flat, TYB]
      rw [idx_out hnx]
  | cons y l =>
    have ev : (SN.bv ⟨f, cf, J1, q, cq, J2, u, bn, bj⟩ K (codF x).toNat) = .slice (bn (codF x).toNat) 0 (l.length + 1) (l.length + 1 + (bj (codF x).toNat).length) := by unfold SN.bv; rw [hb]
    rw [ev] at gb
    obtain ⟨hbb, _⟩ := hB (by rw [hb]; simp)
    have b0 := (hwH _ _ hbb).1
    simp only at hbb b0
    rw [hb] at hbb
    generalize bn (codF x).toNat = b at *
    generalize bj (codF x).toNat = jb at *
    have xb := ne_add b0; have xb' := ne_add' b0
    have hYl : (y :: l).length = l.length + 1 := rfl
    clear hB
    generalize y :: l = Y at *
    generalize l.length + 1 = nb at *
    simp -implicitDefEqProofs only [Try.f77, Option.getD_some, argS, l3Code_F, hx, hbd, tkx, hc, hc9, gb, hf, hu, xf, xf', xu, xu', add_self, ZB, Int.reduceToNat, Nat.reduceLT, Nat.reduceLeDiff, Int.reduceLE, Int.reduceLT, Nat.reduceEqDiff, Nat.reduceSub, SB, SV.known, packR, ne_eq, reduceCtorEq, Nat.reduceEqDiff, ↓reduceIte, if_true, if_false, eq_self, Nat.reduceAdd, Nat.reduceMul, Nat.reduceSub, forall_const, oneCellS, litOne, flat1, Kd.isSca, flat, TYB]
    have hnb : nb ≤ 30000 := by
      have h1 := bk_len K (codF x).toNat
      rw [hb, hYl] at h1
      have h2 := h.sm
      omega
    have hlj : (Y ++ jb).length = nb + jb.length := by rw [List.length_append, hYl]
    have hfl := flat_len ok24
    have hKJ := h.fl
    simp only at hKJ
    refine loop_intro (fun i : Nat => [(6, .int i), (5, .slice b 0 (nb) (nb + jb.length)), (4, .int 0), (3, .ptr (n0 + 1) 0), (2, .ptr n0 0)]) (fun _ => ((n0 + 1, .ints x 29) :: (n0, .cells [.slice f 0 K.length cf, .slice q 0 K.length cq, .slice u 0 1009 1009] 60) :: H)) (n0 + 1 + 1) (fun i => i ≤ nb ∧ ∀ k, k < i → K.getD (Y.getD k 0).toNat [] ≠ x) (fun i => nb - i) ?_ ?_
    · refine ⟨0, ⟨by omega, by simp⟩, Sub.same ?_ ?_ hHH (by omega)⟩
      · simp only [LB, subS, subH, wfS, wfH, SV.ren, renL, SObj.ren, SV.wf, SObj.wf, wfL, SV.known, Nat.reduceEqDiff, ↓reduceIte, if_true, if_false, eq_self, Nat.reduceAdd, Nat.reduceLT, Nat.reduceLeDiff, implies_true, reduceCtorEq, forall_const]
      · simp [subS, subH, wfS, wfH, SV.ren, renL, SObj.ren, SV.wf, SObj.wf, wfL, sget_cons, hget_cons]; omega
    · rintro i ⟨hi, hall⟩
      by_cases hlt : i < nb
      · have hil : (i : Int) < (nb : Int) := by omega
        have lb2 : i < (Y ++ jb).length := by rw [hlj]; omega
        have gd : (Y ++ jb).getD i 0 = Y.getD i 0 := getD_app _ _ _ (by omega)
        have hmem : Y.getD i 0 ∈ bk K (codF x).toNat := by
          rw [hb, List.getD_eq_getElem?_getD, List.getElem?_eq_getElem (by omega)]
          exact List.getElem_mem _
        obtain ⟨v, v1, v2, v3⟩ := bk_mem.1 hmem
        rw [v2] at gd
        have hall' := hall
        have vK : (v : Int) < (K.length : Int) := by omega
        have lK : v * 24 + 24 ≤ (K.flatten ++ J1).length := by rw [List.length_append, hfl]; omega
        have eK : List.take 24 (List.drop (v * 24) (K.flatten ++ J1)) = K.getD v [] := flat_get ok24 v1 J1
        have k24 := ok24 _ (getD_mem v1)
        have v0 : 0 ≤ (v : Int) := by omega
        by_cases he : K.getD v [] = x
        · have he' := decide_eq_true he
          have hid : idx K x = (v : Int) := by rw [← he]; exact idx_at h.nd v1
          simp -implicitDefEqProofs only [lk_normal, hil, lb2, gd, vK, v0, lK, eK, k24, he', he, hf, hbb, xf, xf', xb, xb', add_self, eqr, hx, tkx, hid, ZB, Int.reduceToNat, Nat.reduceLT, Nat.reduceLeDiff, Int.reduceLE, Int.reduceLT, Nat.reduceEqDiff, Nat.reduceSub, SB, SV.known, packR, ne_eq, reduceCtorEq, Nat.reduceEqDiff, ↓reduceIte, if_true, if_false, eq_self, Nat.reduceAdd, Nat.reduceMul, Nat.reduceSub, forall_const, oneCellS, litOne, flat1, Kd.isSca, flat, TYB]
          omega
        · have he' := decide_eq_false he
          simp -implicitDefEqProofs only [lk_normal, hil, lb2, gd, vK, v0, lK, eK, k24, he', hf, hbb, xf, xf', xb, xb', add_self, eqr, hx, tkx, ZB, Int.reduceToNat, Nat.reduceLT, Nat.reduceLeDiff, Int.reduceLE, Int.reduceLT, Nat.reduceEqDiff, Nat.reduceSub, SB, SV.known, packR, ne_eq, reduceCtorEq, Nat.reduceEqDiff, ↓reduceIte, if_true, if_false, eq_self, Nat.reduceAdd, Nat.reduceMul, Nat.reduceSub, forall_const, oneCellS, litOne, flat1, Kd.isSca, flat, TYB]
          refine ⟨by omega, by unfold In64; omega, i + 1, ⟨by omega, fun k hk => ?_⟩, by omega, Sub.same ?_ ?_ hHH (by omega)⟩
          · by_cases hki : k = i
            · subst hki
              rw [v2]
              exact he
            · exact hall k (by omega)
          · simp only [LB, subS, subH, wfS, wfH, SV.ren, renL, SObj.ren, SV.wf, SObj.wf, wfL, SV.known, Nat.reduceEqDiff, ↓reduceIte, if_true, if_false, eq_self, Nat.reduceAdd, Nat.reduceLT, Nat.reduceLeDiff, implies_true, reduceCtorEq, forall_const]
          · simp [subS, subH, wfS, wfH, SV.ren, renL, SObj.ren, SV.wf, SObj.wf, wfL, sget_cons, hget_cons]; omega
      · have hil : ¬ (i : Int) < (nb : Int) := by omega
        obtain rfl : i = nb := by omega
        have hnx : x ∉ K := not_bk (by
          rw [hb]
          intro v hv
          obtain ⟨k, hk, rfl⟩ := List.getElem_of_mem hv
          have := hall k (by omega)
          have e : Y.getD k 0 = Y[k] := by rw [List.getD_eq_getElem?_getD, List.getElem?_eq_getElem hk]; rfl
          rwa [e] at this)
        simp -implicitDefEqProofs only [lk_normal, hil, ZB, Int.reduceToNat, Nat.reduceLT, Nat.reduceLeDiff, Int.reduceLE, Int.reduceLT, Nat.reduceEqDiff, Nat.reduceSub, SB, SV.known, packR, ne_eq, reduceCtorEq, Nat.reduceEqDiff, ↓reduceIte, if_true, if_false, eq_self, Nat.reduceAdd, Nat.reduceMul, Nat.reduceSub, forall_const, oneCellS, litOne, flat1, Kd.isSca, flat, TYB]
        rw [idx_out hnx]
/-- The set in the heap; what is asked of it. -/
def l3At_F : List SV → Heap → Option (Prop × SV)
  | [.stc [.slice f 0 len cf, v2, v3], .arr x], H => match hget H f with
    | some (.ints L _) => some ((x.length = 24 ∧ rackB x = true) ∧ ∃ (s : SN) (A : Nat → Prop) (m : Nat) (K : List (List Int)) (P : List Int), SV.stc [.slice f 0 len cf, v2, v3] = s.val K.length ∧ SetH s A m H K P, .int (idx (chkR L 0 len) x))
    | _ => none
  | _, _ => none
--@tbl l3At = spec.l3At
theorem l3At_T : ∀ args H p v, l3At_F args H = some (p, v) → p → PureH Try.prog 77 args H v := by
  intro args H p v h hp
  unfold l3At_F at h
  split at h
  · rename_i f len cf v2 v3 x
    split at h
    · rename_i L e hf
      cases h
      obtain ⟨⟨hx, hr⟩, s, A, m, K, P, hs, hS⟩ := hp
      have e1 : f = s.f ∧ len = K.length := by
        unfold SN.val at hs
        simp only [SV.stc.injEq, List.cons.injEq, SV.slice.injEq] at hs
        exact ⟨hs.1.1, hs.1.2.2.1⟩
      obtain ⟨rfl, rfl⟩ := e1
      have hL := hS.f
      rw [hf] at hL
      cases hL
      rw [chkR_of hS.ok.all24, hs]
      exact l3At_ok s A m H K P x hS hx hr
    · cases h
  · cases h
/-- A walk in the caller's own heap. -/
theorem gen_direct {X : Cx} {f : FuncId} {fn : Func} {c : Code} (hf : FnOK X.P f fn c X.sx X.hr) (hX : CxOK X) {args : List SV} {H : Heap} {n m : Nat} {ψ κ : K1} (hm : X.m = m) (hN : args.length ≤ fn.ntmps)
    (h : hwf n H → wfL n args → codeVC X n c (argS 0 args) H n (retK X.τ fn.results.toList ψ)) (hk : hwf n H → ∀ v H' n', ψ v H' n' → n ≤ n' → hwf n' H' → v.wf n' → κ v H' n') : GenOK X.P f args H n m κ := by
  subst hm
  refine ⟨hf.ent, fun B M w hH hwH hwa hown hM => ?_⟩
  refine (run_of_vc hf hX hN hwa hwH (Nat.le_refl _) (h hwH hwa) B M w hH hown hM).mono fun e w' hh => ?_
  obtain ⟨v, H', n', B', g0, g1, g2, g3, g4, g5, g6, g7, g8⟩ := hh
  exact ⟨v, H', n', B', g0, hk hwH v H' n' g1 g8 g3 g2, g8, g2, g3, g7, g4, g5, g6⟩
theorem SN.bl_set (s : SN) (K : List (List Int)) (x : List Int) (b : Nat) (j : List Int) (f cf : Nat) (J1 : List Int) (q cq : Nat) (J2 : List Int) {c : Nat} (hcx : (codF x).toNat = c) (cap : Nat) (hcap : j.length + ((bk K c).length + 1) = cap) :
    (s.bl K).set c (.slice b 0 ((bk K c).length + 1) cap) = SN.bl ⟨f, cf, J1, q, cq, J2, s.u, fun k => if k = c then b else s.bn k, fun k => if k = c then j else s.bj k⟩ (K ++ [x]) := by
  refine List.ext_getElem (by rw [List.length_set, SN.bl_len, SN.bl_len]) fun i h1 h2 => ?_
  rw [List.length_set, SN.bl_len] at h1
  rw [List.getElem_set]
  have g1 : (s.bl K)[i]'(by rw [SN.bl_len]; exact h1) = s.bv K i := by simp [SN.bl]
  have g2 : (SN.bl ⟨f, cf, J1, q, cq, J2, s.u, fun k => if k = c then b else s.bn k, fun k => if k = c then j else s.bj k⟩ (K ++ [x]))[i]'h2 = SN.bv ⟨f, cf, J1, q, cq, J2, s.u, fun k => if k = c then b else s.bn k, fun k => if k = c then j else s.bj k⟩ (K ++ [x]) i := by simp [SN.bl]
  rw [g2]
  by_cases hi : c = i
  · subst hi
    rw [if_pos rfl]
    unfold SN.bv
    have e := bk_snoc K x c
    rw [if_pos hcx] at e
    cases hq : bk (K ++ [x]) c with
    | nil => rw [hq] at e; have := congrArg List.length e; simp at this
    | cons y l =>
      have hl : l.length + 1 = (bk K c).length + 1 := by
        rw [hq] at e
        have := congrArg List.length e
        simpa using this
      simp only [if_true]
      rw [hl, ← hcap]
      congr 1
      omega
  · rw [if_neg hi, g1]
    unfold SN.bv
    have e := bk_snoc K x i
    rw [if_neg (by omega), List.append_nil] at e
    rw [e]
    have hi2 : ¬ i = c := fun h => hi h.symm
    cases bk K i with
    | nil => rfl
    | cons y l => simp only [if_neg hi2]
/-- What is known of other blocks stays. -/
def Frm (A : Nat → Prop) (H H' : Heap) : Prop := ∀ k o, A k → hget H k = some o → hget H' k = some o
/-- The set with one more form, whatever the heap looks like. -/
theorem SetH.put {s : SN} {A : Nat → Prop} {m n : Nat} {H H' : Heap} {K : List (List Int)} {P : List Int} {x : List Int} {p : Int} (h : SetH s A m H K P) (hx : x.length = 24) (hr : rackB x = true) (hin : x ∉ K) (hA : ∀ k, A k → k < n) (hwH : hwf n H) (hsm : K.length < 30000) (hmn : m ≤ n)
    {f' cf' q' cq' b' cap : Nat} {J1' J2' jb' : List Int} (hc9 : (codF x).toNat < 1009) (hcap : jb'.length + ((bk K (codF x).toNat).length + 1) = cap)
    (hf : hget H' f' = some (.ints ((K.flatten ++ x) ++ J1') 29)) (hfl : J1'.length + (K.length + 1) * 24 = cf' * 24)
    (hq : hget H' q' = some (.ints ((P ++ [p]) ++ J2') 3)) (hql : J2'.length + (K.length + 1) = cq')
    (hu : hget H' s.u = some (.cells ((s.bl K).set (codF x).toNat (.slice b' 0 ((bk K (codF x).toNat).length + 1) cap)) 57))
    (hb : hget H' b' = some (.ints (bk K (codF x).toNat ++ [(K.length : Int)] ++ jb') 3))
    (ho : ∀ k o, hget H k = some o → k ≠ s.f → k ≠ s.q → k ≠ s.u → (bk K (codF x).toNat ≠ [] → k ≠ s.bn (codF x).toNat) → k < n → hget H' k = some o)
    (f0 : n ≤ f') (q0 : n ≤ q') (b0 : n ≤ b') (fq : f' ≠ q') (fb : b' ≠ f') (qb : b' ≠ q') :
    SetH ⟨f', cf', J1', q', cq', J2', s.u, fun k => if k = (codF x).toNat then b' else s.bn k, fun k => if k = (codF x).toNat then jb' else s.bj k⟩ A m H' (K ++ [x]) (P ++ [p]) ∧ Frm A H H' := by
  have lt : ∀ k o, hget H k = some o → k < n := fun k o hk => (hwH k o hk).1
  have u0 := lt _ _ h.u
  have nA : ∀ k, n ≤ k → ¬ A k := fun k hk ha => by have := hA k ha; omega
  have hkf := flat_len h.ok.all24
  refine ⟨⟨?_, ?_, ?_, ?_, ?_, ?_, ?_, ?_, ?_, ?_, ?_, ?_, ?_, ?_⟩, fun k o ha hk => ?_⟩
  · simpa using hf
  · simp only [List.flatten_append, List.flatten_cons, List.flatten_nil, List.append_nil, List.length_append, hkf, hx]; omega
  · simpa using hq
  · rw [List.length_append, List.length_append, h.pl]; rfl
  · simp only [List.length_append, List.length_singleton, h.pl]; omega
  · rw [hu, SN.bl_set s K x b' jb' f' cf' J1' q' cq' J2' rfl cap hcap]
  · intro c hc hne
    by_cases hcc : c = (codF x).toNat
    · subst hcc
      simp only [if_true]
      refine ⟨?_, by omega, by omega, by omega, by omega, nA _ b0⟩
      rw [hb, bk_snoc, if_pos rfl]
    · have e := bk_snoc K x c
      rw [if_neg (fun h => hcc h.symm), List.append_nil] at e
      rw [e] at hne ⊢
      obtain ⟨g1, g2, g3, g4, g5, g6⟩ := h.b c hc hne
      have g0 := lt _ _ g1
      simp only [if_neg hcc]
      refine ⟨ho _ _ g1 g3 g4 g5 (fun hne2 heq => hcc (h.inj c _ hc hc9 hne hne2 heq)) g0, g2, by omega, by omega, g5, g6⟩
  · intro c c' hc hc' hne hne' heq
    have sn : ∀ d, d ≠ (codF x).toNat → bk (K ++ [x]) d = bk K d := fun d hd => by
      rw [bk_snoc, if_neg (fun h => hd h.symm), List.append_nil]
    by_cases h1 : c = (codF x).toNat
    · by_cases h2 : c' = (codF x).toNat
      · rw [h1, h2]
      · rw [sn c' h2] at hne'
        have g0 := lt _ _ (h.b c' hc' hne').1
        simp only [if_pos h1, if_neg h2] at heq
        omega
    · rw [sn c h1] at hne
      have g0 := lt _ _ (h.b c hc hne).1
      by_cases h2 : c' = (codF x).toNat
      · simp only [if_neg h1, if_pos h2] at heq
        omega
      · rw [sn c' h2] at hne'
        simp only [if_neg h1, if_neg h2] at heq
        exact h.inj c c' hc hc' hne hne' heq
  · exact ⟨by show m ≤ f'; omega, by show m ≤ q'; omega, h.m.2.2⟩
  · exact ⟨fq, by show f' ≠ s.u; omega, by show q' ≠ s.u; omega⟩
  · exact ⟨nA _ f0, nA _ q0, h.nA.2.2⟩
  · exact okU_app h.ok fun y hy => by rw [List.mem_singleton] at hy; subst hy; exact ⟨hx, hr⟩
  · rw [List.nodup_append]
    refine ⟨h.nd, by simp, fun a ha b hb hab => ?_⟩
    rw [List.mem_singleton] at hb
    subst hb; subst hab
    exact hin ha
  · rw [List.length_append, List.length_singleton]; omega
  · exact ho k o hk (fun e => h.nA.1 (e ▸ ha)) (fun e => h.nA.2.1 (e ▸ ha)) (fun e => h.nA.2.2 (e ▸ ha)) (fun hne e => (h.b _ hc9 hne).2.2.2.2.2 (e ▸ ha)) (hA k ha)
theorem wfL_set {n : Nat} (l : List SV) (c : Nat) {v : SV} (h : wfL n l) (hv : v.wf n) : wfL n (l.set c v) := by
  rw [wfL_iff] at *
  intro x hx
  rcases List.mem_or_eq_of_mem_set hx with hx | rfl
  · exact h x hx
  · exact hv
theorem l3Put_vc (s : SN) (A : Nat → Prop) (m n : Nat) (H : Heap) (K : List (List Int)) (P : List Int) (x : List Int) (p : Int) (h : SetH s A m H K P) (hx : x.length = 24) (hr : rackB x = true) (hA : ∀ k, A k → k < n) (hwH : hwf n H) (hsm : K.length < 30000) :
    codeVC (⟨Try.prog, tys, [(77, l3At_F), (116, l3Code_F)], [], true, true, m, [], [(4, .tree (.one 0 (.one 2 (.one 3 (.one 4 (.one 5 (.one 6 (.one 7 (.one 8 (.one 9 (.one 10 (.alt 1 (.one 11 (.one 12 (.one 13 (.one 14 .done)))) (.alt 11 (.alt 1 (.one 12 (.one 13 (.one 14 .done))) (.alt 12 (.one 1 (.one 13 (.one 14 .done))) .stop)) .stop)))))))))))))]⟩ : Cx) n (Try.f131.body.getD .skip) (argS 0 [s.val K.length, .arr x, .int p]) H n
      (retK tys Try.f131.results.toList fun v H' n' => (x ∈ K → v = s.val K.length ∧ Ext H H') ∧ (x ∉ K → ∃ s' : SN, v = s'.val (K.length + 1) ∧ SetH s' A m H' (K ++ [x]) (P ++ [p]) ∧ Frm A H H')) := by
  obtain ⟨f, cf, J1, q, cq, J2, u, bn, bj⟩ := s
  have hf := h.f; have hq := h.q; have hu := h.u; have hfl := h.fl; have hql := h.ql; have hpl := h.pl
  simp only at hf hq hu hfl hql
  have f0 := (hwH f _ hf).1; have q0 := (hwH q _ hq).1; have u0 := (hwH u _ hu).1
  obtain ⟨mf, mq, mu⟩ := h.m
  obtain ⟨fq, fu, qu⟩ := h.ne
  simp only at mf mq mu fq fu qu
  have ok24 := h.ok.all24
  have hkf := flat_len ok24
  have tkx : x.take 24 = x := List.take_of_length_le (by omega)
  have hbd := rack_Bd hx hr
  have hc := cod_bd hbd
  have hc9 : (codF x).toNat < 1009 := by omega
  have lb := SN.bl_len ⟨f, cf, J1, q, cq, J2, u, bn, bj⟩ K
  have gb := SN.bl_get ⟨f, cf, J1, q, cq, J2, u, bn, bj⟩ K hc9
  have hB := h.b _ hc9
  have eqr := eqI_rack
  have ck : chkR (K.flatten ++ J1) 0 K.length = K := chkR_of ok24 J1
  have xf := ne_add f0; have xf' := ne_add' f0; have xu := ne_add u0; have xu' := ne_add' u0; have xq := ne_add q0; have xq' := ne_add' q0
  have yf := add_ne f0; have yf' := add_ne' f0; have yu := add_ne u0; have yu' := add_ne' u0; have yq := add_ne q0; have yq' := add_ne' q0
  have qf : ¬ q = f := fun h => fq h.symm
  have uf : ¬ u = f := fun h => fu h.symm
  have uq : ¬ u = q := fun h => qu h.symm
  have hS3 : ∀ o1 o2 o3 : SObj, Ext H ((n + 2, o1) :: (n + 1, o2) :: (n, o3) :: H) := fun o1 o2 o3 => Ext.cons hwH (by omega) (Ext.cons hwH (by omega) (Ext.cons hwH (by omega) (Ext.refl H)))
  have hE2 : ∀ o1 o2 o3 : SObj, (∃ (s : SN) (A : Nat → Prop) (m : Nat) (K_1 : List (List Int)) (P : List Int), SV.stc [.slice f 0 K.length cf, .slice q 0 K.length cq, .slice u 0 1009 1009] = s.val K_1.length ∧ SetH s A m ((n + 2, o1) :: (n + 1, o2) :: (n, o3) :: H) K_1 P) = True := fun o1 o2 o3 => by
    refine eq_true ?_
    exact ⟨_, A, m, K, P, rfl, h.mono (hS3 _ _ _)⟩
  have hE : ∀ o1 o2 : SObj, Ext H ((n + 1, o1) :: (n, o2) :: H) := fun o1 o2 => Ext.cons hwH (by omega) (Ext.cons hwH (by omega) (Ext.refl H))
  unfold SN.val
  by_cases hin : x ∈ K
  · have hid : ¬ idx K x < 0 := fun h => (idx_neg K x).1 h hin
    simp -implicitDefEqProofs only [Try.f131, Option.getD_some, argS, l3Code_F, l3At_F, hx, hr, hbd, tkx, hc, hc9, gb, hf, hu, ck, xf, xf', xu, xu', xq, xq', yf, yf', yu, yu', yq, yq', Nat.add_assoc, add_self, self_add, add_add, hE2, hin, hid, ZB, Int.reduceToNat, Nat.reduceLT, Nat.reduceLeDiff, Int.reduceLE, Int.reduceLT, Nat.reduceEqDiff, Nat.reduceSub, SB, SV.known, packR, ne_eq, reduceCtorEq, Nat.reduceEqDiff, ↓reduceIte, if_true, if_false, eq_self, Nat.reduceAdd, Nat.reduceMul, Nat.reduceSub, forall_const, oneCellS, litOne, flat1, Kd.isSca, flat, TYB]
    have h0 := (not_congr (idx_neg K x)).2 (fun h => h hin)
    exact ⟨fun _ => ⟨by omega, Ext.cons hwH (by omega) (hS3 _ _ _), fun h => absurd trivial h⟩, fun h => absurd (by omega) h⟩
  · have hid : idx K x = -1 := idx_out hin
    simp -implicitDefEqProofs only [Try.f131, Option.getD_some, argS, l3Code_F, l3At_F, hx, hr, hbd, tkx, hc, hc9, gb, hf, hu, ck, xf, xf', xu, xu', xq, xq', yf, yf', yu, yu', yq, yq', Nat.add_assoc, add_self, self_add, add_add, hE2, hin, hid, ZB, Int.reduceToNat, Nat.reduceLT, Nat.reduceLeDiff, Int.reduceLE, Int.reduceLT, Nat.reduceEqDiff, Nat.reduceSub, SB, SV.known, packR, ne_eq, reduceCtorEq, Nat.reduceEqDiff, ↓reduceIte, if_true, if_false, eq_self, Nat.reduceAdd, Nat.reduceMul, Nat.reduceSub, forall_const, oneCellS, litOne, flat1, Kd.isSca, flat, TYB]
    have lK : K.length ≤ 9223372036854775807 := by omega
    have r1 : ∀ v : Int, (List.replicate 1 (0 : Int)).set 0 v = [v] := fun _ => rfl
    have wbl : wfL n (SN.bl ⟨f, cf, J1, q, cq, J2, u, bn, bj⟩ K) := (hwH u _ hu).2
    have hw3 : hwf (n + 3) ((n + 2, .cells [.nils, .nils, .nils] 60) :: (n + 1, .ints x 29) :: (n, .cells [.slice f 0 K.length cf, .slice q 0 K.length cq, .slice u 0 1009 1009] 60) :: H) :=
      hwf_cons (hwf_cons (hwf_cons (hwf_mono (by omega) hwH) (by omega) (by simp [SObj.wf, wfL, SV.wf]; omega)) (by omega) trivial) (by omega) (by simp [SObj.wf, wfL, SV.wf])
    cases hb : bk K (codF x).toNat with
    | nil =>
      have ev : (SN.bv ⟨f, cf, J1, q, cq, J2, u, bn, bj⟩ K (codF x).toNat) = .nils := by unfold SN.bv; rw [hb]
      rw [ev] at gb
      refine ⟨{s : Nat × List Int // s.2.length + 1 = s.1}, fun s => [(7, .int (codF x)), (6, .ptr (n + 2) 0), (4, .ptr (n + 1) 0), (3, .ptr n 0), (2, .int p)],
        fun s => (u, .cells ((SN.bl ⟨f, cf, J1, q, cq, J2, u, bn, bj⟩ K).set (codF x).toNat (.slice (n + 4) 0 1 s.1.1)) 57) :: (n + 4, .ints ([(K.length : Int)] ++ s.1.2) 3) :: (n + 3, .ints [(K.length : Int)] 3) :: (n + 2, .cells [.nils, .nils, .nils] 60) :: (n + 1, .ints x 29) :: (n, .cells [.slice f 0 K.length cf, .slice q 0 K.length cq, .slice u 0 1009 1009] 60) :: H, fun _ => n + 5, ?_, ?_⟩
      · simp -implicitDefEqProofs only [l3Code_F, gb, hx, hr, hbd, tkx, hc, hc9, lb, hf, hu, hq, mu, mf, mq, xf, xf', xu, xu', xq, xq', yf, yf', yu, yu', yq, yq', fq, fu, qu, qf, uf, uq, r1, Nat.add_assoc, add_self, self_add, add_add, ZB, Int.reduceToNat, Nat.reduceLT, Nat.reduceLeDiff, Int.reduceLE, Int.reduceLT, Nat.reduceEqDiff, Nat.reduceSub, SB, SV.known, packR, ne_eq, reduceCtorEq, Nat.reduceEqDiff, ↓reduceIte, if_true, if_false, eq_self, Nat.reduceAdd, Nat.reduceMul, Nat.reduceSub, forall_const, oneCellS, litOne, flat1, Kd.isSca, flat, TYB]
        repeat' apply And.intro
        all_goals (first
          | omega
          | (intro junk cap hj
             refine ⟨⟨(cap, junk), hj⟩, Sub.same (by simp only [LB, subS, subH, wfS, wfH, SV.ren, renL, SObj.ren, SV.wf, SObj.wf, wfL, SV.known, Nat.reduceEqDiff, ↓reduceIte, if_true, if_false, eq_self, Nat.reduceAdd, Nat.reduceLT, Nat.reduceLeDiff, implies_true, reduceCtorEq, forall_const]) (by simp [subS, subH, wfS, wfH, SV.ren, renL, SObj.ren, SV.wf, SObj.wf, wfL, sget_cons, hget_cons] <;> omega) ?_ (by omega)⟩
             exact hwf_cons (hwf_cons (hwf_cons (hwf_mono (by omega) hw3) (by omega) trivial) (by omega) trivial) (by omega) (wfL_set _ _ (wfL_mono (by omega) _ wbl) (by simp [SV.wf]))))
      · rintro ⟨⟨cap, j⟩, hj⟩
        simp only at hj
        simp -implicitDefEqProofs only [lk_normal, hx, hr, hbd, tkx, hc, hc9, lb, hf, hu, hq, mu, mf, mq, xf, xf', xu, xu', xq, xq', yf, yf', yu, yu', yq, yq', fq, fu, qu, qf, uf, uq, r1, Nat.add_assoc, add_self, self_add, add_add, ZB, Int.reduceToNat, Nat.reduceLT, Nat.reduceLeDiff, Int.reduceLE, Int.reduceLT, Nat.reduceEqDiff, Nat.reduceSub, SB, SV.known, packR, ne_eq, reduceCtorEq, Nat.reduceEqDiff, ↓reduceIte, if_true, if_false, eq_self, Nat.reduceAdd, Nat.reduceMul, Nat.reduceSub, forall_const, oneCellS, litOne, flat1, Kd.isSca, flat, TYB]
        refine ⟨by rw [List.length_append, hkf] at hfl ⊢; omega, by rw [List.length_append, hkf] at hfl; omega, by omega, by omega, fun j1 c1 hj1 => ⟨by omega, hql, by rw [List.length_append, hpl] at hql; omega, by omega, by omega, fun j2 c2 hj2 => ⟨by omega, by omega, ?_⟩⟩⟩
        have tkK : List.take (K.length * 24) (K.flatten ++ J1) = K.flatten := List.take_left' hkf
        have tkP : List.take K.length (P ++ J2) = P := List.take_left' hpl
        rw [tkK, tkP]
        refine ⟨⟨n + 6, c1, j1, n + 8, c2, j2, u, fun k => if k = (codF x).toNat then n + 4 else bn k, fun k => if k = (codF x).toNat then j else bj k⟩, rfl, SetH.put (s := ⟨f, cf, J1, q, cq, J2, u, bn, bj⟩) h hx hr hin hA hwH hsm (by omega) (b' := n + 4) (cap := cap) (jb' := j) hc9 (by rw [hb]; simpa using hj) ?_ hj1 ?_ hj2 ?_ ?_ ?_ (by omega) (by omega) (by omega) (by omega) (by omega) (by omega)⟩
        · simp [hget_cons, hb, yq, yf, yu]
        · simp [hget_cons, hb, yq, yf, yu]
        · simp [hget_cons, hb, xu, xu', fq, fu, qu, uf, uq]
        · simp [hget_cons, hb, yf, yq, yu]
        · intro k o hk h1 h2 h3 h4 h5
          simp only at h1 h2 h3 h4
          simp only [hget_cons]
          repeat rw [if_neg (by omega)]
          exact hk
    | cons y l =>
      have ev : (SN.bv ⟨f, cf, J1, q, cq, J2, u, bn, bj⟩ K (codF x).toNat) = .slice (bn (codF x).toNat) 0 (l.length + 1) (l.length + 1 + (bj (codF x).toNat).length) := by unfold SN.bv; rw [hb]
      rw [ev] at gb
      obtain ⟨hbb, mb, bf, bq, bu, _⟩ := hB (by rw [hb]; simp)
      simp only at hbb mb bf bq bu
      have b0 := (hwH _ _ hbb).1
      rw [hb] at hbb
      generalize hbn : bn (codF x).toNat = b at *
      generalize hbj : bj (codF x).toNat = jb at *
      have xb := ne_add b0; have xb' := ne_add' b0; have yb := add_ne b0; have yb' := add_ne' b0
      have fb : ¬ f = b := fun h => bf h.symm
      have qb : ¬ q = b := fun h => bq h.symm
      have ub : ¬ u = b := fun h => bu h.symm
      have hYl : (y :: l).length = l.length + 1 := rfl
      have hnb := bk_len K (codF x).toNat
      rw [hb, hYl] at hnb
      generalize hY : y :: l = Y at *
      generalize hnbq : l.length + 1 = nb at *
      have hlj : (Y ++ jb).length = nb + jb.length := by rw [List.length_append, hYl]
      have tkY : List.take nb (Y ++ jb) = Y := List.take_left' hYl
      have nbl : nb ≤ nb + jb.length := by omega
      have nb1 : (nb + 1) * 8 ≤ 140737488355328 := by omega
      have nb2 : nb + 1 ≤ 9223372036854775807 := by omega
      have nb3 : nb ≤ 9223372036854775806 := by omega
      refine ⟨{s : Nat × List Int // s.2.length + (nb + 1) = s.1}, fun s => [(7, .int (codF x)), (6, .ptr (n + 2) 0), (4, .ptr (n + 1) 0), (3, .ptr n 0), (2, .int p)],
        fun s => (u, .cells ((SN.bl ⟨f, cf, J1, q, cq, J2, u, bn, bj⟩ K).set (codF x).toNat (.slice (n + 4) 0 (nb + 1) s.1.1)) 57) :: (n + 4, .ints (Y ++ [(K.length : Int)] ++ s.1.2) 3) :: (b, .dead) :: (n + 3, .ints [(K.length : Int)] 3) :: (n + 2, .cells [.nils, .nils, .nils] 60) :: (n + 1, .ints x 29) :: (n, .cells [.slice f 0 K.length cf, .slice q 0 K.length cq, .slice u 0 1009 1009] 60) :: H, fun _ => n + 5, ?_, ?_⟩
      · simp -implicitDefEqProofs only [l3Code_F, gb, hbb, hlj, tkY, nbl, nb1, nb2, nb3, mb, xb, xb', yb, yb', bf, bq, bu, fb, qb, ub, hx, hr, hbd, tkx, hc, hc9, lb, hf, hu, hq, mu, mf, mq, xf, xf', xu, xu', xq, xq', yf, yf', yu, yu', yq, yq', fq, fu, qu, qf, uf, uq, r1, Nat.add_assoc, add_self, self_add, add_add, ZB, Int.reduceToNat, Nat.reduceLT, Nat.reduceLeDiff, Int.reduceLE, Int.reduceLT, Nat.reduceEqDiff, Nat.reduceSub, SB, SV.known, packR, ne_eq, reduceCtorEq, Nat.reduceEqDiff, ↓reduceIte, if_true, if_false, eq_self, Nat.reduceAdd, Nat.reduceMul, Nat.reduceSub, forall_const, oneCellS, litOne, flat1, Kd.isSca, flat, TYB]
        repeat' apply And.intro
        all_goals (first
          | omega
          | (intro junk cap hj
             refine ⟨⟨(cap, junk), hj⟩, Sub.same (by simp only [LB, subS, subH, wfS, wfH, SV.ren, renL, SObj.ren, SV.wf, SObj.wf, wfL, SV.known, Nat.reduceEqDiff, ↓reduceIte, if_true, if_false, eq_self, Nat.reduceAdd, Nat.reduceLT, Nat.reduceLeDiff, implies_true, reduceCtorEq, forall_const]) (by simp [subS, subH, wfS, wfH, SV.ren, renL, SObj.ren, SV.wf, SObj.wf, wfL, sget_cons, hget_cons] <;> omega) ?_ (by omega)⟩
             exact hwf_cons (hwf_cons (hwf_cons (hwf_cons (hwf_mono (by omega) hw3) (by omega) trivial) (by omega) trivial) (by omega) trivial) (by omega) (wfL_set _ _ (wfL_mono (by omega) _ wbl) (by simp [SV.wf])))
)
      · rintro ⟨⟨cap, j⟩, hj⟩
        simp only at hj
        simp -implicitDefEqProofs only [lk_normal, xb, xb', yb, yb', bf, bq, bu, fb, qb, ub, hx, hr, hbd, tkx, hc, hc9, lb, hf, hu, hq, mu, mf, mq, xf, xf', xu, xu', xq, xq', yf, yf', yu, yu', yq, yq', fq, fu, qu, qf, uf, uq, r1, Nat.add_assoc, add_self, self_add, add_add, ZB, Int.reduceToNat, Nat.reduceLT, Nat.reduceLeDiff, Int.reduceLE, Int.reduceLT, Nat.reduceEqDiff, Nat.reduceSub, SB, SV.known, packR, ne_eq, reduceCtorEq, Nat.reduceEqDiff, ↓reduceIte, if_true, if_false, eq_self, Nat.reduceAdd, Nat.reduceMul, Nat.reduceSub, forall_const, oneCellS, litOne, flat1, Kd.isSca, flat, TYB]
        refine ⟨by rw [List.length_append, hkf] at hfl ⊢; omega, by rw [List.length_append, hkf] at hfl; omega, by omega, by omega, fun j1 c1 hj1 => ⟨by omega, hql, by rw [List.length_append, hpl] at hql; omega, by omega, by omega, fun j2 c2 hj2 => ⟨by omega, by omega, ?_⟩⟩⟩
        have tkK : List.take (K.length * 24) (K.flatten ++ J1) = K.flatten := List.take_left' hkf
        have tkP : List.take K.length (P ++ J2) = P := List.take_left' hpl
        rw [tkK, tkP]
        refine ⟨⟨n + 6, c1, j1, n + 8, c2, j2, u, fun k => if k = (codF x).toNat then n + 4 else bn k, fun k => if k = (codF x).toNat then j else bj k⟩, rfl, SetH.put (s := ⟨f, cf, J1, q, cq, J2, u, bn, bj⟩) h hx hr hin hA hwH hsm (by omega) (b' := n + 4) (cap := cap) (jb' := j) hc9 (by rw [hb, hYl]; exact hj) ?_ hj1 ?_ hj2 ?_ ?_ ?_ (by omega) (by omega) (by omega) (by omega) (by omega) (by omega)⟩
        · simp [hget_cons, yq, yf, yu, yb]
        · simp [hget_cons, yq, yf, yu, yb]
        · simp [hget_cons, hb, hYl, xu, xu', fq, fu, qu, uf, uq]
        · simp [hget_cons, hb, yf, yq, yu, yb]
        · intro k o hk h1 h2 h3 h4 h5
          simp only at h1 h2 h3 h4
          have h6 : k ≠ b := by
            have := h4 (by rw [hb]; intro h0; rw [h0] at hYl; simp at hYl; omega)
            rwa [hbn] at this
          simp only [hget_cons]
          repeat rw [if_neg (by omega)]
          exact hk
def l3Put_F : List SV → Heap → Nat → Nat → K1 → Prop
  | [v, .arr x, .int p], H, n, m, κ => (x.length = 24 ∧ rackB x = true) ∧ ∃ (s : SN) (A : Nat → Prop) (K : List (List Int)) (P : List Int), v = s.val K.length ∧ SetH s A m H K P ∧ (∀ k, A k → k < n) ∧ K.length < 30000 ∧
      (x ∈ K → ∀ H' n', n ≤ n' → hwf n' H' → SetH s A m H' K P → Frm A H H' → κ (s.val K.length) H' n') ∧
      (x ∉ K → ∀ (s' : SN) H' n', n ≤ n' → hwf n' H' → SetH s' A m H' (K ++ [x]) (P ++ [p]) → Frm A H H' → κ (s'.val (K.length + 1)) H' n')
  | _, _, _, _, _ => False
--@tbl l3Put = spec.l3Put
theorem l3Put_T : ∀ args H n m κ, l3Put_F args H n m κ → GenOK Try.prog 131 args H n m κ := by
  intro args H n m κ h
  unfold l3Put_F at h
  split at h
  · rename_i v x p
    obtain ⟨⟨hx, hr⟩, s, A, K, P, rfl, hS, hA, hsm, h1, h2⟩ := h
    refine gen_direct (X := ⟨Try.prog, tys, [(77, l3At_F), (116, l3Code_F)], [], true, true, m, [], [(4, .tree (.one 0 (.one 2 (.one 3 (.one 4 (.one 5 (.one 6 (.one 7 (.one 8 (.one 9 (.one 10 (.alt 1 (.one 11 (.one 12 (.one 13 (.one 14 .done)))) (.alt 11 (.alt 1 (.one 12 (.one 13 (.one 14 .done))) (.alt 12 (.one 1 (.one 13 (.one 14 .done))) .stop)) .stop)))))))))))))]⟩) fn_131 ⟨tys_ok, .cons l3At_T (.cons l3Code_T .nil), .nil, mixed⟩ rfl (Nat.le_of_ble_eq_true rfl) (fun hwH hwa => l3Put_vc s A m n H K P x p hS hx hr hA hwH hsm) fun hwH v H' n' hψ h3 h4 h5 => ?_
    by_cases hin : x ∈ K
    · obtain ⟨rfl, hE⟩ := hψ.1 hin
      exact h1 hin H' n' h3 h4 (hS.mono hE) fun k o _ hk => hE k o hk
    · obtain ⟨s', rfl, hS', hF⟩ := hψ.2 hin
      exact h2 hin s' H' n' h3 h4 hS' hF
  · exact h.elim
def nilB : List SV := List.replicate 1009 .nils
theorem nilB_len : nilB.length = 1009 := List.length_replicate ..
theorem nilB_get {c : Nat} (hc : c < 1009) : nilB[c]? = some .nils := by unfold nilB; rw [List.getElem?_replicate, if_pos hc]
theorem nilB_wf (n : Nat) : wfL n nilB := by
  rw [wfL_iff]
  intro v hv
  obtain rfl := (List.mem_replicate.1 hv).2
  trivial
theorem nilB_bl (s : SN) : s.bl [] = nilB := by
  refine List.ext_getElem (by rw [SN.bl_len, nilB_len]) fun i h1 h2 => ?_
  have g1 : (s.bl [])[i]'h1 = s.bv [] i := by simp [SN.bl]
  have g2 : nilB[i]'h2 = .nils := List.getElem_replicate ..
  rw [g1, g2]
  unfold SN.bv
  rw [bk_nil]
theorem l3At0_ok (H : Heap) (u e : Nat) (x : List Int) (hu : hget H u = some (.cells nilB e)) (hx : x.length = 24) (hr : rackB x = true) :
    PureH Try.prog 77 [.stc [.nils, .nils, .slice u 0 1009 1009], .arr x] H (.int (-1)) := by
  obtain ⟨n0, hwH⟩ := ex_hwf H
  have u0 := (hwH u _ hu).1
  have tkx : x.take 24 = x := List.take_of_length_le (by omega)
  have hbd := rack_Bd hx hr
  have hc := cod_bd hbd
  have hc9 : (codF x).toNat < 1009 := by omega
  have gb := nilB_get hc9
  have xu := ne_add u0; have xu' := ne_add' u0
  refine pure_of_vc (X := ⟨Try.prog, tys, [(116, l3Code_F)], [], true, true, n0, [], []⟩) fn_77 ⟨tys_ok, .cons l3Code_T .nil, .nil, mixed⟩ (n0 := n0) (Nat.le_of_ble_eq_true rfl) (by simp [wfL, SV.wf]; omega) hwH (Nat.le_refl _) (fun _ => trivial) ?_
  simp -implicitDefEqProofs only [Try.f77, Option.getD_some, argS, l3Code_F, hx, hbd, tkx, hc, hc9, gb, hu, xu, xu', add_self, ZB, Int.reduceToNat, Nat.reduceLT, Nat.reduceLeDiff, Int.reduceLE, Int.reduceLT, Nat.reduceEqDiff, Nat.reduceSub, SB, SV.known, packR, ne_eq, reduceCtorEq, Nat.reduceEqDiff, ↓reduceIte, if_true, if_false, eq_self, Nat.reduceAdd, Nat.reduceMul, Nat.reduceSub, forall_const, oneCellS, litOne, flat1, Kd.isSca, flat, TYB]
  refine loop_intro (fun _ : Unit => [(6, .int 0), (5, .nils), (4, .int 0), (3, .ptr (n0 + 1) 0), (2, .ptr n0 0)]) (fun _ => ((n0 + 1, .ints x 29) :: (n0, .cells [.nils, .nils, .slice u 0 1009 1009] 60) :: H)) (n0 + 1 + 1) (fun _ => True) (fun _ => 0) ?_ ?_
  · refine ⟨(), trivial, Sub.same ?_ ?_ ?_ (by omega)⟩
    · simp only [LB, subS, subH, wfS, wfH, SV.ren, renL, SObj.ren, SV.wf, SObj.wf, wfL, SV.known, Nat.reduceEqDiff, ↓reduceIte, if_true, if_false, eq_self, Nat.reduceAdd, Nat.reduceLT, Nat.reduceLeDiff, implies_true, reduceCtorEq, forall_const]
    · simp [subS, subH, wfS, wfH, SV.ren, renL, SObj.ren, SV.wf, SObj.wf, wfL, sget_cons, hget_cons]; omega
    · exact hwf_cons (hwf_cons (hwf_mono (by omega) hwH) (by omega) (by simp [SObj.wf, wfL, SV.wf]; omega)) (by omega) trivial
  · intro _ _
    simp -implicitDefEqProofs only [lk_normal, Int.lt_irrefl, ZB, Int.reduceToNat, Nat.reduceLT, Nat.reduceLeDiff, Int.reduceLE, Int.reduceLT, Nat.reduceEqDiff, Nat.reduceSub, SB, SV.known, packR, ne_eq, reduceCtorEq, Nat.reduceEqDiff, ↓reduceIte, if_true, if_false, eq_self, Nat.reduceAdd, Nat.reduceMul, Nat.reduceSub, forall_const, oneCellS, litOne, flat1, Kd.isSca, flat, TYB]
def l3At0_F : List SV → Heap → Option (Prop × SV)
  | [.stc [.nils, .nils, .slice u 0 1009 1009], .arr x], H => match hget H u with
    | some (.cells l _) => some ((x.length = 24 ∧ rackB x = true) ∧ l = nilB, .int (-1))
    | _ => none
  | _, _ => none
theorem l3At0_T : ∀ args H p v, l3At0_F args H = some (p, v) → p → PureH Try.prog 77 args H v := by
  intro args H p v h hp
  unfold l3At0_F at h
  split at h
  · split at h
    · rename_i hu
      cases h
      obtain ⟨⟨hx, hr⟩, rfl⟩ := hp
      exact l3At0_ok H _ _ _ hu hx hr
    · cases h
  · cases h
theorem SetH.one {A : Nat → Prop} {m n u : Nat} {H H' : Heap} {x : List Int} {p : Int} (hu0 : hget H u = some (.cells nilB 57)) (hx : x.length = 24) (hr : rackB x = true) (hA : ∀ k, A k → k < n) (hAu : ¬ A u) (hmu : m ≤ u) (hwH : hwf n H)
    {f' cf' q' cq' b' cap : Nat} {J1' J2' jb' : List Int} (hcap : jb'.length + 1 = cap)
    (hf : hget H' f' = some (.ints (x ++ J1') 29)) (hfl : J1'.length + 24 = cf' * 24)
    (hq : hget H' q' = some (.ints ([p] ++ J2') 3)) (hql : J2'.length + 1 = cq')
    (hu : hget H' u = some (.cells (nilB.set (codF x).toNat (.slice b' 0 1 cap)) 57))
    (hb : hget H' b' = some (.ints ([0] ++ jb') 3))
    (ho : ∀ k o, hget H k = some o → k ≠ u → k < n → hget H' k = some o)
    (f0 : n + 2 ≤ f') (q0 : n + 2 ≤ q') (b0 : n + 2 ≤ b') (fq : f' ≠ q') (fb : b' ≠ f') (qb : b' ≠ q') :
    SetH ⟨f', cf', J1', q', cq', J2', u, fun k => if k = (codF x).toNat then b' else 0, fun k => if k = (codF x).toNat then jb' else []⟩ A m H' [x] [p] ∧ Frm A H H' := by
  have u0 := (hwH u _ hu0).1
  have hbd := rack_Bd hx hr
  have hc := cod_bd hbd
  have hS : SetH ⟨n, 0, [], n + 1, 0, [], u, fun _ => 0, fun _ => []⟩ A m ((n, .ints [] 29) :: (n + 1, .ints [] 3) :: H) [] [] := by
    refine ⟨by simp [hget_cons], rfl, by simp [hget_cons], rfl, rfl, ?_, fun c _ h => absurd (bk_nil c) h, fun c c' _ _ h => absurd (bk_nil c) h, ⟨by show m ≤ n; omega, by show m ≤ n + 1; omega, hmu⟩, ⟨by show n ≠ n + 1; omega, by show n ≠ u; omega, by show n + 1 ≠ u; omega⟩, ⟨fun h => by have h' : n < n := hA _ h; omega, fun h => by have h' : n + 1 < n := hA _ h; omega, hAu⟩, fun y hy => by simp at hy, List.nodup_nil, by simp⟩
    simp only [hget_cons]
    rw [if_neg (by show ¬ u = n; omega), if_neg (by show ¬ u = n + 1; omega), nilB_bl]
    exact hu0
  have := SetH.put (n := n + 2) (H' := H') (p := p) (J1' := J1') (J2' := J2') (cf' := cf') (cq' := cq') (f' := f') (q' := q') hS hx hr (by simp) (fun k hk => by have := hA k hk; omega) (hwf_cons (hwf_cons (hwf_mono (by omega) hwH) (by omega) trivial) (by omega) trivial) (by simp) (by omega) (b' := b') (cap := cap) (jb' := jb') (by omega) (by simpa [bk_nil] using hcap) (by simpa using hf) (by simpa using hfl) (by simpa using hq) (by simpa using hql) (by rw [nilB_bl]; simpa [bk_nil] using hu) (by simpa [bk_nil] using hb)
    (fun k o hk h1 h2 h3 _ h5 => by
      simp only at h1 h2 h3
      simp only [hget_cons] at hk
      rw [if_neg h1, if_neg h2] at hk
      exact ho k o hk h3 (hwH k o hk).1) f0 q0 b0 fq fb qb
  refine ⟨this.1, fun k o ha hk => this.2 k o ha ?_⟩
  have := hA k ha
  simp only [hget_cons]
  rw [if_neg (by omega), if_neg (by omega)]
  exact hk
theorem l3Put0_vc (A : Nat → Prop) (m n u : Nat) (H : Heap) (x : List Int) (p : Int) (hu : hget H u = some (.cells nilB 57)) (hx : x.length = 24) (hr : rackB x = true) (hA : ∀ k, A k → k < n) (hAu : ¬ A u) (hmu : m ≤ u) (hwH : hwf n H) :
    codeVC (⟨Try.prog, tys, [(77, l3At0_F), (116, l3Code_F)], [], true, true, m, [], [(4, .tree (.one 0 (.one 2 (.one 3 (.one 4 (.one 5 (.one 6 (.one 7 (.one 8 (.one 9 (.one 10 (.alt 1 (.one 11 (.one 12 (.one 13 (.one 14 .done)))) (.alt 11 (.alt 1 (.one 12 (.one 13 (.one 14 .done))) (.alt 12 (.one 1 (.one 13 (.one 14 .done))) .stop)) .stop)))))))))))))]⟩ : Cx) n (Try.f131.body.getD .skip) (argS 0 [.stc [.nils, .nils, .slice u 0 1009 1009], .arr x, .int p]) H n
      (retK tys Try.f131.results.toList fun v H' n' => ∃ s' : SN, v = s'.val 1 ∧ SetH s' A m H' [x] [p] ∧ Frm A H H') := by
  have u0 := (hwH u _ hu).1
  have tkx : x.take 24 = x := List.take_of_length_le (by omega)
  have hbd := rack_Bd hx hr
  have hc := cod_bd hbd
  have hc9 : (codF x).toNat < 1009 := by omega
  have lb := nilB_len
  have gb := nilB_get hc9
  have xu := ne_add u0; have xu' := ne_add' u0
  have yu := add_ne u0; have yu' := add_ne' u0
  have r1 : ∀ v : Int, (List.replicate 1 (0 : Int)).set 0 v = [v] := fun _ => rfl
  have hw3 : hwf (n + 3) ((n + 2, .cells [.nils, .nils, .nils] 60) :: (n + 1, .ints x 29) :: (n, .cells [.nils, .nils, .slice u 0 1009 1009] 60) :: H) :=
    hwf_cons (hwf_cons (hwf_cons (hwf_mono (by omega) hwH) (by omega) (by simp [SObj.wf, wfL, SV.wf]; omega)) (by omega) trivial) (by omega) (by simp [SObj.wf, wfL, SV.wf])
  simp -implicitDefEqProofs only [Try.f131, Option.getD_some, argS, l3Code_F, l3At0_F, hx, hr, hbd, tkx, hc, hc9, gb, lb, hu, xu, xu', yu, yu', Nat.add_assoc, add_self, self_add, add_add, ZB, Int.reduceToNat, Nat.reduceLT, Nat.reduceLeDiff, Int.reduceLE, Int.reduceLT, Nat.reduceEqDiff, Nat.reduceSub, SB, SV.known, packR, ne_eq, reduceCtorEq, Nat.reduceEqDiff, ↓reduceIte, if_true, if_false, eq_self, Nat.reduceAdd, Nat.reduceMul, Nat.reduceSub, forall_const, oneCellS, litOne, flat1, Kd.isSca, flat, TYB]
  refine ⟨{s : Nat × List Int // s.2.length + 1 = s.1}, fun s => [(7, .int (codF x)), (6, .ptr (n + 2) 0), (4, .ptr (n + 1) 0), (3, .ptr n 0), (2, .int p)],
    fun s => (u, .cells (nilB.set (codF x).toNat (.slice (n + 4) 0 1 s.1.1)) 57) :: (n + 4, .ints ([(0 : Int)] ++ s.1.2) 3) :: (n + 3, .ints [(0 : Int)] 3) :: (n + 2, .cells [.nils, .nils, .nils] 60) :: (n + 1, .ints x 29) :: (n, .cells [.nils, .nils, .slice u 0 1009 1009] 60) :: H, fun _ => n + 5, ?_, ?_⟩
  · simp -implicitDefEqProofs only [l3Code_F, gb, hx, hr, hbd, tkx, hc, hc9, lb, hu, hmu, xu, xu', yu, yu', r1, Nat.add_assoc, add_self, self_add, add_add, ZB, Int.reduceToNat, Nat.reduceLT, Nat.reduceLeDiff, Int.reduceLE, Int.reduceLT, Nat.reduceEqDiff, Nat.reduceSub, SB, SV.known, packR, ne_eq, reduceCtorEq, Nat.reduceEqDiff, ↓reduceIte, if_true, if_false, eq_self, Nat.reduceAdd, Nat.reduceMul, Nat.reduceSub, forall_const, oneCellS, litOne, flat1, Kd.isSca, flat, TYB]
    repeat' apply And.intro
    all_goals (first
      | omega
      | (intro junk cap hj
         refine ⟨⟨(cap, junk), hj⟩, Sub.same (by simp only [LB, subS, subH, wfS, wfH, SV.ren, renL, SObj.ren, SV.wf, SObj.wf, wfL, SV.known, Nat.reduceEqDiff, ↓reduceIte, if_true, if_false, eq_self, Nat.reduceAdd, Nat.reduceLT, Nat.reduceLeDiff, implies_true, reduceCtorEq, forall_const]) (by simp [subS, subH, wfS, wfH, SV.ren, renL, SObj.ren, SV.wf, SObj.wf, wfL, sget_cons, hget_cons] <;> omega) ?_ (by omega)⟩
         exact hwf_cons (hwf_cons (hwf_cons (hwf_mono (by omega) hw3) (by omega) trivial) (by omega) trivial) (by omega) (wfL_set _ _ (nilB_wf _) (by simp [SV.wf])))
      | skip)
  · rintro ⟨⟨cap, j⟩, hj⟩
    simp only at hj
    simp -implicitDefEqProofs only [lk_normal, hx, hr, hbd, tkx, hc, hc9, lb, hu, hmu, xu, xu', yu, yu', r1, Nat.add_assoc, add_self, self_add, add_add, ZB, Int.reduceToNat, Nat.reduceLT, Nat.reduceLeDiff, Int.reduceLE, Int.reduceLT, Nat.reduceEqDiff, Nat.reduceSub, SB, SV.known, packR, ne_eq, reduceCtorEq, Nat.reduceEqDiff, ↓reduceIte, if_true, if_false, eq_self, Nat.reduceAdd, Nat.reduceMul, Nat.reduceSub, forall_const, oneCellS, litOne, flat1, Kd.isSca, flat, TYB]
    refine fun j1 c1 hj1 => ⟨by omega, fun j2 c2 hj2 => ⟨by omega, by omega, ⟨n + 6, c1, j1, n + 8, c2, j2, u, fun k => if k = (codF x).toNat then n + 4 else 0, fun k => if k = (codF x).toNat then j else []⟩, rfl,
      SetH.one hu hx hr hA hAu hmu hwH (b' := n + 4) (cap := cap) (jb' := j) hj ?_ hj1 ?_ hj2 ?_ ?_ ?_ (by omega) (by omega) (by omega) (by omega) (by omega) (by omega)⟩⟩
    · simp [hget_cons, yu]
    · simp [hget_cons, yu]
    · simp [hget_cons, xu, xu']
    · simp [hget_cons, yu]
    · intro k o hk h1 h2
      simp only [hget_cons]
      repeat rw [if_neg (by omega)]
      exact hk
/-- The set of one form alone: what is asked, what comes back. -/
def l3Put0_F : List SV → Heap → Nat → Nat → K1 → Prop
  | [.stc [.nils, .nils, .slice u 0 1009 1009], .arr x, .int p], H, n, m, κ => match hget H u with
    | some (.cells l e) => (x.length = 24 ∧ rackB x = true) ∧ l = nilB ∧ e = 57 ∧ m ≤ u ∧ ∃ A : Nat → Prop, (∀ k, A k → k < n) ∧ ¬ A u ∧ ∀ (s' : SN) H' n', n ≤ n' → hwf n' H' → SetH s' A m H' [x] [p] → Frm A H H' → κ (s'.val 1) H' n'
    | _ => False
  | _, _, _, _, _ => False
theorem l3Put0_T : ∀ args H n m κ, l3Put0_F args H n m κ → GenOK Try.prog 131 args H n m κ := by
  intro args H n m κ h
  unfold l3Put0_F at h
  split at h
  · rename_i u x p
    split at h
    · rename_i l e hu
      obtain ⟨⟨hx, hr⟩, rfl, rfl, hmu, A, hA, hAu, h1⟩ := h
      exact gen_direct (X := ⟨Try.prog, tys, [(77, l3At0_F), (116, l3Code_F)], [], true, true, m, [], [(4, .tree (.one 0 (.one 2 (.one 3 (.one 4 (.one 5 (.one 6 (.one 7 (.one 8 (.one 9 (.one 10 (.alt 1 (.one 11 (.one 12 (.one 13 (.one 14 .done)))) (.alt 11 (.alt 1 (.one 12 (.one 13 (.one 14 .done))) (.alt 12 (.one 1 (.one 13 (.one 14 .done))) .stop)) .stop)))))))))))))]⟩) fn_131 ⟨tys_ok, .cons l3At0_T (.cons l3Code_T .nil), .nil, mixed⟩ rfl (Nat.le_of_ble_eq_true rfl) (fun hwH hwa => l3Put0_vc A m n u H x p hu hx hr hA hAu hmu hwH) fun hwH v H' n' hψ h3 h4 h5 => by
        obtain ⟨s', rfl, hS, hF⟩ := hψ
        exact h1 s' H' n' h3 h4 hS hF
    · exact h.elim
  · exact h.elim
theorem SetH.upd {s : SN} {A : Nat → Prop} {m : Nat} {H : Heap} {K : List (List Int)} {P : List Int} (h : SetH s A m H K P) {k : Nat} (o : SObj) (hk : A k) : SetH s A m ((k, o) :: H) K P := by
  have g : ∀ j, ¬ A j → hget ((k, o) :: H) j = hget H j := fun j hj => by
    rw [hget_cons]
    exact if_neg fun e => hj (by rw [e]; exact hk)
  exact { h with f := by rw [g _ h.nA.1]; exact h.f, q := by rw [g _ h.nA.2.1]; exact h.q, u := by rw [g _ h.nA.2.2]; exact h.u, b := fun c hc hb => ⟨by rw [g _ (h.b c hc hb).2.2.2.2.2]; exact (h.b c hc hb).1, (h.b c hc hb).2⟩ }
theorem SetH.weak {s : SN} {A A' : Nat → Prop} {m : Nat} {H : Heap} {K : List (List Int)} {P : List Int} (h : SetH s A m H K P) (hA : ∀ k, A' k → A k) : SetH s A' m H K P :=
  { h with b := fun c hc hb => ⟨(h.b c hc hb).1, (h.b c hc hb).2.1, (h.b c hc hb).2.2.1, (h.b c hc hb).2.2.2.1, (h.b c hc hb).2.2.2.2.1, fun ha => (h.b c hc hb).2.2.2.2.2 (hA _ ha)⟩, nA := ⟨fun ha => h.nA.1 (hA _ ha), fun ha => h.nA.2.1 (hA _ ha), fun ha => h.nA.2.2 (hA _ ha)⟩ }
theorem SetH.wf {s : SN} {A : Nat → Prop} {m n : Nat} {H : Heap} {K : List (List Int)} {P : List Int} (h : SetH s A m H K P) (hwH : hwf n H) : s.f < n ∧ s.q < n ∧ s.u < n := ⟨(hwH _ _ h.f).1, (hwH _ _ h.q).1, (hwH _ _ h.u).1⟩
/-- A new set of one form. -/
def l3Start_F : List SV → Heap → Nat → Nat → K1 → Prop
  | [.arr R], H, n, m, κ => (R.length = 24 ∧ rackB R = true) ∧ m ≤ n ∧ ∃ A : Nat → Prop, (∀ k, A k → k < n) ∧ ∀ (s' : SN) H' n', n ≤ n' → hwf n' H' → SetH s' A m H' [frm R] [0] → Frm A H H' → κ (s'.val 1) H' n'
  | _, _, _, _, _ => False
--@tbl l3Start = spec.l3Start
theorem l3Start_vc (A : Nat → Prop) (m n : Nat) (H : Heap) (R : List Int) (hR : R.length = 24) (hr : rackB R = true) (hA : ∀ k, A k → k < n) (hmn : m ≤ n) (hwH : hwf n H) :
    codeVC (⟨Try.prog, tys, [(49, l3Form_F)], [(131, l3Put0_F)], true, true, m, [131], [(1, .tree (.one 2 (.one 3 (.one 0 (.one 1 (.one 4 (.one 5 .done)))))))]⟩ : Cx) n (Try.f101.body.getD .skip) (argS 0 [.arr R]) H n
      (retK tys Try.f101.results.toList fun v H' n' => ∃ s' : SN, v = s'.val 1 ∧ SetH s' A m H' [frm R] [0] ∧ Frm A H H') := by
  have tkR : R.take 24 = R := List.take_of_length_le (by omega)
  have fl : (frm R).length = 24 := frm_len hR
  have fr := rack_frm hR hr
  simp -implicitDefEqProofs only [Try.f101, Option.getD_some, argS, l3Form_F, l3Put0_F, hR, tkR, fl, fr, Nat.add_assoc, add_self, self_add, add_add, ZB, Int.reduceToNat, Nat.reduceLT, Nat.reduceLeDiff, Int.reduceLE, Int.reduceLT, Nat.reduceEqDiff, Nat.reduceSub, SB, SV.known, packR, ne_eq, reduceCtorEq, Nat.reduceEqDiff, ↓reduceIte, if_true, if_false, eq_self, Nat.reduceAdd, Nat.reduceMul, Nat.reduceSub, forall_const, oneCellS, litOne, flat1, Kd.isSca, flat, TYB]
  have hE : ∀ o1 o2 o3 : SObj, Ext H ((n + 2, o1) :: (n + 1, o2) :: (n, o3) :: H) := fun o1 o2 o3 => Ext.cons hwH (by omega) (Ext.cons hwH (by omega) (Ext.cons hwH (by omega) (Ext.refl H)))
  refine ⟨{q : SN × Heap × Nat // n + 3 ≤ q.2.2 ∧ hwf q.2.2 q.2.1 ∧ SetH q.1 (fun k => A k ∨ k = n + 1) m q.2.1 [frm R] [0] ∧ Frm A H q.2.1},
    fun q => [(2, .ptr (n + 1) 0)], fun q => (n + 1, .cells [.slice q.1.1.f 0 1 q.1.1.cf, .slice q.1.1.q 0 1 q.1.1.cq, .slice q.1.1.u 0 1009 1009] 60) :: q.1.2.1, fun q => q.1.2.2, ?_, ?_⟩
  · have nb : (List.replicate 1009 SV.nils) = nilB := rfl
    simp -implicitDefEqProofs only [l3Form_F, l3Put0_F, hR, tkR, fl, fr, nb, Nat.add_assoc, add_self, self_add, add_add, ZB, Int.reduceToNat, Nat.reduceLT, Nat.reduceLeDiff, Int.reduceLE, Int.reduceLT, Nat.reduceEqDiff, Nat.reduceSub, SB, SV.known, packR, ne_eq, reduceCtorEq, Nat.reduceEqDiff, ↓reduceIte, if_true, if_false, eq_self, Nat.reduceAdd, Nat.reduceMul, Nat.reduceSub, forall_const, oneCellS, litOne, flat1, Kd.isSca, flat, TYB]
    refine ⟨by omega, by omega, fun k => A k ∨ k = n + 1, fun k hk => by
      rcases hk with hk | hk
      · have := hA k hk; omega
      · omega, fun h => by
      rcases h with h | h
      · have := hA _ h; omega
      · omega, fun s' H' n' h1 h2 h3 h4 => ?_⟩
    have hg : hget H' (n + 1) = some (.cells [.nils, .nils, .nils] 60) := h4 (n + 1) _ (.inr rfl) (by simp [hget_cons])
    obtain ⟨w1, w2, w3⟩ := h3.wf h2
    unfold SN.val
    simp -implicitDefEqProofs only [hg, ZB, Int.reduceToNat, Nat.reduceLT, Nat.reduceLeDiff, Int.reduceLE, Int.reduceLT, Nat.reduceEqDiff, Nat.reduceSub, SB, SV.known, packR, ne_eq, reduceCtorEq, Nat.reduceEqDiff, ↓reduceIte, if_true, if_false, eq_self, Nat.reduceAdd, Nat.reduceMul, Nat.reduceSub, forall_const, oneCellS, litOne, flat1, Kd.isSca, flat, TYB]
    refine ⟨by omega, ⟨⟨(s', H', n'), h1, h2, h3, fun k o ha hk => h4 k o (.inl ha) (hE _ _ _ k o hk)⟩, Sub.same (by simp only [LB, subS, subH, wfS, wfH, SV.ren, renL, SObj.ren, SV.wf, SObj.wf, wfL, SV.known, Nat.reduceEqDiff, ↓reduceIte, if_true, if_false, eq_self, Nat.reduceAdd, Nat.reduceLT, Nat.reduceLeDiff, implies_true, reduceCtorEq, forall_const]) (by simp [subS, subH, wfS, wfH, SV.ren, renL, SObj.ren, SV.wf, SObj.wf, wfL, sget_cons, hget_cons] <;> omega) (hwf_cons h2 (show n + 1 < n' by omega) (by simp [SObj.wf, wfL, SV.wf]; omega)) (by show n ≤ n'; omega)⟩⟩
  · rintro ⟨⟨s', H', n'⟩, h1, h2, h3, h4⟩
    simp only at h1 h2 h3 h4
    simp -implicitDefEqProofs only [lk_normal, Nat.add_assoc, add_self, self_add, add_add, ZB, Int.reduceToNat, Nat.reduceLT, Nat.reduceLeDiff, Int.reduceLE, Int.reduceLT, Nat.reduceEqDiff, Nat.reduceSub, SB, SV.known, packR, ne_eq, reduceCtorEq, Nat.reduceEqDiff, ↓reduceIte, if_true, if_false, eq_self, Nat.reduceAdd, Nat.reduceMul, Nat.reduceSub, forall_const, oneCellS, litOne, flat1, Kd.isSca, flat, TYB]
    exact ⟨s', rfl, (h3.upd _ (.inr rfl)).weak (fun k h => .inl h), fun k o ha hk => by
      have := hA k ha
      rw [hget_cons, if_neg (by omega)]
      exact h4 k o ha hk⟩
theorem l3Start_T : ∀ args H n m κ, l3Start_F args H n m κ → GenOK Try.prog 101 args H n m κ := by
  intro args H n m κ h
  unfold l3Start_F at h
  split at h
  · rename_i R
    obtain ⟨⟨hR, hr⟩, hmn, A, hA, h1⟩ := h
    exact gen_direct (X := ⟨Try.prog, tys, [(49, l3Form_F)], [(131, l3Put0_F)], true, true, m, [131], [(1, .tree (.one 2 (.one 3 (.one 0 (.one 1 (.one 4 (.one 5 .done)))))))]⟩) (show FnOK Try.prog 101 Try.f101 (Try.f101.body.getD .skip) [131] [(1, .tree (.one 2 (.one 3 (.one 0 (.one 1 (.one 4 (.one 5 .done)))))))] from ⟨Try.func101, rfl, by kernel_rfl, by kernel_rfl⟩) ⟨tys_ok, .cons l3Form_T .nil, .cons l3Put0_T .nil, mixed⟩ rfl (Nat.le_of_ble_eq_true rfl) (fun hwH hwa => l3Start_vc A m n H R hR hr hA hmn hwH) fun hwH v H' n' hψ h3 h4 h5 => by
      obtain ⟨s', rfl, hS, hF⟩ := hψ
      exact h1 s' H' n' h3 h4 hS hF
  · exact h.elim
end Go.Proofs.Ytdnechlmkbchaaa
