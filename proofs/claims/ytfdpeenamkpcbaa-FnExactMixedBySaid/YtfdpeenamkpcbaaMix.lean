/- Walks: MixedBy. -/
import Derived.Test.YtfdpeenamkpcbaaBacks
import Derived.Test.YtfdpeenamkpcbaaBTo
import Derived.Test.YtfdpeenamkpcbaaAlong
set_option maxRecDepth 100000
set_option linter.unusedSimpArgs false
set_option linter.unusedVariables false
namespace Go.Proofs.Ytfdpeenamkpcbaa
open Go Go.RowKit
/-! slices.Reverse over pairs. -/
def rvC (P : List Int) (n i q : Nat) : List Int := if q < i ∨ n ≤ q + i then (P.drop ((n - 1 - q) * 2)).take 2 else (P.drop (q * 2)).take 2
def rvL (P : List Int) (n i : Nat) : List Int := (List.range n).flatMap (rvC P n i)
theorem cat_len (c : Nat → List Int) (hc : ∀ q, (c q).length = 2) : ∀ n, ((List.range n).flatMap c).length = n * 2
  | 0 => rfl
  | n + 1 => by rw [List.range_succ, List.flatMap_append, List.length_append, cat_len c hc n]; simp [hc]; omega
theorem cat_cut (c : Nat → List Int) (n k : Nat) (hk : k < n) : (List.range n).flatMap c = (List.range k).flatMap c ++ c k ++ (List.range (n - (k + 1))).flatMap (fun q => c (k + 1 + q)) := by
  obtain ⟨m, rfl⟩ : ∃ m, n = k + 1 + m := ⟨n - (k + 1), by omega⟩
  rw [List.range_add, List.flatMap_append, List.range_succ, List.flatMap_append, show k + 1 + m - (k + 1) = m by omega]
  simp [List.flatMap_map]
theorem cat_get (c : Nat → List Int) (hc : ∀ q, (c q).length = 2) (n k : Nat) (hk : k < n) : (((List.range n).flatMap c).drop (k * 2)).take 2 = c k := by
  rw [cat_cut c n k hk, List.append_assoc, List.drop_left' (cat_len c hc k), List.take_left' (hc k)]
theorem cat_put (c d : Nat → List Int) (hc : ∀ q, (c q).length = 2) (n k : Nat) (hk : k < n) (hd : ∀ q, q < n → q ≠ k → d q = c q) :
    List.take (k * 2) ((List.range n).flatMap c) ++ d k ++ List.drop (k * 2 + 2) ((List.range n).flatMap c) = (List.range n).flatMap d := by
  have h1 := cat_len c hc k
  have e1 : (List.range k).flatMap d = (List.range k).flatMap c := by
    rw [List.flatMap_def, List.flatMap_def]
    congr 1
    exact List.map_congr_left fun q hq => hd q (by have := List.mem_range.1 hq; omega) (by have := List.mem_range.1 hq; omega)
  have e2 : (List.range (n - (k + 1))).flatMap (fun q => d (k + 1 + q)) = (List.range (n - (k + 1))).flatMap (fun q => c (k + 1 + q)) := by
    rw [List.flatMap_def, List.flatMap_def]
    congr 1
    exact List.map_congr_left fun q hq => hd _ (by have := List.mem_range.1 hq; omega) (by omega)
  rw [cat_cut d n k hk, e1, e2, cat_cut c n k hk, List.append_assoc ((List.range k).flatMap c), List.take_left' h1, ← List.append_assoc, List.drop_left' (by rw [List.length_append, h1, hc k])]
theorem rvL_zero (P : List Int) (n : Nat) (h : P.length = n * 2) : rvL P n 0 = P := by
  have : ∀ m, m ≤ n → (List.range m).flatMap (rvC P n 0) = P.take (m * 2) := fun m => by
    induction m with
    | zero => intro _; simp
    | succ m ih =>
      intro hm
      rw [List.range_succ, List.flatMap_append, ih (by omega), show (m + 1) * 2 = m * 2 + 2 by omega, List.take_add]
      simp only [List.flatMap_cons, List.flatMap_nil, List.append_nil]
      unfold rvC
      rw [if_neg (by omega)]
  unfold rvL
  rw [this n (Nat.le_refl _), ← h, List.take_length]
def rvF (P : List Int) (n : Nat) : List Int := (List.range n).flatMap fun q => (P.drop ((n - 1 - q) * 2)).take 2
theorem rvL_end (P : List Int) (n i : Nat) (hi : n ≤ 2 * i + 1) : rvL P n i = rvF P n := by
  unfold rvL rvF
  rw [List.flatMap_def, List.flatMap_def]
  congr 1
  refine List.map_congr_left fun q hq => ?_
  have := List.mem_range.1 hq
  unfold rvC
  split
  · rfl
  · rw [show n - 1 - q = q by omega]
theorem rvC_len {P : List Int} {n : Nat} (hP : P.length = n * 2) (i : Nat) {q : Nat} (hq : q < n) : (rvC P n i q).length = 2 := by
  unfold rvC
  split <;> (rw [List.length_take, List.length_drop]; omega)
theorem cat_len' (c : Nat → List Int) : ∀ n, (∀ q, q < n → (c q).length = 2) → ((List.range n).flatMap c).length = n * 2
  | 0, _ => rfl
  | n + 1, hc => by rw [List.range_succ, List.flatMap_append, List.length_append, cat_len' c n fun q hq => hc q (by omega)]; simp [hc n]; omega
theorem cat_get' (c : Nat → List Int) (n k : Nat) (hc : ∀ q, q < n → (c q).length = 2) (hk : k < n) (J : List Int) : ((((List.range n).flatMap c) ++ J).drop (k * 2)).take 2 = c k := by
  have h1 := cat_len' c k fun q hq => hc q (by omega)
  rw [cat_cut c n k hk, List.append_assoc, List.append_assoc, List.drop_left' h1, List.take_left' (hc k hk)]
theorem cat_put' (c d : Nat → List Int) (n k : Nat) (hc : ∀ q, q < n → (c q).length = 2) (hk : k < n) (hd : ∀ q, q < n → q ≠ k → d q = c q) (J : List Int) :
    List.take (k * 2) (((List.range n).flatMap c) ++ J) ++ d k ++ List.drop (k * 2 + 2) (((List.range n).flatMap c) ++ J) = (List.range n).flatMap d ++ J := by
  have h1 := cat_len' c k fun q hq => hc q (by omega)
  have e1 : (List.range k).flatMap d = (List.range k).flatMap c := by
    rw [List.flatMap_def, List.flatMap_def]
    congr 1
    exact List.map_congr_left fun q hq => hd q (by have := List.mem_range.1 hq; omega) (by have := List.mem_range.1 hq; omega)
  have e2 : (List.range (n - (k + 1))).flatMap (fun q => d (k + 1 + q)) = (List.range (n - (k + 1))).flatMap (fun q => c (k + 1 + q)) := by
    rw [List.flatMap_def, List.flatMap_def]
    congr 1
    exact List.map_congr_left fun q hq => hd _ (by have := List.mem_range.1 hq; omega) (by omega)
  rw [cat_cut d n k hk, e1, e2, cat_cut c n k hk]
  generalize (List.range k).flatMap c = A at *
  generalize (List.range (n - (k + 1))).flatMap (fun q => c (k + 1 + q)) = E
  have t1 : List.take (k * 2) (A ++ c k ++ E ++ J) = A := by rw [List.append_assoc, List.append_assoc, List.take_left' h1]
  have t2 : List.drop (k * 2 + 2) (A ++ c k ++ E ++ J) = E ++ J := by rw [List.append_assoc (A ++ c k), List.drop_left' (by rw [List.length_append, h1, hc k hk])]
  rw [t1, t2, List.append_assoc (A ++ d k)]
theorem reverse_ok (P : List Int) (e cap n : Nat) (hP : P.length = n * 2) (junk : List Int) (hn : n ≤ 1000000) : UpdP Try.prog 90 [.slice 0 0 n cap] 0 [] (.ints (P ++ junk) e) (.ints (rvF P n ++ junk) e) (.tup []) := by
  refine upd_of_vc (X := ⟨Try.prog, tys, [], [], true, true, 0, [], []⟩) fn_90 ⟨tys_ok, .nil, .nil, mixed⟩ (n0 := 1) (by omega) (Nat.le_of_ble_eq_true rfl) (by simp [wfL, SV.wf]) (wfH_spec (by simp [wfH, SObj.wf])) (fun k o1 hk => by cases hk) rfl rfl (fun _ => trivial) (by simp [SV.wf, wfL]) ?_
  simp -implicitDefEqProofs only [Try.f90, Option.getD_some, argS, ZB, Int.reduceToNat, Nat.reduceLT, Nat.reduceLeDiff, Int.reduceLE, Int.reduceLT, Nat.reduceEqDiff, Nat.reduceSub, SB, SV.known, packR, ne_eq, reduceCtorEq, Nat.reduceEqDiff, ↓reduceIte, if_true, if_false, eq_self, Nat.reduceAdd, Nat.reduceMul, Nat.reduceSub, forall_const, oneCellS, Kd.isSca, flat, TYB]
  refine ⟨by unfold In64; omega, ?_⟩
  refine loop_intro (fun i : Nat => [(3, .int ((n : Int) - 1 - i)), (2, .int i), (0, .slice 0 0 n cap)]) (fun i => [(0, .ints (rvL P n i ++ junk) e)]) 1 (fun i => 2 * i ≤ n + 1) (fun i => n - i) ?_ ?_
  · refine ⟨0, ?_, Sub.mk_id ?_ ?_ ?_ ?_ ?_⟩
    all_goals (try (simp only [rvL_zero P n hP, LB, subS, subH, wfS, wfH, SV.ren, renL, SObj.ren, SV.wf, SObj.wf, wfL, SV.known, Nat.reduceEqDiff, ↓reduceIte, if_true, if_false, eq_self, Nat.reduceAdd, Nat.reduceLT, Nat.reduceLeDiff, implies_true, reduceCtorEq, forall_const]; done))
    all_goals (try (simp only [rvL_zero P n hP, LB, subS, subH, wfS, wfH, SV.ren, renL, SObj.ren, SV.wf, SObj.wf, wfL, SV.known, Nat.reduceEqDiff, ↓reduceIte, if_true, if_false, eq_self, Nat.reduceAdd, Nat.reduceLT, Nat.reduceLeDiff, implies_true, reduceCtorEq, forall_const]; simp; done))
    all_goals (try (simp only [rvL_zero P n hP, LB, subS, subH, wfS, wfH, SV.ren, renL, SObj.ren, SV.wf, SObj.wf, wfL, SV.known, Nat.reduceEqDiff, ↓reduceIte, if_true, if_false, eq_self, Nat.reduceAdd, Nat.reduceLT, Nat.reduceLeDiff, implies_true, reduceCtorEq, forall_const]; (and_intros <;> (first | omega | rfl | (simp; done) | (simp; omega))); done))
    all_goals (try dsimp only)
    all_goals (and_intros <;> try (first | omega | (unfold In64; omega) | trivial | assumption))
    all_goals simp
  · intro i hi
    have hc := fun q (hq : q < n) => rvC_len hP i hq
    have hl : (rvL P n i ++ junk).length = n * 2 + junk.length := by rw [List.length_append]; unfold rvL; rw [cat_len' _ n hc]
    by_cases hlt : (i : Int) < (n : Int) - 1 - i
    · have t1 : ((n : Int) - 1 - i).toNat = n - 1 - i := by omega
      have k1 : 0 ≤ (n : Int) - 1 - i := by omega
      have k2 : (n : Int) - 1 - i < n := by omega
      have k3 : (i : Int) < n := by omega
      have gi : List.take 2 (List.drop (i * 2) (rvL P n i ++ junk)) = (P.drop (i * 2)).take 2 := by
        unfold rvL
        rw [cat_get' _ n i hc (by omega)]
        unfold rvC
        rw [if_neg (by omega)]
      have gj : List.take 2 (List.drop ((n - 1 - i) * 2) (rvL P n i ++ junk)) = (P.drop ((n - 1 - i) * 2)).take 2 := by
        unfold rvL
        rw [cat_get' _ n (n - 1 - i) hc (by omega)]
        unfold rvC
        rw [if_neg (by omega)]
      have li : ((P.drop (i * 2)).take 2).length = 2 := by rw [List.length_take, List.length_drop]; omega
      have lj : ((P.drop ((n - 1 - i) * 2)).take 2).length = 2 := by rw [List.length_take, List.length_drop]; omega
      let md : Nat → List Int := fun q => if q = i then (P.drop ((n - 1 - i) * 2)).take 2 else rvC P n i q
      have hmd : ∀ q, q < n → (md q).length = 2 := fun q hq => by
        show (if q = i then _ else _ : List Int).length = 2
        split
        · exact lj
        · exact hc q hq
      have p1 := cat_put' (rvC P n i) md n i hc (by omega) (fun q hq hqi => if_neg hqi) junk
      have p2 := cat_put' md (rvC P n (i + 1)) n (n - 1 - i) hmd (by omega) (fun q hq hqi => by
        show rvC P n (i + 1) q = (if q = i then _ else _)
        unfold rvC
        by_cases h1 : q = i
        · subst h1
          rw [if_pos rfl, if_pos (by omega)]
        · rw [if_neg h1]
          by_cases h2 : q < i ∨ n ≤ q + i
          · rw [if_pos h2, if_pos (by omega)]
          · rw [if_neg h2, if_neg (by omega)]) junk
      have m1 : md i = (P.drop ((n - 1 - i) * 2)).take 2 := if_pos rfl
      have m2 : rvC P n (i + 1) (n - 1 - i) = (P.drop (i * 2)).take 2 := by
        unfold rvC
        rw [if_pos (by omega), show n - 1 - (n - 1 - i) = i by omega]
      rw [m1] at p1
      rw [m2] at p2
      have lm : ((List.range n).flatMap md ++ junk).length = n * 2 + junk.length := by rw [List.length_append, cat_len' _ n hmd]
      have f0 : (List.range n).flatMap (rvC P n i) = rvL P n i := rfl
      have f1 : (List.range n).flatMap (rvC P n (i + 1)) = rvL P n (i + 1) := rfl
      rw [f0] at p1
      rw [f1] at p2
      generalize (List.range n).flatMap md = Md at *
      simp -implicitDefEqProofs only [lk_normal, hlt, hl, t1, k1, k2, k3, gi, gj, li, lj, p1, p2, lm, ZB, Int.reduceToNat, Nat.reduceLT, Nat.reduceLeDiff, Int.reduceLE, Int.reduceLT, Nat.reduceEqDiff, Nat.reduceSub, SB, SV.known, packR, ne_eq, reduceCtorEq, Nat.reduceEqDiff, ↓reduceIte, if_true, if_false, eq_self, Nat.reduceAdd, Nat.reduceMul, Nat.reduceSub, forall_const, oneCellS, Kd.isSca, flat, TYB]
      (try (and_intros <;> try (first | omega | (unfold In64; omega) | trivial | assumption)))
      have es : (n : Int) - 1 - ((i + 1 : Nat) : Int) = (n : Int) - 1 - i - 1 := by omega
      refine ⟨i + 1, by omega, by omega, Sub.mk_id ?_ ?_ ?_ ?_ ?_⟩
      all_goals (try simp only [es])
      all_goals ((try simp only [LB, subS, subH, wfS, wfH, SV.ren, renL, SObj.ren, SV.wf, SObj.wf, wfL, SV.known, Nat.reduceEqDiff, ↓reduceIte, if_true, if_false, eq_self, Nat.reduceAdd, Nat.reduceLT, Nat.reduceLeDiff, implies_true, reduceCtorEq, forall_const]) <;> simp)
    · simp -implicitDefEqProofs only [lk_normal, hlt, ZB, Int.reduceToNat, Nat.reduceLT, Nat.reduceLeDiff, Int.reduceLE, Int.reduceLT, Nat.reduceEqDiff, Nat.reduceSub, SB, SV.known, packR, ne_eq, reduceCtorEq, Nat.reduceEqDiff, ↓reduceIte, if_true, if_false, eq_self, Nat.reduceAdd, Nat.reduceMul, Nat.reduceSub, forall_const, oneCellS, Kd.isSca, flat, TYB]
      (try (and_intros <;> try (first | omega | (unfold In64; omega) | trivial | assumption)))
      rw [rvL_end P n i (by omega)]
      (try (and_intros <;> try (first | omega | (unfold In64; omega) | trivial | assumption)))
def nn (n : Int) : Bool := decide (0 ≤ n)
/-! The walk back by choices. -/
def mxI (R : List Int) (c : Int) : Nat := (c.tmod ((SrL R 144).length / 3 : Nat)).toNat
def mxS (R : List Int) (c : Int) : List Int := ((SrL R 144).drop (mxI R c * 3)).take 3
def mxK (R C : List Int) : Nat → List Int × List Int
  | 0 => (R, [])
  | k + 1 => (bkR (mxK R C k).1 ((mxS (mxK R C k).1 (C.getD k 0)).getD 0 0) ((mxS (mxK R C k).1 (C.getD k 0)).getD 1 0) ((mxS (mxK R C k).1 (C.getD k 0)).getD 2 0),
      (mxK R C k).2 ++ [(mxS (mxK R C k).1 (C.getD k 0)).getD 0 0, (mxS (mxK R C k).1 (C.getD k 0)).getD 1 0])
def mxO (R C : List Int) (k : Nat) : Bool := !decide (SrL (mxK R C k).1 144 = [])
def mxN (R C : List Int) (len : Nat) : Nat := firstN (mxO R C) len 0
theorem mxK_len2 (R C : List Int) : ∀ k, (mxK R C k).2.length = k * 2
  | 0 => rfl
  | k + 1 => by
    show ((mxK R C k).2 ++ _).length = _
    rw [List.length_append, mxK_len2 R C k]; simp; omega
theorem mxS_spec {R : List Int} {c : Int} (hc : 0 ≤ c) (h : SrL R 144 ≠ []) : mxI R c * 3 + 3 ≤ (SrL R 144).length ∧ 0 ≤ c.tmod ((SrL R 144).length / 3 : Nat) ∧ c.tmod ((SrL R 144).length / 3 : Nat) < ((SrL R 144).length / 3 : Nat) ∧ (mxS R c).length = 3 ∧ bkB R ((mxS R c).getD 0 0) ((mxS R c).getD 1 0) ((mxS R c).getD 2 0) = true := by
  obtain ⟨m, hm, _⟩ := SrL_three R 144
  have hm0 : 0 < m := by
    rcases Nat.eq_zero_or_pos m with h0 | h0
    · rw [h0] at hm; exact absurd (List.length_eq_zero_iff.1 (by omega)) h
    · exact h0
  have e2 : (SrL R 144).length / 3 = m := by omega
  have b1 : 0 ≤ c.tmod (m : Int) := Int.tmod_nonneg _ hc
  have b2 : c.tmod (m : Int) < m := Int.tmod_lt_of_pos _ (by omega)
  have hi : mxI R c < m := by unfold mxI; rw [e2]; omega
  obtain ⟨a, b, d, h1, h2⟩ := SrL_trip R 144 (mxI R c) (by omega)
  have h3 : mxS R c = [a, b, d] := h2
  refine ⟨by omega, by rw [e2]; exact b1, by rw [e2]; exact b2, by rw [h3]; rfl, by rw [h3]; exact h1⟩
theorem mxK_facts {R C : List Int} {len : Nat} (hR : R.length = 24) (hr : rackB R = true) (hC : ∀ k, k < len → 0 ≤ C.getD k 0) : ∀ k, k ≤ len → (∀ i, i < k → mxO R C i = true) → (mxK R C k).1.length = 24 ∧ rackB (mxK R C k).1 = true
  | 0, _, _ => ⟨hR, hr⟩
  | k + 1, hk, h => by
    have ih := mxK_facts hR hr hC k (by omega) fun i hi => h i (by omega)
    have ho := h k (by omega)
    have hne : SrL (mxK R C k).1 144 ≠ [] := by
      unfold mxO at ho
      simpa using ho
    obtain ⟨_, _, _, _, hb⟩ := mxS_spec (hC k (by omega)) hne
    exact ⟨bkR_len ih.1 _ _ _, bkB_rack ih.1 ih.2 hb⟩
def mxB (R C : List Int) (len : Nat) : Bool := rackB R && decide (len ≤ 20) && (C.take len).all nn
def mxR (R C : List Int) (len : Nat) : List Int := if mxB R C len = true then (mxK R C (mxN R C len)).1 else List.replicate 24 0
def mxP (R C : List Int) (len : Nat) : List Int := if mxB R C len = true then rvF (mxK R C (mxN R C len)).2 (mxN R C len) else []
theorem Mix1_ok (n : Int) : PureH Try.prog 89 [.int n] [] (.bool (nn n)) := by
  unfold nn
  refine pure_of_vc (X := ⟨Try.prog, tys, [], [], true, true, 0, [], []⟩) fn_89 ⟨tys_ok, .nil, .nil, mixed⟩ (n0 := 0) (Nat.le_of_ble_eq_true rfl) (by simp [wfL, SV.wf]) (wfH_spec (by simp [wfH, SObj.wf])) (Nat.le_refl _) (fun _ => by simp [SV.wf, wfL]) ?_
  simp -implicitDefEqProofs only [Try.f89, Option.getD_some, argS, ZB, Int.reduceToNat, Nat.reduceLT, Nat.reduceLeDiff, Int.reduceLE, Int.reduceLT, Nat.reduceEqDiff, Nat.reduceSub, SB, SV.known, packR, ne_eq, reduceCtorEq, Nat.reduceEqDiff, ↓reduceIte, if_true, if_false, eq_self, Nat.reduceAdd, Nat.reduceMul, Nat.reduceSub, forall_const, oneCellS, Kd.isSca, flat, TYB]
--@tbl areAll_mix = impl.areAll[int]
def areAll_mix_F := areAllI_F [(89, nn)]
theorem areAll_mix_T : ∀ args H p v, areAll_mix_F args H = some (p, v) → p → PureH Try.prog 88 args H v :=
  areAllI_T (by intro q hq; simp at hq; subst hq; exact Mix1_ok)
def rev2_F : List SV → Heap → Nat → Nat → K1 → Prop
  | [.slice b 0 n _], H, N, m, κ => match hget H b with
    | some (.ints L e) => m ≤ b ∧ n ≤ 1000000 ∧ n * 2 ≤ L.length ∧ κ (.tup []) ((b, .ints (rvF (L.take (n * 2)) n ++ L.drop (n * 2)) e) :: H) N
    | _ => False
  | [.nils], H, N, _, κ => κ (.tup []) H N
  | _, _, _, _, _ => False
--@tbl rev2 = slices.Reverse[[][2]int,[2]int]
theorem reverse_nil : PureH Try.prog 90 [.nils] [] (.tup []) := by
  refine pure_of_vc (X := ⟨Try.prog, tys, [], [], true, true, 0, [], []⟩) fn_90 ⟨tys_ok, .nil, .nil, mixed⟩ (n0 := 0) (Nat.le_of_ble_eq_true rfl) (by simp [wfL, SV.wf]) (wfH_spec (by simp [wfH, SObj.wf])) (Nat.le_refl _) (fun _ => by simp [SV.wf, wfL]) ?_
  simp -implicitDefEqProofs only [Try.f90, Option.getD_some, argS, ZB, Int.reduceToNat, Nat.reduceLT, Nat.reduceLeDiff, Int.reduceLE, Int.reduceLT, Nat.reduceEqDiff, Nat.reduceSub, SB, SV.known, packR, ne_eq, reduceCtorEq, Nat.reduceEqDiff, ↓reduceIte, if_true, if_false, eq_self, Nat.reduceAdd, Nat.reduceMul, Nat.reduceSub, forall_const, oneCellS, Kd.isSca, flat, TYB]
  refine ⟨by unfold In64; omega, ?_⟩
  refine loop_intro (fun i : Unit => [(3, .int (0 - 1)), (2, .int 0), (0, .nils)]) (fun _ => []) 0 (fun _ => True) (fun _ => 0) ?_ ?_
  · refine ⟨(), trivial, Sub.mk_id ?_ ?_ ?_ ?_ ?_⟩
    all_goals ((try simp only [LB, subS, subH, wfS, wfH, SV.ren, renL, SObj.ren, SV.wf, SObj.wf, wfL, SV.known, Nat.reduceEqDiff, ↓reduceIte, if_true, if_false, eq_self, Nat.reduceAdd, Nat.reduceLT, Nat.reduceLeDiff, implies_true, reduceCtorEq, forall_const]) <;> simp)
  · intro _ _
    have h1 : ¬ (0 : Int) < 0 - 1 := by omega
    simp -implicitDefEqProofs only [lk_normal, h1, ZB, Int.reduceToNat, Nat.reduceLT, Nat.reduceLeDiff, Int.reduceLE, Int.reduceLT, Nat.reduceEqDiff, Nat.reduceSub, SB, SV.known, packR, ne_eq, reduceCtorEq, Nat.reduceEqDiff, ↓reduceIte, if_true, if_false, eq_self, Nat.reduceAdd, Nat.reduceMul, Nat.reduceSub, forall_const, oneCellS, Kd.isSca, flat, TYB]
    trace_state
theorem rev2_T : ∀ args H n m κ, rev2_F args H n m κ → GenOK Try.prog 90 args H n m κ := by
  intro args H N m κ h
  unfold rev2_F at h
  split at h
  · rename_i b n cap
    split at h
    · rename_i L e hb
      obtain ⟨hm, hn, hl, h⟩ := h
      have hu := reverse_ok (L.take (n * 2)) e cap n (by rw [List.length_take]; omega) (L.drop (n * 2)) hn
      rw [List.take_append_drop] at hu
      have := gen_of_upd (H := H) (n := N) (m := m) (κ := κ) hu (fun _ => b) (fun j o1 hj => by
        rw [hget_cons] at hj
        split at hj
        · cases hj; exact hb
        · cases hj) (fun j1 o1 j2 o2 g1 g2 he => by
        rw [hget_cons] at g1 g2
        split at g1
        · split at g2
          · omega
          · cases g2
        · cases g1) (by simpa using hm) rfl (fun _ _ => trivial) (by simpa [SV.ren, renL] using h)
      simpa [renL, SV.ren] using this
    · exact h.elim
  · exact gen_of_pure (reverse_nil.any _) h
  · exact h.elim
theorem rvF_len {P : List Int} {n : Nat} (h : P.length = n * 2) : (rvF P n).length = n * 2 := by
  unfold rvF
  rw [cat_len' _ n fun q hq => by rw [List.length_take, List.length_drop]; omega]
theorem mx_end {R' P J : List Int} {H : Heap} {v : SV} {i c : Nat} (_ : R'.length = 24) (hP : P.length = (i + 1) * 2) (hj : J.length + (i + 1) * 2 = c * 2)
    (hv : v = .tup [.arr R', .slice 3 0 (i + 1) c, .bool true]) (hH : hget H 3 = some (.ints (rvF ((P ++ J).take ((i + 1) * 2)) (i + 1) ++ (P ++ J).drop ((i + 1) * 2)) 50)) :
    freshPost 1 (rvF P (i + 1)) ((rvF P (i + 1)).length / 2) 2 50 true (Wrap.mid (.arr R') [.bool true]) v H := by
  rw [List.take_left' hP, List.drop_left' hP] at hH
  have hl := rvF_len hP
  refine .inr ⟨3, c, J, ?_, hH, by omega, by omega, fun _ h => ?_⟩
  · rw [hv, show (rvF P (i + 1)).length / 2 = i + 1 by omega]; rfl
  · rw [h] at hl; simp at hl
theorem MixedBy_ok (R C : List Int) (e len cap : Nat) (hR : R.length = 24) (hC : len ≤ C.length) (hl : len ≤ 1048576) : FreshP Try.prog 40 [.arr R, .slice 0 0 len cap] [(0, .ints C e)] (mxP R C len) ((mxP R C len).length / 2) 2 50 true (.mid (.arr (mxR R C len)) [.bool (mxB R C len)]) := by
  have tkR : R.take 24 = R := List.take_of_length_le (by omega)
  unfold mxP mxR mxB
  cases hr : rackB R
  · refine fresh_of_vc (X := ⟨Try.prog, tys, [(47, IsRack_F), (88, areAll_mix_F), (84, back_F)], [(82, sources_F), (90, rev2_F)], true, true, 1, [], []⟩) fn_40 ⟨tys_ok, (.cons IsRack_T (.cons areAll_mix_T (.cons back_T .nil))), (.cons sources_T (.cons rev2_T .nil)), mixed⟩ (n0 := 1) rfl (Nat.le_of_ble_eq_true rfl) (by simp [wfL, SV.wf]) (wfH_spec (by simp [wfH, SObj.wf])) (Nat.le_refl _) ?_
    simp -implicitDefEqProofs only [Try.f40, Option.getD_some, argS, IsRack_F, areAll_mix_F, back_F, sources_F, rev2_F, hR, tkR, hr, freshK, Wrap.ap, ZB, Int.reduceToNat, Nat.reduceLT, Nat.reduceLeDiff, Int.reduceLE, Int.reduceLT, Nat.reduceEqDiff, Nat.reduceSub, SB, SV.known, packR, ne_eq, reduceCtorEq, Nat.reduceEqDiff, ↓reduceIte, if_true, if_false, eq_self, Nat.reduceAdd, Nat.reduceMul, Nat.reduceSub, forall_const, oneCellS, Kd.isSca, flat, TYB]
    exact .inl ⟨rfl, rfl, rfl⟩
  by_cases h20 : len ≤ 20
  · have h20' : ¬ (len : Int) > 20 := by omega
    cases hc : (C.take len).all nn
    · refine fresh_of_vc (X := ⟨Try.prog, tys, [(47, IsRack_F), (88, areAll_mix_F), (84, back_F)], [(82, sources_F), (90, rev2_F)], true, true, 1, [], []⟩) fn_40 ⟨tys_ok, (.cons IsRack_T (.cons areAll_mix_T (.cons back_T .nil))), (.cons sources_T (.cons rev2_T .nil)), mixed⟩ (n0 := 1) rfl (Nat.le_of_ble_eq_true rfl) (by simp [wfL, SV.wf]) (wfH_spec (by simp [wfH, SObj.wf])) (Nat.le_refl _) ?_
      simp -implicitDefEqProofs only [Try.f40, Option.getD_some, argS, IsRack_F, areAll_mix_F, back_F, sources_F, rev2_F, hR, tkR, hr, h20, h20', hc, areAllI_F, freshK, Wrap.ap, ZB, Int.reduceToNat, Nat.reduceLT, Nat.reduceLeDiff, Int.reduceLE, Int.reduceLT, Nat.reduceEqDiff, Nat.reduceSub, SB, SV.known, packR, ne_eq, reduceCtorEq, Nat.reduceEqDiff, ↓reduceIte, if_true, if_false, eq_self, Nat.reduceAdd, Nat.reduceMul, Nat.reduceSub, forall_const, oneCellS, Kd.isSca, flat, TYB]
      exact ⟨⟨hC, by omega⟩, .inl ⟨rfl, rfl, rfl⟩⟩
    · refine fresh_of_vc (X := ⟨Try.prog, tys, [(47, IsRack_F), (88, areAll_mix_F), (84, back_F)], [(82, sources_F), (90, rev2_F)], true, true, 1, [], []⟩) fn_40 ⟨tys_ok, (.cons IsRack_T (.cons areAll_mix_T (.cons back_T .nil))), (.cons sources_T (.cons rev2_T .nil)), mixed⟩ (n0 := 1) rfl (Nat.le_of_ble_eq_true rfl) (by simp [wfL, SV.wf]) (wfH_spec (by simp [wfH, SObj.wf])) (Nat.le_refl _) ?_
      simp -implicitDefEqProofs only [Try.f40, Option.getD_some, argS, IsRack_F, areAll_mix_F, back_F, sources_F, rev2_F, hR, tkR, hr, h20, h20', hc, areAllI_F, freshK, Wrap.ap, ZB, Int.reduceToNat, Nat.reduceLT, Nat.reduceLeDiff, Int.reduceLE, Int.reduceLT, Nat.reduceEqDiff, Nat.reduceSub, SB, SV.known, packR, ne_eq, reduceCtorEq, Nat.reduceEqDiff, ↓reduceIte, if_true, if_false, eq_self, Nat.reduceAdd, Nat.reduceMul, Nat.reduceSub, forall_const, oneCellS, Kd.isSca, flat, TYB]
      have hC0 : ∀ k, k < len → 0 ≤ C.getD k 0 := fun k hk => by
        have h1 := List.all_eq_true.1 hc (C.getD k 0) (by
          rw [List.getD_eq_getElem?_getD, List.getElem?_eq_getElem (by omega)]
          exact List.mem_take_iff_getElem.2 ⟨k, by omega, rfl⟩)
        exact of_decide_eq_true h1
      refine ⟨⟨hC, by omega⟩, ?_⟩
      refine loop_intro (fun s : Nat × Nat × List Int => [(28, .int s.1), (27, .int len), (26, .slice 0 0 len cap), (7, outVn 3 s.1 s.1 s.2.1), (4, .ptr 2 0), (2, .ptr 1 0)])
        (fun s => outHn 3 s.1 ((mxK R C s.1).2 ++ s.2.2) 50 [(2, .ints (List.replicate 24 0) 28), (1, .ints (mxK R C s.1).1 28), (0, .ints C e)]) 4
        (fun s => (s.1 ≤ len ∧ ∀ q, q < s.1 → mxO R C q = true) ∧ s.2.2.length + s.1 * 2 = s.2.1 * 2) (fun s => len - s.1) ?_ ?_
      · refine ⟨(0, 0, []), ⟨⟨by simp, by simp⟩, by simp⟩, Sub.mk_id ?_ ?_ ?_ ?_ ?_⟩
        all_goals simp only [mxK, outVn_zero, outHn_zero, LB, subS, subH, wfS, wfH, SV.ren, renL, SObj.ren, SV.wf, SObj.wf, wfL, SV.known, Nat.reduceEqDiff, ↓reduceIte, if_true, if_false, eq_self, Nat.reduceAdd, Nat.reduceLT, Nat.reduceLeDiff, implies_true, reduceCtorEq, forall_const]
        all_goals (try simp)
      · rintro ⟨i, c, j⟩ ⟨⟨hi, hall⟩, hj⟩
        simp only at hi hj hall
        obtain ⟨q24, qr⟩ := mxK_facts hR hr hC0 i hi hall
        have tkQ : List.take 24 (mxK R C i).1 = (mxK R C i).1 := List.take_of_length_le (by omega)
        have dQ : List.drop 24 (mxK R C i).1 = [] := List.drop_eq_nil_of_le (by omega)
        have l2 := mxK_len2 R C i
        by_cases hlt : i < len
        · have hil : (i : Int) < len := by omega
          have hiC : i < C.length := by omega
          by_cases h0 : SrL (mxK R C i).1 144 = []
          · have hn : mxN R C len = i := firstN_at hlt hall (by unfold mxO; simp [h0])
            have hne : (([] : List Int) ≠ []) = False := by simp
            cases i with
            | zero =>
              simp -implicitDefEqProofs only [lk_normal, sources_F, rev2_F, outVn_zero, outHn_zero, hil, hiC, q24, qr, tkQ, h0, hne, freshK, Wrap.ap, ZB, Int.reduceToNat, Nat.reduceLT, Nat.reduceLeDiff, Int.reduceLE, Int.reduceLT, Nat.reduceEqDiff, Nat.reduceSub, SB, SV.known, packR, ne_eq, reduceCtorEq, Nat.reduceEqDiff, ↓reduceIte, if_true, if_false, eq_self, Nat.reduceAdd, Nat.reduceMul, Nat.reduceSub, forall_const, oneCellS, Kd.isSca, flat, TYB]
              refine ⟨fun _ => ⟨by omega, ?_⟩, fun h => absurd hlt (by omega)⟩
              rw [hn]
              exact .inl ⟨rfl, rfl, rfl⟩
            | succ i =>
              simp -implicitDefEqProofs only [lk_normal, sources_F, rev2_F, outVn_succ, outHn_succ, hil, hiC, q24, qr, tkQ, h0, hne, freshK, Wrap.ap, ZB, Int.reduceToNat, Nat.reduceLT, Nat.reduceLeDiff, Int.reduceLE, Int.reduceLT, Nat.reduceEqDiff, Nat.reduceSub, SB, SV.known, packR, ne_eq, reduceCtorEq, Nat.reduceEqDiff, ↓reduceIte, if_true, if_false, eq_self, Nat.reduceAdd, Nat.reduceMul, Nat.reduceSub, forall_const, oneCellS, Kd.isSca, flat, TYB]
              refine ⟨by omega, by omega, by rw [List.length_append]; omega, ?_⟩
              rw [hn]
              exact mx_end q24 l2 hj rfl (by simp [hget_cons])
          · have ho : mxO R C i = true := by unfold mxO; simp [h0]
            obtain ⟨s1, s2, s3, s4, s5⟩ := mxS_spec (hC0 i hlt) h0
            obtain ⟨m, hm, _⟩ := SrL_three (mxK R C i).1 144
            have e2 : (SrL (mxK R C i).1 144).length / 3 = m := by omega
            rw [e2] at s2 s3
            have hm0 : ¬ (m : Int) = 0 := by omega
            have b21 := bk_21 s5
            have sl := fun J => (show List.take 3 (List.drop (mxI (mxK R C i).1 (C.getD i 0) * 3) (SrL (mxK R C i).1 144 ++ J)) = mxS (mxK R C i).1 (C.getD i 0) from by
              rw [List.drop_append_of_le_length (by omega), List.take_append_of_le_length (by rw [List.length_drop]; omega)]; rfl)
            have tks : List.take 3 (mxS (mxK R C i).1 (C.getD i 0)) = mxS (mxK R C i).1 (C.getD i 0) := List.take_of_length_le (by omega)
            have ei : ((C.getD i 0).tmod (m : Int)).toNat = mxI (mxK R C i).1 (C.getD i 0) := by unfold mxI; rw [e2]
            have bl := bkR_len q24 ((mxS (mxK R C i).1 (C.getD i 0)).getD 0 0) ((mxS (mxK R C i).1 (C.getD i 0)).getD 1 0) ((mxS (mxK R C i).1 (C.getD i 0)).getD 2 0)
            have tkb := List.take_of_length_le (Nat.le_of_eq bl)
            cases i with
            | zero =>
              simp -implicitDefEqProofs only [lk_normal, sources_F, back_F, outVn_zero, outHn_zero, hil, hiC, q24, qr, tkQ, h0, e2, hm0, s2, s3, s4, s5, b21, sl, tks, ei, bl, tkb, freshK, Wrap.ap, ZB, Int.reduceToNat, Nat.reduceLT, Nat.reduceLeDiff, Int.reduceLE, Int.reduceLT, Nat.reduceEqDiff, Nat.reduceSub, SB, SV.known, packR, ne_eq, reduceCtorEq, Nat.reduceEqDiff, ↓reduceIte, if_true, if_false, eq_self, Nat.reduceAdd, Nat.reduceMul, Nat.reduceSub, forall_const, oneCellS, Kd.isSca, flat, TYB]
              have eK : mxK R C 1 = (bkR (mxK R C 0).1 ((mxS (mxK R C 0).1 (C.getD 0 0)).getD 0 0) ((mxS (mxK R C 0).1 (C.getD 0 0)).getD 1 0) ((mxS (mxK R C 0).1 (C.getD 0 0)).getD 2 0), [(mxS (mxK R C 0).1 (C.getD 0 0)).getD 0 0, (mxS (mxK R C 0).1 (C.getD 0 0)).getD 1 0]) := rfl
              refine ⟨fun _ => ⟨by omega, fun cp jp hjp => ⟨by rw [List.length_append]; omega, fun j' c' hj' => ⟨by unfold In64; omega, (1, c', j'), ⟨⟨by simp only; omega, fun q hq => ?_⟩, by simp only; omega⟩, by simp only; omega, Sub.mk_to 3 7 ?_ ?_ ?_ ?_ ?_ ?_ ?_⟩⟩⟩, fun h => absurd hlt (by omega)⟩
              · have hq' : q < 1 := hq
                obtain rfl : q = 0 := by omega
                exact ho
              all_goals (try simp only [eK, dQ, List.append_nil, List.cons_append, List.nil_append])
              all_goals ((try simp only [outVn_succ, outHn_succ, LB, subS, subH, wfS, wfH, SV.ren, renL, SObj.ren, SV.wf, SObj.wf, wfL, SV.known, Nat.reduceEqDiff, ↓reduceIte, if_true, if_false, eq_self, Nat.reduceAdd, Nat.reduceLT, Nat.reduceLeDiff, implies_true, reduceCtorEq, forall_const]) <;> simp)
            | succ i =>
              simp -implicitDefEqProofs only [lk_normal, sources_F, back_F, outVn_succ, outHn_succ, hil, hiC, q24, qr, tkQ, h0, e2, hm0, s2, s3, s4, s5, b21, sl, tks, ei, bl, tkb, freshK, Wrap.ap, ZB, Int.reduceToNat, Nat.reduceLT, Nat.reduceLeDiff, Int.reduceLE, Int.reduceLT, Nat.reduceEqDiff, Nat.reduceSub, SB, SV.known, packR, ne_eq, reduceCtorEq, Nat.reduceEqDiff, ↓reduceIte, if_true, if_false, eq_self, Nat.reduceAdd, Nat.reduceMul, Nat.reduceSub, forall_const, oneCellS, Kd.isSca, flat, TYB]
              have eK : mxK R C (i + 1 + 1) = (bkR (mxK R C (i + 1)).1 ((mxS (mxK R C (i + 1)).1 (C.getD (i + 1) 0)).getD 0 0) ((mxS (mxK R C (i + 1)).1 (C.getD (i + 1) 0)).getD 1 0) ((mxS (mxK R C (i + 1)).1 (C.getD (i + 1) 0)).getD 2 0), (mxK R C (i + 1)).2 ++ [(mxS (mxK R C (i + 1)).1 (C.getD (i + 1) 0)).getD 0 0, (mxS (mxK R C (i + 1)).1 (C.getD (i + 1) 0)).getD 1 0]) := rfl
              refine ⟨by omega, fun cp jp hjp => ⟨by rw [List.length_append]; omega, by rw [List.length_append]; omega, by omega, by omega, by omega, fun j' c' hj' => ⟨by unfold In64; omega, (i + 1 + 1, c', j'), ⟨⟨by simp only; omega, fun q hq => ?_⟩, by simp only; omega⟩, by simp only; omega, Sub.mk_to 3 7 ?_ ?_ ?_ ?_ ?_ ?_ ?_⟩⟩⟩
              · have hq' : q < i + 1 + 1 := hq
                by_cases hqi : q = i + 1
                · subst hqi; exact ho
                · exact hall q (by omega)
              all_goals (try simp only [eK, dQ, List.append_nil, List.take_left' l2])
              all_goals ((try simp only [outVn_succ, outHn_succ, LB, subS, subH, wfS, wfH, SV.ren, renL, SObj.ren, SV.wf, SObj.wf, wfL, SV.known, Nat.reduceEqDiff, ↓reduceIte, if_true, if_false, eq_self, Nat.reduceAdd, Nat.reduceLT, Nat.reduceLeDiff, implies_true, reduceCtorEq, forall_const]) <;> simp)
        · have hil : ¬ (i : Int) < len := by omega
          obtain rfl : i = len := by omega
          have hn : mxN R C i = i := firstN_end hall
          cases i with
          | zero =>
            simp -implicitDefEqProofs only [lk_normal, rev2_F, outVn_zero, outHn_zero, hil, q24, qr, tkQ, ZB, Int.reduceToNat, Nat.reduceLT, Nat.reduceLeDiff, Int.reduceLE, Int.reduceLT, Nat.reduceEqDiff, Nat.reduceSub, SB, SV.known, packR, ne_eq, reduceCtorEq, Nat.reduceEqDiff, ↓reduceIte, if_true, if_false, eq_self, Nat.reduceAdd, Nat.reduceMul, Nat.reduceSub, forall_const, oneCellS, Kd.isSca, flat, TYB]
            rw [hn]
            exact .inl ⟨rfl, rfl, rfl⟩
          | succ i =>
            simp -implicitDefEqProofs only [lk_normal, rev2_F, outVn_succ, outHn_succ, hil, q24, qr, tkQ, ZB, Int.reduceToNat, Nat.reduceLT, Nat.reduceLeDiff, Int.reduceLE, Int.reduceLT, Nat.reduceEqDiff, Nat.reduceSub, SB, SV.known, packR, ne_eq, reduceCtorEq, Nat.reduceEqDiff, ↓reduceIte, if_true, if_false, eq_self, Nat.reduceAdd, Nat.reduceMul, Nat.reduceSub, forall_const, oneCellS, Kd.isSca, flat, TYB]
            refine ⟨by omega, by rw [List.length_append]; omega, ?_⟩
            rw [hn]
            exact mx_end q24 l2 hj rfl (by simp [hget_cons])
  · have h20' : (len : Int) > 20 := by omega
    refine fresh_of_vc (X := ⟨Try.prog, tys, [(47, IsRack_F), (88, areAll_mix_F), (84, back_F)], [(82, sources_F), (90, rev2_F)], true, true, 1, [], []⟩) fn_40 ⟨tys_ok, (.cons IsRack_T (.cons areAll_mix_T (.cons back_T .nil))), (.cons sources_T (.cons rev2_T .nil)), mixed⟩ (n0 := 1) rfl (Nat.le_of_ble_eq_true rfl) (by simp [wfL, SV.wf]) (wfH_spec (by simp [wfH, SObj.wf])) (Nat.le_refl _) ?_
    simp -implicitDefEqProofs only [Try.f40, Option.getD_some, argS, IsRack_F, areAll_mix_F, back_F, sources_F, rev2_F, hR, tkR, hr, h20, h20', freshK, Wrap.ap, ZB, Int.reduceToNat, Nat.reduceLT, Nat.reduceLeDiff, Int.reduceLE, Int.reduceLT, Nat.reduceEqDiff, Nat.reduceSub, SB, SV.known, packR, ne_eq, reduceCtorEq, Nat.reduceEqDiff, ↓reduceIte, if_true, if_false, eq_self, Nat.reduceAdd, Nat.reduceMul, Nat.reduceSub, forall_const, oneCellS, Kd.isSca, flat, TYB]
    exact .inl ⟨rfl, rfl, rfl⟩
--@tbl MixedBy = impl.MixedBy
theorem rvF_snoc {P : List Int} {i : Nat} (x y : Int) (h : P.length = i * 2) : rvF (P ++ [x, y]) (i + 1) = x :: y :: rvF P i := by
  unfold rvF
  rw [List.range_succ_eq_map, List.flatMap_cons, List.flatMap_map]
  have e0 : ((P ++ [x, y]).drop ((i + 1 - 1 - 0) * 2)).take 2 = [x, y] := by
    rw [show (i + 1 - 1 - 0) * 2 = i * 2 by omega, List.drop_left' h]; rfl
  rw [e0, List.cons_append, List.cons_append, List.nil_append]
  congr 2
  rw [List.flatMap_def, List.flatMap_def]
  congr 1
  refine List.map_congr_left fun q hq => ?_
  have := List.mem_range.1 hq
  rw [show (i + 1 - 1 - q.succ) * 2 = (i - 1 - q) * 2 by omega, List.drop_append_of_le_length (by omega), List.take_append_of_le_length (by rw [List.length_drop]; omega)]
theorem sMixedBy_ok (R C : List Int) (e len cap : Nat) (hR : R.length = 24) (hC : len ≤ C.length) (hl : len ≤ 1048576) : FreshP Try.prog 38 [.arr R, .slice 0 0 len cap] [(0, .ints C e)] (mxP R C len) ((mxP R C len).length / 2) 2 50 false (.mid (.arr (mxR R C len)) [.bool (mxB R C len)]) := by
  have tkR : R.take 24 = R := List.take_of_length_le (by omega)
  unfold mxP mxR mxB
  cases hr : rackB R
  · refine fresh_of_vc (X := ⟨Try.prog, tys, [(43, l2Rack_F), (80, l5Back_F)], [(79, l5Sources_F)], true, true, 1, [], []⟩) fn_38 ⟨tys_ok, (.cons l2Rack_T (.cons l5Back_T .nil)), (.cons l5Sources_T .nil), mixed⟩ (n0 := 1) rfl (Nat.le_of_ble_eq_true rfl) (by simp [wfL, SV.wf]) (wfH_spec (by simp [wfH, SObj.wf])) (Nat.le_refl _) ?_
    simp -implicitDefEqProofs only [Try.f38, Option.getD_some, argS, l2Rack_F, l5Back_F, l5Sources_F, hR, tkR, hr, freshK, Wrap.ap, ZB, Int.reduceToNat, Nat.reduceLT, Nat.reduceLeDiff, Int.reduceLE, Int.reduceLT, Nat.reduceEqDiff, Nat.reduceSub, SB, SV.known, packR, ne_eq, reduceCtorEq, Nat.reduceEqDiff, ↓reduceIte, if_true, if_false, eq_self, Nat.reduceAdd, Nat.reduceMul, Nat.reduceSub, forall_const, oneCellS, Kd.isSca, flat, TYB]
    exact .inr ⟨3, 0, [], rfl, by simp [hget_cons], by omega, by simp, by simp⟩
  by_cases h20 : len ≤ 20
  · have h20' : ¬ (len : Int) > 20 := by omega
    refine fresh_of_vc (X := ⟨Try.prog, tys, [(43, l2Rack_F), (80, l5Back_F)], [(79, l5Sources_F)], true, true, 1, [], []⟩) fn_38 ⟨tys_ok, (.cons l2Rack_T (.cons l5Back_T .nil)), (.cons l5Sources_T .nil), mixed⟩ (n0 := 1) rfl (Nat.le_of_ble_eq_true rfl) (by simp [wfL, SV.wf]) (wfH_spec (by simp [wfH, SObj.wf])) (Nat.le_refl _) ?_
    simp -implicitDefEqProofs only [Try.f38, Option.getD_some, argS, l2Rack_F, l5Back_F, l5Sources_F, hR, tkR, hr, h20, h20', freshK, Wrap.ap, ZB, Int.reduceToNat, Nat.reduceLT, Nat.reduceLeDiff, Int.reduceLE, Int.reduceLT, Nat.reduceEqDiff, Nat.reduceSub, SB, SV.known, packR, ne_eq, reduceCtorEq, Nat.reduceEqDiff, ↓reduceIte, if_true, if_false, eq_self, Nat.reduceAdd, Nat.reduceMul, Nat.reduceSub, forall_const, oneCellS, Kd.isSca, flat, TYB]
    refine loop_intro (fun i : Nat => [(8, .int i), (7, .slice 3 0 0 0), (4, .ptr 2 0), (2, .ptr 1 0), (1, .slice 0 0 len cap)])
      (fun i => [(3, .ints [] 50), (2, .ints (List.replicate 24 0) 28), (1, .ints R 28), (0, .ints C e)]) 4 (fun i => i ≤ len ∧ ∀ k, k < i → 0 ≤ C.getD k 0) (fun i => len - i) ?_ ?_
    · refine ⟨0, ⟨by omega, by simp⟩, Sub.mk_id ?_ ?_ ?_ ?_ ?_⟩
      all_goals ((try simp only [LB, subS, subH, wfS, wfH, SV.ren, renL, SObj.ren, SV.wf, SObj.wf, wfL, SV.known, Nat.reduceEqDiff, ↓reduceIte, if_true, if_false, eq_self, Nat.reduceAdd, Nat.reduceLT, Nat.reduceLeDiff, implies_true, reduceCtorEq, forall_const]) <;> simp)
    · rintro i ⟨hi, hno⟩
      by_cases hlt : i < len
      · have hil : (i : Int) < len := by omega
        have hiC : i < C.length := by omega
        by_cases hn : C.getD i 0 < 0
        · have hcf : (C.take len).all nn = false := by
            rw [List.all_eq_false]
            refine ⟨C.getD i 0, ?_, by unfold nn; simp; simpa using hn⟩
            rw [List.getD_eq_getElem?_getD, List.getElem?_eq_getElem hiC]
            exact List.mem_take_iff_getElem.2 ⟨i, by omega, rfl⟩
          simp -implicitDefEqProofs only [lk_normal, hil, hiC, hn, hcf, hR, tkR, ZB, Int.reduceToNat, Nat.reduceLT, Nat.reduceLeDiff, Int.reduceLE, Int.reduceLT, Nat.reduceEqDiff, Nat.reduceSub, SB, SV.known, packR, ne_eq, reduceCtorEq, Nat.reduceEqDiff, ↓reduceIte, if_true, if_false, eq_self, Nat.reduceAdd, Nat.reduceMul, Nat.reduceSub, forall_const, oneCellS, Kd.isSca, flat, TYB]
          exact ⟨by omega, .inr ⟨4, 0, [], rfl, by simp [hget_cons], by omega, by simp, by simp⟩⟩
        · simp -implicitDefEqProofs only [lk_normal, hil, hiC, hn, hR, tkR, ZB, Int.reduceToNat, Nat.reduceLT, Nat.reduceLeDiff, Int.reduceLE, Int.reduceLT, Nat.reduceEqDiff, Nat.reduceSub, SB, SV.known, packR, ne_eq, reduceCtorEq, Nat.reduceEqDiff, ↓reduceIte, if_true, if_false, eq_self, Nat.reduceAdd, Nat.reduceMul, Nat.reduceSub, forall_const, oneCellS, Kd.isSca, flat, TYB]
          refine ⟨by omega, by unfold In64; omega, i + 1, ⟨by omega, fun k hk => ?_⟩, by omega, Sub.mk_id ?_ ?_ ?_ ?_ ?_⟩
          · by_cases hki : k = i
            · subst hki; omega
            · exact hno k (by omega)
          all_goals ((try simp only [LB, subS, subH, wfS, wfH, SV.ren, renL, SObj.ren, SV.wf, SObj.wf, wfL, SV.known, Nat.reduceEqDiff, ↓reduceIte, if_true, if_false, eq_self, Nat.reduceAdd, Nat.reduceLT, Nat.reduceLeDiff, implies_true, reduceCtorEq, forall_const]) <;> simp)
      · have hil : ¬ (i : Int) < len := by omega
        obtain rfl : i = len := by omega
        have hc : (C.take i).all nn = true := by
          rw [List.all_eq_true]
          intro x hx
          obtain ⟨k, hk, rfl⟩ := List.mem_take_iff_getElem.1 hx
          have := hno k (by omega)
          rw [List.getD_eq_getElem?_getD, List.getElem?_eq_getElem (by omega)] at this
          exact decide_eq_true this
        have hC0 := hno
        simp -implicitDefEqProofs only [lk_normal, hil, hc, ZB, Int.reduceToNat, Nat.reduceLT, Nat.reduceLeDiff, Int.reduceLE, Int.reduceLT, Nat.reduceEqDiff, Nat.reduceSub, SB, SV.known, packR, ne_eq, reduceCtorEq, Nat.reduceEqDiff, ↓reduceIte, if_true, if_false, eq_self, Nat.reduceAdd, Nat.reduceMul, Nat.reduceSub, forall_const, oneCellS, Kd.isSca, flat, TYB]
        generalize hlen : i = len at *
        clear hno hil hlt hi
        refine loop_intro (fun s : Nat × Nat × List Int => [(9, .int s.1), (7, .slice 3 0 s.1 s.2.1), (4, .ptr 2 0), (2, .ptr 1 0), (1, .slice 0 0 len cap)])
          (fun s => [(3, .ints (rvF (mxK R C s.1).2 s.1 ++ s.2.2) 50), (2, .ints (List.replicate 24 0) 28), (1, .ints (mxK R C s.1).1 28), (0, .ints C e)]) 4
          (fun s => (s.1 ≤ len ∧ ∀ q, q < s.1 → mxO R C q = true) ∧ s.2.2.length + s.1 * 2 = s.2.1 * 2) (fun s => len - s.1) ?_ ?_
        · refine ⟨(0, 0, []), ⟨⟨by simp, by simp⟩, by simp⟩, Sub.mk_id ?_ ?_ ?_ ?_ ?_⟩
          all_goals simp only [mxK, rvF, List.range_zero, List.flatMap_nil, List.append_nil, LB, subS, subH, wfS, wfH, SV.ren, renL, SObj.ren, SV.wf, SObj.wf, wfL, SV.known, Nat.reduceEqDiff, ↓reduceIte, if_true, if_false, eq_self, Nat.reduceAdd, Nat.reduceLT, Nat.reduceLeDiff, implies_true, reduceCtorEq, forall_const]
          all_goals (try simp)
        · rintro ⟨i, c, j⟩ ⟨⟨hi, hall⟩, hj⟩
          simp only at hi hj hall
          obtain ⟨q24, qr⟩ := mxK_facts hR hr hC0 i hi hall
          have tkQ : List.take 24 (mxK R C i).1 = (mxK R C i).1 := List.take_of_length_le (by omega)
          have dQ : List.drop 24 (mxK R C i).1 = [] := List.drop_eq_nil_of_le (by omega)
          have l2 := mxK_len2 R C i
          have lrv := rvF_len l2
          by_cases hlt : i < len
          · have hil : (i : Int) < len := by omega
            have hiC : i < C.length := by omega
            by_cases h0 : SrL (mxK R C i).1 144 = []
            · have hn : mxN R C len = i := firstN_at hlt hall (by unfold mxO; simp [h0])
              have hne : (([] : List Int) ≠ []) = False := by simp
              have hz : (((0 : Nat) / 3 : Nat) : Int) = 0 := rfl
              have hn0 : ¬ (0 : Int) ≠ 0 := by omega
              simp -implicitDefEqProofs only [lk_normal, l5Sources_F, hil, hiC, q24, qr, tkQ, h0, hne, hz, hn0, List.length_nil, freshK, Wrap.ap, ZB, Int.reduceToNat, Nat.reduceLT, Nat.reduceLeDiff, Int.reduceLE, Int.reduceLT, Nat.reduceEqDiff, Nat.reduceSub, SB, SV.known, packR, ne_eq, reduceCtorEq, Nat.reduceEqDiff, ↓reduceIte, if_true, if_false, eq_self, Nat.reduceAdd, Nat.reduceMul, Nat.reduceSub, forall_const, oneCellS, Kd.isSca, flat, TYB]
              intro cp jp hjp
              rw [hn]
              exact .inr ⟨3, c, j, by show _ = SV.tup [_, SV.slice 3 0 ((rvF (mxK R C i).2 i).length / 2) c, _]; rw [lrv, Nat.mul_div_cancel _ (by omega)], by simp [hget_cons], by omega, by omega, fun h => by cases h⟩
            · have ho : mxO R C i = true := by unfold mxO; simp [h0]
              obtain ⟨s1, s2, s3, s4, s5⟩ := mxS_spec (hC0 i hlt) h0
              obtain ⟨m, hm, _⟩ := SrL_three (mxK R C i).1 144
              have e2 : (SrL (mxK R C i).1 144).length / 3 = m := by omega
              rw [e2] at s2 s3
              have hm0 : ¬ (m : Int) = 0 := by omega
              have b21 := bk_21 s5
              have sl := fun J => (show List.take 3 (List.drop (mxI (mxK R C i).1 (C.getD i 0) * 3) (SrL (mxK R C i).1 144 ++ J)) = mxS (mxK R C i).1 (C.getD i 0) from by
                rw [List.drop_append_of_le_length (by omega), List.take_append_of_le_length (by rw [List.length_drop]; omega)]; rfl)
              have tks : List.take 3 (mxS (mxK R C i).1 (C.getD i 0)) = mxS (mxK R C i).1 (C.getD i 0) := List.take_of_length_le (by omega)
              have ei : ((C.getD i 0).tmod (m : Int)).toNat = mxI (mxK R C i).1 (C.getD i 0) := by unfold mxI; rw [e2]
              have bl := bkR_len q24 ((mxS (mxK R C i).1 (C.getD i 0)).getD 0 0) ((mxS (mxK R C i).1 (C.getD i 0)).getD 1 0) ((mxS (mxK R C i).1 (C.getD i 0)).getD 2 0)
              have tkb := List.take_of_length_le (Nat.le_of_eq bl)
              have eT : bkT (mxK R C i).1 ((mxS (mxK R C i).1 (C.getD i 0)).getD 0 0) ((mxS (mxK R C i).1 (C.getD i 0)).getD 1 0) ((mxS (mxK R C i).1 (C.getD i 0)).getD 2 0) = bkR (mxK R C i).1 ((mxS (mxK R C i).1 (C.getD i 0)).getD 0 0) ((mxS (mxK R C i).1 (C.getD i 0)).getD 1 0) ((mxS (mxK R C i).1 (C.getD i 0)).getD 2 0) := by unfold bkT; rw [if_pos s5]
              cases i with
              | zero =>
                have sE : srcE (.slice 3 0 0 c) = true := rfl
                simp -implicitDefEqProofs only [lk_normal, l5Sources_F, l5Back_F, hil, hiC, q24, qr, tkQ, h0, e2, hm0, s2, s3, s4, s5, b21, sl, tks, ei, eT, bl, tkb, sE, freshK, Wrap.ap, ZB, Int.reduceToNat, Nat.reduceLT, Nat.reduceLeDiff, Int.reduceLE, Int.reduceLT, Nat.reduceEqDiff, Nat.reduceSub, SB, SV.known, packR, ne_eq, reduceCtorEq, Nat.reduceEqDiff, ↓reduceIte, if_true, if_false, eq_self, Nat.reduceAdd, Nat.reduceMul, Nat.reduceSub, forall_const, oneCellS, Kd.isSca, flat, TYB]
                have eK : mxK R C 1 = (bkR (mxK R C 0).1 ((mxS (mxK R C 0).1 (C.getD 0 0)).getD 0 0) ((mxS (mxK R C 0).1 (C.getD 0 0)).getD 1 0) ((mxS (mxK R C 0).1 (C.getD 0 0)).getD 2 0), [(mxS (mxK R C 0).1 (C.getD 0 0)).getD 0 0, (mxS (mxK R C 0).1 (C.getD 0 0)).getD 1 0]) := rfl
                have eR : ∀ a b : Int, rvF [a, b] 1 = [a, b] := fun a b => rfl
                refine ⟨fun _ cp jp hjp => ⟨by omega, by rw [List.length_append]; omega, by unfold In64; omega, (1, 1, []), ⟨⟨by simp only; omega, fun q hq => ?_⟩, by simp⟩, by simp only; omega, Sub.mk_to 3 6 ?_ ?_ ?_ ?_ ?_ ?_ ?_⟩, fun h => absurd hlt (by omega)⟩
                · have hq' : q < 1 := hq
                  obtain rfl : q = 0 := by omega
                  exact ho
                all_goals (try simp only [eK, eR, dQ, List.append_nil, List.cons_append, List.nil_append])
                all_goals ((try simp only [LB, subS, subH, wfS, wfH, SV.ren, renL, SObj.ren, SV.wf, SObj.wf, wfL, SV.known, Nat.reduceEqDiff, ↓reduceIte, if_true, if_false, eq_self, Nat.reduceAdd, Nat.reduceLT, Nat.reduceLeDiff, implies_true, reduceCtorEq, forall_const]) <;> simp)
              | succ i =>
                have sE : srcE (.slice 3 0 (i + 1) c) = false := rfl
                have tkP : ∀ J, List.take ((i + 1) * 2) (rvF (mxK R C (i + 1)).2 (i + 1) ++ J) = rvF (mxK R C (i + 1)).2 (i + 1) := fun J => List.take_left' lrv
                simp -implicitDefEqProofs only [lk_normal, l5Sources_F, l5Back_F, hil, hiC, q24, qr, tkQ, h0, e2, hm0, s2, s3, s4, s5, b21, sl, tks, ei, eT, bl, tkb, sE, tkP, freshK, Wrap.ap, ZB, Int.reduceToNat, Nat.reduceLT, Nat.reduceLeDiff, Int.reduceLE, Int.reduceLT, Nat.reduceEqDiff, Nat.reduceSub, SB, SV.known, packR, ne_eq, reduceCtorEq, Nat.reduceEqDiff, ↓reduceIte, if_true, if_false, eq_self, Nat.reduceAdd, Nat.reduceMul, Nat.reduceSub, forall_const, oneCellS, Kd.isSca, flat, TYB]
                have eK : mxK R C (i + 1 + 1) = (bkR (mxK R C (i + 1)).1 ((mxS (mxK R C (i + 1)).1 (C.getD (i + 1) 0)).getD 0 0) ((mxS (mxK R C (i + 1)).1 (C.getD (i + 1) 0)).getD 1 0) ((mxS (mxK R C (i + 1)).1 (C.getD (i + 1) 0)).getD 2 0), (mxK R C (i + 1)).2 ++ [(mxS (mxK R C (i + 1)).1 (C.getD (i + 1) 0)).getD 0 0, (mxS (mxK R C (i + 1)).1 (C.getD (i + 1) 0)).getD 1 0]) := rfl
                have eR := fun x y => rvF_snoc x y l2
                have e1 : 1 + (i + 1) = i + 1 + 1 := by omega
                refine fun cp jp hjp => ⟨by omega, by rw [List.length_append]; omega, by rw [List.length_append]; omega, by omega, by omega, fun j' c' hj' => ⟨by unfold In64; omega, (i + 1 + 1, c', j'), ⟨⟨by simp only; omega, fun q hq => ?_⟩, by simp only; omega⟩, by simp only; omega, Sub.mk_to 3 7 ?_ ?_ ?_ ?_ ?_ ?_ ?_⟩⟩
                · have hq' : q < i + 1 + 1 := hq
                  by_cases hqi : q = i + 1
                  · subst hqi; exact ho
                  · exact hall q (by omega)
                all_goals (try simp only [eK, eR, e1, dQ, List.append_nil, List.cons_append, List.nil_append])
                all_goals ((try simp only [LB, subS, subH, wfS, wfH, SV.ren, renL, SObj.ren, SV.wf, SObj.wf, wfL, SV.known, Nat.reduceEqDiff, ↓reduceIte, if_true, if_false, eq_self, Nat.reduceAdd, Nat.reduceLT, Nat.reduceLeDiff, implies_true, reduceCtorEq, forall_const]) <;> simp)
          · have hil : ¬ (i : Int) < len := by omega
            obtain rfl : i = len := by omega
            have hn : mxN R C i = i := firstN_end hall
            simp -implicitDefEqProofs only [lk_normal, hil, q24, tkQ, ZB, Int.reduceToNat, Nat.reduceLT, Nat.reduceLeDiff, Int.reduceLE, Int.reduceLT, Nat.reduceEqDiff, Nat.reduceSub, SB, SV.known, packR, ne_eq, reduceCtorEq, Nat.reduceEqDiff, ↓reduceIte, if_true, if_false, eq_self, Nat.reduceAdd, Nat.reduceMul, Nat.reduceSub, forall_const, oneCellS, Kd.isSca, flat, TYB]
            rw [hn]
            exact .inr ⟨3, c, j, by show _ = SV.tup [_, SV.slice 3 0 ((rvF (mxK R C i).2 i).length / 2) c, _]; rw [lrv, Nat.mul_div_cancel _ (by omega)], by simp [hget_cons], by omega, by omega, fun h => by cases h⟩
  · have h20' : (len : Int) > 20 := by omega
    refine fresh_of_vc (X := ⟨Try.prog, tys, [(43, l2Rack_F), (80, l5Back_F)], [(79, l5Sources_F)], true, true, 1, [], []⟩) fn_38 ⟨tys_ok, (.cons l2Rack_T (.cons l5Back_T .nil)), (.cons l5Sources_T .nil), mixed⟩ (n0 := 1) rfl (Nat.le_of_ble_eq_true rfl) (by simp [wfL, SV.wf]) (wfH_spec (by simp [wfH, SObj.wf])) (Nat.le_refl _) ?_
    simp -implicitDefEqProofs only [Try.f38, Option.getD_some, argS, l2Rack_F, l5Back_F, l5Sources_F, hR, tkR, hr, h20, h20', freshK, Wrap.ap, ZB, Int.reduceToNat, Nat.reduceLT, Nat.reduceLeDiff, Int.reduceLE, Int.reduceLT, Nat.reduceEqDiff, Nat.reduceSub, SB, SV.known, packR, ne_eq, reduceCtorEq, Nat.reduceEqDiff, ↓reduceIte, if_true, if_false, eq_self, Nat.reduceAdd, Nat.reduceMul, Nat.reduceSub, forall_const, oneCellS, Kd.isSca, flat, TYB]
    exact .inr ⟨3, 0, [], rfl, by simp [hget_cons], by omega, by simp, by simp⟩
theorem mxK_app (R C J : List Int) (len : Nat) (h : len ≤ C.length) : ∀ k, k ≤ len → mxK R (C ++ J) k = mxK R C k
  | 0, _ => rfl
  | k + 1, hk => by
    have e := getD_app C J k (by omega)
    unfold mxK
    rw [mxK_app R C J len h k (by omega), e]
theorem mxN_app (R C J : List Int) (len : Nat) (h : len ≤ C.length) : mxN R (C ++ J) len = mxN R C len := firstN_congr len 0 fun k _ hk => by
  unfold mxO
  rw [mxK_app R C J len h k (by omega)]
theorem mxN_le (R C : List Int) (len : Nat) : mxN R C len ≤ len := by
  have : mxN R C len ≤ 0 + len := firstN_le _ _ _
  omega
theorem mxB_app (R C J : List Int) (len : Nat) (h : len ≤ C.length) : mxB R (C ++ J) len = mxB R C len := by
  unfold mxB
  rw [List.take_append_of_le_length h]
theorem mxR_app (R C J : List Int) (len : Nat) (h : len ≤ C.length) : mxR R (C ++ J) len = mxR R C len := by
  unfold mxR
  rw [mxB_app R C J len h, mxN_app R C J len h, mxK_app R C J len h _ (mxN_le _ _ _)]
theorem mxP_app (R C J : List Int) (len : Nat) (h : len ≤ C.length) : mxP R (C ++ J) len = mxP R C len := by
  unfold mxP
  rw [mxB_app R C J len h, mxN_app R C J len h, mxK_app R C J len h _ (mxN_le _ _ _)]
theorem mxR_len {R C : List Int} {len : Nat} (hR : R.length = 24) (hC : len ≤ C.length) : (mxR R C len).length = 24 := by
  unfold mxR
  split
  · rename_i h
    simp only [mxB, Bool.and_eq_true] at h
    have hC0 : ∀ k, k < len → 0 ≤ C.getD k 0 := fun k hk => by
      have h1 := List.all_eq_true.1 h.2 (C.getD k 0) (by
        rw [List.getD_eq_getElem?_getD, List.getElem?_eq_getElem (by omega)]
        exact List.mem_take_iff_getElem.2 ⟨k, by omega, rfl⟩)
      exact of_decide_eq_true h1
    suffices h2 : ∀ k, k ≤ len → (mxK R C k).1.length = 24 from h2 _ (mxN_le _ _ _)
    intro k
    induction k with
    | zero => intro _; exact hR
    | succ k ih => intro hk; exact bkR_len (ih (by omega)) _ _ _
  · rfl
theorem mxP_two (R C : List Int) (len : Nat) : ∃ k, (mxP R C len).length = k * 2 ∧ k ≤ 20 := by
  unfold mxP
  split
  · rename_i h
    simp only [mxB, Bool.and_eq_true, decide_eq_true_eq] at h
    exact ⟨mxN R C len, rvF_len (mxK_len2 R C _), Nat.le_trans (mxN_le _ _ _) h.1.2⟩
  · exact ⟨0, rfl, by omega⟩
def MixedBy_F : List SV → Heap → Nat → Nat → K1 → Prop
  | [.arr R, .slice b 0 len _], H, n, _, κ => match hget H b with
    | some (.ints C _) => (R.length = 24 ∧ len ≤ C.length ∧ len ≤ 1048576) ∧ freshK (.mid (.arr (mxR R (C.take len) len)) [.bool (mxB R (C.take len) len)]) (mxP R (C.take len) len) ((mxP R (C.take len) len).length / 2) 2 50 true H n κ
    | _ => False
  | _, _, _, _, _ => False
theorem MixedBy_T : ∀ args H n m κ, MixedBy_F args H n m κ → GenOK Try.prog 40 args H n m κ := by
  intro args H n m κ h
  unfold MixedBy_F at h
  split at h
  · rename_i R b len cap
    split at h
    · rename_i C e hb
      obtain ⟨⟨h1, h2, h3⟩, h4⟩ := h
      have ht : len ≤ (C.take len).length := by rw [List.length_take]; omega
      rw [← mxR_app _ (C.take len) (C.drop len) _ ht, ← mxB_app _ (C.take len) (C.drop len) _ ht, ← mxP_app _ (C.take len) (C.drop len) _ ht, List.take_append_drop] at h4
      exact gen_of_fresh (((MixedBy_ok R C e len cap h1 h2 h3).one hb rfl)) (fun k o hk => hk) h4
    · exact h.elim
  · exact h.elim
--@tbl sMixedBy = spec.MixedBy
def sMixedBy_F : List SV → Heap → Nat → Nat → K1 → Prop
  | [.arr R, .slice b 0 len _], H, n, _, κ => match hget H b with
    | some (.ints C _) => (R.length = 24 ∧ len ≤ C.length ∧ len ≤ 1048576) ∧ freshK (.mid (.arr (mxR R (C.take len) len)) [.bool (mxB R (C.take len) len)]) (mxP R (C.take len) len) ((mxP R (C.take len) len).length / 2) 2 50 false H n κ
    | _ => False
  | _, _, _, _, _ => False
theorem sMixedBy_T : ∀ args H n m κ, sMixedBy_F args H n m κ → GenOK Try.prog 38 args H n m κ := by
  intro args H n m κ h
  unfold sMixedBy_F at h
  split at h
  · rename_i R b len cap
    split at h
    · rename_i C e hb
      obtain ⟨⟨h1, h2, h3⟩, h4⟩ := h
      have ht : len ≤ (C.take len).length := by rw [List.length_take]; omega
      rw [← mxR_app _ (C.take len) (C.drop len) _ ht, ← mxB_app _ (C.take len) (C.drop len) _ ht, ← mxP_app _ (C.take len) (C.drop len) _ ht, List.take_append_drop] at h4
      exact gen_of_fresh (((sMixedBy_ok R C e len cap h1 h2 h3).one hb rfl)) (fun k o hk => hk) h4
    · exact h.elim
  · exact h.elim
end Go.Proofs.Ytfdpeenamkpcbaa
