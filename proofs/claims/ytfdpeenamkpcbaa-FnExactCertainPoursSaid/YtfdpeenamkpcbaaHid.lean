/- Plain: hidden counts of a rack; in how many orders layers can be put. -/
import Derived.Test.YtfdpeenamkpcbaaView
set_option maxRecDepth 100000
set_option linter.unusedSimpArgs false
set_option linter.unusedVariables false
namespace Go.Proofs.Ytfdpeenamkpcbaa
open Go Go.RowKit
def is1 (x c : Int) : Int := if x = c then 1 else 0
/-- How many cells of a tube have a color. -/
def cn (t : List Int) (c : Int) : Int := is1 (t.getD 0 0) c + is1 (t.getD 1 0) c + is1 (t.getD 2 0) c + is1 (t.getD 3 0) c
theorem is1_bd (x c : Int) : 0 ≤ is1 x c ∧ is1 x c ≤ 1 := by unfold is1; split <;> omega
theorem is1_sum {x : Int} (h : 0 ≤ x ∧ x ≤ 5) : is1 x 1 + is1 x 2 + is1 x 3 + is1 x 4 + is1 x 5 = if x = 0 then 0 else 1 := by
  have : x = 0 ∨ x = 1 ∨ x = 2 ∨ x = 3 ∨ x = 4 ∨ x = 5 := by omega
  rcases this with rfl | rfl | rfl | rfl | rfl | rfl <;> simp [is1]
theorem incr_getD (L : List Int) (j k : Nat) (hj : j < L.length) : (incr L j).getD k 0 = L.getD k 0 + (if j = k then 1 else 0) := by
  unfold incr
  simp only [List.getD, List.getElem?_set]
  by_cases h : j = k
  · subst h; simp [hj]
  · simp [h]
/-- Colors of the first cells. -/
theorem cnt_cells {R : List Int} (hR : R.length = 24) (hr : rackB R = true) {c : Nat} (hc : c < 6) : ∀ i, i ≤ 6 → (cntL (R.take (i * 4))).getD c 0 = ((List.range i).map fun q => cn (tubeAt R q) (c : Int)).sum
  | 0, _ => by
    simp only [Nat.zero_mul, List.take_zero, cntL_nil, List.range_zero, List.map_nil, List.sum_nil]
    rw [List.getD_eq_getElem?_getD, List.getElem?_replicate]
    simp [hc]
  | i + 1, hi => by
    have ih := cnt_cells hR hr hc i (by omega)
    have one : ∀ j, j < 4 → (cntL (R.take (i * 4 + (j + 1)))).getD c 0 = (cntL (R.take (i * 4 + j))).getD c 0 + is1 ((tubeAt R i).getD j 0) (c : Int) := fun j hj => by
      obtain ⟨h1, h2, _⟩ := cnt_step hR hr (i := i) (j := j) (by omega) hj
      rw [h1, incr_getD _ _ _ (by rw [cntL_len]; omega), show (tubeAt R i).getD j 0 = R.getD (i * 4 + j) 0 from cut_getD R i j hj]
      unfold is1
      congr 1
      by_cases h : (R.getD (i * 4 + j) 0).toNat = c
      · rw [if_pos h, if_pos (by omega)]
      · rw [if_neg h, if_neg (by omega)]
    rw [show (i + 1) * 4 = i * 4 + (3 + 1) by omega, one 3 (by omega), one 2 (by omega), one 1 (by omega), one 0 (by omega), Nat.add_zero, ih, List.range_succ, List.map_append, List.sum_append]
    simp only [List.map_cons, List.map_nil, List.sum_cons, List.sum_nil, cn]
    omega
/-- Of a tube's layers below its uppermost one, from the j-th on, those with a color. -/
def hcn (t : List Int) (j : Nat) (c : Int) : Int := (if j ≤ 0 ∧ 2 ≤ layN t then is1 (t.getD 0 0) c else 0) + (if j ≤ 1 ∧ 3 ≤ layN t then is1 (t.getD 1 0) c else 0) + (if j ≤ 2 ∧ 4 ≤ layN t then is1 (t.getD 2 0) c else 0)
theorem hcn_bd (t : List Int) (j : Nat) (c : Int) : 0 ≤ hcn t j c ∧ hcn t j c ≤ 3 := by
  have a0 := is1_bd (t.getD 0 0) c
  have a1 := is1_bd (t.getD 1 0) c
  have a2 := is1_bd (t.getD 2 0) c
  unfold hcn
  split <;> split <;> split <;> omega
theorem hcn_end {t : List Int} {j : Nat} (h : layN t ≤ j + 1) (c : Int) : hcn t j c = 0 := by
  unfold hcn
  rw [if_neg (by omega), if_neg (by omega), if_neg (by omega)]; rfl
theorem hcn_step {t : List Int} {j : Nat} (h : j + 2 ≤ layN t) (h4 : layN t ≤ 4) (c : Int) : hcn t j c = is1 (t.getD j 0) c + hcn t (j + 1) c := by
  rcases (show j = 0 ∨ j = 1 ∨ j = 2 by omega) with rfl | rfl | rfl
  · unfold hcn
    rw [if_pos (by omega), if_neg (show ¬ (0 + 1 ≤ 0 ∧ 2 ≤ layN t) by omega)]
    split <;> split <;> omega
  · unfold hcn
    rw [if_neg (show ¬ (1 ≤ 0 ∧ 2 ≤ layN t) by omega), if_pos (show 1 ≤ 1 ∧ 3 ≤ layN t by omega), if_neg (show ¬ (1 + 1 ≤ 0 ∧ 2 ≤ layN t) by omega), if_neg (show ¬ (1 + 1 ≤ 1 ∧ 3 ≤ layN t) by omega)]
    split <;> omega
  · unfold hcn
    rw [if_neg (show ¬ (2 ≤ 0 ∧ 2 ≤ layN t) by omega), if_neg (show ¬ (2 ≤ 1 ∧ 3 ≤ layN t) by omega), if_pos (show 2 ≤ 2 ∧ 4 ≤ layN t by omega), if_neg (show ¬ (2 + 1 ≤ 0 ∧ 2 ≤ layN t) by omega), if_neg (show ¬ (2 + 1 ≤ 1 ∧ 3 ≤ layN t) by omega), if_neg (show ¬ (2 + 1 ≤ 2 ∧ 4 ≤ layN t) by omega)]
    omega
theorem cn_hcn {t : List Int} (ht : t.length = 4) (hb : tubeB t = true) {c : Int} (hc : 1 ≤ c) : cn t c = hcn t 0 c + is1 (topF t).1 c := by
  obtain ⟨h1, h2⟩ := tube_cells ht hb
  have hle := lay_le t ht
  have z : is1 0 c = 0 := by unfold is1; rw [if_neg (by omega)]
  have top : ∀ n, layN t = n + 1 → (topF t).1 = t.getD n 0 := fun n hn => by
    obtain ⟨r, hr1, _⟩ := topF_run t ht (by omega)
    rw [hr1, hn]; rfl
  have top0 : layN t = 0 → (topF t).1 = 0 := fun h => by
    have : topF t = (0, 0) := by simp [topF, runsL, h]
    rw [this]
  unfold cn hcn
  rcases (show layN t = 0 ∨ layN t = 1 ∨ layN t = 2 ∨ layN t = 3 ∨ layN t = 4 by omega) with h | h | h | h | h
  · rw [top0 h, h2 0 (by omega), h2 1 (by omega), h2 2 (by omega), h2 3 (by omega), z, h]; simp
  · rw [top 0 h, h2 1 (by omega), h2 2 (by omega), h2 3 (by omega), z, h]; simp
  · rw [top 1 h, h2 2 (by omega), h2 3 (by omega), z, h]; simp
  · rw [top 2 h, h2 3 (by omega), z, h]; simp
  · rw [top 3 h, h]; simp
/-- What the last tubes hide. -/
def remT (R : List Int) (c : Int) : Nat → Int
  | 0 => 0
  | m + 1 => hcn (tubeAt R (5 - m)) 0 c + remT R c m
theorem remT_bd (R : List Int) (c : Int) : ∀ m, 0 ≤ remT R c m ∧ remT R c m ≤ 3 * m
  | 0 => by simp [remT]
  | m + 1 => by
    have := remT_bd R c m
    have := hcn_bd (tubeAt R (5 - m)) 0 c
    unfold remT
    omega
def wr (x : Int) : Int := IntKind.i64.wrap x
theorem wr_in {x : Int} (h : In64 x) : wr x = x := wrap_in h
/-- Counts without those of the tops. -/
def hidL (T C : List Int) : Nat → List Int
  | 0 => C
  | k + 1 => if 0 < T.getD k 0 then (hidL T C k).set (T.getD k 0).toNat (wr ((hidL T C k).getD (T.getD k 0).toNat 0 - 1)) else hidL T C k
theorem hidL_len (T C : List Int) : ∀ k, (hidL T C k).length = C.length
  | 0 => rfl
  | k + 1 => by
    unfold hidL
    split
    · rw [List.length_set, hidL_len T C k]
    · exact hidL_len T C k
theorem hidL_zero (T C : List Int) (hC : 0 < C.length) : ∀ k, (hidL T C k).getD 0 0 = C.getD 0 0
  | 0 => rfl
  | k + 1 => by
    unfold hidL
    split
    · rename_i h
      rw [← hidL_zero T C hC k]
      have : ∀ (L : List Int) (j : Nat) (x : Int), 0 < j → (L.set j x).getD 0 0 = L.getD 0 0 := fun L j x h => by
        simp only [List.getD, List.getElem?_set]
        rw [if_neg (by omega)]
      exact this _ _ _ (by omega)
    · exact hidL_zero T C hC k
theorem hidL_get {T C : List Int} (hC : C.length = 6) (hT : ∀ k, k < 6 → 0 ≤ T.getD k 0 ∧ T.getD k 0 ≤ 5) {c : Nat} (hc : 1 ≤ c) (hc6 : c < 6) (h24 : 0 ≤ C.getD c 0 ∧ C.getD c 0 ≤ 24) : ∀ k, k ≤ 6 →
    (hidL T C k).getD c 0 = C.getD c 0 - ((List.range k).map fun q => is1 (T.getD q 0) (c : Int)).sum ∧ 0 ≤ ((List.range k).map fun q => is1 (T.getD q 0) (c : Int)).sum ∧ ((List.range k).map fun q => is1 (T.getD q 0) (c : Int)).sum ≤ k
  | 0, _ => by simp [hidL]
  | k + 1, hk => by
    obtain ⟨h1, h2, h3⟩ := hidL_get hC hT hc hc6 h24 k (by omega)
    have hl := hidL_len T C k
    have hb := is1_bd (T.getD k 0) (c : Int)
    have ht := hT k (by omega)
    rw [List.range_succ, List.map_append, List.sum_append]
    simp only [List.map_cons, List.map_nil, List.sum_cons, List.sum_nil]
    refine ⟨?_, by omega, by omega⟩
    unfold hidL
    split
    · rename_i hp
      by_cases hcc : (T.getD k 0).toNat = c
      · have e1 : is1 (T.getD k 0) (c : Int) = 1 := by unfold is1; rw [if_pos (by omega)]
        rw [e1, hcc, wr_in (by rw [h1]; unfold In64; omega)]
        have : ∀ (L : List Int) (x : Int), c < L.length → (L.set c x).getD c 0 = x := fun L x h => by simp [List.getD, h]
        rw [this _ _ (by omega), h1]
        omega
      · have e1 : is1 (T.getD k 0) (c : Int) = 0 := by unfold is1; rw [if_neg (by omega)]
        rw [e1]
        have : ∀ (L : List Int) (j : Nat) (x : Int), j ≠ c → (L.set j x).getD c 0 = L.getD c 0 := fun L j x h => by simp [List.getD, List.getElem?_set, h]
        rw [this _ _ _ hcc, h1]
        omega
    · rename_i hp
      have e1 : is1 (T.getD k 0) (c : Int) = 0 := by unfold is1; rw [if_neg (by omega)]
      rw [h1, e1]; omega
/-- The hidden counts of a rack. -/
theorem hid_rack {R : List Int} (hR : R.length = 24) (hr : rackB R = true) {c : Nat} (hc : 1 ≤ c) (hc6 : c < 6) : (hidL (topL R) (ctL R) 6).getD c 0 = remT R c 6 := by
  have hT : ∀ k, k < 6 → 0 ≤ (topL R).getD k 0 ∧ (topL R).getD k 0 ≤ 5 := fun k hk => by
    rw [topL_getD R k hk]
    obtain ⟨h1, h2⟩ := tube_cells (tubeAt_len hR hk) (tubeAt_ok hr hk)
    rcases Nat.eq_zero_or_pos (layN (tubeAt R k)) with h0 | h0
    · have : topF (tubeAt R k) = (0, 0) := by simp [topF, runsL, h0]
      rw [this]; simp
    · obtain ⟨r, hr1, _⟩ := topF_run _ (tubeAt_len hR hk) h0
      rw [hr1]
      have := h1 (layN (tubeAt R k) - 1) (by omega)
      simp only
      omega
  have e0 : (ctL R).getD c 0 = (cntL R).getD c 0 := by
    unfold ctL
    simp only [List.getD, List.getElem?_set]
    rw [if_neg (by omega)]
  have e1 := cnt_cells hR hr hc6 6 (Nat.le_refl _)
  rw [show R.take (6 * 4) = R from List.take_of_length_le (by omega)] at e1
  have cb : ∀ i, i < 6 → cn (tubeAt R i) (c : Int) = hcn (tubeAt R i) 0 c + is1 (topF (tubeAt R i)).1 c := fun i hi => cn_hcn (tubeAt_len hR hi) (tubeAt_ok hr hi) (by omega)
  have six : ∀ f : Nat → Int, ((List.range 6).map f).sum = f 0 + f 1 + f 2 + f 3 + f 4 + f 5 := fun f => by
    simp [List.range_succ]; omega
  rw [six, cb 0 (by omega), cb 1 (by omega), cb 2 (by omega), cb 3 (by omega), cb 4 (by omega), cb 5 (by omega)] at e1
  have b0 := hcn_bd (tubeAt R 0) 0 c
  have b1 := hcn_bd (tubeAt R 1) 0 c
  have b2 := hcn_bd (tubeAt R 2) 0 c
  have b3 := hcn_bd (tubeAt R 3) 0 c
  have b4 := hcn_bd (tubeAt R 4) 0 c
  have b5 := hcn_bd (tubeAt R 5) 0 c
  have t0 := is1_bd (topF (tubeAt R 0)).1 c
  have t1 := is1_bd (topF (tubeAt R 1)).1 c
  have t2 := is1_bd (topF (tubeAt R 2)).1 c
  have t3 := is1_bd (topF (tubeAt R 3)).1 c
  have t4 := is1_bd (topF (tubeAt R 4)).1 c
  have t5 := is1_bd (topF (tubeAt R 5)).1 c
  obtain ⟨g1, _, _⟩ := hidL_get (ctL_len R) hT hc hc6 (by rw [e0]; omega) 6 (Nat.le_refl _)
  rw [g1, six, e0, topL_getD R 0 (by omega), topL_getD R 1 (by omega), topL_getD R 2 (by omega), topL_getD R 3 (by omega), topL_getD R 4 (by omega), topL_getD R 5 (by omega)]
  simp only [remT, Nat.sub_self, Nat.reduceSub, Nat.sub_zero]
  omega
--@tbl hidden = (impl.View).hidden
--@tbl l7Hidden = spec.l7Hidden
/-- What is asked of a view's tops and numbers. -/
def vTop (V : List Int) : Prop := ∀ k, k < 6 → 0 ≤ V.getD k 0 ∧ V.getD k 0 ≤ 5
def vMan (V : List Int) : Prop := ∀ k, k < 6 → 0 ≤ V.getD (6 + k) 0 ∧ V.getD (6 + k) 0 ≤ 4
def vTM (V : List Int) : Prop := ∀ k, k < 6 → (0 < V.getD (6 + k) 0 ↔ 0 < V.getD k 0)
theorem take6_get (V : List Int) (k : Nat) (h : k < 6) : (V.take 6).getD k 0 = V.getD k 0 := by simp [List.getD, List.getElem?_take, h]
theorem wr_small (i : Nat) (h : i < 1000) : IntKind.i64.wrap ((i : Int) + 1) = (i : Int) + 1 := wrap_in (by unfold In64; omega)
theorem hidden_ok (V : List Int) (hV : V.length = 18) (hT : ∀ k, k < 6 → 0 ≤ V.getD k 0 ∧ V.getD k 0 ≤ 5) : PureH Try.prog 55 [.arr V] [] (.arr (hidL (V.take 6) (V.drop 12) 6)) := by
  have tkV : V.take 18 = V := List.take_of_length_le (by omega)
  have lenC : (V.drop 12).length = 6 := by rw [List.length_drop]; omega
  have tkC : (V.drop 12).take 6 = V.drop 12 := List.take_of_length_le (by omega)
  have lenT : (V.take 6).length = 6 := by rw [List.length_take]; omega
  have hl := hidL_len (V.take 6) (V.drop 12)
  refine pure_of_vc (X := ⟨Try.prog, tys, [], [], false, true, 0, [], []⟩) fn_55 ⟨tys_ok, .nil, .nil, mixed⟩ (n0 := 0) (Nat.le_of_ble_eq_true rfl) (by simp [wfL, SV.wf]) (wfH_spec (by simp [wfH, SObj.wf])) (Nat.le_refl _) (fun _ => by simp [SV.wf, wfL]) ?_
  simp -implicitDefEqProofs only [Try.f55, Option.getD_some, argS, hV, tkV, lenC, tkC, ZB, Int.reduceToNat, Nat.reduceLT, Nat.reduceLeDiff, Int.reduceLE, Int.reduceLT, Nat.reduceEqDiff, Nat.reduceSub, SB, SV.known, packR, ne_eq, reduceCtorEq, Nat.reduceEqDiff, ↓reduceIte, if_true, if_false, eq_self, Nat.reduceAdd, Nat.reduceMul, Nat.reduceSub, forall_const, oneCellS, Kd.isSca, flat, TYB]
  refine loop_intro (fun k : Nat => [(10, .int k), (9, .arr (V.take 6)), (3, .ptr 2 0), (2, .ptr 1 0)]) (fun k => [(2, .ints (hidL (V.take 6) (V.drop 12) k) 39), (1, .ints (List.replicate 6 0) 39)]) 3 (fun k => k ≤ 6) (fun k => 6 - k) ?_ ?_
  · refine ⟨0, ?_, Sub.mk_id ?_ ?_ ?_ ?_ ?_⟩
    all_goals (try (simp only [hidL, LB, subS, subH, wfS, wfH, SV.ren, renL, SObj.ren, SV.wf, SObj.wf, wfL, SV.known, Nat.reduceEqDiff, ↓reduceIte, if_true, if_false, eq_self, Nat.reduceAdd, Nat.reduceLT, Nat.reduceLeDiff, implies_true, reduceCtorEq, forall_const]; done))
    all_goals (try (simp only [hidL, LB, subS, subH, wfS, wfH, SV.ren, renL, SObj.ren, SV.wf, SObj.wf, wfL, SV.known, Nat.reduceEqDiff, ↓reduceIte, if_true, if_false, eq_self, Nat.reduceAdd, Nat.reduceLT, Nat.reduceLeDiff, implies_true, reduceCtorEq, forall_const]; simp; done))
    all_goals (try (simp only [hidL, LB, subS, subH, wfS, wfH, SV.ren, renL, SObj.ren, SV.wf, SObj.wf, wfL, SV.known, Nat.reduceEqDiff, ↓reduceIte, if_true, if_false, eq_self, Nat.reduceAdd, Nat.reduceLT, Nat.reduceLeDiff, implies_true, reduceCtorEq, forall_const]; (and_intros <;> (first | omega | rfl | (simp; done) | (simp; omega))); done))
    all_goals (try dsimp only)
    all_goals (and_intros <;> try (first | omega | (unfold In64; omega) | trivial | assumption))
  · intro k hk
    have hlk : (hidL (V.take 6) (V.drop 12) k).length = 6 := by rw [hl]; exact lenC
    have tkk : (hidL (V.take 6) (V.drop 12) k).take 6 = hidL (V.take 6) (V.drop 12) k := List.take_of_length_le (by omega)
    by_cases hlt : k < 6
    · have hkl : (k : Int) < 6 := by omega
      have ge := take6_get V k hlt
      have hb := hT k hlt
      have w1 := wr_small k (by omega)
      by_cases hp : 0 < V.getD k 0
      · have es : hidL (V.take 6) (V.drop 12) (k + 1) = (hidL (V.take 6) (V.drop 12) k).set (V.getD k 0).toNat (IntKind.i64.wrap ((hidL (V.take 6) (V.drop 12) k).getD (V.getD k 0).toNat 0 - 1)) := by
          rw [hidL, ge, if_pos hp]; rfl
        simp -implicitDefEqProofs only [lk_normal, hkl, ge, hlk, lenT, hp, w1, ZB, Int.reduceToNat, Nat.reduceLT, Nat.reduceLeDiff, Int.reduceLE, Int.reduceLT, Nat.reduceEqDiff, Nat.reduceSub, SB, SV.known, packR, ne_eq, reduceCtorEq, Nat.reduceEqDiff, ↓reduceIte, if_true, if_false, eq_self, Nat.reduceAdd, Nat.reduceMul, Nat.reduceSub, forall_const, oneCellS, Kd.isSca, flat, TYB]
        (try (and_intros <;> try (first | omega | (unfold In64; omega) | trivial | assumption)))
        refine ⟨k + 1, ?_, ?_, Sub.mk_id ?_ ?_ ?_ ?_ ?_⟩
        all_goals (try (simp only [es, LB, subS, subH, wfS, wfH, SV.ren, renL, SObj.ren, SV.wf, SObj.wf, wfL, SV.known, Nat.reduceEqDiff, ↓reduceIte, if_true, if_false, eq_self, Nat.reduceAdd, Nat.reduceLT, Nat.reduceLeDiff, implies_true, reduceCtorEq, forall_const]; done))
        all_goals (try (simp only [es, LB, subS, subH, wfS, wfH, SV.ren, renL, SObj.ren, SV.wf, SObj.wf, wfL, SV.known, Nat.reduceEqDiff, ↓reduceIte, if_true, if_false, eq_self, Nat.reduceAdd, Nat.reduceLT, Nat.reduceLeDiff, implies_true, reduceCtorEq, forall_const]; simp; done))
        all_goals (try (simp only [es, LB, subS, subH, wfS, wfH, SV.ren, renL, SObj.ren, SV.wf, SObj.wf, wfL, SV.known, Nat.reduceEqDiff, ↓reduceIte, if_true, if_false, eq_self, Nat.reduceAdd, Nat.reduceLT, Nat.reduceLeDiff, implies_true, reduceCtorEq, forall_const]; (and_intros <;> (first | omega | rfl | (simp; done) | (simp; omega))); done))
        all_goals (try dsimp only)
        all_goals (and_intros <;> try (first | omega | (unfold In64; omega) | trivial | assumption))
      · have es : hidL (V.take 6) (V.drop 12) (k + 1) = hidL (V.take 6) (V.drop 12) k := by rw [hidL, ge, if_neg hp]
        simp -implicitDefEqProofs only [lk_normal, hkl, ge, hlk, lenT, hp, w1, ZB, Int.reduceToNat, Nat.reduceLT, Nat.reduceLeDiff, Int.reduceLE, Int.reduceLT, Nat.reduceEqDiff, Nat.reduceSub, SB, SV.known, packR, ne_eq, reduceCtorEq, Nat.reduceEqDiff, ↓reduceIte, if_true, if_false, eq_self, Nat.reduceAdd, Nat.reduceMul, Nat.reduceSub, forall_const, oneCellS, Kd.isSca, flat, TYB]
        (try (and_intros <;> try (first | omega | (unfold In64; omega) | trivial | assumption)))
        refine ⟨k + 1, ?_, ?_, Sub.mk_id ?_ ?_ ?_ ?_ ?_⟩
        all_goals (try (simp only [es, LB, subS, subH, wfS, wfH, SV.ren, renL, SObj.ren, SV.wf, SObj.wf, wfL, SV.known, Nat.reduceEqDiff, ↓reduceIte, if_true, if_false, eq_self, Nat.reduceAdd, Nat.reduceLT, Nat.reduceLeDiff, implies_true, reduceCtorEq, forall_const]; done))
        all_goals (try (simp only [es, LB, subS, subH, wfS, wfH, SV.ren, renL, SObj.ren, SV.wf, SObj.wf, wfL, SV.known, Nat.reduceEqDiff, ↓reduceIte, if_true, if_false, eq_self, Nat.reduceAdd, Nat.reduceLT, Nat.reduceLeDiff, implies_true, reduceCtorEq, forall_const]; simp; done))
        all_goals (try (simp only [es, LB, subS, subH, wfS, wfH, SV.ren, renL, SObj.ren, SV.wf, SObj.wf, wfL, SV.known, Nat.reduceEqDiff, ↓reduceIte, if_true, if_false, eq_self, Nat.reduceAdd, Nat.reduceLT, Nat.reduceLeDiff, implies_true, reduceCtorEq, forall_const]; (and_intros <;> (first | omega | rfl | (simp; done) | (simp; omega))); done))
        all_goals (try dsimp only)
        all_goals (and_intros <;> try (first | omega | (unfold In64; omega) | trivial | assumption))
    · have hkl : ¬ (k : Int) < 6 := by omega
      obtain rfl : k = 6 := by omega
      simp -implicitDefEqProofs only [lk_normal, hkl, hlk, tkk, lenT, ZB, Int.reduceToNat, Nat.reduceLT, Nat.reduceLeDiff, Int.reduceLE, Int.reduceLT, Nat.reduceEqDiff, Nat.reduceSub, SB, SV.known, packR, ne_eq, reduceCtorEq, Nat.reduceEqDiff, ↓reduceIte, if_true, if_false, eq_self, Nat.reduceAdd, Nat.reduceMul, Nat.reduceSub, forall_const, oneCellS, Kd.isSca, flat, TYB]
      (try (and_intros <;> try (first | omega | (unfold In64; omega) | trivial | assumption)))
def hidden_F : List SV → Heap → Option (Prop × SV)
  | [.arr V], _ => some (V.length = 18 ∧ vTop V, .arr (hidL (V.take 6) (V.drop 12) 6))
  | _, _ => none
theorem hidden_T : ∀ args H p v, hidden_F args H = some (p, v) → p → PureH Try.prog 55 args H v := by
  intro args H p v h hp
  unfold hidden_F at h
  split at h
  · cases h; exact (hidden_ok _ hp.1 hp.2).any _
  · cases h
def hmL (M : List Int) : Nat → Int
  | 0 => 0
  | k + 1 => if 0 < M.getD k 0 then hmL M k + M.getD k 0 - 1 else hmL M k
theorem hmL_bd {M : List Int} (hM : ∀ k, k < 6 → 0 ≤ M.getD k 0 ∧ M.getD k 0 ≤ 4) : ∀ k, k ≤ 6 → 0 ≤ hmL M k ∧ hmL M k ≤ 3 * k
  | 0, _ => by simp [hmL]
  | k + 1, hk => by
    have := hmL_bd hM k (by omega)
    have := hM k (by omega)
    unfold hmL
    split <;> omega
theorem l7Hidden_ok (V : List Int) (hV : V.length = 18) (hT : ∀ k, k < 6 → 0 ≤ V.getD k 0 ∧ V.getD k 0 ≤ 5) (hM : ∀ k, k < 6 → 0 ≤ V.getD (6 + k) 0 ∧ V.getD (6 + k) 0 ≤ 4) (hTM : ∀ k, k < 6 → (0 < V.getD (6 + k) 0 ↔ 0 < V.getD k 0)) : PureH Try.prog 50 [.arr V] [] (.tup [.int (hmL (V.drop 6) 6), .arr (hidL (V.take 6) (V.drop 12) 6)]) := by
  have tkV : V.take 18 = V := List.take_of_length_le (by omega)
  have lenC : (V.drop 12).length = 6 := by rw [List.length_drop]; omega
  have tkC : (V.drop 12).take 6 = V.drop 12 := List.take_of_length_le (by omega)
  have gM : ∀ k, (V.drop 6).getD k 0 = V.getD (6 + k) 0 := fun k => by simp [List.getD]
  have hl := hidL_len (V.take 6) (V.drop 12)
  have hmb := hmL_bd (M := V.drop 6) fun k hk => by rw [gM]; exact hM k hk
  refine pure_of_vc (X := ⟨Try.prog, tys, [], [], false, true, 0, [], []⟩) fn_50 ⟨tys_ok, .nil, .nil, mixed⟩ (n0 := 0) (Nat.le_of_ble_eq_true rfl) (by simp [wfL, SV.wf]) (wfH_spec (by simp [wfH, SObj.wf])) (Nat.le_refl _) (fun _ => by simp [SV.wf, wfL]) ?_
  simp -implicitDefEqProofs only [Try.f50, Option.getD_some, argS, hV, tkV, lenC, tkC, ZB, Int.reduceToNat, Nat.reduceLT, Nat.reduceLeDiff, Int.reduceLE, Int.reduceLT, Nat.reduceEqDiff, Nat.reduceSub, SB, SV.known, packR, ne_eq, reduceCtorEq, Nat.reduceEqDiff, ↓reduceIte, if_true, if_false, eq_self, Nat.reduceAdd, Nat.reduceMul, Nat.reduceSub, forall_const, oneCellS, Kd.isSca, flat, TYB]
  refine loop_intro (fun k : Nat => [(6, .int k), (4, .int (hmL (V.drop 6) k)), (5, .ptr 2 0), (3, .ptr 1 0), (1, .ptr 0 0)]) (fun k => [(2, .ints (hidL (V.take 6) (V.drop 12) k) 39), (1, .ints (List.replicate 6 0) 39), (0, .ints V 44)]) 3 (fun k => k ≤ 6) (fun k => 6 - k) ?_ ?_
  · refine ⟨0, ?_, Sub.mk_id ?_ ?_ ?_ ?_ ?_⟩
    all_goals (try (simp only [hidL, hmL, LB, subS, subH, wfS, wfH, SV.ren, renL, SObj.ren, SV.wf, SObj.wf, wfL, SV.known, Nat.reduceEqDiff, ↓reduceIte, if_true, if_false, eq_self, Nat.reduceAdd, Nat.reduceLT, Nat.reduceLeDiff, implies_true, reduceCtorEq, forall_const]; done))
    all_goals (try (simp only [hidL, hmL, LB, subS, subH, wfS, wfH, SV.ren, renL, SObj.ren, SV.wf, SObj.wf, wfL, SV.known, Nat.reduceEqDiff, ↓reduceIte, if_true, if_false, eq_self, Nat.reduceAdd, Nat.reduceLT, Nat.reduceLeDiff, implies_true, reduceCtorEq, forall_const]; simp; done))
    all_goals (try (simp only [hidL, hmL, LB, subS, subH, wfS, wfH, SV.ren, renL, SObj.ren, SV.wf, SObj.wf, wfL, SV.known, Nat.reduceEqDiff, ↓reduceIte, if_true, if_false, eq_self, Nat.reduceAdd, Nat.reduceLT, Nat.reduceLeDiff, implies_true, reduceCtorEq, forall_const]; (and_intros <;> (first | omega | rfl | (simp; done) | (simp; omega))); done))
    all_goals (try dsimp only)
    all_goals (and_intros <;> try (first | omega | (unfold In64; omega) | trivial | assumption))
  · intro k hk
    have hlk : (hidL (V.take 6) (V.drop 12) k).length = 6 := by rw [hl]; exact lenC
    have tkk : (hidL (V.take 6) (V.drop 12) k).take 6 = hidL (V.take 6) (V.drop 12) k := List.take_of_length_le (by omega)
    by_cases hlt : k < 6
    · have hkl : (k : Int) < 6 := by omega
      have ge := take6_get V k hlt
      have hb := hT k hlt
      have hbM := hM k hlt
      have hmk := hmb k hk
      have w1 := wr_small k (by omega)
      by_cases hp : 0 < V.getD (6 + k) 0
      · have hp2 := (hTM k hlt).1 hp
        have es : hidL (V.take 6) (V.drop 12) (k + 1) = (hidL (V.take 6) (V.drop 12) k).set (V.getD k 0).toNat (IntKind.i64.wrap ((hidL (V.take 6) (V.drop 12) k).getD (V.getD k 0).toNat 0 - 1)) := by
          rw [hidL, ge, if_pos hp2]; rfl
        have em : hmL (V.drop 6) (k + 1) = hmL (V.drop 6) k + V.getD (6 + k) 0 - 1 := by rw [hmL, gM, if_pos hp]
        have w2 : IntKind.i64.wrap (hmL (V.drop 6) k + V.getD (6 + k) 0) = hmL (V.drop 6) k + V.getD (6 + k) 0 := wrap_in (by unfold In64; omega)
        have w3 : IntKind.i64.wrap (hmL (V.drop 6) k + V.getD (6 + k) 0 - 1) = hmL (V.drop 6) k + V.getD (6 + k) 0 - 1 := wrap_in (by unfold In64; omega)
        simp -implicitDefEqProofs only [lk_normal, hkl, ge, hV, hlk, hp, w1, w2, w3, ZB, Int.reduceToNat, Nat.reduceLT, Nat.reduceLeDiff, Int.reduceLE, Int.reduceLT, Nat.reduceEqDiff, Nat.reduceSub, SB, SV.known, packR, ne_eq, reduceCtorEq, Nat.reduceEqDiff, ↓reduceIte, if_true, if_false, eq_self, Nat.reduceAdd, Nat.reduceMul, Nat.reduceSub, forall_const, oneCellS, Kd.isSca, flat, TYB]
        (try (and_intros <;> try (first | omega | (unfold In64; omega) | trivial | assumption)))
        refine ⟨k + 1, ?_, ?_, Sub.mk_id ?_ ?_ ?_ ?_ ?_⟩
        all_goals (try (simp only [es, em, LB, subS, subH, wfS, wfH, SV.ren, renL, SObj.ren, SV.wf, SObj.wf, wfL, SV.known, Nat.reduceEqDiff, ↓reduceIte, if_true, if_false, eq_self, Nat.reduceAdd, Nat.reduceLT, Nat.reduceLeDiff, implies_true, reduceCtorEq, forall_const]; done))
        all_goals (try (simp only [es, em, LB, subS, subH, wfS, wfH, SV.ren, renL, SObj.ren, SV.wf, SObj.wf, wfL, SV.known, Nat.reduceEqDiff, ↓reduceIte, if_true, if_false, eq_self, Nat.reduceAdd, Nat.reduceLT, Nat.reduceLeDiff, implies_true, reduceCtorEq, forall_const]; simp; done))
        all_goals (try (simp only [es, em, LB, subS, subH, wfS, wfH, SV.ren, renL, SObj.ren, SV.wf, SObj.wf, wfL, SV.known, Nat.reduceEqDiff, ↓reduceIte, if_true, if_false, eq_self, Nat.reduceAdd, Nat.reduceLT, Nat.reduceLeDiff, implies_true, reduceCtorEq, forall_const]; (and_intros <;> (first | omega | rfl | (simp; done) | (simp; omega))); done))
        all_goals (try dsimp only)
        all_goals (and_intros <;> try (first | omega | (unfold In64; omega) | trivial | assumption))
      · have hp2 : ¬ 0 < V.getD k 0 := fun h => hp ((hTM k hlt).2 h)
        have es : hidL (V.take 6) (V.drop 12) (k + 1) = hidL (V.take 6) (V.drop 12) k := by rw [hidL, ge, if_neg hp2]
        have em : hmL (V.drop 6) (k + 1) = hmL (V.drop 6) k := by rw [hmL, gM, if_neg hp]
        simp -implicitDefEqProofs only [lk_normal, hkl, ge, hV, hlk, hp, w1, ZB, Int.reduceToNat, Nat.reduceLT, Nat.reduceLeDiff, Int.reduceLE, Int.reduceLT, Nat.reduceEqDiff, Nat.reduceSub, SB, SV.known, packR, ne_eq, reduceCtorEq, Nat.reduceEqDiff, ↓reduceIte, if_true, if_false, eq_self, Nat.reduceAdd, Nat.reduceMul, Nat.reduceSub, forall_const, oneCellS, Kd.isSca, flat, TYB]
        (try (and_intros <;> try (first | omega | (unfold In64; omega) | trivial | assumption)))
        refine ⟨k + 1, ?_, ?_, Sub.mk_id ?_ ?_ ?_ ?_ ?_⟩
        all_goals (try (simp only [es, em, LB, subS, subH, wfS, wfH, SV.ren, renL, SObj.ren, SV.wf, SObj.wf, wfL, SV.known, Nat.reduceEqDiff, ↓reduceIte, if_true, if_false, eq_self, Nat.reduceAdd, Nat.reduceLT, Nat.reduceLeDiff, implies_true, reduceCtorEq, forall_const]; done))
        all_goals (try (simp only [es, em, LB, subS, subH, wfS, wfH, SV.ren, renL, SObj.ren, SV.wf, SObj.wf, wfL, SV.known, Nat.reduceEqDiff, ↓reduceIte, if_true, if_false, eq_self, Nat.reduceAdd, Nat.reduceLT, Nat.reduceLeDiff, implies_true, reduceCtorEq, forall_const]; simp; done))
        all_goals (try (simp only [es, em, LB, subS, subH, wfS, wfH, SV.ren, renL, SObj.ren, SV.wf, SObj.wf, wfL, SV.known, Nat.reduceEqDiff, ↓reduceIte, if_true, if_false, eq_self, Nat.reduceAdd, Nat.reduceLT, Nat.reduceLeDiff, implies_true, reduceCtorEq, forall_const]; (and_intros <;> (first | omega | rfl | (simp; done) | (simp; omega))); done))
        all_goals (try dsimp only)
        all_goals (and_intros <;> try (first | omega | (unfold In64; omega) | trivial | assumption))
    · have hkl : ¬ (k : Int) < 6 := by omega
      obtain rfl : k = 6 := by omega
      simp -implicitDefEqProofs only [lk_normal, hkl, hlk, tkk, ZB, Int.reduceToNat, Nat.reduceLT, Nat.reduceLeDiff, Int.reduceLE, Int.reduceLT, Nat.reduceEqDiff, Nat.reduceSub, SB, SV.known, packR, ne_eq, reduceCtorEq, Nat.reduceEqDiff, ↓reduceIte, if_true, if_false, eq_self, Nat.reduceAdd, Nat.reduceMul, Nat.reduceSub, forall_const, oneCellS, Kd.isSca, flat, TYB]
      (try (and_intros <;> try (first | omega | (unfold In64; omega) | trivial | assumption)))
def l7Hidden_F : List SV → Heap → Option (Prop × SV)
  | [.arr V], _ => some (V.length = 18 ∧ vTop V ∧ vMan V ∧ vTM V, .tup [.int (hmL (V.drop 6) 6), .arr (hidL (V.take 6) (V.drop 12) 6)])
  | _, _ => none
theorem l7Hidden_T : ∀ args H p v, l7Hidden_F args H = some (p, v) → p → PureH Try.prog 50 args H v := by
  intro args H p v h hp
  unfold l7Hidden_F at h
  split at h
  · cases h; exact (l7Hidden_ok _ hp.1 hp.2.1 hp.2.2.1 hp.2.2.2).any _
  · cases h
/-! The view of a rack. -/
theorem topL_bd {R : List Int} (hR : R.length = 24) (hr : rackB R = true) : ∀ k, k < 6 → 0 ≤ (topL R).getD k 0 ∧ (topL R).getD k 0 ≤ 5 := fun k hk => by
  rw [topL_getD R k hk]
  obtain ⟨h1, h2⟩ := tube_cells (tubeAt_len hR hk) (tubeAt_ok hr hk)
  rcases Nat.eq_zero_or_pos (layN (tubeAt R k)) with h0 | h0
  · have : topF (tubeAt R k) = (0, 0) := by simp [topF, runsL, h0]
    rw [this]; simp
  · obtain ⟨r, hr1, _⟩ := topF_run _ (tubeAt_len hR hk) h0
    rw [hr1]
    have := h1 (layN (tubeAt R k) - 1) (by omega)
    simp only
    omega
theorem viewF_take (R : List Int) : (viewF R).take 6 = topL R := by
  unfold viewF
  rw [List.append_assoc]
  exact List.take_left' (topL_len R)
theorem viewF_drop (R : List Int) : (viewF R).drop 12 = ctL R := by
  unfold viewF
  exact List.drop_left' (by rw [List.length_append, topL_len, manL_len])
theorem viewF_man (R : List Int) : (viewF R).drop 6 = manL R ++ ctL R := by
  unfold viewF
  rw [List.append_assoc]
  exact List.drop_left' (topL_len R)
theorem viewF_top {R : List Int} {k : Nat} (hk : k < 6) : (viewF R).getD k 0 = (topF (tubeAt R k)).1 := by
  rw [← take6_get _ _ hk, viewF_take, topL_getD R k hk]
theorem viewF_many {R : List Int} {k : Nat} (hk : k < 6) : (viewF R).getD (6 + k) 0 = (layN (tubeAt R k) : Int) := by
  have : (viewF R).getD (6 + k) 0 = ((viewF R).drop 6).getD k 0 := by simp [List.getD]
  rw [this, viewF_man, ← manL_getD R k hk]
  simp only [List.getD, List.getElem?_append_left (show k < (manL R).length by rw [manL_len]; omega)]
theorem viewF_ok {R : List Int} (hR : R.length = 24) (hr : rackB R = true) : vTop (viewF R) ∧ vMan (viewF R) ∧ vTM (viewF R) := by
  refine ⟨fun k hk => ?_, fun k hk => ?_, fun k hk => ?_⟩
  · rw [← take6_get _ _ hk, viewF_take]; exact topL_bd hR hr k hk
  · rw [viewF_many hk]; have := lay_le _ (tubeAt_len hR hk); omega
  · rw [viewF_many hk, viewF_top hk]
    have := (top_pos _ (tubeAt_len hR hk) (tubeAt_ok hr hk)).1
    omega
end Go.Proofs.Ytfdpeenamkpcbaa
