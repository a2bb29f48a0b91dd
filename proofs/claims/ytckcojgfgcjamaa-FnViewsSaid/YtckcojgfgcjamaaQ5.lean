/- Texts of this claim, joined (Hid, Rank, IsV, Upd, Del, Use, Sort, EqR, CS, Vw0, GL). -/
import Derived.Test.YtckcojgfgcjamaaQ1
import Derived.Test.YtckcojgfgcjamaaQ2
import Derived.Test.YtckcojgfgcjamaaQ3
import Derived.Test.YtckcojgfgcjamaaQ4
import Derived.ChangeKeysEq
import Derived.Laws.StructEq
set_option maxRecDepth 100000
set_option linter.unusedSimpArgs false
set_option linter.unusedVariables false
namespace Go.Proofs.Ytckcojgfgcjamaa
open Go Go.RowKit
def is1 (x c : Int) : Int := if x = c then 1 else 0
/-- How many cells of a tube have a color. -/
def cn (t : List Int) (c : Int) : Int := is1 (t.getD 0 0) c + is1 (t.getD 1 0) c + is1 (t.getD 2 0) c + is1 (t.getD 3 0) c
theorem is1_bd (x c : Int) : 0 ≤ is1 x c ∧ is1 x c ≤ 1 := by unfold is1; split <;> omega
theorem is1_sum {x : Int} (h : 0 ≤ x ∧ x ≤ 5) : is1 x 1 + is1 x 2 + is1 x 3 + is1 x 4 + is1 x 5 = if x = 0 then 0 else 1 := by
  have : x = 0 ∨ x = 1 ∨ x = 2 ∨ x = 3 ∨ x = 4 ∨ x = 5 := by omega
  rcases this with rfl | rfl | rfl | rfl | rfl | rfl <;> simp [is1]
theorem incr_getD (L : List Int) (j k : Nat) (hj : j < L.length) : (incr L j).getD k 0 = L.getD k 0 + (if j = k then 1 else 0) := by
  unfold incr
  simp only [List.getD, List.getElem?_set]
  by_cases h : j = k
  · subst h; simp [hj]
  · simp [h]
/-- Colors of the first cells. -/
theorem cnt_cells {R : List Int} (hR : R.length = 24) (hr : rackB R = true) {c : Nat} (hc : c < 6) : ∀ i, i ≤ 6 → (cntL (R.take (i * 4))).getD c 0 = ((List.range i).map fun q => cn (tubeAt R q) (c : Int)).sum
  | 0, _ => by
    simp only [Nat.zero_mul, List.take_zero, cntL_nil, List.range_zero, List.map_nil, List.sum_nil]
    rw [List.getD_eq_getElem?_getD, List.getElem?_replicate]
    simp [hc]
  | i + 1, hi => by
    have ih := cnt_cells hR hr hc i (by omega)
    have one : ∀ j, j < 4 → (cntL (R.take (i * 4 + (j + 1)))).getD c 0 = (cntL (R.take (i * 4 + j))).getD c 0 + is1 ((tubeAt R i).getD j 0) (c : Int) := fun j hj => by
      obtain ⟨h1, h2, _⟩ := cnt_step hR hr (i := i) (j := j) (by omega) hj
      rw [h1, incr_getD _ _ _ (by rw [cntL_len]; omega), show (tubeAt R i).getD j 0 = R.getD (i * 4 + j) 0 from cut_getD R i j hj]
      unfold is1
      congr 1
      by_cases h : (R.getD (i * 4 + j) 0).toNat = c
      · rw [if_pos h, if_pos (by omega)]
      · rw [if_neg h, if_neg (by omega)]
    rw [show (i + 1) * 4 = i * 4 + (3 + 1) by omega, one 3 (by omega), one 2 (by omega), one 1 (by omega), one 0 (by omega), Nat.add_zero, ih, List.range_succ, List.map_append, List.sum_append]
    simp only [List.map_cons, List.map_nil, List.sum_cons, List.sum_nil, cn]
    omega
/-- Of a tube's layers below its uppermost one, from the j-th on, those with a color. -/
def hcn (t : List Int) (j : Nat) (c : Int) : Int := (if j ≤ 0 ∧ 2 ≤ layN t then is1 (t.getD 0 0) c else 0) + (if j ≤ 1 ∧ 3 ≤ layN t then is1 (t.getD 1 0) c else 0) + (if j ≤ 2 ∧ 4 ≤ layN t then is1 (t.getD 2 0) c else 0)
theorem hcn_bd (t : List Int) (j : Nat) (c : Int) : 0 ≤ hcn t j c ∧ hcn t j c ≤ 3 := by
  have a0 := is1_bd (t.getD 0 0) c
  have a1 := is1_bd (t.getD 1 0) c
  have a2 := is1_bd (t.getD 2 0) c
  unfold hcn
  split <;> split <;> split <;> omega
theorem hcn_end {t : List Int} {j : Nat} (h : layN t ≤ j + 1) (c : Int) : hcn t j c = 0 := by
  unfold hcn
  rw [if_neg (by omega), if_neg (by omega), if_neg (by omega)]; rfl
theorem hcn_step {t : List Int} {j : Nat} (h : j + 2 ≤ layN t) (h4 : layN t ≤ 4) (c : Int) : hcn t j c = is1 (t.getD j 0) c + hcn t (j + 1) c := by
  rcases (show j = 0 ∨ j = 1 ∨ j = 2 by omega) with rfl | rfl | rfl
  · unfold hcn
    rw [if_pos (by omega), if_neg (show ¬ (0 + 1 ≤ 0 ∧ 2 ≤ layN t) by omega)]
    split <;> split <;> omega
  · unfold hcn
    rw [if_neg (show ¬ (1 ≤ 0 ∧ 2 ≤ layN t) by omega), if_pos (show 1 ≤ 1 ∧ 3 ≤ layN t by omega), if_neg (show ¬ (1 + 1 ≤ 0 ∧ 2 ≤ layN t) by omega), if_neg (show ¬ (1 + 1 ≤ 1 ∧ 3 ≤ layN t) by omega)]
    split <;> omega
  · unfold hcn
    rw [if_neg (show ¬ (2 ≤ 0 ∧ 2 ≤ layN t) by omega), if_neg (show ¬ (2 ≤ 1 ∧ 3 ≤ layN t) by omega), if_pos (show 2 ≤ 2 ∧ 4 ≤ layN t by omega), if_neg (show ¬ (2 + 1 ≤ 0 ∧ 2 ≤ layN t) by omega), if_neg (show ¬ (2 + 1 ≤ 1 ∧ 3 ≤ layN t) by omega), if_neg (show ¬ (2 + 1 ≤ 2 ∧ 4 ≤ layN t) by omega)]
    omega
theorem cn_hcn {t : List Int} (ht : t.length = 4) (hb : tubeB t = true) {c : Int} (hc : 1 ≤ c) : cn t c = hcn t 0 c + is1 (topF t).1 c := by
  obtain ⟨h1, h2⟩ := tube_cells ht hb
  have hle := lay_le t ht
  have z : is1 0 c = 0 := by unfold is1; rw [if_neg (by omega)]
  have top : ∀ n, layN t = n + 1 → (topF t).1 = t.getD n 0 := fun n hn => by
    obtain ⟨r, hr1, _⟩ := topF_run t ht (by omega)
    rw [hr1, hn]; rfl
  have top0 : layN t = 0 → (topF t).1 = 0 := fun h => by
    have : topF t = (0, 0) := by simp [topF, runsL, h]
    rw [this]
  unfold cn hcn
  rcases (show layN t = 0 ∨ layN t = 1 ∨ layN t = 2 ∨ layN t = 3 ∨ layN t = 4 by omega) with h | h | h | h | h
  · rw [top0 h, h2 0 (by omega), h2 1 (by omega), h2 2 (by omega), h2 3 (by omega), z, h]; simp
  · rw [top 0 h, h2 1 (by omega), h2 2 (by omega), h2 3 (by omega), z, h]; simp
  · rw [top 1 h, h2 2 (by omega), h2 3 (by omega), z, h]; simp
  · rw [top 2 h, h2 3 (by omega), z, h]; simp
  · rw [top 3 h, h]; simp
/-- What the last tubes hide. -/
def remT (R : List Int) (c : Int) : Nat → Int
  | 0 => 0
  | m + 1 => hcn (tubeAt R (5 - m)) 0 c + remT R c m
theorem remT_bd (R : List Int) (c : Int) : ∀ m, 0 ≤ remT R c m ∧ remT R c m ≤ 3 * m
  | 0 => by simp [remT]
  | m + 1 => by
    have := remT_bd R c m
    have := hcn_bd (tubeAt R (5 - m)) 0 c
    unfold remT
    omega
def wr (x : Int) : Int := IntKind.i64.wrap x
theorem wr_in {x : Int} (h : In64 x) : wr x = x := wrap_in h
/-- Counts without those of the tops. -/
def hidL (T C : List Int) : Nat → List Int
  | 0 => C
  | k + 1 => if 0 < T.getD k 0 then (hidL T C k).set (T.getD k 0).toNat (wr ((hidL T C k).getD (T.getD k 0).toNat 0 - 1)) else hidL T C k
theorem hidL_len (T C : List Int) : ∀ k, (hidL T C k).length = C.length
  | 0 => rfl
  | k + 1 => by
    unfold hidL
    split
    · rw [List.length_set, hidL_len T C k]
    · exact hidL_len T C k
theorem hidL_zero (T C : List Int) (hC : 0 < C.length) : ∀ k, (hidL T C k).getD 0 0 = C.getD 0 0
  | 0 => rfl
  | k + 1 => by
    unfold hidL
    split
    · rename_i h
      rw [← hidL_zero T C hC k]
      have : ∀ (L : List Int) (j : Nat) (x : Int), 0 < j → (L.set j x).getD 0 0 = L.getD 0 0 := fun L j x h => by
        simp only [List.getD, List.getElem?_set]
        rw [if_neg (by omega)]
      exact this _ _ _ (by omega)
    · exact hidL_zero T C hC k
theorem hidL_get {T C : List Int} (hC : C.length = 6) (hT : ∀ k, k < 6 → 0 ≤ T.getD k 0 ∧ T.getD k 0 ≤ 5) {c : Nat} (hc : 1 ≤ c) (hc6 : c < 6) (h24 : 0 ≤ C.getD c 0 ∧ C.getD c 0 ≤ 24) : ∀ k, k ≤ 6 →
    (hidL T C k).getD c 0 = C.getD c 0 - ((List.range k).map fun q => is1 (T.getD q 0) (c : Int)).sum ∧ 0 ≤ ((List.range k).map fun q => is1 (T.getD q 0) (c : Int)).sum ∧ ((List.range k).map fun q => is1 (T.getD q 0) (c : Int)).sum ≤ k
  | 0, _ => by simp [hidL]
  | k + 1, hk => by
    obtain ⟨h1, h2, h3⟩ := hidL_get hC hT hc hc6 h24 k (by omega)
    have hl := hidL_len T C k
    have hb := is1_bd (T.getD k 0) (c : Int)
    have ht := hT k (by omega)
    rw [List.range_succ, List.map_append, List.sum_append]
    simp only [List.map_cons, List.map_nil, List.sum_cons, List.sum_nil]
    refine ⟨?_, by omega, by omega⟩
    unfold hidL
    split
    · rename_i hp
      by_cases hcc : (T.getD k 0).toNat = c
      · have e1 : is1 (T.getD k 0) (c : Int) = 1 := by unfold is1; rw [if_pos (by omega)]
        rw [e1, hcc, wr_in (by rw [h1]; unfold In64; omega)]
        have : ∀ (L : List Int) (x : Int), c < L.length → (L.set c x).getD c 0 = x := fun L x h => by simp [List.getD, h]
        rw [this _ _ (by omega), h1]
        omega
      · have e1 : is1 (T.getD k 0) (c : Int) = 0 := by unfold is1; rw [if_neg (by omega)]
        rw [e1]
        have : ∀ (L : List Int) (j : Nat) (x : Int), j ≠ c → (L.set j x).getD c 0 = L.getD c 0 := fun L j x h => by simp [List.getD, List.getElem?_set, h]
        rw [this _ _ _ hcc, h1]
        omega
    · rename_i hp
      have e1 : is1 (T.getD k 0) (c : Int) = 0 := by unfold is1; rw [if_neg (by omega)]
      rw [h1, e1]; omega
/-- The hidden counts of a rack. -/
theorem hid_rack {R : List Int} (hR : R.length = 24) (hr : rackB R = true) {c : Nat} (hc : 1 ≤ c) (hc6 : c < 6) : (hidL (topL R) (ctL R) 6).getD c 0 = remT R c 6 := by
  have hT : ∀ k, k < 6 → 0 ≤ (topL R).getD k 0 ∧ (topL R).getD k 0 ≤ 5 := fun k hk => by
    rw [topL_getD R k hk]
    obtain ⟨h1, h2⟩ := tube_cells (tubeAt_len hR hk) (tubeAt_ok hr hk)
    rcases Nat.eq_zero_or_pos (layN (tubeAt R k)) with h0 | h0
    · have : topF (tubeAt R k) = (0, 0) := by simp [topF, runsL, h0]
      rw [this]; simp
    · obtain ⟨r, hr1, _⟩ := topF_run _ (tubeAt_len hR hk) h0
      rw [hr1]
      have := h1 (layN (tubeAt R k) - 1) (by omega)
      simp only
      omega
  have e0 : (ctL R).getD c 0 = (cntL R).getD c 0 := by
    unfold ctL
    simp only [List.getD, List.getElem?_set]
    rw [if_neg (by omega)]
  have e1 := cnt_cells hR hr hc6 6 (Nat.le_refl _)
  rw [show R.take (6 * 4) = R from List.take_of_length_le (by omega)] at e1
  have cb : ∀ i, i < 6 → cn (tubeAt R i) (c : Int) = hcn (tubeAt R i) 0 c + is1 (topF (tubeAt R i)).1 c := fun i hi => cn_hcn (tubeAt_len hR hi) (tubeAt_ok hr hi) (by omega)
  have six : ∀ f : Nat → Int, ((List.range 6).map f).sum = f 0 + f 1 + f 2 + f 3 + f 4 + f 5 := fun f => by
    simp [List.range_succ]; omega
  rw [six, cb 0 (by omega), cb 1 (by omega), cb 2 (by omega), cb 3 (by omega), cb 4 (by omega), cb 5 (by omega)] at e1
  have b0 := hcn_bd (tubeAt R 0) 0 c
  have b1 := hcn_bd (tubeAt R 1) 0 c
  have b2 := hcn_bd (tubeAt R 2) 0 c
  have b3 := hcn_bd (tubeAt R 3) 0 c
  have b4 := hcn_bd (tubeAt R 4) 0 c
  have b5 := hcn_bd (tubeAt R 5) 0 c
  have t0 := is1_bd (topF (tubeAt R 0)).1 c
  have t1 := is1_bd (topF (tubeAt R 1)).1 c
  have t2 := is1_bd (topF (tubeAt R 2)).1 c
  have t3 := is1_bd (topF (tubeAt R 3)).1 c
  have t4 := is1_bd (topF (tubeAt R 4)).1 c
  have t5 := is1_bd (topF (tubeAt R 5)).1 c
  obtain ⟨g1, _, _⟩ := hidL_get (ctL_len R) hT hc hc6 (by rw [e0]; omega) 6 (Nat.le_refl _)
  rw [g1, six, e0, topL_getD R 0 (by omega), topL_getD R 1 (by omega), topL_getD R 2 (by omega), topL_getD R 3 (by omega), topL_getD R 4 (by omega), topL_getD R 5 (by omega)]
  simp only [remT, Nat.sub_self, Nat.reduceSub, Nat.sub_zero]
  omega
--@tbl hidden = (impl.View).hidden
--@tbl l7Hidden = spec.l7Hidden
/-- What is asked of a view's tops and numbers. -/
def vTop (V : List Int) : Prop := ∀ k, k < 6 → 0 ≤ V.getD k 0 ∧ V.getD k 0 ≤ 5
def vMan (V : List Int) : Prop := ∀ k, k < 6 → 0 ≤ V.getD (6 + k) 0 ∧ V.getD (6 + k) 0 ≤ 4
def vTM (V : List Int) : Prop := ∀ k, k < 6 → (0 < V.getD (6 + k) 0 ↔ 0 < V.getD k 0)
theorem take6_get (V : List Int) (k : Nat) (h : k < 6) : (V.take 6).getD k 0 = V.getD k 0 := by simp [List.getD, List.getElem?_take, h]
theorem wr_small (i : Nat) (h : i < 1000) : IntKind.i64.wrap ((i : Int) + 1) = (i : Int) + 1 := wrap_in (by unfold In64; omega)
theorem hidden_ok (V : List Int) (hV : V.length = 18) (hT : ∀ k, k < 6 → 0 ≤ V.getD k 0 ∧ V.getD k 0 ≤ 5) : PureH Try.prog 53 [.arr V] [] (.arr (hidL (V.take 6) (V.drop 12) 6)) := by
  have tkV : V.take 18 = V := List.take_of_length_le (by omega)
  have lenC : (V.drop 12).length = 6 := by rw [List.length_drop]; omega
  have tkC : (V.drop 12).take 6 = V.drop 12 := List.take_of_length_le (by omega)
  have lenT : (V.take 6).length = 6 := by rw [List.length_take]; omega
  have hl := hidL_len (V.take 6) (V.drop 12)
  refine pure_of_vc (X := ⟨Try.prog, tys, [], [], false, true, 0, [], []⟩) fn_53 ⟨tys_ok, .nil, .nil, mixed⟩ (n0 := 0) (Nat.le_of_ble_eq_true rfl) (by simp [wfL, SV.wf]) (wfH_spec (by simp [wfH, SObj.wf, wfL, SV.wf])) (Nat.le_refl _) (fun _ => by simp [SV.wf, wfL]) ?_
  simp -implicitDefEqProofs only [Try.f53, Option.getD_some, argS, hV, tkV, lenC, tkC, ZB, Int.reduceToNat, Nat.reduceLT, Nat.reduceLeDiff, Int.reduceLE, Int.reduceLT, Nat.reduceEqDiff, Nat.reduceSub, SB, SV.known, packR, ne_eq, reduceCtorEq, Nat.reduceEqDiff, ↓reduceIte, if_true, if_false, eq_self, Nat.reduceAdd, Nat.reduceMul, Nat.reduceSub, forall_const, oneCellS, litOne, flat1, Kd.isSca, flat, TYB]
  refine loop_intro (fun k : Nat => [(10, .int k), (9, .arr (V.take 6)), (3, .ptr 2 0), (2, .ptr 1 0)]) (fun k => [(2, .ints (hidL (V.take 6) (V.drop 12) k) 29), (1, .ints (List.replicate 6 0) 29)]) 3 (fun k => k ≤ 6) (fun k => 6 - k) ?_ ?_
  · refine ⟨0, ?_, Sub.mk_id ?_ ?_ ?_ ?_ ?_⟩
    all_goals (try (simp only [hidL, LB, subS, subH, wfS, wfH, SV.ren, renL, SObj.ren, SV.wf, SObj.wf, wfL, SV.known, Nat.reduceEqDiff, ↓reduceIte, if_true, if_false, eq_self, Nat.reduceAdd, Nat.reduceLT, Nat.reduceLeDiff, implies_true, reduceCtorEq, forall_const]; done))
    all_goals (try (simp only [hidL, LB, subS, subH, wfS, wfH, SV.ren, renL, SObj.ren, SV.wf, SObj.wf, wfL, SV.known, Nat.reduceEqDiff, ↓reduceIte, if_true, if_false, eq_self, Nat.reduceAdd, Nat.reduceLT, Nat.reduceLeDiff, implies_true, reduceCtorEq, forall_const]; simp; done))
    all_goals (try (simp only [hidL, LB, subS, subH, wfS, wfH, SV.ren, renL, SObj.ren, SV.wf, SObj.wf, wfL, SV.known, Nat.reduceEqDiff, ↓reduceIte, if_true, if_false, eq_self, Nat.reduceAdd, Nat.reduceLT, Nat.reduceLeDiff, implies_true, reduceCtorEq, forall_const]; (and_intros <;> (first | omega | rfl | (simp; done) | (simp; omega))); done))
    all_goals (try dsimp only)
    all_goals (and_intros <;> try (first | omega | (unfold In64; omega) | trivial | assumption))
  · intro k hk
    have hlk : (hidL (V.take 6) (V.drop 12) k).length = 6 := by rw [hl]; exact lenC
    have tkk : (hidL (V.take 6) (V.drop 12) k).take 6 = hidL (V.take 6) (V.drop 12) k := List.take_of_length_le (by omega)
    by_cases hlt : k < 6
    · have hkl : (k : Int) < 6 := by omega
      have ge := take6_get V k hlt
      have hb := hT k hlt
      have w1 := wr_small k (by omega)
      by_cases hp : 0 < V.getD k 0
      · have es : hidL (V.take 6) (V.drop 12) (k + 1) = (hidL (V.take 6) (V.drop 12) k).set (V.getD k 0).toNat (IntKind.i64.wrap ((hidL (V.take 6) (V.drop 12) k).getD (V.getD k 0).toNat 0 - 1)) := by
          rw [hidL, ge, if_pos hp]; rfl
        simp -implicitDefEqProofs only [lk_normal, hkl, ge, hlk, lenT, hp, w1, ZB, Int.reduceToNat, Nat.reduceLT, Nat.reduceLeDiff, Int.reduceLE, Int.reduceLT, Nat.reduceEqDiff, Nat.reduceSub, SB, SV.known, packR, ne_eq, reduceCtorEq, Nat.reduceEqDiff, ↓reduceIte, if_true, if_false, eq_self, Nat.reduceAdd, Nat.reduceMul, Nat.reduceSub, forall_const, oneCellS, litOne, flat1, Kd.isSca, flat, TYB]
        (try (and_intros <;> try (first | omega | (unfold In64; omega) | trivial | assumption)))
        refine ⟨k + 1, ?_, ?_, Sub.mk_id ?_ ?_ ?_ ?_ ?_⟩
        all_goals (try (simp only [es, LB, subS, subH, wfS, wfH, SV.ren, renL, SObj.ren, SV.wf, SObj.wf, wfL, SV.known, Nat.reduceEqDiff, ↓reduceIte, if_true, if_false, eq_self, Nat.reduceAdd, Nat.reduceLT, Nat.reduceLeDiff, implies_true, reduceCtorEq, forall_const]; done))
        all_goals (try (simp only [es, LB, subS, subH, wfS, wfH, SV.ren, renL, SObj.ren, SV.wf, SObj.wf, wfL, SV.known, Nat.reduceEqDiff, ↓reduceIte, if_true, if_false, eq_self, Nat.reduceAdd, Nat.reduceLT, Nat.reduceLeDiff, implies_true, reduceCtorEq, forall_const]; simp; done))
        all_goals (try (simp only [es, LB, subS, subH, wfS, wfH, SV.ren, renL, SObj.ren, SV.wf, SObj.wf, wfL, SV.known, Nat.reduceEqDiff, ↓reduceIte, if_true, if_false, eq_self, Nat.reduceAdd, Nat.reduceLT, Nat.reduceLeDiff, implies_true, reduceCtorEq, forall_const]; (and_intros <;> (first | omega | rfl | (simp; done) | (simp; omega))); done))
        all_goals (try dsimp only)
        all_goals (and_intros <;> try (first | omega | (unfold In64; omega) | trivial | assumption))
      · have es : hidL (V.take 6) (V.drop 12) (k + 1) = hidL (V.take 6) (V.drop 12) k := by rw [hidL, ge, if_neg hp]
        simp -implicitDefEqProofs only [lk_normal, hkl, ge, hlk, lenT, hp, w1, ZB, Int.reduceToNat, Nat.reduceLT, Nat.reduceLeDiff, Int.reduceLE, Int.reduceLT, Nat.reduceEqDiff, Nat.reduceSub, SB, SV.known, packR, ne_eq, reduceCtorEq, Nat.reduceEqDiff, ↓reduceIte, if_true, if_false, eq_self, Nat.reduceAdd, Nat.reduceMul, Nat.reduceSub, forall_const, oneCellS, litOne, flat1, Kd.isSca, flat, TYB]
        (try (and_intros <;> try (first | omega | (unfold In64; omega) | trivial | assumption)))
        refine ⟨k + 1, ?_, ?_, Sub.mk_id ?_ ?_ ?_ ?_ ?_⟩
        all_goals (try (simp only [es, LB, subS, subH, wfS, wfH, SV.ren, renL, SObj.ren, SV.wf, SObj.wf, wfL, SV.known, Nat.reduceEqDiff, ↓reduceIte, if_true, if_false, eq_self, Nat.reduceAdd, Nat.reduceLT, Nat.reduceLeDiff, implies_true, reduceCtorEq, forall_const]; done))
        all_goals (try (simp only [es, LB, subS, subH, wfS, wfH, SV.ren, renL, SObj.ren, SV.wf, SObj.wf, wfL, SV.known, Nat.reduceEqDiff, ↓reduceIte, if_true, if_false, eq_self, Nat.reduceAdd, Nat.reduceLT, Nat.reduceLeDiff, implies_true, reduceCtorEq, forall_const]; simp; done))
        all_goals (try (simp only [es, LB, subS, subH, wfS, wfH, SV.ren, renL, SObj.ren, SV.wf, SObj.wf, wfL, SV.known, Nat.reduceEqDiff, ↓reduceIte, if_true, if_false, eq_self, Nat.reduceAdd, Nat.reduceLT, Nat.reduceLeDiff, implies_true, reduceCtorEq, forall_const]; (and_intros <;> (first | omega | rfl | (simp; done) | (simp; omega))); done))
        all_goals (try dsimp only)
        all_goals (and_intros <;> try (first | omega | (unfold In64; omega) | trivial | assumption))
    · have hkl : ¬ (k : Int) < 6 := by omega
      obtain rfl : k = 6 := by omega
      simp -implicitDefEqProofs only [lk_normal, hkl, hlk, tkk, lenT, ZB, Int.reduceToNat, Nat.reduceLT, Nat.reduceLeDiff, Int.reduceLE, Int.reduceLT, Nat.reduceEqDiff, Nat.reduceSub, SB, SV.known, packR, ne_eq, reduceCtorEq, Nat.reduceEqDiff, ↓reduceIte, if_true, if_false, eq_self, Nat.reduceAdd, Nat.reduceMul, Nat.reduceSub, forall_const, oneCellS, litOne, flat1, Kd.isSca, flat, TYB]
      (try (and_intros <;> try (first | omega | (unfold In64; omega) | trivial | assumption)))
def hidden_F : List SV → Heap → Option (Prop × SV)
  | [.arr V], _ => some (V.length = 18 ∧ vTop V, .arr (hidL (V.take 6) (V.drop 12) 6))
  | _, _ => none
theorem hidden_T : ∀ args H p v, hidden_F args H = some (p, v) → p → PureH Try.prog 53 args H v := by
  intro args H p v h hp
  unfold hidden_F at h
  split at h
  · cases h; exact (hidden_ok _ hp.1 hp.2).any _
  · cases h
def hmL (M : List Int) : Nat → Int
  | 0 => 0
  | k + 1 => if 0 < M.getD k 0 then hmL M k + M.getD k 0 - 1 else hmL M k
theorem hmL_bd {M : List Int} (hM : ∀ k, k < 6 → 0 ≤ M.getD k 0 ∧ M.getD k 0 ≤ 4) : ∀ k, k ≤ 6 → 0 ≤ hmL M k ∧ hmL M k ≤ 3 * k
  | 0, _ => by simp [hmL]
  | k + 1, hk => by
    have := hmL_bd hM k (by omega)
    have := hM k (by omega)
    unfold hmL
    split <;> omega
theorem l7Hidden_ok (V : List Int) (hV : V.length = 18) (hT : ∀ k, k < 6 → 0 ≤ V.getD k 0 ∧ V.getD k 0 ≤ 5) (hM : ∀ k, k < 6 → 0 ≤ V.getD (6 + k) 0 ∧ V.getD (6 + k) 0 ≤ 4) (hTM : ∀ k, k < 6 → (0 < V.getD (6 + k) 0 ↔ 0 < V.getD k 0)) : PureH Try.prog 56 [.arr V] [] (.tup [.int (hmL (V.drop 6) 6), .arr (hidL (V.take 6) (V.drop 12) 6)]) := by
  have tkV : V.take 18 = V := List.take_of_length_le (by omega)
  have lenC : (V.drop 12).length = 6 := by rw [List.length_drop]; omega
  have tkC : (V.drop 12).take 6 = V.drop 12 := List.take_of_length_le (by omega)
  have gM : ∀ k, (V.drop 6).getD k 0 = V.getD (6 + k) 0 := fun k => by simp [List.getD]
  have hl := hidL_len (V.take 6) (V.drop 12)
  have hmb := hmL_bd (M := V.drop 6) fun k hk => by rw [gM]; exact hM k hk
  refine pure_of_vc (X := ⟨Try.prog, tys, [], [], false, true, 0, [], []⟩) fn_56 ⟨tys_ok, .nil, .nil, mixed⟩ (n0 := 0) (Nat.le_of_ble_eq_true rfl) (by simp [wfL, SV.wf]) (wfH_spec (by simp [wfH, SObj.wf, wfL, SV.wf])) (Nat.le_refl _) (fun _ => by simp [SV.wf, wfL]) ?_
  simp -implicitDefEqProofs only [Try.f56, Option.getD_some, argS, hV, tkV, lenC, tkC, ZB, Int.reduceToNat, Nat.reduceLT, Nat.reduceLeDiff, Int.reduceLE, Int.reduceLT, Nat.reduceEqDiff, Nat.reduceSub, SB, SV.known, packR, ne_eq, reduceCtorEq, Nat.reduceEqDiff, ↓reduceIte, if_true, if_false, eq_self, Nat.reduceAdd, Nat.reduceMul, Nat.reduceSub, forall_const, oneCellS, litOne, flat1, Kd.isSca, flat, TYB]
  refine loop_intro (fun k : Nat => [(6, .int k), (4, .int (hmL (V.drop 6) k)), (5, .ptr 2 0), (3, .ptr 1 0), (1, .ptr 0 0)]) (fun k => [(2, .ints (hidL (V.take 6) (V.drop 12) k) 29), (1, .ints (List.replicate 6 0) 29), (0, .ints V 31)]) 3 (fun k => k ≤ 6) (fun k => 6 - k) ?_ ?_
  · refine ⟨0, ?_, Sub.mk_id ?_ ?_ ?_ ?_ ?_⟩
    all_goals (try (simp only [hidL, hmL, LB, subS, subH, wfS, wfH, SV.ren, renL, SObj.ren, SV.wf, SObj.wf, wfL, SV.known, Nat.reduceEqDiff, ↓reduceIte, if_true, if_false, eq_self, Nat.reduceAdd, Nat.reduceLT, Nat.reduceLeDiff, implies_true, reduceCtorEq, forall_const]; done))
    all_goals (try (simp only [hidL, hmL, LB, subS, subH, wfS, wfH, SV.ren, renL, SObj.ren, SV.wf, SObj.wf, wfL, SV.known, Nat.reduceEqDiff, ↓reduceIte, if_true, if_false, eq_self, Nat.reduceAdd, Nat.reduceLT, Nat.reduceLeDiff, implies_true, reduceCtorEq, forall_const]; simp; done))
    all_goals (try (simp only [hidL, hmL, LB, subS, subH, wfS, wfH, SV.ren, renL, SObj.ren, SV.wf, SObj.wf, wfL, SV.known, Nat.reduceEqDiff, ↓reduceIte, if_true, if_false, eq_self, Nat.reduceAdd, Nat.reduceLT, Nat.reduceLeDiff, implies_true, reduceCtorEq, forall_const]; (and_intros <;> (first | omega | rfl | (simp; done) | (simp; omega))); done))
    all_goals (try dsimp only)
    all_goals (and_intros <;> try (first | omega | (unfold In64; omega) | trivial | assumption))
  · intro k hk
    have hlk : (hidL (V.take 6) (V.drop 12) k).length = 6 := by rw [hl]; exact lenC
    have tkk : (hidL (V.take 6) (V.drop 12) k).take 6 = hidL (V.take 6) (V.drop 12) k := List.take_of_length_le (by omega)
    by_cases hlt : k < 6
    · have hkl : (k : Int) < 6 := by omega
      have ge := take6_get V k hlt
      have hb := hT k hlt
      have hbM := hM k hlt
      have hmk := hmb k hk
      have w1 := wr_small k (by omega)
      by_cases hp : 0 < V.getD (6 + k) 0
      · have hp2 := (hTM k hlt).1 hp
        have es : hidL (V.take 6) (V.drop 12) (k + 1) = (hidL (V.take 6) (V.drop 12) k).set (V.getD k 0).toNat (IntKind.i64.wrap ((hidL (V.take 6) (V.drop 12) k).getD (V.getD k 0).toNat 0 - 1)) := by
          rw [hidL, ge, if_pos hp2]; rfl
        have em : hmL (V.drop 6) (k + 1) = hmL (V.drop 6) k + V.getD (6 + k) 0 - 1 := by rw [hmL, gM, if_pos hp]
        have w2 : IntKind.i64.wrap (hmL (V.drop 6) k + V.getD (6 + k) 0) = hmL (V.drop 6) k + V.getD (6 + k) 0 := wrap_in (by unfold In64; omega)
        have w3 : IntKind.i64.wrap (hmL (V.drop 6) k + V.getD (6 + k) 0 - 1) = hmL (V.drop 6) k + V.getD (6 + k) 0 - 1 := wrap_in (by unfold In64; omega)
        simp -implicitDefEqProofs only [lk_normal, hkl, ge, hV, hlk, hp, w1, w2, w3, ZB, Int.reduceToNat, Nat.reduceLT, Nat.reduceLeDiff, Int.reduceLE, Int.reduceLT, Nat.reduceEqDiff, Nat.reduceSub, SB, SV.known, packR, ne_eq, reduceCtorEq, Nat.reduceEqDiff, ↓reduceIte, if_true, if_false, eq_self, Nat.reduceAdd, Nat.reduceMul, Nat.reduceSub, forall_const, oneCellS, litOne, flat1, Kd.isSca, flat, TYB]
        (try (and_intros <;> try (first | omega | (unfold In64; omega) | trivial | assumption)))
        refine ⟨k + 1, ?_, ?_, Sub.mk_id ?_ ?_ ?_ ?_ ?_⟩
        all_goals (try (simp only [es, em, LB, subS, subH, wfS, wfH, SV.ren, renL, SObj.ren, SV.wf, SObj.wf, wfL, SV.known, Nat.reduceEqDiff, ↓reduceIte, if_true, if_false, eq_self, Nat.reduceAdd, Nat.reduceLT, Nat.reduceLeDiff, implies_true, reduceCtorEq, forall_const]; done))
        all_goals (try (simp only [es, em, LB, subS, subH, wfS, wfH, SV.ren, renL, SObj.ren, SV.wf, SObj.wf, wfL, SV.known, Nat.reduceEqDiff, ↓reduceIte, if_true, if_false, eq_self, Nat.reduceAdd, Nat.reduceLT, Nat.reduceLeDiff, implies_true, reduceCtorEq, forall_const]; simp; done))
        all_goals (try (simp only [es, em, LB, subS, subH, wfS, wfH, SV.ren, renL, SObj.ren, SV.wf, SObj.wf, wfL, SV.known, Nat.reduceEqDiff, ↓reduceIte, if_true, if_false, eq_self, Nat.reduceAdd, Nat.reduceLT, Nat.reduceLeDiff, implies_true, reduceCtorEq, forall_const]; (and_intros <;> (first | omega | rfl | (simp; done) | (simp; omega))); done))
        all_goals (try dsimp only)
        all_goals (and_intros <;> try (first | omega | (unfold In64; omega) | trivial | assumption))
      · have hp2 : ¬ 0 < V.getD k 0 := fun h => hp ((hTM k hlt).2 h)
        have es : hidL (V.take 6) (V.drop 12) (k + 1) = hidL (V.take 6) (V.drop 12) k := by rw [hidL, ge, if_neg hp2]
        have em : hmL (V.drop 6) (k + 1) = hmL (V.drop 6) k := by rw [hmL, gM, if_neg hp]
        simp -implicitDefEqProofs only [lk_normal, hkl, ge, hV, hlk, hp, w1, ZB, Int.reduceToNat, Nat.reduceLT, Nat.reduceLeDiff, Int.reduceLE, Int.reduceLT, Nat.reduceEqDiff, Nat.reduceSub, SB, SV.known, packR, ne_eq, reduceCtorEq, Nat.reduceEqDiff, ↓reduceIte, if_true, if_false, eq_self, Nat.reduceAdd, Nat.reduceMul, Nat.reduceSub, forall_const, oneCellS, litOne, flat1, Kd.isSca, flat, TYB]
        (try (and_intros <;> try (first | omega | (unfold In64; omega) | trivial | assumption)))
        refine ⟨k + 1, ?_, ?_, Sub.mk_id ?_ ?_ ?_ ?_ ?_⟩
        all_goals (try (simp only [es, em, LB, subS, subH, wfS, wfH, SV.ren, renL, SObj.ren, SV.wf, SObj.wf, wfL, SV.known, Nat.reduceEqDiff, ↓reduceIte, if_true, if_false, eq_self, Nat.reduceAdd, Nat.reduceLT, Nat.reduceLeDiff, implies_true, reduceCtorEq, forall_const]; done))
        all_goals (try (simp only [es, em, LB, subS, subH, wfS, wfH, SV.ren, renL, SObj.ren, SV.wf, SObj.wf, wfL, SV.known, Nat.reduceEqDiff, ↓reduceIte, if_true, if_false, eq_self, Nat.reduceAdd, Nat.reduceLT, Nat.reduceLeDiff, implies_true, reduceCtorEq, forall_const]; simp; done))
        all_goals (try (simp only [es, em, LB, subS, subH, wfS, wfH, SV.ren, renL, SObj.ren, SV.wf, SObj.wf, wfL, SV.known, Nat.reduceEqDiff, ↓reduceIte, if_true, if_false, eq_self, Nat.reduceAdd, Nat.reduceLT, Nat.reduceLeDiff, implies_true, reduceCtorEq, forall_const]; (and_intros <;> (first | omega | rfl | (simp; done) | (simp; omega))); done))
        all_goals (try dsimp only)
        all_goals (and_intros <;> try (first | omega | (unfold In64; omega) | trivial | assumption))
    · have hkl : ¬ (k : Int) < 6 := by omega
      obtain rfl : k = 6 := by omega
      simp -implicitDefEqProofs only [lk_normal, hkl, hlk, tkk, ZB, Int.reduceToNat, Nat.reduceLT, Nat.reduceLeDiff, Int.reduceLE, Int.reduceLT, Nat.reduceEqDiff, Nat.reduceSub, SB, SV.known, packR, ne_eq, reduceCtorEq, Nat.reduceEqDiff, ↓reduceIte, if_true, if_false, eq_self, Nat.reduceAdd, Nat.reduceMul, Nat.reduceSub, forall_const, oneCellS, litOne, flat1, Kd.isSca, flat, TYB]
      (try (and_intros <;> try (first | omega | (unfold In64; omega) | trivial | assumption)))
def l7Hidden_F : List SV → Heap → Option (Prop × SV)
  | [.arr V], _ => some (V.length = 18 ∧ vTop V ∧ vMan V ∧ vTM V, .tup [.int (hmL (V.drop 6) 6), .arr (hidL (V.take 6) (V.drop 12) 6)])
  | _, _ => none
theorem l7Hidden_T : ∀ args H p v, l7Hidden_F args H = some (p, v) → p → PureH Try.prog 56 args H v := by
  intro args H p v h hp
  unfold l7Hidden_F at h
  split at h
  · cases h; exact (l7Hidden_ok _ hp.1 hp.2.1 hp.2.2.1 hp.2.2.2).any _
  · cases h
/-! The view of a rack. -/
theorem topL_bd {R : List Int} (hR : R.length = 24) (hr : rackB R = true) : ∀ k, k < 6 → 0 ≤ (topL R).getD k 0 ∧ (topL R).getD k 0 ≤ 5 := fun k hk => by
  rw [topL_getD R k hk]
  obtain ⟨h1, h2⟩ := tube_cells (tubeAt_len hR hk) (tubeAt_ok hr hk)
  rcases Nat.eq_zero_or_pos (layN (tubeAt R k)) with h0 | h0
  · have : topF (tubeAt R k) = (0, 0) := by simp [topF, runsL, h0]
    rw [this]; simp
  · obtain ⟨r, hr1, _⟩ := topF_run _ (tubeAt_len hR hk) h0
    rw [hr1]
    have := h1 (layN (tubeAt R k) - 1) (by omega)
    simp only
    omega
theorem viewF_take (R : List Int) : (viewF R).take 6 = topL R := by
  unfold viewF
  rw [List.append_assoc]
  exact List.take_left' (topL_len R)
theorem viewF_drop (R : List Int) : (viewF R).drop 12 = ctL R := by
  unfold viewF
  exact List.drop_left' (by rw [List.length_append, topL_len, manL_len])
theorem viewF_man (R : List Int) : (viewF R).drop 6 = manL R ++ ctL R := by
  unfold viewF
  rw [List.append_assoc]
  exact List.drop_left' (topL_len R)
theorem viewF_top {R : List Int} {k : Nat} (hk : k < 6) : (viewF R).getD k 0 = (topF (tubeAt R k)).1 := by
  rw [← take6_get _ _ hk, viewF_take, topL_getD R k hk]
theorem viewF_many {R : List Int} {k : Nat} (hk : k < 6) : (viewF R).getD (6 + k) 0 = (layN (tubeAt R k) : Int) := by
  have : (viewF R).getD (6 + k) 0 = ((viewF R).drop 6).getD k 0 := by simp [List.getD]
  rw [this, viewF_man, ← manL_getD R k hk]
  simp only [List.getD, List.getElem?_append_left (show k < (manL R).length by rw [manL_len]; omega)]
theorem viewF_ok {R : List Int} (hR : R.length = 24) (hr : rackB R = true) : vTop (viewF R) ∧ vMan (viewF R) ∧ vTM (viewF R) := by
  refine ⟨fun k hk => ?_, fun k hk => ?_, fun k hk => ?_⟩
  · rw [← take6_get _ _ hk, viewF_take]; exact topL_bd hR hr k hk
  · rw [viewF_many hk]; have := lay_le _ (tubeAt_len hR hk); omega
  · rw [viewF_many hk, viewF_top hk]
    have := (top_pos _ (tubeAt_len hR hk) (tubeAt_ok hr hk)).1
    omega
end Go.Proofs.Ytckcojgfgcjamaa
set_option maxRecDepth 100000
set_option linter.unusedSimpArgs false
set_option linter.unusedVariables false
namespace Go.Proofs.Ytckcojgfgcjamaa
open Go Go.RowKit
def rkC (L : List Int) (rank : Int) : Nat → Int
  | 0 => rank
  | m + 1 => if 0 < L.getD (m + 1) 0 then wr (rkC L rank m + arrF (L.set (m + 1) (L.getD (m + 1) 0 - 1))) else rkC L rank m
def rkK (t : List Int) (s : Int × List Int) : Nat → Int × List Int
  | 0 => s
  | k + 1 => (rkC (rkK t s k).2 (rkK t s k).1 ((t.getD k 0).toNat - 1), (rkK t s k).2.set (t.getD k 0).toNat ((rkK t s k).2.getD (t.getD k 0).toNat 0 - 1))
def rkT (R : List Int) (s : Int × List Int) : Nat → Int × List Int
  | 0 => s
  | i + 1 => rkK (tubeAt R i) (rkT R s i) (layN (tubeAt R i) - 1)
structure rkI (R L : List Int) (i j : Nat) : Prop where
  a : L.length = 6
  b : L.getD 0 0 = 0
  c : ∀ c : Nat, 1 ≤ c → c < 6 → hcn (tubeAt R i) j c + remT R c (5 - i) ≤ L.getD c 0 ∧ L.getD c 0 ≤ 24
structure rkJ (R L : List Int) (i : Nat) : Prop where
  a : L.length = 6
  b : L.getD 0 0 = 0
  c : ∀ c : Nat, 1 ≤ c → c < 6 → remT R c (6 - i) ≤ L.getD c 0 ∧ L.getD c 0 ≤ 24
theorem rkJ_I {R L : List Int} {i : Nat} (hi : i < 6) (h : rkJ R L i) : rkI R L i 0 := by
  refine ⟨h.a, h.b, fun c h1 h2 => ?_⟩
  have := h.c c h1 h2
  rw [show 6 - i = (5 - i) + 1 by omega, remT, show 5 - (5 - i) = i by omega] at this
  exact this
theorem rkI_J {R L : List Int} {i j : Nat} (hi : i < 6) (hj : layN (tubeAt R i) ≤ j + 1) (h : rkI R L i j) : rkJ R L (i + 1) := by
  refine ⟨h.a, h.b, fun c h1 h2 => ?_⟩
  have := h.c c h1 h2
  rw [hcn_end hj] at this
  rw [show 6 - (i + 1) = 5 - i by omega]
  omega
theorem getD_set_ne (L : List Int) (j c : Nat) (x : Int) (h : j ≠ c) : (L.set j x).getD c 0 = L.getD c 0 := by simp [List.getD, List.getElem?_set, h]
theorem getD_set_eq (L : List Int) (c : Nat) (x : Int) (h : c < L.length) : (L.set c x).getD c 0 = x := by simp [List.getD, h]
theorem set_getD_self (L : List Int) (c : Nat) : L.set c (L.getD c 0) = L := by
  apply List.ext_getElem?
  intro k
  rw [List.getElem?_set]
  split
  · rename_i h
    subst h
    split
    · rename_i h; simp [List.getD, List.getElem?_eq_getElem h]
    · rename_i h; rw [List.getElem?_eq_none (by omega)]
  · rfl
theorem rkI_step {R L : List Int} {i j : Nat} (hR : R.length = 24) (hr : rackB R = true) (hi : i < 6) (hj : j + 2 ≤ layN (tubeAt R i)) (h : rkI R L i j) {x : Nat} (hx : (tubeAt R i).getD j 0 = x) :
    rkI R (L.set x (L.getD x 0 - 1)) i (j + 1) ∧ 1 ≤ x ∧ x < 6 ∧ 1 ≤ L.getD x 0 := by
  have hle := lay_le _ (tubeAt_len hR hi)
  have hx1 := (tube_cells (tubeAt_len hR hi) (tubeAt_ok hr hi)).1 j (by omega)
  rw [hx] at hx1
  have st := fun c => hcn_step hj hle c
  have hb := fun c => hcn_bd (tubeAt R i) (j + 1) c
  have hrem := fun c => remT_bd R c (5 - i)
  refine ⟨⟨by rw [List.length_set]; exact h.a, by rw [getD_set_ne _ _ _ _ (by omega)]; exact h.b, fun c h1 h2 => ?_⟩, by omega, by omega, ?_⟩
  · have g := h.c c h1 h2
    rw [st, hx] at g
    by_cases hc : x = c
    · subst hc
      rw [getD_set_eq _ _ _ (by rw [h.a]; omega)]
      have : is1 (x : Int) x = 1 := by unfold is1; rw [if_pos rfl]
      omega
    · rw [getD_set_ne _ _ _ _ hc]
      have : is1 (x : Int) c = 0 := by unfold is1; rw [if_neg (by omega)]
      omega
  · have g := h.c x (by omega) (by omega)
    rw [st, hx] at g
    have : is1 (x : Int) x = 1 := by unfold is1; rw [if_pos rfl]
    have := hb x
    have := hrem x
    omega
/-- What the walks meet at a color. -/
theorem rkI_bd {R L : List Int} {i j : Nat} (h : rkI R L i j) {c : Nat} (h1 : 1 ≤ c) (h6 : c < 6) (hp : 0 < L.getD c 0) : (L.set c (L.getD c 0 - 1)).length = 6 ∧ Bd 0 1000000 (L.set c (L.getD c 0 - 1)) ∧ (L.set c (L.getD c 0 - 1)).getD 0 0 = 0 := by
  have hb : ∀ k, k < 6 → 0 ≤ L.getD k 0 ∧ L.getD k 0 ≤ 24 := fun k hk => by
    rcases Nat.eq_zero_or_pos k with rfl | hk0
    · rw [h.b]; omega
    · have g := h.c k hk0 hk
      have := hcn_bd (tubeAt R i) j k
      have := remT_bd R k (5 - i)
      omega
  refine ⟨by rw [List.length_set]; exact h.a, fun x hx => ?_, by rw [getD_set_ne _ _ _ _ (by omega)]; exact h.b⟩
  obtain ⟨k, hk, e⟩ := List.getElem_of_mem hx
  rw [List.length_set, h.a] at hk
  have e2 : (L.set c (L.getD c 0 - 1)).getD k 0 = x := by
    have hk2 : k < (L.set c (L.getD c 0 - 1)).length := by rw [List.length_set, h.a]; exact hk
    rw [List.getD_eq_getElem?_getD, List.getElem?_eq_getElem hk2, e]; rfl
  by_cases hc : c = k
  · subst hc
    rw [getD_set_eq _ _ _ (by rw [h.a]; exact h6)] at e2
    have := hb c h6
    omega
  · rw [getD_set_ne _ _ _ _ hc] at e2
    have := hb k hk
    omega
theorem rkJ_zero {R : List Int} (hR : R.length = 24) (hr : rackB R = true) : rkJ R (hidL (topL R) (ctL R) 6) 0 := by
  refine ⟨by rw [hidL_len, ctL_len], ?_, fun c h1 h6 => ?_⟩
  · rw [hidL_zero _ _ (by rw [ctL_len]; omega)]
    unfold ctL
    exact getD_set_eq _ _ _ (by rw [cntL_len]; omega)
  · rw [hid_rack hR hr h1 h6]
    have := remT_bd R c 6
    rw [Nat.sub_zero]
    omega
def rankF (R : List Int) : Int := if rackB R = true then (rkT R (0, hidL (topL R) (ctL R) 6) 6).1 else 0
--@tbl RankOfRack = impl.RankOfRack
--@tbl sRankOfRack = spec.RankOfRack
theorem RankOfRack_ok (R : List Int) (hR : R.length = 24) : PureH Try.prog 9 [.arr R] [] (.tup [.int (rankF R), .bool (rackB R)]) := by
  have tkR : R.take 24 = R := List.take_of_length_le (by omega)
  unfold rankF
  cases hr : rackB R
  · refine pure_of_vc (X := ⟨Try.prog, tys, [(49, IsRack_F), (50, viewOf_F), (53, hidden_F), (54, layers_F), (55, arrangements_F)], [], false, true, 0, [], []⟩) fn_9 ⟨tys_ok, (.cons IsRack_T (.cons viewOf_T (.cons hidden_T (.cons layers_T (.cons arrangements_T .nil))))), .nil, mixed⟩ (n0 := 0) (Nat.le_of_ble_eq_true rfl) (by simp [wfL, SV.wf]) (wfH_spec (by simp [wfH, SObj.wf, wfL, SV.wf])) (Nat.le_refl _) (fun _ => by simp [SV.wf, wfL]) ?_
    simp -implicitDefEqProofs only [Try.f9, Option.getD_some, argS, IsRack_F, viewOf_F, hidden_F, layers_F, arrangements_F, hR, tkR, hr, ZB, Int.reduceToNat, Nat.reduceLT, Nat.reduceLeDiff, Int.reduceLE, Int.reduceLT, Nat.reduceEqDiff, Nat.reduceSub, SB, SV.known, packR, ne_eq, reduceCtorEq, Nat.reduceEqDiff, ↓reduceIte, if_true, if_false, eq_self, Nat.reduceAdd, Nat.reduceMul, Nat.reduceSub, forall_const, oneCellS, litOne, flat1, Kd.isSca, flat, TYB]
  obtain ⟨v1, v2, v3⟩ := viewF_ok hR hr
  have v4 := viewF_len R
  have v5 := viewF_take R
  have v6 := viewF_drop R
  have j0 := rkJ_zero hR hr
  have hl0 := j0.a
  refine pure_of_vc (X := ⟨Try.prog, tys, [(49, IsRack_F), (50, viewOf_F), (53, hidden_F), (54, layers_F), (55, arrangements_F)], [], false, true, 0, [], []⟩) fn_9 ⟨tys_ok, (.cons IsRack_T (.cons viewOf_T (.cons hidden_T (.cons layers_T (.cons arrangements_T .nil))))), .nil, mixed⟩ (n0 := 0) (Nat.le_of_ble_eq_true rfl) (by simp [wfL, SV.wf]) (wfH_spec (by simp [wfH, SObj.wf, wfL, SV.wf])) (Nat.le_refl _) (fun _ => by simp [SV.wf, wfL]) ?_
  simp -implicitDefEqProofs only [Try.f9, Option.getD_some, argS, IsRack_F, viewOf_F, hidden_F, layers_F, arrangements_F, hR, tkR, hr, v1, v4, v5, v6, hl0, ZB, Int.reduceToNat, Nat.reduceLT, Nat.reduceLeDiff, Int.reduceLE, Int.reduceLT, Nat.reduceEqDiff, Nat.reduceSub, SB, SV.known, packR, ne_eq, reduceCtorEq, Nat.reduceEqDiff, ↓reduceIte, if_true, if_false, eq_self, Nat.reduceAdd, Nat.reduceMul, Nat.reduceSub, forall_const, oneCellS, litOne, flat1, Kd.isSca, flat, TYB]
  generalize hs0 : ((0 : Int), hidL (topL R) (ctL R) 6) = s0 at *
  have e0 : hidL (topL R) (ctL R) 6 = s0.2 := by rw [← hs0]
  have e1 : s0.1 = 0 := by rw [← hs0]
  rw [e0] at j0 hl0 ⊢
  refine loop_intro (fun i : Nat => [(19, .int i), (18, .arr R), (5, .int (rkT R s0 i).1), (4, .ptr 1 0)]) (fun i => [(1, .ints (rkT R s0 i).2 29)]) 2 (fun i => i ≤ 6 ∧ rkJ R (rkT R s0 i).2 i) (fun i => 6 - i) ?_ ?_
  · refine ⟨0, ?_, Sub.mk_id ?_ ?_ ?_ ?_ ?_⟩
    all_goals (try (simp only [rkT, e1, LB, subS, subH, wfS, wfH, SV.ren, renL, SObj.ren, SV.wf, SObj.wf, wfL, SV.known, Nat.reduceEqDiff, ↓reduceIte, if_true, if_false, eq_self, Nat.reduceAdd, Nat.reduceLT, Nat.reduceLeDiff, implies_true, reduceCtorEq, forall_const]; done))
    all_goals (try (simp only [rkT, e1, LB, subS, subH, wfS, wfH, SV.ren, renL, SObj.ren, SV.wf, SObj.wf, wfL, SV.known, Nat.reduceEqDiff, ↓reduceIte, if_true, if_false, eq_self, Nat.reduceAdd, Nat.reduceLT, Nat.reduceLeDiff, implies_true, reduceCtorEq, forall_const]; simp; done))
    all_goals (try (simp only [rkT, e1, LB, subS, subH, wfS, wfH, SV.ren, renL, SObj.ren, SV.wf, SObj.wf, wfL, SV.known, Nat.reduceEqDiff, ↓reduceIte, if_true, if_false, eq_self, Nat.reduceAdd, Nat.reduceLT, Nat.reduceLeDiff, implies_true, reduceCtorEq, forall_const]; (and_intros <;> (first | omega | rfl | (simp; done) | (simp; omega))); done))
    all_goals (try dsimp only)
    all_goals (and_intros <;> try (first | omega | (unfold In64; omega) | trivial | assumption))
  · rintro i ⟨hi, hJ⟩
    by_cases hlt : i < 6
    · have hil : (i : Int) < 6 := by omega
      have w1 := wr_small i (by omega)
      have ht : (tubeAt R i).length = 4 := tubeAt_len hR hlt
      have tkt : (tubeAt R i).take 4 = tubeAt R i := List.take_of_length_le (by omega)
      have et : List.take 4 (List.drop (i * 4) R) = tubeAt R i := rfl
      have hle := lay_le _ ht
      have w2 : IntKind.i64.wrap ((layN (tubeAt R i) : Int) - 1) = (layN (tubeAt R i) : Int) - 1 := wrap_in (by unfold In64; omega)
      have em : ((max ((layN (tubeAt R i) : Int) - 1) 0).toNat) = layN (tubeAt R i) - 1 := by omega
      have eb : max ((layN (tubeAt R i) : Int) - 1) 0 ≤ 4 := by omega
      have ec : 0 ≤ max ((layN (tubeAt R i) : Int) - 1) 0 := by omega
      simp -implicitDefEqProofs only [lk_normal, layers_F, hil, hR, et, ht, tkt, w2, em, eb, ec, ZB, Int.reduceToNat, Nat.reduceLT, Nat.reduceLeDiff, Int.reduceLE, Int.reduceLT, Nat.reduceEqDiff, Nat.reduceSub, SB, SV.known, packR, ne_eq, reduceCtorEq, Nat.reduceEqDiff, ↓reduceIte, if_true, if_false, eq_self, Nat.reduceAdd, Nat.reduceMul, Nat.reduceSub, forall_const, oneCellS, litOne, flat1, Kd.isSca, flat, TYB]
      (try (and_intros <;> try (first | omega | (unfold In64; omega) | trivial | assumption)))
      have hTR : rkT R s0 (i + 1) = rkK (tubeAt R i) (rkT R s0 i) (layN (tubeAt R i) - 1) := rfl
      have h0 : rkK (tubeAt R i) (rkT R s0 i) 0 = rkT R s0 i := rfl
      have hI0 := rkJ_I hlt hJ
      generalize hn : layN (tubeAt R i) - 1 = n at *
      generalize rkT R s0 i = si at *
      refine loop_intro (fun j : Nat => [(28, .int j), (27, .int n), (26, .slice 2 0 n 4), (19, .int i), (18, .arr R), (5, .int (rkK (tubeAt R i) si j).1), (4, .ptr 1 0)]) (fun j => [(2, .ints (tubeAt R i) 24), (1, .ints (rkK (tubeAt R i) si j).2 29)]) 3 (fun j => j ≤ n ∧ rkI R (rkK (tubeAt R i) si j).2 i j) (fun j => n - j) ?_ ?_
      · refine ⟨0, ?_, Sub.mk_id ?_ ?_ ?_ ?_ ?_⟩
        all_goals (try (simp only [h0, LB, subS, subH, wfS, wfH, SV.ren, renL, SObj.ren, SV.wf, SObj.wf, wfL, SV.known, Nat.reduceEqDiff, ↓reduceIte, if_true, if_false, eq_self, Nat.reduceAdd, Nat.reduceLT, Nat.reduceLeDiff, implies_true, reduceCtorEq, forall_const]; done))
        all_goals (try (simp only [h0, LB, subS, subH, wfS, wfH, SV.ren, renL, SObj.ren, SV.wf, SObj.wf, wfL, SV.known, Nat.reduceEqDiff, ↓reduceIte, if_true, if_false, eq_self, Nat.reduceAdd, Nat.reduceLT, Nat.reduceLeDiff, implies_true, reduceCtorEq, forall_const]; simp; done))
        all_goals (try (simp only [h0, LB, subS, subH, wfS, wfH, SV.ren, renL, SObj.ren, SV.wf, SObj.wf, wfL, SV.known, Nat.reduceEqDiff, ↓reduceIte, if_true, if_false, eq_self, Nat.reduceAdd, Nat.reduceLT, Nat.reduceLeDiff, implies_true, reduceCtorEq, forall_const]; (and_intros <;> (first | omega | rfl | (simp; done) | (simp; omega))); done))
        all_goals (try dsimp only)
        all_goals (and_intros <;> try (first | omega | (unfold In64; omega) | trivial | assumption))
      · rintro j ⟨hj, hI⟩
        by_cases hjt : j < n
        · have hjl : (j : Int) < n := by omega
          have wj := wr_small j (by omega)
          have hcell := (tube_cells ht (tubeAt_ok hr hlt)).1 j (by omega)
          obtain ⟨x, hx⟩ : ∃ x : Nat, (tubeAt R i).getD j 0 = x := ⟨((tubeAt R i).getD j 0).toNat, by omega⟩
          obtain ⟨hI', x1, x6, xp⟩ := rkI_step hR hr hlt (by omega) hI hx
          have es : rkK (tubeAt R i) si (j + 1) = (rkC (rkK (tubeAt R i) si j).2 (rkK (tubeAt R i) si j).1 (x - 1), (rkK (tubeAt R i) si j).2.set x ((rkK (tubeAt R i) si j).2.getD x 0 - 1)) := by
            rw [rkK, hx]; rfl
          have hlL := hI.a
          generalize rkK (tubeAt R i) si j = sj at *
          simp -implicitDefEqProofs only [lk_normal, hjl, hx, ht, hlL, ZB, Int.reduceToNat, Nat.reduceLT, Nat.reduceLeDiff, Int.reduceLE, Int.reduceLT, Nat.reduceEqDiff, Nat.reduceSub, SB, SV.known, packR, ne_eq, reduceCtorEq, Nat.reduceEqDiff, ↓reduceIte, if_true, if_false, eq_self, Nat.reduceAdd, Nat.reduceMul, Nat.reduceSub, forall_const, oneCellS, litOne, flat1, Kd.isSca, flat, TYB]
          (try (and_intros <;> try (first | omega | (unfold In64; omega) | trivial | assumption)))
          refine loop_intro (fun k : Nat => [(10, .int ((k : Int) + 1)), (9, .int x), (28, .int j), (27, .int n), (26, .slice 2 0 n 4), (19, .int i), (18, .arr R), (5, .int (rkC sj.2 sj.1 k)), (4, .ptr 1 0)]) (fun k => [(2, .ints (tubeAt R i) 24), (1, .ints sj.2 29)]) 3 (fun k => k ≤ x - 1) (fun k => x - k) ?_ ?_
          · refine ⟨0, ?_, Sub.mk_id ?_ ?_ ?_ ?_ ?_⟩
            all_goals (try (simp only [rkC, LB, subS, subH, wfS, wfH, SV.ren, renL, SObj.ren, SV.wf, SObj.wf, wfL, SV.known, Nat.reduceEqDiff, ↓reduceIte, if_true, if_false, eq_self, Nat.reduceAdd, Nat.reduceLT, Nat.reduceLeDiff, implies_true, reduceCtorEq, forall_const]; done))
            all_goals (try (simp only [rkC, LB, subS, subH, wfS, wfH, SV.ren, renL, SObj.ren, SV.wf, SObj.wf, wfL, SV.known, Nat.reduceEqDiff, ↓reduceIte, if_true, if_false, eq_self, Nat.reduceAdd, Nat.reduceLT, Nat.reduceLeDiff, implies_true, reduceCtorEq, forall_const]; simp; done))
            all_goals (try (simp only [rkC, LB, subS, subH, wfS, wfH, SV.ren, renL, SObj.ren, SV.wf, SObj.wf, wfL, SV.known, Nat.reduceEqDiff, ↓reduceIte, if_true, if_false, eq_self, Nat.reduceAdd, Nat.reduceLT, Nat.reduceLeDiff, implies_true, reduceCtorEq, forall_const]; (and_intros <;> (first | omega | rfl | (simp; done) | (simp; omega))); done))
            all_goals (try dsimp only)
            all_goals (and_intros <;> try (first | omega | (unfold In64; omega) | trivial | assumption))
          · intro k hk
            by_cases hkt : k + 1 < x
            · have hkl : (k : Int) + 1 < x := by omega
              have tn : ((k : Int) + 1).toNat = k + 1 := by omega
              have k0 : 0 ≤ (k : Int) + 1 := by omega
              have k6 : (k : Int) + 1 < 6 := by omega
              have wk : IntKind.i64.wrap ((k : Int) + 1 + 1) = (k : Int) + 1 + 1 := wrap_in (by unfold In64; omega)
              have bc := hI.c (k + 1) (by omega) (by omega)
              have hcn := hcn_bd (tubeAt R i) j ((k + 1 : Nat) : Int)
              have hrm := remT_bd R ((k + 1 : Nat) : Int) (5 - i)
              by_cases hp : 0 < sj.2.getD (k + 1) 0
              · obtain ⟨q1, q2, q3⟩ := rkI_bd hI (by omega) (show k + 1 < 6 by omega) hp
                have ec : rkC sj.2 sj.1 (k + 1) = IntKind.i64.wrap (rkC sj.2 sj.1 k + arrF (sj.2.set (k + 1) (sj.2.getD (k + 1) 0 - 1))) := by rw [rkC, if_pos hp]; rfl
                have wa : IntKind.i64.wrap (sj.2.getD (k + 1) 0 - 1) = sj.2.getD (k + 1) 0 - 1 := wrap_in (by unfold In64; omega)
                have wb : IntKind.i64.wrap (sj.2.getD (k + 1) 0 - 1 + 1) = sj.2.getD (k + 1) 0 := by
                  rw [show sj.2.getD (k + 1) 0 - 1 + 1 = sj.2.getD (k + 1) 0 by omega]; exact wrap_in (by unfold In64; omega)
                have g1 := getD_set_eq sj.2 (k + 1) (sj.2.getD (k + 1) 0 - 1) (by omega)
                have g2 : (sj.2.set (k + 1) (sj.2.getD (k + 1) 0 - 1)).set (k + 1) (sj.2.getD (k + 1) 0) = sj.2 := by
                  rw [List.set_set]; exact set_getD_self _ _
                have tkq : List.take 6 (sj.2.set (k + 1) (sj.2.getD (k + 1) 0 - 1)) = sj.2.set (k + 1) (sj.2.getD (k + 1) 0 - 1) := List.take_of_length_le (by omega)
                simp -implicitDefEqProofs only [lk_normal, arrangements_F, hkl, tn, k0, k6, hp, hlL, q1, q2, wa, wb, g1, g2, tkq, wk, ZB, Int.reduceToNat, Nat.reduceLT, Nat.reduceLeDiff, Int.reduceLE, Int.reduceLT, Nat.reduceEqDiff, Nat.reduceSub, SB, SV.known, packR, ne_eq, reduceCtorEq, Nat.reduceEqDiff, ↓reduceIte, if_true, if_false, eq_self, Nat.reduceAdd, Nat.reduceMul, Nat.reduceSub, forall_const, oneCellS, litOne, flat1, Kd.isSca, flat, TYB]
                (try (and_intros <;> try (first | omega | (unfold In64; omega) | trivial | assumption)))
                refine ⟨k + 1, ?_, ?_, Sub.mk_id ?_ ?_ ?_ ?_ ?_⟩
                all_goals (try (simp only [ec, LB, subS, subH, wfS, wfH, SV.ren, renL, SObj.ren, SV.wf, SObj.wf, wfL, SV.known, Nat.reduceEqDiff, ↓reduceIte, if_true, if_false, eq_self, Nat.reduceAdd, Nat.reduceLT, Nat.reduceLeDiff, implies_true, reduceCtorEq, forall_const]; done))
                all_goals (try (simp only [ec, LB, subS, subH, wfS, wfH, SV.ren, renL, SObj.ren, SV.wf, SObj.wf, wfL, SV.known, Nat.reduceEqDiff, ↓reduceIte, if_true, if_false, eq_self, Nat.reduceAdd, Nat.reduceLT, Nat.reduceLeDiff, implies_true, reduceCtorEq, forall_const]; simp; done))
                all_goals (try (simp only [ec, LB, subS, subH, wfS, wfH, SV.ren, renL, SObj.ren, SV.wf, SObj.wf, wfL, SV.known, Nat.reduceEqDiff, ↓reduceIte, if_true, if_false, eq_self, Nat.reduceAdd, Nat.reduceLT, Nat.reduceLeDiff, implies_true, reduceCtorEq, forall_const]; (and_intros <;> (first | omega | rfl | (simp; done) | (simp; omega))); done))
                all_goals (try dsimp only)
                all_goals (and_intros <;> try (first | omega | (unfold In64; omega) | trivial | assumption))
              · have ec : rkC sj.2 sj.1 (k + 1) = rkC sj.2 sj.1 k := by rw [rkC, if_neg hp]
                simp -implicitDefEqProofs only [lk_normal, arrangements_F, hkl, tn, k0, k6, hp, hlL, wk, ZB, Int.reduceToNat, Nat.reduceLT, Nat.reduceLeDiff, Int.reduceLE, Int.reduceLT, Nat.reduceEqDiff, Nat.reduceSub, SB, SV.known, packR, ne_eq, reduceCtorEq, Nat.reduceEqDiff, ↓reduceIte, if_true, if_false, eq_self, Nat.reduceAdd, Nat.reduceMul, Nat.reduceSub, forall_const, oneCellS, litOne, flat1, Kd.isSca, flat, TYB]
                (try (and_intros <;> try (first | omega | (unfold In64; omega) | trivial | assumption)))
                refine ⟨k + 1, ?_, ?_, Sub.mk_id ?_ ?_ ?_ ?_ ?_⟩
                all_goals (try (simp only [ec, LB, subS, subH, wfS, wfH, SV.ren, renL, SObj.ren, SV.wf, SObj.wf, wfL, SV.known, Nat.reduceEqDiff, ↓reduceIte, if_true, if_false, eq_self, Nat.reduceAdd, Nat.reduceLT, Nat.reduceLeDiff, implies_true, reduceCtorEq, forall_const]; done))
                all_goals (try (simp only [ec, LB, subS, subH, wfS, wfH, SV.ren, renL, SObj.ren, SV.wf, SObj.wf, wfL, SV.known, Nat.reduceEqDiff, ↓reduceIte, if_true, if_false, eq_self, Nat.reduceAdd, Nat.reduceLT, Nat.reduceLeDiff, implies_true, reduceCtorEq, forall_const]; simp; done))
                all_goals (try (simp only [ec, LB, subS, subH, wfS, wfH, SV.ren, renL, SObj.ren, SV.wf, SObj.wf, wfL, SV.known, Nat.reduceEqDiff, ↓reduceIte, if_true, if_false, eq_self, Nat.reduceAdd, Nat.reduceLT, Nat.reduceLeDiff, implies_true, reduceCtorEq, forall_const]; (and_intros <;> (first | omega | rfl | (simp; done) | (simp; omega))); done))
                all_goals (try dsimp only)
                all_goals (and_intros <;> try (first | omega | (unfold In64; omega) | trivial | assumption))
            · have hkl : ¬ (k : Int) + 1 < x := by omega
              obtain rfl : k = x - 1 := by omega
              have wx : IntKind.i64.wrap (sj.2.getD x 0 - 1) = sj.2.getD x 0 - 1 := wrap_in (by have := hI.c x x1 x6; unfold In64; omega)
              have x6' : (x : Int) < 6 := by omega
              simp -implicitDefEqProofs only [lk_normal, hkl, hlL, wj, wx, x6', ZB, Int.reduceToNat, Nat.reduceLT, Nat.reduceLeDiff, Int.reduceLE, Int.reduceLT, Nat.reduceEqDiff, Nat.reduceSub, SB, SV.known, packR, ne_eq, reduceCtorEq, Nat.reduceEqDiff, ↓reduceIte, if_true, if_false, eq_self, Nat.reduceAdd, Nat.reduceMul, Nat.reduceSub, forall_const, oneCellS, litOne, flat1, Kd.isSca, flat, TYB]
              (try (and_intros <;> try (first | omega | (unfold In64; omega) | trivial | assumption)))
              refine ⟨j + 1, ?_, ?_, Sub.mk_id ?_ ?_ ?_ ?_ ?_⟩
              all_goals (try (simp only [es, LB, subS, subH, wfS, wfH, SV.ren, renL, SObj.ren, SV.wf, SObj.wf, wfL, SV.known, Nat.reduceEqDiff, ↓reduceIte, if_true, if_false, eq_self, Nat.reduceAdd, Nat.reduceLT, Nat.reduceLeDiff, implies_true, reduceCtorEq, forall_const]; done))
              all_goals (try (simp only [es, LB, subS, subH, wfS, wfH, SV.ren, renL, SObj.ren, SV.wf, SObj.wf, wfL, SV.known, Nat.reduceEqDiff, ↓reduceIte, if_true, if_false, eq_self, Nat.reduceAdd, Nat.reduceLT, Nat.reduceLeDiff, implies_true, reduceCtorEq, forall_const]; simp; done))
              all_goals (try (simp only [es, LB, subS, subH, wfS, wfH, SV.ren, renL, SObj.ren, SV.wf, SObj.wf, wfL, SV.known, Nat.reduceEqDiff, ↓reduceIte, if_true, if_false, eq_self, Nat.reduceAdd, Nat.reduceLT, Nat.reduceLeDiff, implies_true, reduceCtorEq, forall_const]; (and_intros <;> (first | omega | rfl | (simp; done) | (simp; omega))); done))
              all_goals (try dsimp only)
              all_goals (and_intros <;> try (first | omega | (unfold In64; omega) | trivial | assumption))
        · have hjl : ¬ (j : Int) < n := by omega
          obtain rfl : j = n := by omega
          simp -implicitDefEqProofs only [lk_normal, hjl, w1, ZB, Int.reduceToNat, Nat.reduceLT, Nat.reduceLeDiff, Int.reduceLE, Int.reduceLT, Nat.reduceEqDiff, Nat.reduceSub, SB, SV.known, packR, ne_eq, reduceCtorEq, Nat.reduceEqDiff, ↓reduceIte, if_true, if_false, eq_self, Nat.reduceAdd, Nat.reduceMul, Nat.reduceSub, forall_const, oneCellS, litOne, flat1, Kd.isSca, flat, TYB]
          (try (and_intros <;> try (first | omega | (unfold In64; omega) | trivial | assumption)))
          refine ⟨i + 1, ?_, ?_, Sub.mk_id ?_ ?_ ?_ ?_ ?_⟩
          all_goals (try (simp only [hTR, LB, subS, subH, wfS, wfH, SV.ren, renL, SObj.ren, SV.wf, SObj.wf, wfL, SV.known, Nat.reduceEqDiff, ↓reduceIte, if_true, if_false, eq_self, Nat.reduceAdd, Nat.reduceLT, Nat.reduceLeDiff, implies_true, reduceCtorEq, forall_const]; done))
          all_goals (try (simp only [hTR, LB, subS, subH, wfS, wfH, SV.ren, renL, SObj.ren, SV.wf, SObj.wf, wfL, SV.known, Nat.reduceEqDiff, ↓reduceIte, if_true, if_false, eq_self, Nat.reduceAdd, Nat.reduceLT, Nat.reduceLeDiff, implies_true, reduceCtorEq, forall_const]; simp; done))
          all_goals (try (simp only [hTR, LB, subS, subH, wfS, wfH, SV.ren, renL, SObj.ren, SV.wf, SObj.wf, wfL, SV.known, Nat.reduceEqDiff, ↓reduceIte, if_true, if_false, eq_self, Nat.reduceAdd, Nat.reduceLT, Nat.reduceLeDiff, implies_true, reduceCtorEq, forall_const]; (and_intros <;> (first | omega | rfl | (simp; done) | (simp; omega))); done))
          all_goals (try dsimp only)
          all_goals (and_intros <;> try (first | omega | (unfold In64; omega) | trivial | assumption))
          rw [hTR]; exact rkI_J hlt (by omega) hI
    · have hil : ¬ (i : Int) < 6 := by omega
      obtain rfl : i = 6 := by omega
      simp -implicitDefEqProofs only [lk_normal, hil, hR, ZB, Int.reduceToNat, Nat.reduceLT, Nat.reduceLeDiff, Int.reduceLE, Int.reduceLT, Nat.reduceEqDiff, Nat.reduceSub, SB, SV.known, packR, ne_eq, reduceCtorEq, Nat.reduceEqDiff, ↓reduceIte, if_true, if_false, eq_self, Nat.reduceAdd, Nat.reduceMul, Nat.reduceSub, forall_const, oneCellS, litOne, flat1, Kd.isSca, flat, TYB]
theorem sRankOfRack_ok (R : List Int) (hR : R.length = 24) : PureH Try.prog 10 [.arr R] [] (.tup [.int (rankF R), .bool (rackB R)]) := by
  have tkR : R.take 24 = R := List.take_of_length_le (by omega)
  unfold rankF
  cases hr : rackB R
  · refine pure_of_vc (X := ⟨Try.prog, tys, [(51, l2Rack_F), (52, l7View_F), (56, l7Hidden_F), (57, l2Many_F), (58, l7Ways_F)], [], false, true, 0, [], []⟩) fn_10 ⟨tys_ok, (.cons l2Rack_T (.cons l7View_T (.cons l7Hidden_T (.cons l2Many_T (.cons l7Ways_T .nil))))), .nil, mixed⟩ (n0 := 0) (Nat.le_of_ble_eq_true rfl) (by simp [wfL, SV.wf]) (wfH_spec (by simp [wfH, SObj.wf, wfL, SV.wf])) (Nat.le_refl _) (fun _ => by simp [SV.wf, wfL]) ?_
    simp -implicitDefEqProofs only [Try.f10, Option.getD_some, argS, l2Rack_F, l7View_F, l7Hidden_F, l2Many_F, l7Ways_F, hR, tkR, hr, ZB, Int.reduceToNat, Nat.reduceLT, Nat.reduceLeDiff, Int.reduceLE, Int.reduceLT, Nat.reduceEqDiff, Nat.reduceSub, SB, SV.known, packR, ne_eq, reduceCtorEq, Nat.reduceEqDiff, ↓reduceIte, if_true, if_false, eq_self, Nat.reduceAdd, Nat.reduceMul, Nat.reduceSub, forall_const, oneCellS, litOne, flat1, Kd.isSca, flat, TYB]
  obtain ⟨v1, v2, v3⟩ := viewF_ok hR hr
  have v4 := viewF_len R
  have v5 := viewF_take R
  have v6 := viewF_drop R
  have j0 := rkJ_zero hR hr
  have hl0 := j0.a
  refine pure_of_vc (X := ⟨Try.prog, tys, [(51, l2Rack_F), (52, l7View_F), (56, l7Hidden_F), (57, l2Many_F), (58, l7Ways_F)], [], false, true, 0, [], []⟩) fn_10 ⟨tys_ok, (.cons l2Rack_T (.cons l7View_T (.cons l7Hidden_T (.cons l2Many_T (.cons l7Ways_T .nil))))), .nil, mixed⟩ (n0 := 0) (Nat.le_of_ble_eq_true rfl) (by simp [wfL, SV.wf]) (wfH_spec (by simp [wfH, SObj.wf, wfL, SV.wf])) (Nat.le_refl _) (fun _ => by simp [SV.wf, wfL]) ?_
  simp -implicitDefEqProofs only [Try.f10, Option.getD_some, argS, l2Rack_F, l7View_F, l7Hidden_F, l2Many_F, l7Ways_F, hR, tkR, hr, v1, v2, v3, v4, v5, v6, hl0, ZB, Int.reduceToNat, Nat.reduceLT, Nat.reduceLeDiff, Int.reduceLE, Int.reduceLT, Nat.reduceEqDiff, Nat.reduceSub, SB, SV.known, packR, ne_eq, reduceCtorEq, Nat.reduceEqDiff, ↓reduceIte, if_true, if_false, eq_self, Nat.reduceAdd, Nat.reduceMul, Nat.reduceSub, forall_const, oneCellS, litOne, flat1, Kd.isSca, flat, TYB]
  generalize hs0 : ((0 : Int), hidL (topL R) (ctL R) 6) = s0 at *
  have e0 : hidL (topL R) (ctL R) 6 = s0.2 := by rw [← hs0]
  have e1 : s0.1 = 0 := by rw [← hs0]
  rw [e0] at j0 hl0 ⊢
  refine loop_intro (fun i : Nat => [(7, .int i), (6, .ptr 1 0), (4, .int (rkT R s0 i).1), (1, .ptr 0 0)]) (fun i => [(1, .ints (rkT R s0 i).2 29), (0, .ints R 27)]) 2 (fun i => i ≤ 6 ∧ rkJ R (rkT R s0 i).2 i) (fun i => 6 - i) ?_ ?_
  · refine ⟨0, ?_, Sub.mk_id ?_ ?_ ?_ ?_ ?_⟩
    all_goals (try (simp only [rkT, e1, LB, subS, subH, wfS, wfH, SV.ren, renL, SObj.ren, SV.wf, SObj.wf, wfL, SV.known, Nat.reduceEqDiff, ↓reduceIte, if_true, if_false, eq_self, Nat.reduceAdd, Nat.reduceLT, Nat.reduceLeDiff, implies_true, reduceCtorEq, forall_const]; done))
    all_goals (try (simp only [rkT, e1, LB, subS, subH, wfS, wfH, SV.ren, renL, SObj.ren, SV.wf, SObj.wf, wfL, SV.known, Nat.reduceEqDiff, ↓reduceIte, if_true, if_false, eq_self, Nat.reduceAdd, Nat.reduceLT, Nat.reduceLeDiff, implies_true, reduceCtorEq, forall_const]; simp; done))
    all_goals (try (simp only [rkT, e1, LB, subS, subH, wfS, wfH, SV.ren, renL, SObj.ren, SV.wf, SObj.wf, wfL, SV.known, Nat.reduceEqDiff, ↓reduceIte, if_true, if_false, eq_self, Nat.reduceAdd, Nat.reduceLT, Nat.reduceLeDiff, implies_true, reduceCtorEq, forall_const]; (and_intros <;> (first | omega | rfl | (simp; done) | (simp; omega))); done))
    all_goals (try dsimp only)
    all_goals (and_intros <;> try (first | omega | (unfold In64; omega) | trivial | assumption))
  · rintro i ⟨hi, hJ⟩
    by_cases hlt : i < 6
    · have hil : (i : Int) < 6 := by omega
      have w1 := wr_small i (by omega)
      have ht : (tubeAt R i).length = 4 := tubeAt_len hR hlt
      have tkt : (tubeAt R i).take 4 = tubeAt R i := List.take_of_length_le (by omega)
      have et : List.take 4 (List.drop (i * 4) R) = tubeAt R i := rfl
      have hle := lay_le _ ht
      simp -implicitDefEqProofs only [lk_normal, hil, ZB, Int.reduceToNat, Nat.reduceLT, Nat.reduceLeDiff, Int.reduceLE, Int.reduceLT, Nat.reduceEqDiff, Nat.reduceSub, SB, SV.known, packR, ne_eq, reduceCtorEq, Nat.reduceEqDiff, ↓reduceIte, if_true, if_false, eq_self, Nat.reduceAdd, Nat.reduceMul, Nat.reduceSub, forall_const, oneCellS, litOne, flat1, Kd.isSca, flat, TYB]
      (try (and_intros <;> try (first | omega | (unfold In64; omega) | trivial | assumption)))
      have hTR : rkT R s0 (i + 1) = rkK (tubeAt R i) (rkT R s0 i) (layN (tubeAt R i) - 1) := rfl
      have h0 : rkK (tubeAt R i) (rkT R s0 i) 0 = rkT R s0 i := rfl
      have hI0 := rkJ_I hlt hJ
      generalize rkT R s0 i = si at *
      refine loop_intro (fun j : Nat => [(8, .int j), (7, .int i), (6, .ptr 1 0), (4, .int (rkK (tubeAt R i) si j).1), (1, .ptr 0 0)]) (fun j => [(1, .ints (rkK (tubeAt R i) si j).2 29), (0, .ints R 27)]) 2 (fun j => j ≤ layN (tubeAt R i) - 1 ∧ rkI R (rkK (tubeAt R i) si j).2 i j) (fun j => layN (tubeAt R i) - 1 - j) ?_ ?_
      · refine ⟨0, ?_, Sub.mk_id ?_ ?_ ?_ ?_ ?_⟩
        all_goals (try (simp only [h0, LB, subS, subH, wfS, wfH, SV.ren, renL, SObj.ren, SV.wf, SObj.wf, wfL, SV.known, Nat.reduceEqDiff, ↓reduceIte, if_true, if_false, eq_self, Nat.reduceAdd, Nat.reduceLT, Nat.reduceLeDiff, implies_true, reduceCtorEq, forall_const]; done))
        all_goals (try (simp only [h0, LB, subS, subH, wfS, wfH, SV.ren, renL, SObj.ren, SV.wf, SObj.wf, wfL, SV.known, Nat.reduceEqDiff, ↓reduceIte, if_true, if_false, eq_self, Nat.reduceAdd, Nat.reduceLT, Nat.reduceLeDiff, implies_true, reduceCtorEq, forall_const]; simp; done))
        all_goals (try (simp only [h0, LB, subS, subH, wfS, wfH, SV.ren, renL, SObj.ren, SV.wf, SObj.wf, wfL, SV.known, Nat.reduceEqDiff, ↓reduceIte, if_true, if_false, eq_self, Nat.reduceAdd, Nat.reduceLT, Nat.reduceLeDiff, implies_true, reduceCtorEq, forall_const]; (and_intros <;> (first | omega | rfl | (simp; done) | (simp; omega))); done))
        all_goals (try dsimp only)
        all_goals (and_intros <;> try (first | omega | (unfold In64; omega) | trivial | assumption))
      · rintro j ⟨hj, hI⟩
        have pc := posC_lay _ ht (tubeAt_ok hr hlt)
        have w2 : IntKind.i64.wrap ((layN (tubeAt R i) : Int) - 1) = (layN (tubeAt R i) : Int) - 1 := wrap_in (by unfold In64; omega)
        by_cases hjt : j < layN (tubeAt R i) - 1
        · have hjl : (j : Int) < (layN (tubeAt R i) : Int) - 1 := by omega
          have hj4 : (j : Int) < 4 := by omega
          have wj := wr_small j (by omega)
          have hcell := (tube_cells ht (tubeAt_ok hr hlt)).1 j (by omega)
          obtain ⟨x, hx⟩ : ∃ x : Nat, (tubeAt R i).getD j 0 = x := ⟨((tubeAt R i).getD j 0).toNat, by omega⟩
          obtain ⟨hI', x1, x6, xp⟩ := rkI_step hR hr hlt (by omega) hI hx
          have es : rkK (tubeAt R i) si (j + 1) = (rkC (rkK (tubeAt R i) si j).2 (rkK (tubeAt R i) si j).1 (x - 1), (rkK (tubeAt R i) si j).2.set x ((rkK (tubeAt R i) si j).2.getD x 0 - 1)) := by
            rw [rkK, hx]; rfl
          have hx2 : R.getD (i * 4 + j) 0 = x := by rw [← hx]; exact (cut_getD R i j (by omega)).symm
          have hlL := hI.a
          generalize rkK (tubeAt R i) si j = sj at *
          simp -implicitDefEqProofs only [lk_normal, l2Many_F, pc, hil, hR, et, ht, tkt, w2, hjl, hj4, hx, hx2, ht, hlL, ZB, Int.reduceToNat, Nat.reduceLT, Nat.reduceLeDiff, Int.reduceLE, Int.reduceLT, Nat.reduceEqDiff, Nat.reduceSub, SB, SV.known, packR, ne_eq, reduceCtorEq, Nat.reduceEqDiff, ↓reduceIte, if_true, if_false, eq_self, Nat.reduceAdd, Nat.reduceMul, Nat.reduceSub, forall_const, oneCellS, litOne, flat1, Kd.isSca, flat, TYB]
          (try (and_intros <;> try (first | omega | (unfold In64; omega) | trivial | assumption)))
          refine loop_intro (fun k : Nat => [(9, .int ((k : Int) + 1)), (8, .int j), (7, .int i), (6, .ptr 1 0), (4, .int (rkC sj.2 sj.1 k)), (1, .ptr 0 0)]) (fun k => [(1, .ints sj.2 29), (0, .ints R 27)]) 2 (fun k => k ≤ x - 1) (fun k => x - k) ?_ ?_
          · refine ⟨0, ?_, Sub.mk_id ?_ ?_ ?_ ?_ ?_⟩
            all_goals (try (simp only [rkC, LB, subS, subH, wfS, wfH, SV.ren, renL, SObj.ren, SV.wf, SObj.wf, wfL, SV.known, Nat.reduceEqDiff, ↓reduceIte, if_true, if_false, eq_self, Nat.reduceAdd, Nat.reduceLT, Nat.reduceLeDiff, implies_true, reduceCtorEq, forall_const]; done))
            all_goals (try (simp only [rkC, LB, subS, subH, wfS, wfH, SV.ren, renL, SObj.ren, SV.wf, SObj.wf, wfL, SV.known, Nat.reduceEqDiff, ↓reduceIte, if_true, if_false, eq_self, Nat.reduceAdd, Nat.reduceLT, Nat.reduceLeDiff, implies_true, reduceCtorEq, forall_const]; simp; done))
            all_goals (try (simp only [rkC, LB, subS, subH, wfS, wfH, SV.ren, renL, SObj.ren, SV.wf, SObj.wf, wfL, SV.known, Nat.reduceEqDiff, ↓reduceIte, if_true, if_false, eq_self, Nat.reduceAdd, Nat.reduceLT, Nat.reduceLeDiff, implies_true, reduceCtorEq, forall_const]; (and_intros <;> (first | omega | rfl | (simp; done) | (simp; omega))); done))
            all_goals (try dsimp only)
            all_goals (and_intros <;> try (first | omega | (unfold In64; omega) | trivial | assumption))
          · intro k hk
            by_cases hkt : k + 1 < x
            · have hkl : (k : Int) + 1 < x := by omega
              have tn : ((k : Int) + 1).toNat = k + 1 := by omega
              have k0 : 0 ≤ (k : Int) + 1 := by omega
              have k6 : (k : Int) + 1 < 6 := by omega
              have wk : IntKind.i64.wrap ((k : Int) + 1 + 1) = (k : Int) + 1 + 1 := wrap_in (by unfold In64; omega)
              have bc := hI.c (k + 1) (by omega) (by omega)
              have hcn := hcn_bd (tubeAt R i) j ((k + 1 : Nat) : Int)
              have hrm := remT_bd R ((k + 1 : Nat) : Int) (5 - i)
              by_cases hp : 0 < sj.2.getD (k + 1) 0
              · obtain ⟨q1, q2, q3⟩ := rkI_bd hI (by omega) (show k + 1 < 6 by omega) hp
                have q4 := arrF_drop q1 q3
                have q5 : Bd 0 1000000 ((sj.2.set (k + 1) (sj.2.getD (k + 1) 0 - 1)).drop 1) := fun y hy => q2 y (List.mem_of_mem_drop hy)
                have ec : rkC sj.2 sj.1 (k + 1) = IntKind.i64.wrap (rkC sj.2 sj.1 k + arrF (sj.2.set (k + 1) (sj.2.getD (k + 1) 0 - 1))) := by rw [rkC, if_pos hp]; rfl
                have wa : IntKind.i64.wrap (sj.2.getD (k + 1) 0 - 1) = sj.2.getD (k + 1) 0 - 1 := wrap_in (by unfold In64; omega)
                have wb : IntKind.i64.wrap (sj.2.getD (k + 1) 0 - 1 + 1) = sj.2.getD (k + 1) 0 := by
                  rw [show sj.2.getD (k + 1) 0 - 1 + 1 = sj.2.getD (k + 1) 0 by omega]; exact wrap_in (by unfold In64; omega)
                have g1 := getD_set_eq sj.2 (k + 1) (sj.2.getD (k + 1) 0 - 1) (by omega)
                have g2 : (sj.2.set (k + 1) (sj.2.getD (k + 1) 0 - 1)).set (k + 1) (sj.2.getD (k + 1) 0) = sj.2 := by
                  rw [List.set_set]; exact set_getD_self _ _
                have tkq : List.take 6 (sj.2.set (k + 1) (sj.2.getD (k + 1) 0 - 1)) = sj.2.set (k + 1) (sj.2.getD (k + 1) 0 - 1) := List.take_of_length_le (by omega)
                simp -implicitDefEqProofs only [lk_normal, l7Ways_F, hil, hR, et, ht, tkt, hj4, hx, hx2, hkl, tn, k0, k6, hp, hlL, q1, q4, q5, wa, wb, g1, g2, tkq, wk, ZB, Int.reduceToNat, Nat.reduceLT, Nat.reduceLeDiff, Int.reduceLE, Int.reduceLT, Nat.reduceEqDiff, Nat.reduceSub, SB, SV.known, packR, ne_eq, reduceCtorEq, Nat.reduceEqDiff, ↓reduceIte, if_true, if_false, eq_self, Nat.reduceAdd, Nat.reduceMul, Nat.reduceSub, forall_const, oneCellS, litOne, flat1, Kd.isSca, flat, TYB]
                (try (and_intros <;> try (first | omega | (unfold In64; omega) | trivial | assumption)))
                refine ⟨k + 1, ?_, ?_, Sub.mk_id ?_ ?_ ?_ ?_ ?_⟩
                all_goals (try (simp only [ec, LB, subS, subH, wfS, wfH, SV.ren, renL, SObj.ren, SV.wf, SObj.wf, wfL, SV.known, Nat.reduceEqDiff, ↓reduceIte, if_true, if_false, eq_self, Nat.reduceAdd, Nat.reduceLT, Nat.reduceLeDiff, implies_true, reduceCtorEq, forall_const]; done))
                all_goals (try (simp only [ec, LB, subS, subH, wfS, wfH, SV.ren, renL, SObj.ren, SV.wf, SObj.wf, wfL, SV.known, Nat.reduceEqDiff, ↓reduceIte, if_true, if_false, eq_self, Nat.reduceAdd, Nat.reduceLT, Nat.reduceLeDiff, implies_true, reduceCtorEq, forall_const]; simp; done))
                all_goals (try (simp only [ec, LB, subS, subH, wfS, wfH, SV.ren, renL, SObj.ren, SV.wf, SObj.wf, wfL, SV.known, Nat.reduceEqDiff, ↓reduceIte, if_true, if_false, eq_self, Nat.reduceAdd, Nat.reduceLT, Nat.reduceLeDiff, implies_true, reduceCtorEq, forall_const]; (and_intros <;> (first | omega | rfl | (simp; done) | (simp; omega))); done))
                all_goals (try dsimp only)
                all_goals (and_intros <;> try (first | omega | (unfold In64; omega) | trivial | assumption))
              · have ec : rkC sj.2 sj.1 (k + 1) = rkC sj.2 sj.1 k := by rw [rkC, if_neg hp]
                simp -implicitDefEqProofs only [lk_normal, l7Ways_F, hil, hR, et, ht, tkt, hj4, hx, hx2, hkl, tn, k0, k6, hp, hlL, wk, ZB, Int.reduceToNat, Nat.reduceLT, Nat.reduceLeDiff, Int.reduceLE, Int.reduceLT, Nat.reduceEqDiff, Nat.reduceSub, SB, SV.known, packR, ne_eq, reduceCtorEq, Nat.reduceEqDiff, ↓reduceIte, if_true, if_false, eq_self, Nat.reduceAdd, Nat.reduceMul, Nat.reduceSub, forall_const, oneCellS, litOne, flat1, Kd.isSca, flat, TYB]
                (try (and_intros <;> try (first | omega | (unfold In64; omega) | trivial | assumption)))
                refine ⟨k + 1, ?_, ?_, Sub.mk_id ?_ ?_ ?_ ?_ ?_⟩
                all_goals (try (simp only [ec, LB, subS, subH, wfS, wfH, SV.ren, renL, SObj.ren, SV.wf, SObj.wf, wfL, SV.known, Nat.reduceEqDiff, ↓reduceIte, if_true, if_false, eq_self, Nat.reduceAdd, Nat.reduceLT, Nat.reduceLeDiff, implies_true, reduceCtorEq, forall_const]; done))
                all_goals (try (simp only [ec, LB, subS, subH, wfS, wfH, SV.ren, renL, SObj.ren, SV.wf, SObj.wf, wfL, SV.known, Nat.reduceEqDiff, ↓reduceIte, if_true, if_false, eq_self, Nat.reduceAdd, Nat.reduceLT, Nat.reduceLeDiff, implies_true, reduceCtorEq, forall_const]; simp; done))
                all_goals (try (simp only [ec, LB, subS, subH, wfS, wfH, SV.ren, renL, SObj.ren, SV.wf, SObj.wf, wfL, SV.known, Nat.reduceEqDiff, ↓reduceIte, if_true, if_false, eq_self, Nat.reduceAdd, Nat.reduceLT, Nat.reduceLeDiff, implies_true, reduceCtorEq, forall_const]; (and_intros <;> (first | omega | rfl | (simp; done) | (simp; omega))); done))
                all_goals (try dsimp only)
                all_goals (and_intros <;> try (first | omega | (unfold In64; omega) | trivial | assumption))
            · have hkl : ¬ (k : Int) + 1 < x := by omega
              obtain rfl : k = x - 1 := by omega
              have wx : IntKind.i64.wrap (sj.2.getD x 0 - 1) = sj.2.getD x 0 - 1 := wrap_in (by have := hI.c x x1 x6; unfold In64; omega)
              have x6' : (x : Int) < 6 := by omega
              simp -implicitDefEqProofs only [lk_normal, hil, hR, et, ht, tkt, hj4, hx, hx2, hkl, hlL, wj, wx, x6', ZB, Int.reduceToNat, Nat.reduceLT, Nat.reduceLeDiff, Int.reduceLE, Int.reduceLT, Nat.reduceEqDiff, Nat.reduceSub, SB, SV.known, packR, ne_eq, reduceCtorEq, Nat.reduceEqDiff, ↓reduceIte, if_true, if_false, eq_self, Nat.reduceAdd, Nat.reduceMul, Nat.reduceSub, forall_const, oneCellS, litOne, flat1, Kd.isSca, flat, TYB]
              (try (and_intros <;> try (first | omega | (unfold In64; omega) | trivial | assumption)))
              refine ⟨j + 1, ?_, ?_, Sub.mk_id ?_ ?_ ?_ ?_ ?_⟩
              all_goals (try (simp only [es, LB, subS, subH, wfS, wfH, SV.ren, renL, SObj.ren, SV.wf, SObj.wf, wfL, SV.known, Nat.reduceEqDiff, ↓reduceIte, if_true, if_false, eq_self, Nat.reduceAdd, Nat.reduceLT, Nat.reduceLeDiff, implies_true, reduceCtorEq, forall_const]; done))
              all_goals (try (simp only [es, LB, subS, subH, wfS, wfH, SV.ren, renL, SObj.ren, SV.wf, SObj.wf, wfL, SV.known, Nat.reduceEqDiff, ↓reduceIte, if_true, if_false, eq_self, Nat.reduceAdd, Nat.reduceLT, Nat.reduceLeDiff, implies_true, reduceCtorEq, forall_const]; simp; done))
              all_goals (try (simp only [es, LB, subS, subH, wfS, wfH, SV.ren, renL, SObj.ren, SV.wf, SObj.wf, wfL, SV.known, Nat.reduceEqDiff, ↓reduceIte, if_true, if_false, eq_self, Nat.reduceAdd, Nat.reduceLT, Nat.reduceLeDiff, implies_true, reduceCtorEq, forall_const]; (and_intros <;> (first | omega | rfl | (simp; done) | (simp; omega))); done))
              all_goals (try dsimp only)
              all_goals (and_intros <;> try (first | omega | (unfold In64; omega) | trivial | assumption))
        · have hjl : ¬ (j : Int) < (layN (tubeAt R i) : Int) - 1 := by omega
          obtain rfl : j = layN (tubeAt R i) - 1 := by omega
          simp -implicitDefEqProofs only [lk_normal, l2Many_F, pc, hil, hR, et, ht, tkt, w2, hjl, w1, ZB, Int.reduceToNat, Nat.reduceLT, Nat.reduceLeDiff, Int.reduceLE, Int.reduceLT, Nat.reduceEqDiff, Nat.reduceSub, SB, SV.known, packR, ne_eq, reduceCtorEq, Nat.reduceEqDiff, ↓reduceIte, if_true, if_false, eq_self, Nat.reduceAdd, Nat.reduceMul, Nat.reduceSub, forall_const, oneCellS, litOne, flat1, Kd.isSca, flat, TYB]
          (try (and_intros <;> try (first | omega | (unfold In64; omega) | trivial | assumption)))
          refine ⟨i + 1, ?_, ?_, Sub.mk_id ?_ ?_ ?_ ?_ ?_⟩
          all_goals (try (simp only [hTR, LB, subS, subH, wfS, wfH, SV.ren, renL, SObj.ren, SV.wf, SObj.wf, wfL, SV.known, Nat.reduceEqDiff, ↓reduceIte, if_true, if_false, eq_self, Nat.reduceAdd, Nat.reduceLT, Nat.reduceLeDiff, implies_true, reduceCtorEq, forall_const]; done))
          all_goals (try (simp only [hTR, LB, subS, subH, wfS, wfH, SV.ren, renL, SObj.ren, SV.wf, SObj.wf, wfL, SV.known, Nat.reduceEqDiff, ↓reduceIte, if_true, if_false, eq_self, Nat.reduceAdd, Nat.reduceLT, Nat.reduceLeDiff, implies_true, reduceCtorEq, forall_const]; simp; done))
          all_goals (try (simp only [hTR, LB, subS, subH, wfS, wfH, SV.ren, renL, SObj.ren, SV.wf, SObj.wf, wfL, SV.known, Nat.reduceEqDiff, ↓reduceIte, if_true, if_false, eq_self, Nat.reduceAdd, Nat.reduceLT, Nat.reduceLeDiff, implies_true, reduceCtorEq, forall_const]; (and_intros <;> (first | omega | rfl | (simp; done) | (simp; omega))); done))
          all_goals (try dsimp only)
          all_goals (and_intros <;> try (first | omega | (unfold In64; omega) | trivial | assumption))
          rw [hTR]; exact rkI_J hlt (by omega) hI
    · have hil : ¬ (i : Int) < 6 := by omega
      obtain rfl : i = 6 := by omega
      simp -implicitDefEqProofs only [lk_normal, hil, hR, ZB, Int.reduceToNat, Nat.reduceLT, Nat.reduceLeDiff, Int.reduceLE, Int.reduceLT, Nat.reduceEqDiff, Nat.reduceSub, SB, SV.known, packR, ne_eq, reduceCtorEq, Nat.reduceEqDiff, ↓reduceIte, if_true, if_false, eq_self, Nat.reduceAdd, Nat.reduceMul, Nat.reduceSub, forall_const, oneCellS, litOne, flat1, Kd.isSca, flat, TYB]
def RankOfRack_F : List SV → Heap → Option (Prop × SV)
  | [.arr R], _ => some (R.length = 24, .tup [.int (rankF R), .bool (rackB R)])
  | _, _ => none
theorem RankOfRack_T : ∀ args H p v, RankOfRack_F args H = some (p, v) → p → PureH Try.prog 9 args H v := by
  intro args H p v h hp
  unfold RankOfRack_F at h
  split at h
  · cases h; exact (RankOfRack_ok _ hp).any _
  · cases h
def sRankOfRack_F : List SV → Heap → Option (Prop × SV)
  | [.arr R], _ => some (R.length = 24, .tup [.int (rankF R), .bool (rackB R)])
  | _, _ => none
theorem sRankOfRack_T : ∀ args H p v, sRankOfRack_F args H = some (p, v) → p → PureH Try.prog 10 args H v := by
  intro args H p v h hp
  unfold sRankOfRack_F at h
  split at h
  · cases h; exact (sRankOfRack_ok _ hp).any _
  · cases h
end Go.Proofs.Ytckcojgfgcjamaa
set_option maxRecDepth 100000
set_option linter.unusedSimpArgs false
set_option linter.unusedVariables false
namespace Go.Proofs.Ytckcojgfgcjamaa
open Go Go.RowKit
def vk (V : List Int) (k : Nat) : Bool := plF (V.getD k 0) && in04 (V.getD (6 + k) 0) && (decide (0 < V.getD k 0) == decide (0 < V.getD (6 + k) 0))
def vok (V : List Int) : Bool := (List.range 6).all (vk V)
theorem vok_spec {V : List Int} (h : vok V = true) : vTop V ∧ vMan V ∧ vTM V := by
  have h1 : ∀ k, k < 6 → vk V k = true := fun k hk => List.all_eq_true.1 h k (List.mem_range.2 hk)
  refine ⟨fun k hk => ?_, fun k hk => ?_, fun k hk => ?_⟩
  all_goals
    have := h1 k hk
    simp only [vk, plF, in04, Bool.and_eq_true, decide_eq_true_eq, beq_iff_eq] at this
  · exact this.1.1
  · exact this.1.2
  · have := this.2
    rw [decide_eq_decide] at this
    exact this.symm
theorem vk_t {V : List Int} {k : Nat} (h1 : 0 ≤ V.getD k 0 ∧ V.getD k 0 ≤ 5) (h2 : 0 ≤ V.getD (6 + k) 0 ∧ V.getD (6 + k) 0 ≤ 4) (h3 : 0 < V.getD k 0 ↔ 0 < V.getD (6 + k) 0) : vk V k = true := by
  unfold vk plF in04
  rw [decide_eq_true h1, decide_eq_true h2, Bool.and_self, Bool.true_and, beq_iff_eq, decide_eq_decide]
  exact h3
theorem vk_f {V : List Int} {k : Nat} (h3 : ¬ (0 < V.getD k 0 ↔ 0 < V.getD (6 + k) 0)) : vk V k = false := by
  unfold vk
  have : (decide (0 < V.getD k 0) == decide (0 < V.getD (6 + k) 0)) = false := by rw [beq_eq_false_iff_ne, ne_eq, decide_eq_decide]; exact h3
  rw [this, Bool.and_false]
theorem bq1 : (true == false) = false := rfl
theorem bq2 : (false == true) = false := rfl
theorem vok_of {V : List Int} (h : ∀ k, k < 6 → vk V k = true) : vok V = true := List.all_eq_true.2 fun k hk => h k (List.mem_range.1 hk)
theorem vok_not {V : List Int} {k : Nat} (hk : k < 6) (h : vk V k = false) : vok V = false := by
  cases hv : vok V with
  | false => rfl
  | true =>
    have := List.all_eq_true.1 hv k (List.mem_range.2 hk)
    rw [h] at this; cases this
def nn (n : Int) : Bool := decide (0 ≤ n)
def hidV (V : List Int) : List Int := hidL (V.take 6) (V.drop 12) 6
def isVF (V : List Int) : Bool := vok V && decide (V.getD 12 0 = 0) && (V.drop 12).all in024 && (hidV V).all nn && decide ((V.drop 12).sum = ((V.drop 6).take 6).sum)
--@tbl IsView = impl.IsView
theorem IsView1_ok (n : Int) : PureH Try.prog 79 [.int n] [] (.bool (in024 n)) := by
  refine pure_of_vc (X := ⟨Try.prog, tys, [(63, within_F)], [], true, true, 0, [], []⟩) fn_79 ⟨tys_ok, (.cons within_T .nil), .nil, mixed⟩ (n0 := 0) (Nat.le_of_ble_eq_true rfl) (by simp [wfL, SV.wf]) (wfH_spec (by simp [wfH, SObj.wf, wfL, SV.wf])) (Nat.le_refl _) (fun _ => by simp [SV.wf, wfL]) ?_
  simp -implicitDefEqProofs only [Try.f79, Option.getD_some, argS, within_F, SB, SV.known, packR, ne_eq, reduceCtorEq, Nat.reduceEqDiff, ↓reduceIte, if_true, if_false, eq_self, Nat.reduceAdd, Nat.reduceMul, Nat.reduceSub, forall_const, oneCellS, litOne, flat1, Kd.isSca, flat, TYB]
  trivial
theorem IsView2_ok (n : Int) : PureH Try.prog 80 [.int n] [] (.bool (nn n)) := by
  refine pure_of_vc (X := ⟨Try.prog, tys, [], [], true, true, 0, [], []⟩) fn_80 ⟨tys_ok, .nil, .nil, mixed⟩ (n0 := 0) (Nat.le_of_ble_eq_true rfl) (by simp [wfL, SV.wf]) (wfH_spec (by simp [wfH, SObj.wf, wfL, SV.wf])) (Nat.le_refl _) (fun _ => by simp [SV.wf, wfL]) ?_
  simp -implicitDefEqProofs only [Try.f80, Option.getD_some, argS, SB, SV.known, packR, ne_eq, reduceCtorEq, Nat.reduceEqDiff, ↓reduceIte, if_true, if_false, eq_self, Nat.reduceAdd, Nat.reduceMul, Nat.reduceSub, forall_const, oneCellS, litOne, flat1, Kd.isSca, flat, TYB]
  rfl
--@tbl areAll_view = impl.areAll[int]
def areAll_view_F := areAllI_F [(79, in024), (80, nn)]
theorem areAll_view_T : ∀ args H p v, areAll_view_F args H = some (p, v) → p → PureH Try.prog 78 args H v :=
  areAllI_T (by intro q hq; simp at hq; rcases hq with rfl | rfl; exact IsView1_ok; exact IsView2_ok)
theorem IsView_ok (V : List Int) (hV : V.length = 18) : PureH Try.prog 27 [.arr V] [] (.bool (isVF V)) := by
  have tkV : V.take 18 = V := List.take_of_length_le (by omega)
  have lenT : (V.take 6).length = 6 := by rw [List.length_take]; omega
  have lenM : ((V.drop 6).take 6).length = 6 := by rw [List.length_take, List.length_drop]; omega
  have lenC : (V.drop 12).length = 6 := by rw [List.length_drop]; omega
  have tkC : (V.drop 12).take 6 = V.drop 12 := List.take_of_length_le (by omega)
  have lenH : (hidV V).length = 6 := by unfold hidV; rw [hidL_len]; exact lenC
  have tkH : (hidV V).take 6 = hidV V := List.take_of_length_le (by omega)
  have g12 : (V.drop 12).getD 0 0 = V.getD 12 0 := by simp [List.getD]
  have fin : ∀ k, k < 6 → vk V k = false → isVF V = false := fun k hk h => by unfold isVF; rw [vok_not hk h]; rfl
  refine pure_of_vc (X := ⟨Try.prog, tys, [(63, within_F), (53, hidden_F), (78, areAll_view_F), (68, sum_F)], [], true, true, 0, [], []⟩) fn_27 ⟨tys_ok, (.cons within_T (.cons hidden_T (.cons areAll_view_T (.cons sum_T .nil)))), .nil, mixed⟩ (n0 := 0) (Nat.le_of_ble_eq_true rfl) (by simp [wfL, SV.wf]) (wfH_spec (by simp [wfH, SObj.wf, wfL, SV.wf])) (Nat.le_refl _) (fun _ => by simp [SV.wf, wfL]) ?_
  simp -implicitDefEqProofs only [Try.f27, Option.getD_some, argS, within_F, hidden_F, areAll_view_F, sum_F, hV, tkV, ZB, Int.reduceToNat, Nat.reduceLT, Nat.reduceLeDiff, Int.reduceLE, Int.reduceLT, Nat.reduceEqDiff, Nat.reduceSub, SB, SV.known, packR, ne_eq, reduceCtorEq, Nat.reduceEqDiff, ↓reduceIte, if_true, if_false, eq_self, Nat.reduceAdd, Nat.reduceMul, Nat.reduceSub, forall_const, oneCellS, litOne, flat1, Kd.isSca, flat, TYB]
  refine loop_intro (fun k : Nat => [(8, .int k), (7, .arr (V.take 6)), (1, .ptr 0 0)]) (fun k => [(0, .ints V 31)]) 1 (fun k => k ≤ 6 ∧ ∀ q, q < k → vk V q = true) (fun k => 6 - k) ?_ ?_
  · refine ⟨0, ?_, Sub.mk_id ?_ ?_ ?_ ?_ ?_⟩
    all_goals (try (simp only [LB, subS, subH, wfS, wfH, SV.ren, renL, SObj.ren, SV.wf, SObj.wf, wfL, SV.known, Nat.reduceEqDiff, ↓reduceIte, if_true, if_false, eq_self, Nat.reduceAdd, Nat.reduceLT, Nat.reduceLeDiff, implies_true, reduceCtorEq, forall_const]; done))
    all_goals (try (simp only [LB, subS, subH, wfS, wfH, SV.ren, renL, SObj.ren, SV.wf, SObj.wf, wfL, SV.known, Nat.reduceEqDiff, ↓reduceIte, if_true, if_false, eq_self, Nat.reduceAdd, Nat.reduceLT, Nat.reduceLeDiff, implies_true, reduceCtorEq, forall_const]; simp; done))
    all_goals (try (simp only [LB, subS, subH, wfS, wfH, SV.ren, renL, SObj.ren, SV.wf, SObj.wf, wfL, SV.known, Nat.reduceEqDiff, ↓reduceIte, if_true, if_false, eq_self, Nat.reduceAdd, Nat.reduceLT, Nat.reduceLeDiff, implies_true, reduceCtorEq, forall_const]; (and_intros <;> (first | omega | rfl | (simp; done) | (simp; omega))); done))
    all_goals (try dsimp only)
    all_goals (and_intros <;> try (first | omega | (unfold In64; omega) | trivial | assumption))
    all_goals (intro q hq; omega)
  · rintro k ⟨hk, hv⟩
    by_cases hlt : k < 6
    · have hkl : (k : Int) < 6 := by omega
      have ge := take6_get V k hlt
      have gm : V.getD (6 + k) 0 = V.getD (6 + k) 0 := rfl
      by_cases h1 : 0 ≤ V.getD k 0 ∧ V.getD k 0 ≤ 5
      · by_cases h2 : 0 ≤ V.getD (6 + k) 0 ∧ V.getD (6 + k) 0 ≤ 4
        · by_cases h3 : 0 < V.getD k 0
          · by_cases h4 : 0 < V.getD (6 + k) 0
            · have hkk : vk V k = true := vk_t h1 h2 (by omega)
              simp -implicitDefEqProofs only [lk_normal, within_F, hkl, ge, lenT, hV, h1, h2, h3, h4, and_self, decide_true, bq1, bq2, ZB, Int.reduceToNat, Nat.reduceLT, Nat.reduceLeDiff, Int.reduceLE, Int.reduceLT, Nat.reduceEqDiff, Nat.reduceSub, SB, SV.known, packR, ne_eq, reduceCtorEq, Nat.reduceEqDiff, ↓reduceIte, if_true, if_false, eq_self, Nat.reduceAdd, Nat.reduceMul, Nat.reduceSub, forall_const, oneCellS, litOne, flat1, Kd.isSca, flat, TYB]
              (try (and_intros <;> try (first | omega | (unfold In64; omega) | trivial | assumption)))
              refine ⟨k + 1, ?_, ?_, Sub.mk_id ?_ ?_ ?_ ?_ ?_⟩
              all_goals (try (simp only [LB, subS, subH, wfS, wfH, SV.ren, renL, SObj.ren, SV.wf, SObj.wf, wfL, SV.known, Nat.reduceEqDiff, ↓reduceIte, if_true, if_false, eq_self, Nat.reduceAdd, Nat.reduceLT, Nat.reduceLeDiff, implies_true, reduceCtorEq, forall_const]; done))
              all_goals (try (simp only [LB, subS, subH, wfS, wfH, SV.ren, renL, SObj.ren, SV.wf, SObj.wf, wfL, SV.known, Nat.reduceEqDiff, ↓reduceIte, if_true, if_false, eq_self, Nat.reduceAdd, Nat.reduceLT, Nat.reduceLeDiff, implies_true, reduceCtorEq, forall_const]; simp; done))
              all_goals (try (simp only [LB, subS, subH, wfS, wfH, SV.ren, renL, SObj.ren, SV.wf, SObj.wf, wfL, SV.known, Nat.reduceEqDiff, ↓reduceIte, if_true, if_false, eq_self, Nat.reduceAdd, Nat.reduceLT, Nat.reduceLeDiff, implies_true, reduceCtorEq, forall_const]; (and_intros <;> (first | omega | rfl | (simp; done) | (simp; omega))); done))
              all_goals (try dsimp only)
              all_goals (and_intros <;> try (first | omega | (unfold In64; omega) | trivial | assumption))
              · intro q hq
                by_cases hqk : q = k
                · subst hqk; exact hkk
                · exact hv q (by omega)
            · have hkk := fin k hlt (vk_f (by omega))
              simp -implicitDefEqProofs only [lk_normal, within_F, hkl, ge, lenT, hV, h1, h2, h3, h4, hkk, and_self, decide_true, decide_false, bq1, bq2, ZB, Int.reduceToNat, Nat.reduceLT, Nat.reduceLeDiff, Int.reduceLE, Int.reduceLT, Nat.reduceEqDiff, Nat.reduceSub, SB, SV.known, packR, ne_eq, reduceCtorEq, Nat.reduceEqDiff, ↓reduceIte, if_true, if_false, eq_self, Nat.reduceAdd, Nat.reduceMul, Nat.reduceSub, forall_const, oneCellS, litOne, flat1, Kd.isSca, flat, TYB]
              (try (and_intros <;> try (first | omega | (unfold In64; omega) | trivial | assumption)))
          · by_cases h4 : 0 < V.getD (6 + k) 0
            · have hkk := fin k hlt (vk_f (by omega))
              simp -implicitDefEqProofs only [lk_normal, within_F, hkl, ge, lenT, hV, h1, h2, h3, h4, hkk, and_self, decide_true, decide_false, bq1, bq2, ZB, Int.reduceToNat, Nat.reduceLT, Nat.reduceLeDiff, Int.reduceLE, Int.reduceLT, Nat.reduceEqDiff, Nat.reduceSub, SB, SV.known, packR, ne_eq, reduceCtorEq, Nat.reduceEqDiff, ↓reduceIte, if_true, if_false, eq_self, Nat.reduceAdd, Nat.reduceMul, Nat.reduceSub, forall_const, oneCellS, litOne, flat1, Kd.isSca, flat, TYB]
              (try (and_intros <;> try (first | omega | (unfold In64; omega) | trivial | assumption)))
            · have hkk : vk V k = true := vk_t h1 h2 (by omega)
              simp -implicitDefEqProofs only [lk_normal, within_F, hkl, ge, lenT, hV, h1, h2, h3, h4, and_self, decide_true, decide_false, bq1, bq2, ZB, Int.reduceToNat, Nat.reduceLT, Nat.reduceLeDiff, Int.reduceLE, Int.reduceLT, Nat.reduceEqDiff, Nat.reduceSub, SB, SV.known, packR, ne_eq, reduceCtorEq, Nat.reduceEqDiff, ↓reduceIte, if_true, if_false, eq_self, Nat.reduceAdd, Nat.reduceMul, Nat.reduceSub, forall_const, oneCellS, litOne, flat1, Kd.isSca, flat, TYB]
              (try (and_intros <;> try (first | omega | (unfold In64; omega) | trivial | assumption)))
              refine ⟨k + 1, ?_, ?_, Sub.mk_id ?_ ?_ ?_ ?_ ?_⟩
              all_goals (try (simp only [LB, subS, subH, wfS, wfH, SV.ren, renL, SObj.ren, SV.wf, SObj.wf, wfL, SV.known, Nat.reduceEqDiff, ↓reduceIte, if_true, if_false, eq_self, Nat.reduceAdd, Nat.reduceLT, Nat.reduceLeDiff, implies_true, reduceCtorEq, forall_const]; done))
              all_goals (try (simp only [LB, subS, subH, wfS, wfH, SV.ren, renL, SObj.ren, SV.wf, SObj.wf, wfL, SV.known, Nat.reduceEqDiff, ↓reduceIte, if_true, if_false, eq_self, Nat.reduceAdd, Nat.reduceLT, Nat.reduceLeDiff, implies_true, reduceCtorEq, forall_const]; simp; done))
              all_goals (try (simp only [LB, subS, subH, wfS, wfH, SV.ren, renL, SObj.ren, SV.wf, SObj.wf, wfL, SV.known, Nat.reduceEqDiff, ↓reduceIte, if_true, if_false, eq_self, Nat.reduceAdd, Nat.reduceLT, Nat.reduceLeDiff, implies_true, reduceCtorEq, forall_const]; (and_intros <;> (first | omega | rfl | (simp; done) | (simp; omega))); done))
              all_goals (try dsimp only)
              all_goals (and_intros <;> try (first | omega | (unfold In64; omega) | trivial | assumption))
              · intro q hq
                by_cases hqk : q = k
                · subst hqk; exact hkk
                · exact hv q (by omega)
        · have hkk := fin k hlt (by unfold vk in04; rw [decide_eq_false h2]; simp)
          simp -implicitDefEqProofs only [lk_normal, within_F, hkl, ge, lenT, hV, h1, h2, hkk, and_self, decide_true, decide_false, bq1, bq2, ZB, Int.reduceToNat, Nat.reduceLT, Nat.reduceLeDiff, Int.reduceLE, Int.reduceLT, Nat.reduceEqDiff, Nat.reduceSub, SB, SV.known, packR, ne_eq, reduceCtorEq, Nat.reduceEqDiff, ↓reduceIte, if_true, if_false, eq_self, Nat.reduceAdd, Nat.reduceMul, Nat.reduceSub, forall_const, oneCellS, litOne, flat1, Kd.isSca, flat, TYB]
          (try (and_intros <;> try (first | omega | (unfold In64; omega) | trivial | assumption)))
      · have hkk := fin k hlt (by unfold vk plF; rw [decide_eq_false h1]; simp)
        simp -implicitDefEqProofs only [lk_normal, within_F, hkl, ge, lenT, hV, h1, hkk, and_self, decide_true, decide_false, bq1, bq2, ZB, Int.reduceToNat, Nat.reduceLT, Nat.reduceLeDiff, Int.reduceLE, Int.reduceLT, Nat.reduceEqDiff, Nat.reduceSub, SB, SV.known, packR, ne_eq, reduceCtorEq, Nat.reduceEqDiff, ↓reduceIte, if_true, if_false, eq_self, Nat.reduceAdd, Nat.reduceMul, Nat.reduceSub, forall_const, oneCellS, litOne, flat1, Kd.isSca, flat, TYB]
        (try (and_intros <;> try (first | omega | (unfold In64; omega) | trivial | assumption)))
    · have hkl : ¬ (k : Int) < 6 := by omega
      obtain rfl : k = 6 := by omega
      have hok := vok_of hv
      obtain ⟨u1, u2, u3⟩ := vok_spec hok
      have eH : hidL (V.take 6) (V.drop 12) 6 = hidV V := rfl
      have hF : isVF V = (decide (V.getD 12 0 = 0) && (V.drop 12).all in024 && (hidV V).all nn && decide ((V.drop 12).sum = ((V.drop 6).take 6).sum)) := by
        unfold isVF; rw [hok]; rfl
      rw [hF]
      by_cases z0 : V.getD 12 0 = 0
      · cases hA : (V.drop 12).all in024
        · simp -implicitDefEqProofs only [lk_normal, hidden_F, sum_F, areAll_view_F, areAllI_F, hkl, lenT, hV, tkV, lenC, tkC, lenM, lenH, tkH, u1, eH, z0, hA, decide_true, ZB, Int.reduceToNat, Nat.reduceLT, Nat.reduceLeDiff, Int.reduceLE, Int.reduceLT, Nat.reduceEqDiff, Nat.reduceSub, SB, SV.known, packR, ne_eq, reduceCtorEq, Nat.reduceEqDiff, ↓reduceIte, if_true, if_false, eq_self, Nat.reduceAdd, Nat.reduceMul, Nat.reduceSub, forall_const, oneCellS, litOne, flat1, Kd.isSca, flat, TYB]
        · cases hN : (hidV V).all nn
          · simp -implicitDefEqProofs only [lk_normal, hidden_F, sum_F, areAll_view_F, areAllI_F, hkl, lenT, hV, tkV, lenC, tkC, lenM, lenH, tkH, u1, eH, z0, hA, hN, decide_true, ZB, Int.reduceToNat, Nat.reduceLT, Nat.reduceLeDiff, Int.reduceLE, Int.reduceLT, Nat.reduceEqDiff, Nat.reduceSub, SB, SV.known, packR, ne_eq, reduceCtorEq, Nat.reduceEqDiff, ↓reduceIte, if_true, if_false, eq_self, Nat.reduceAdd, Nat.reduceMul, Nat.reduceSub, forall_const, oneCellS, litOne, flat1, Kd.isSca, flat, TYB]
          · have b1 := all_bd hA (a := -1000000) (b := 1000000) (by intro x hx; have := in024_bd x hx; omega)
            have b2 : Bd (-1000000) 1000000 ((V.drop 6).take 6) := fun x hx => by
              obtain ⟨i, hi, e⟩ := List.getElem_of_mem hx
              have := u2 i (by omega)
              simp at e
              have e2 : V.getD (6 + i) 0 = x := by
                have h18 : 6 + i < V.length := by omega
                rw [List.getD_eq_getElem?_getD, List.getElem?_eq_getElem h18]; exact e
              omega
            simp -implicitDefEqProofs only [lk_normal, hidden_F, sum_F, areAll_view_F, areAllI_F, hkl, lenT, hV, tkV, lenC, tkC, lenM, lenH, tkH, u1, eH, z0, hA, hN, decide_true, ZB, Int.reduceToNat, Nat.reduceLT, Nat.reduceLeDiff, Int.reduceLE, Int.reduceLT, Nat.reduceEqDiff, Nat.reduceSub, SB, SV.known, packR, ne_eq, reduceCtorEq, Nat.reduceEqDiff, ↓reduceIte, if_true, if_false, eq_self, Nat.reduceAdd, Nat.reduceMul, Nat.reduceSub, forall_const, oneCellS, litOne, flat1, Kd.isSca, flat, TYB]
            exact ⟨b1, b2⟩
      · simp -implicitDefEqProofs only [lk_normal, hidden_F, sum_F, areAll_view_F, areAllI_F, hkl, lenT, hV, tkV, lenC, tkC, lenM, lenH, tkH, u1, eH, z0, decide_false, ZB, Int.reduceToNat, Nat.reduceLT, Nat.reduceLeDiff, Int.reduceLE, Int.reduceLT, Nat.reduceEqDiff, Nat.reduceSub, SB, SV.known, packR, ne_eq, reduceCtorEq, Nat.reduceEqDiff, ↓reduceIte, if_true, if_false, eq_self, Nat.reduceAdd, Nat.reduceMul, Nat.reduceSub, forall_const, oneCellS, litOne, flat1, Kd.isSca, flat, TYB]
--@tbl l7Good = spec.l7Good
def gdVF (V : List Int) : Bool := vok V && decide (V.getD 12 0 = 0) && ((hidV V).drop 1).all in024 && decide (((hidV V).drop 1).sum = hmL (V.drop 6) 6)
theorem l7Good_ok (V : List Int) (hV : V.length = 18) : PureH Try.prog 67 [.arr V] [] (.bool (gdVF V)) := by
  have tkV : V.take 18 = V := List.take_of_length_le (by omega)
  have lenC : (V.drop 12).length = 6 := by rw [List.length_drop]; omega
  have lenH : (hidV V).length = 6 := by unfold hidV; rw [hidL_len]; exact lenC
  have tkH : (hidV V).take 6 = hidV V := List.take_of_length_le (by omega)
  have fin : ∀ k, k < 6 → vk V k = false → gdVF V = false := fun k hk h => by unfold gdVF; rw [vok_not hk h]; rfl
  refine pure_of_vc (X := ⟨Try.prog, tys, [(65, l1In_F), (56, l7Hidden_F)], [], true, true, 0, [], []⟩) fn_67 ⟨tys_ok, (.cons l1In_T (.cons l7Hidden_T .nil)), .nil, mixed⟩ (n0 := 0) (Nat.le_of_ble_eq_true rfl) (by simp [wfL, SV.wf]) (wfH_spec (by simp [wfH, SObj.wf, wfL, SV.wf])) (Nat.le_refl _) (fun _ => by simp [SV.wf, wfL]) ?_
  simp -implicitDefEqProofs only [Try.f67, Option.getD_some, argS, l1In_F, l7Hidden_F, hV, tkV, ZB, Int.reduceToNat, Nat.reduceLT, Nat.reduceLeDiff, Int.reduceLE, Int.reduceLT, Nat.reduceEqDiff, Nat.reduceSub, SB, SV.known, packR, ne_eq, reduceCtorEq, Nat.reduceEqDiff, ↓reduceIte, if_true, if_false, eq_self, Nat.reduceAdd, Nat.reduceMul, Nat.reduceSub, forall_const, oneCellS, litOne, flat1, Kd.isSca, flat, TYB]
  refine loop_intro (fun k : Nat => [(3, .int k), (1, .ptr 0 0)]) (fun k => [(0, .ints V 31)]) 1 (fun k => k ≤ 6 ∧ ∀ q, q < k → vk V q = true) (fun k => 6 - k) ?_ ?_
  · refine ⟨0, ?_, Sub.mk_id ?_ ?_ ?_ ?_ ?_⟩
    all_goals (try (simp only [LB, subS, subH, wfS, wfH, SV.ren, renL, SObj.ren, SV.wf, SObj.wf, wfL, SV.known, Nat.reduceEqDiff, ↓reduceIte, if_true, if_false, eq_self, Nat.reduceAdd, Nat.reduceLT, Nat.reduceLeDiff, implies_true, reduceCtorEq, forall_const]; done))
    all_goals (try (simp only [LB, subS, subH, wfS, wfH, SV.ren, renL, SObj.ren, SV.wf, SObj.wf, wfL, SV.known, Nat.reduceEqDiff, ↓reduceIte, if_true, if_false, eq_self, Nat.reduceAdd, Nat.reduceLT, Nat.reduceLeDiff, implies_true, reduceCtorEq, forall_const]; simp; done))
    all_goals (try (simp only [LB, subS, subH, wfS, wfH, SV.ren, renL, SObj.ren, SV.wf, SObj.wf, wfL, SV.known, Nat.reduceEqDiff, ↓reduceIte, if_true, if_false, eq_self, Nat.reduceAdd, Nat.reduceLT, Nat.reduceLeDiff, implies_true, reduceCtorEq, forall_const]; (and_intros <;> (first | omega | rfl | (simp; done) | (simp; omega))); done))
    all_goals (try dsimp only)
    all_goals (and_intros <;> try (first | omega | (unfold In64; omega) | trivial | assumption))
    all_goals (intro q hq; omega)
  · rintro k ⟨hk, hv⟩
    by_cases hlt : k < 6
    · have hkl : (k : Int) < 6 := by omega
      by_cases h2 : 0 ≤ V.getD (6 + k) 0 ∧ V.getD (6 + k) 0 ≤ 4
      · by_cases h1 : 0 ≤ V.getD k 0 ∧ V.getD k 0 ≤ 5
        · by_cases h3 : V.getD k 0 = 0
          · by_cases h4 : V.getD (6 + k) 0 = 0
            · have hkk : vk V k = true := vk_t h1 h2 (by omega)
              simp -implicitDefEqProofs only [lk_normal, l1In_F, hkl, hV, h1, h2, h3, h4, and_self, decide_true, bq1, bq2, ZB, Int.reduceToNat, Nat.reduceLT, Nat.reduceLeDiff, Int.reduceLE, Int.reduceLT, Nat.reduceEqDiff, Nat.reduceSub, SB, SV.known, packR, ne_eq, reduceCtorEq, Nat.reduceEqDiff, ↓reduceIte, if_true, if_false, eq_self, Nat.reduceAdd, Nat.reduceMul, Nat.reduceSub, forall_const, oneCellS, litOne, flat1, Kd.isSca, flat, TYB]
              (try (and_intros <;> try (first | omega | (unfold In64; omega) | trivial | assumption)))
              refine ⟨k + 1, ?_, ?_, Sub.mk_id ?_ ?_ ?_ ?_ ?_⟩
              all_goals (try (simp only [LB, subS, subH, wfS, wfH, SV.ren, renL, SObj.ren, SV.wf, SObj.wf, wfL, SV.known, Nat.reduceEqDiff, ↓reduceIte, if_true, if_false, eq_self, Nat.reduceAdd, Nat.reduceLT, Nat.reduceLeDiff, implies_true, reduceCtorEq, forall_const]; done))
              all_goals (try (simp only [LB, subS, subH, wfS, wfH, SV.ren, renL, SObj.ren, SV.wf, SObj.wf, wfL, SV.known, Nat.reduceEqDiff, ↓reduceIte, if_true, if_false, eq_self, Nat.reduceAdd, Nat.reduceLT, Nat.reduceLeDiff, implies_true, reduceCtorEq, forall_const]; simp; done))
              all_goals (try (simp only [LB, subS, subH, wfS, wfH, SV.ren, renL, SObj.ren, SV.wf, SObj.wf, wfL, SV.known, Nat.reduceEqDiff, ↓reduceIte, if_true, if_false, eq_self, Nat.reduceAdd, Nat.reduceLT, Nat.reduceLeDiff, implies_true, reduceCtorEq, forall_const]; (and_intros <;> (first | omega | rfl | (simp; done) | (simp; omega))); done))
              all_goals (try dsimp only)
              all_goals (and_intros <;> try (first | omega | (unfold In64; omega) | trivial | assumption))
              · intro q hq
                by_cases hqk : q = k
                · subst hqk; exact hkk
                · exact hv q (by omega)
            · have h5 : 0 < V.getD (6 + k) 0 := by omega
              have hkk := fin k hlt (vk_f (by omega))
              simp -implicitDefEqProofs only [lk_normal, l1In_F, hkl, hV, h1, h2, h3, h4, hkk, and_self, decide_true, decide_false, bq1, bq2, ZB, Int.reduceToNat, Nat.reduceLT, Nat.reduceLeDiff, Int.reduceLE, Int.reduceLT, Nat.reduceEqDiff, Nat.reduceSub, SB, SV.known, packR, ne_eq, reduceCtorEq, Nat.reduceEqDiff, ↓reduceIte, if_true, if_false, eq_self, Nat.reduceAdd, Nat.reduceMul, Nat.reduceSub, forall_const, oneCellS, litOne, flat1, Kd.isSca, flat, TYB]
              (try (and_intros <;> try (first | omega | (unfold In64; omega) | trivial | assumption)))
          · have h6 : 0 < V.getD k 0 := by omega
            by_cases h4 : V.getD (6 + k) 0 = 0
            · have hkk := fin k hlt (vk_f (by omega))
              simp -implicitDefEqProofs only [lk_normal, l1In_F, hkl, hV, h1, h2, h3, h4, hkk, and_self, decide_true, decide_false, bq1, bq2, ZB, Int.reduceToNat, Nat.reduceLT, Nat.reduceLeDiff, Int.reduceLE, Int.reduceLT, Nat.reduceEqDiff, Nat.reduceSub, SB, SV.known, packR, ne_eq, reduceCtorEq, Nat.reduceEqDiff, ↓reduceIte, if_true, if_false, eq_self, Nat.reduceAdd, Nat.reduceMul, Nat.reduceSub, forall_const, oneCellS, litOne, flat1, Kd.isSca, flat, TYB]
              (try (and_intros <;> try (first | omega | (unfold In64; omega) | trivial | assumption)))
            · have h5 : 0 < V.getD (6 + k) 0 := by omega
              have hkk : vk V k = true := vk_t h1 h2 (by omega)
              simp -implicitDefEqProofs only [lk_normal, l1In_F, hkl, hV, h1, h2, h3, h4, and_self, decide_true, decide_false, bq1, bq2, ZB, Int.reduceToNat, Nat.reduceLT, Nat.reduceLeDiff, Int.reduceLE, Int.reduceLT, Nat.reduceEqDiff, Nat.reduceSub, SB, SV.known, packR, ne_eq, reduceCtorEq, Nat.reduceEqDiff, ↓reduceIte, if_true, if_false, eq_self, Nat.reduceAdd, Nat.reduceMul, Nat.reduceSub, forall_const, oneCellS, litOne, flat1, Kd.isSca, flat, TYB]
              (try (and_intros <;> try (first | omega | (unfold In64; omega) | trivial | assumption)))
              refine ⟨k + 1, ?_, ?_, Sub.mk_id ?_ ?_ ?_ ?_ ?_⟩
              all_goals (try (simp only [LB, subS, subH, wfS, wfH, SV.ren, renL, SObj.ren, SV.wf, SObj.wf, wfL, SV.known, Nat.reduceEqDiff, ↓reduceIte, if_true, if_false, eq_self, Nat.reduceAdd, Nat.reduceLT, Nat.reduceLeDiff, implies_true, reduceCtorEq, forall_const]; done))
              all_goals (try (simp only [LB, subS, subH, wfS, wfH, SV.ren, renL, SObj.ren, SV.wf, SObj.wf, wfL, SV.known, Nat.reduceEqDiff, ↓reduceIte, if_true, if_false, eq_self, Nat.reduceAdd, Nat.reduceLT, Nat.reduceLeDiff, implies_true, reduceCtorEq, forall_const]; simp; done))
              all_goals (try (simp only [LB, subS, subH, wfS, wfH, SV.ren, renL, SObj.ren, SV.wf, SObj.wf, wfL, SV.known, Nat.reduceEqDiff, ↓reduceIte, if_true, if_false, eq_self, Nat.reduceAdd, Nat.reduceLT, Nat.reduceLeDiff, implies_true, reduceCtorEq, forall_const]; (and_intros <;> (first | omega | rfl | (simp; done) | (simp; omega))); done))
              all_goals (try dsimp only)
              all_goals (and_intros <;> try (first | omega | (unfold In64; omega) | trivial | assumption))
              · intro q hq
                by_cases hqk : q = k
                · subst hqk; exact hkk
                · exact hv q (by omega)
        · have hkk := fin k hlt (by unfold vk plF; rw [decide_eq_false h1]; simp)
          simp -implicitDefEqProofs only [lk_normal, l1In_F, hkl, hV, h1, h2, hkk, and_self, decide_true, decide_false, bq1, bq2, ZB, Int.reduceToNat, Nat.reduceLT, Nat.reduceLeDiff, Int.reduceLE, Int.reduceLT, Nat.reduceEqDiff, Nat.reduceSub, SB, SV.known, packR, ne_eq, reduceCtorEq, Nat.reduceEqDiff, ↓reduceIte, if_true, if_false, eq_self, Nat.reduceAdd, Nat.reduceMul, Nat.reduceSub, forall_const, oneCellS, litOne, flat1, Kd.isSca, flat, TYB]
          (try (and_intros <;> try (first | omega | (unfold In64; omega) | trivial | assumption)))
      · have hkk := fin k hlt (by unfold vk in04; rw [decide_eq_false h2]; simp)
        simp -implicitDefEqProofs only [lk_normal, l1In_F, hkl, hV, h2, hkk, and_self, decide_true, decide_false, bq1, bq2, ZB, Int.reduceToNat, Nat.reduceLT, Nat.reduceLeDiff, Int.reduceLE, Int.reduceLT, Nat.reduceEqDiff, Nat.reduceSub, SB, SV.known, packR, ne_eq, reduceCtorEq, Nat.reduceEqDiff, ↓reduceIte, if_true, if_false, eq_self, Nat.reduceAdd, Nat.reduceMul, Nat.reduceSub, forall_const, oneCellS, litOne, flat1, Kd.isSca, flat, TYB]
        (try (and_intros <;> try (first | omega | (unfold In64; omega) | trivial | assumption)))
    · have hkl : ¬ (k : Int) < 6 := by omega
      obtain rfl : k = 6 := by omega
      have hok := vok_of hv
      obtain ⟨u1, u2, u3⟩ := vok_spec hok
      have eH : hidL (V.take 6) (V.drop 12) 6 = hidV V := rfl
      have hF : gdVF V = (decide (V.getD 12 0 = 0) && ((hidV V).drop 1).all in024 && decide (((hidV V).drop 1).sum = hmL (V.drop 6) 6)) := by
        unfold gdVF; rw [hok]; rfl
      rw [hF]
      simp -implicitDefEqProofs only [lk_normal, l7Hidden_F, hkl, hV, tkV, lenH, tkH, u1, u2, u3, eH, ZB, Int.reduceToNat, Nat.reduceLT, Nat.reduceLeDiff, Int.reduceLE, Int.reduceLT, Nat.reduceEqDiff, Nat.reduceSub, SB, SV.known, packR, ne_eq, reduceCtorEq, Nat.reduceEqDiff, ↓reduceIte, if_true, if_false, eq_self, Nat.reduceAdd, Nat.reduceMul, Nat.reduceSub, forall_const, oneCellS, litOne, flat1, Kd.isSca, flat, TYB]
      have hmb := hmL_bd (M := V.drop 6) (fun k hk => by have := u2 k hk; simpa [List.getD] using this) 6 (Nat.le_refl _)
      generalize hmL (V.drop 6) 6 = hm at *
      have lenD : ((hidV V).drop 1).length = 5 := by rw [List.length_drop]; omega
      have gD : ∀ k, ((hidV V).drop 1).getD k 0 = (hidV V).getD (k + 1) 0 := fun k => by simp [List.getD, Nat.add_comm]
      generalize hD : (hidV V).drop 1 = D at *
      refine loop_intro (fun k : Nat => [(7, .int ((k : Int) + 1)), (6, .int (D.take k).sum), (4, .int hm), (5, .ptr 1 0), (1, .ptr 0 0)]) (fun k => [(1, .ints (hidV V) 29), (0, .ints V 31)]) 2 (fun k => k ≤ 5 ∧ (D.take k).all in024 = true) (fun k => 6 - k) ?_ ?_
      · refine ⟨0, ?_, Sub.mk_id ?_ ?_ ?_ ?_ ?_⟩
        all_goals (try (simp only [List.take_zero, List.sum_nil, LB, subS, subH, wfS, wfH, SV.ren, renL, SObj.ren, SV.wf, SObj.wf, wfL, SV.known, Nat.reduceEqDiff, ↓reduceIte, if_true, if_false, eq_self, Nat.reduceAdd, Nat.reduceLT, Nat.reduceLeDiff, implies_true, reduceCtorEq, forall_const]; done))
        all_goals (try (simp only [List.take_zero, List.sum_nil, LB, subS, subH, wfS, wfH, SV.ren, renL, SObj.ren, SV.wf, SObj.wf, wfL, SV.known, Nat.reduceEqDiff, ↓reduceIte, if_true, if_false, eq_self, Nat.reduceAdd, Nat.reduceLT, Nat.reduceLeDiff, implies_true, reduceCtorEq, forall_const]; simp; done))
        all_goals (try (simp only [List.take_zero, List.sum_nil, LB, subS, subH, wfS, wfH, SV.ren, renL, SObj.ren, SV.wf, SObj.wf, wfL, SV.known, Nat.reduceEqDiff, ↓reduceIte, if_true, if_false, eq_self, Nat.reduceAdd, Nat.reduceLT, Nat.reduceLeDiff, implies_true, reduceCtorEq, forall_const]; (and_intros <;> (first | omega | rfl | (simp; done) | (simp; omega))); done))
        all_goals (try dsimp only)
        all_goals (and_intros <;> try (first | omega | (unfold In64; omega) | trivial | assumption))
        all_goals simp
      · rintro k ⟨hk, hA⟩
        have hb1 := sum_bd _ (all_bd hA in024_bd)
        have hl1 : (D.take k).length = k := by rw [List.length_take]; omega
        rw [hl1] at hb1
        by_cases hlt : k < 5
        · have hkl : (k : Int) + 1 ≤ 5 := by omega
          have tn : ((k : Int) + 1).toNat = k + 1 := by omega
          have k0 : 0 ≤ (k : Int) + 1 := by omega
          have k6 : (k : Int) + 1 < 6 := by omega
          have es : (D.take (k + 1)).sum = (D.take k).sum + D.getD k 0 := by
            rw [List.take_succ_eq_append_getElem (by omega), List.sum_append]
            simp [List.getD, List.getElem?_eq_getElem (show k < D.length by omega)]
          have ea := all_take_succ in024 D k (by omega)
          rw [hA, Bool.true_and] at ea
          by_cases h1 : 0 ≤ D.getD k 0 ∧ D.getD k 0 ≤ 24
          · have e1 : in024 (D.getD k 0) = true := decide_eq_true h1
            rw [e1] at ea
            simp -implicitDefEqProofs only [lk_normal, l1In_F, hkl, hV, lenH, tn, k0, k6, ← gD, h1, and_self, decide_true, ZB, Int.reduceToNat, Nat.reduceLT, Nat.reduceLeDiff, Int.reduceLE, Int.reduceLT, Nat.reduceEqDiff, Nat.reduceSub, SB, SV.known, packR, ne_eq, reduceCtorEq, Nat.reduceEqDiff, ↓reduceIte, if_true, if_false, eq_self, Nat.reduceAdd, Nat.reduceMul, Nat.reduceSub, forall_const, oneCellS, litOne, flat1, Kd.isSca, flat, TYB]
            (try (and_intros <;> try (first | omega | (unfold In64; omega) | trivial | assumption)))
            refine ⟨k + 1, ?_, ?_, Sub.mk_id ?_ ?_ ?_ ?_ ?_⟩
            all_goals (try (simp only [es, LB, subS, subH, wfS, wfH, SV.ren, renL, SObj.ren, SV.wf, SObj.wf, wfL, SV.known, Nat.reduceEqDiff, ↓reduceIte, if_true, if_false, eq_self, Nat.reduceAdd, Nat.reduceLT, Nat.reduceLeDiff, implies_true, reduceCtorEq, forall_const]; done))
            all_goals (try (simp only [es, LB, subS, subH, wfS, wfH, SV.ren, renL, SObj.ren, SV.wf, SObj.wf, wfL, SV.known, Nat.reduceEqDiff, ↓reduceIte, if_true, if_false, eq_self, Nat.reduceAdd, Nat.reduceLT, Nat.reduceLeDiff, implies_true, reduceCtorEq, forall_const]; simp; done))
            all_goals (try (simp only [es, LB, subS, subH, wfS, wfH, SV.ren, renL, SObj.ren, SV.wf, SObj.wf, wfL, SV.known, Nat.reduceEqDiff, ↓reduceIte, if_true, if_false, eq_self, Nat.reduceAdd, Nat.reduceLT, Nat.reduceLeDiff, implies_true, reduceCtorEq, forall_const]; (and_intros <;> (first | omega | rfl | (simp; done) | (simp; omega))); done))
            all_goals (try dsimp only)
            all_goals (and_intros <;> try (first | omega | (unfold In64; omega) | trivial | assumption))
          · have e1 : in024 (D.getD k 0) = false := decide_eq_false h1
            have ef : D.all in024 = false := by
              rw [List.all_eq_false]
              exact ⟨D.getD k 0, by rw [List.getD_eq_getElem?_getD, List.getElem?_eq_getElem (show k < D.length by omega)]; exact List.getElem_mem _, by rw [e1]; simp⟩
            simp -implicitDefEqProofs only [lk_normal, l1In_F, hkl, hV, lenH, tn, k0, k6, ← gD, h1, ef, and_self, decide_true, decide_false, ZB, Int.reduceToNat, Nat.reduceLT, Nat.reduceLeDiff, Int.reduceLE, Int.reduceLT, Nat.reduceEqDiff, Nat.reduceSub, SB, SV.known, packR, ne_eq, reduceCtorEq, Nat.reduceEqDiff, ↓reduceIte, if_true, if_false, eq_self, Nat.reduceAdd, Nat.reduceMul, Nat.reduceSub, forall_const, oneCellS, litOne, flat1, Kd.isSca, flat, TYB]
            (try (and_intros <;> try (first | omega | (unfold In64; omega) | trivial | assumption)))
            all_goals simp
        · have hkl : ¬ (k : Int) + 1 ≤ 5 := by omega
          obtain rfl : k = 5 := by omega
          have tD : D.take 5 = D := List.take_of_length_le (by omega)
          have hkl : ¬ (5 : Int) + 1 ≤ 5 := by omega
          rw [tD] at hA ⊢
          by_cases z0 : V.getD 12 0 = 0
          · simp -implicitDefEqProofs only [lk_normal, hkl, hV, z0, hA, decide_true, ZB, Int.reduceToNat, Nat.reduceLT, Nat.reduceLeDiff, Int.reduceLE, Int.reduceLT, Nat.reduceEqDiff, Nat.reduceSub, SB, SV.known, packR, ne_eq, reduceCtorEq, Nat.reduceEqDiff, ↓reduceIte, if_true, if_false, eq_self, Nat.reduceAdd, Nat.reduceMul, Nat.reduceSub, forall_const, oneCellS, litOne, flat1, Kd.isSca, flat, TYB]
          · simp -implicitDefEqProofs only [lk_normal, hkl, hV, z0, hA, decide_false, ZB, Int.reduceToNat, Nat.reduceLT, Nat.reduceLeDiff, Int.reduceLE, Int.reduceLT, Nat.reduceEqDiff, Nat.reduceSub, SB, SV.known, packR, ne_eq, reduceCtorEq, Nat.reduceEqDiff, ↓reduceIte, if_true, if_false, eq_self, Nat.reduceAdd, Nat.reduceMul, Nat.reduceSub, forall_const, oneCellS, litOne, flat1, Kd.isSca, flat, TYB]
def IsView_F : List SV → Heap → Option (Prop × SV)
  | [.arr V], _ => some (V.length = 18, .bool (isVF V))
  | _, _ => none
theorem IsView_T : ∀ args H p v, IsView_F args H = some (p, v) → p → PureH Try.prog 27 args H v := by
  intro args H p v h hp
  unfold IsView_F at h
  split at h
  · cases h; exact (IsView_ok _ hp).any _
  · cases h
/-! Both mean the same. -/
def I64 (V : List Int) : Prop := ∀ x ∈ V, In64 x
def tau (V : List Int) (c k : Nat) : Int := ((List.range k).map fun q => is1 ((V.take 6).getD q 0) (c : Int)).sum
theorem tau_bd (V : List Int) (c : Nat) : ∀ k, 0 ≤ tau V c k ∧ tau V c k ≤ k
  | 0 => by simp [tau]
  | k + 1 => by
    have := tau_bd V c k
    have hb := is1_bd ((V.take 6).getD k 0) (c : Int)
    unfold tau at *
    rw [List.range_succ, List.map_append, List.sum_append]
    simp only [List.map_cons, List.map_nil, List.sum_cons, List.sum_nil]
    omega
theorem tau_succ (V : List Int) (c k : Nat) : tau V c (k + 1) = tau V c k + is1 ((V.take 6).getD k 0) (c : Int) := by
  unfold tau
  rw [List.range_succ, List.map_append, List.sum_append]
  simp only [List.map_cons, List.map_nil, List.sum_cons, List.sum_nil]
  omega
theorem hid_cases {V : List Int} (hV : V.length = 18) (h64 : ∀ x ∈ V, In64 x) (hT : vTop V) {c : Nat} (hc : 1 ≤ c) (hc6 : c < 6) : ∀ k, k ≤ 6 → In64 ((hidL (V.take 6) (V.drop 12) k).getD c 0) ∧
    ((hidL (V.take 6) (V.drop 12) k).getD c 0 = (V.drop 12).getD c 0 - tau V c k ∨ (9223372036854775807 - (k : Int) ≤ (hidL (V.take 6) (V.drop 12) k).getD c 0 ∧ (V.drop 12).getD c 0 ≤ -9223372036854775808 + (k : Int)))
  | 0, _ => by
    have hx : In64 ((V.drop 12).getD c 0) := by
      have : (V.drop 12).getD c 0 ∈ V := by
        have h1 : c < (V.drop 12).length := by rw [List.length_drop]; omega
        rw [List.getD_eq_getElem?_getD, List.getElem?_eq_getElem h1]
        exact List.mem_of_mem_drop (List.getElem_mem h1)
      exact h64 _ this
    refine ⟨hx, .inl ?_⟩
    simp [tau, hidL]
  | k + 1, hk => by
    obtain ⟨h1, h2⟩ := hid_cases hV h64 hT hc hc6 k (by omega)
    have hl : (hidL (V.take 6) (V.drop 12) k).length = 6 := by rw [hidL_len, List.length_drop]; omega
    have ht := hT k (by omega)
    have ge := take6_get V k (by omega)
    rw [tau_succ, ge]
    unfold hidL
    rw [ge]
    split
    · rename_i hp
      by_cases hcc : (V.getD k 0).toNat = c
      · have e1 : is1 (V.getD k 0) (c : Int) = 1 := by unfold is1; rw [if_pos (by omega)]
        rw [e1, hcc, getD_set_eq _ _ _ (by omega)]
        by_cases hm : (hidL (V.take 6) (V.drop 12) k).getD c 0 = -9223372036854775808
        · have ew : wr ((hidL (V.take 6) (V.drop 12) k).getD c 0 - 1) = 9223372036854775807 := by rw [hm]; rfl
          rw [ew]
          have hb := tau_bd V c k
          refine ⟨by unfold In64; omega, .inr ?_⟩
          rcases h2 with h2 | h2 <;> omega
        · have ew : wr ((hidL (V.take 6) (V.drop 12) k).getD c 0 - 1) = (hidL (V.take 6) (V.drop 12) k).getD c 0 - 1 := wr_in (by unfold In64 at *; omega)
          rw [ew]
          refine ⟨by unfold In64 at *; omega, ?_⟩
          rcases h2 with h2 | h2
          · exact .inl (by omega)
          · exact .inr (by omega)
      · have e1 : is1 (V.getD k 0) (c : Int) = 0 := by unfold is1; rw [if_neg (by omega)]
        rw [e1, getD_set_ne _ _ _ _ hcc]
        refine ⟨h1, ?_⟩
        rcases h2 with h2 | h2
        · exact .inl (by omega)
        · exact .inr (by omega)
    · rename_i hp
      have e1 : is1 (V.getD k 0) (c : Int) = 0 := by unfold is1; rw [if_neg (by omega)]
      rw [e1]
      refine ⟨h1, ?_⟩
      rcases h2 with h2 | h2
      · exact .inl (by omega)
      · exact .inr (by omega)
theorem sum_six {l : List Int} (h : l.length = 6) : l.sum = l.getD 0 0 + l.getD 1 0 + l.getD 2 0 + l.getD 3 0 + l.getD 4 0 + l.getD 5 0 := by
  match l, h with
  | [a, b, c, d, e, f], _ => simp; omega
theorem sum_five {l : List Int} (h : l.length = 6) : (l.drop 1).sum = l.getD 1 0 + l.getD 2 0 + l.getD 3 0 + l.getD 4 0 + l.getD 5 0 := by
  match l, h with
  | [a, b, c, d, e, f], _ => simp; omega
theorem all_six {l : List Int} (h : l.length = 6) (pr : Int → Bool) : l.all pr = true ↔ ∀ k, k < 6 → pr (l.getD k 0) = true := by
  match l, h with
  | [a, b, c, d, e, f], _ =>
    simp only [List.all_cons, List.all_nil, Bool.and_true, Bool.and_eq_true]
    constructor
    · rintro ⟨h0, h1, h2, h3, h4, h5⟩ k hk
      rcases (show k = 0 ∨ k = 1 ∨ k = 2 ∨ k = 3 ∨ k = 4 ∨ k = 5 by omega) with rfl | rfl | rfl | rfl | rfl | rfl <;> assumption
    · intro g
      exact ⟨g 0 (by omega), g 1 (by omega), g 2 (by omega), g 3 (by omega), g 4 (by omega), g 5 (by omega)⟩
theorem all_five {l : List Int} (h : l.length = 6) (pr : Int → Bool) : (l.drop 1).all pr = true ↔ ∀ k, 1 ≤ k → k < 6 → pr (l.getD k 0) = true := by
  match l, h with
  | [a, b, c, d, e, f], _ =>
    simp only [List.drop_succ_cons, List.drop_zero, List.all_cons, List.all_nil, Bool.and_true, Bool.and_eq_true]
    constructor
    · rintro ⟨h1, h2, h3, h4, h5⟩ k hk hk6
      rcases (show k = 1 ∨ k = 2 ∨ k = 3 ∨ k = 4 ∨ k = 5 by omega) with rfl | rfl | rfl | rfl | rfl <;> assumption
    · intro g
      exact ⟨g 1 (by omega) (by omega), g 2 (by omega) (by omega), g 3 (by omega) (by omega), g 4 (by omega) (by omega), g 5 (by omega) (by omega)⟩
theorem hm_tau {V : List Int} (hT : vTop V) (hTM : vTM V) (hM : vMan V) : ∀ k, k ≤ 6 → hmL (V.drop 6) k + (tau V 1 k + tau V 2 k + tau V 3 k + tau V 4 k + tau V 5 k) = (((V.drop 6).take k)).sum
  | 0, _ => by simp [hmL, tau]
  | k + 1, hk => by
    have ih := hm_tau hT hTM hM k (by omega)
    have ht := hT k (by omega)
    have htm := hTM k (by omega)
    have hm := hM k (by omega)
    have gM : (V.drop 6).getD k 0 = V.getD (6 + k) 0 := by simp [List.getD]
    have ge := take6_get V k (by omega)
    have h5 : is1 (V.getD k 0) ((1 : Nat) : Int) + is1 (V.getD k 0) ((2 : Nat) : Int) + is1 (V.getD k 0) ((3 : Nat) : Int) + is1 (V.getD k 0) ((4 : Nat) : Int) + is1 (V.getD k 0) ((5 : Nat) : Int) = if V.getD k 0 = 0 then 0 else 1 := is1_sum ht
    rw [tau_succ, tau_succ, tau_succ, tau_succ, tau_succ, ge]
    have es : ((V.drop 6).take (k + 1)).sum = ((V.drop 6).take k).sum + V.getD (6 + k) 0 := by
      by_cases hlen : k < (V.drop 6).length
      · rw [List.take_succ_eq_append_getElem hlen, List.sum_append]
        rw [← gM]
        simp [List.getD, List.getElem?_eq_getElem hlen]
      · have : V.getD (6 + k) 0 = 0 := by
          rw [← gM, List.getD_eq_getElem?_getD, List.getElem?_eq_none (by omega)]; rfl
        rw [this, List.take_of_length_le (by omega), List.take_of_length_le (by omega)]; omega
    rw [es, hmL, gM]
    split
    · rename_i hp
      rw [if_neg (by omega)] at h5
      omega
    · rename_i hp
      rw [if_pos (by omega)] at h5
      omega
theorem good_view {V : List Int} (hV : V.length = 18) (h64 : ∀ x ∈ V, In64 x) : gdVF V = isVF V := by
  unfold gdVF isVF
  cases hv : vok V
  · rfl
  · obtain ⟨u1, u2, u3⟩ := vok_spec hv
    by_cases z0 : V.getD 12 0 = 0
    · have lenC : (V.drop 12).length = 6 := by rw [List.length_drop]; omega
      have lenH : (hidV V).length = 6 := by unfold hidV; rw [hidL_len]; exact lenC
      have c0 : (V.drop 12).getD 0 0 = 0 := by rw [show (V.drop 12).getD 0 0 = V.getD 12 0 by simp [List.getD]]; exact z0
      have h0 : (hidV V).getD 0 0 = 0 := by unfold hidV; rw [hidL_zero _ _ (by omega), c0]
      have hc := fun c h1 h2 => hid_cases hV h64 u1 (c := c) h1 h2 6 (Nat.le_refl _)
      have ht := hm_tau u1 u3 u2 6 (Nat.le_refl _)
      have t := fun c => tau_bd V c 6
      have sM : 0 ≤ ((V.drop 6).take 6).sum ∧ ((V.drop 6).take 6).sum ≤ 24 := by
        have lenM : ((V.drop 6).take 6).length = 6 := by rw [List.length_take, List.length_drop]; omega
        have gM : ∀ k, k < 6 → ((V.drop 6).take 6).getD k 0 = V.getD (6 + k) 0 := fun k hk => by simp [List.getD, List.getElem?_take, hk]
        rw [sum_six lenM, gM 0 (by omega), gM 1 (by omega), gM 2 (by omega), gM 3 (by omega), gM 4 (by omega), gM 5 (by omega)]
        have := u2 0 (by omega); have := u2 1 (by omega); have := u2 2 (by omega); have := u2 3 (by omega); have := u2 4 (by omega); have := u2 5 (by omega)
        omega
      simp only [z0, decide_true, Bool.true_and]
      rw [Bool.eq_iff_iff, Bool.and_eq_true, Bool.and_eq_true, Bool.and_eq_true, decide_eq_true_eq, decide_eq_true_eq, all_five lenH, all_six lenC, all_six lenH, sum_five lenH, sum_six lenC, c0]
      have hh : ∀ c, (hidL (V.take 6) (V.drop 12) 6).getD c 0 = (hidV V).getD c 0 := fun c => rfl
      simp only [hh] at hc
      generalize hidV V = H at *
      generalize V.drop 12 = C at *
      generalize ((V.drop 6).take 6).sum = sm at *
      generalize hmL (V.drop 6) 6 = hm at *
      have t1 := t 1; have t2 := t 2; have t3 := t 3; have t4 := t 4; have t5 := t 5
      have c1 := hc 1 (by omega) (by omega); have c2 := hc 2 (by omega) (by omega); have c3 := hc 3 (by omega) (by omega); have c4 := hc 4 (by omega) (by omega); have c5 := hc 5 (by omega) (by omega)
      clear hc t
      unfold In64 at *
      constructor
      · rintro ⟨g, e⟩
        have g1 := in024_bd _ (g 1 (by omega) (by omega)); have g2 := in024_bd _ (g 2 (by omega) (by omega)); have g3 := in024_bd _ (g 3 (by omega) (by omega)); have g4 := in024_bd _ (g 4 (by omega) (by omega)); have g5 := in024_bd _ (g 5 (by omega) (by omega))
        refine ⟨⟨fun k hk => ?_, fun k hk => ?_⟩, by omega⟩
        · refine decide_eq_true ?_
          rcases (show k = 0 ∨ k = 1 ∨ k = 2 ∨ k = 3 ∨ k = 4 ∨ k = 5 by omega) with rfl | rfl | rfl | rfl | rfl | rfl <;> omega
        · refine decide_eq_true ?_
          rcases (show k = 0 ∨ k = 1 ∨ k = 2 ∨ k = 3 ∨ k = 4 ∨ k = 5 by omega) with rfl | rfl | rfl | rfl | rfl | rfl <;> omega
      · rintro ⟨⟨gc, gh⟩, e⟩
        have g1 := in024_bd _ (gc 1 (by omega)); have g2 := in024_bd _ (gc 2 (by omega)); have g3 := in024_bd _ (gc 3 (by omega)); have g4 := in024_bd _ (gc 4 (by omega)); have g5 := in024_bd _ (gc 5 (by omega))
        have nb : ∀ x, nn x = true → 0 ≤ x := fun x h => of_decide_eq_true h
        have n1 := nb _ (gh 1 (by omega)); have n2 := nb _ (gh 2 (by omega)); have n3 := nb _ (gh 3 (by omega)); have n4 := nb _ (gh 4 (by omega)); have n5 := nb _ (gh 5 (by omega))
        refine ⟨fun k h1 hk => decide_eq_true ?_, ?_⟩
        · rcases (show k = 1 ∨ k = 2 ∨ k = 3 ∨ k = 4 ∨ k = 5 by omega) with rfl | rfl | rfl | rfl | rfl <;> omega
        · omega
    · simp only [z0, decide_false, Bool.and_false, Bool.false_and]
end Go.Proofs.Ytckcojgfgcjamaa
set_option maxRecDepth 100000
set_option linter.unusedSimpArgs false
set_option linter.unusedVariables false
namespace Go.Proofs.Ytckcojgfgcjamaa
open Go Go.RowKit

structure UpdP (P : Program) (f : FuncId) (args : List SV) (b : Nat) (H0 : Heap) (o o' : SObj) (r : SV) : Prop where
  ent : Entd P f
  lo : o.live = true
  wo : ∀ n, o'.wf n
  call : ∀ B w, HR B ((b, o) :: H0) w → Calls P f (denL B args).toArray w fun e w' => e = .returned (r.den B) ∧ Kept (fun i => i = B b ∨ w.heap.size ≤ i) w w' ∧ w'.heap[B b]? = some (o'.den B)

/-- A heap that holds another one. -/
def Ext (Hc H : Heap) : Prop := ∀ k o, hget Hc k = some o → hget H k = some o
theorem Ext.refl (H : Heap) : Ext H H := fun _ _ h => h
theorem Ext.cons {Hc H : Heap} {b : Nat} {o : SObj} {n : Nat} (hw : hwf n Hc) (hb : n ≤ b) (h : Ext Hc H) : Ext Hc ((b, o) :: H) := fun k o1 hk => by
  have := (hw k o1 hk).1
  rw [hget_cons, if_neg (by omega)]
  exact h k o1 hk
end Go.Proofs.Ytckcojgfgcjamaa
set_option maxRecDepth 100000
set_option linter.unusedSimpArgs false
set_option linter.unusedVariables false
namespace Go.Proofs.Ytckcojgfgcjamaa
open Go Go.RowKit
def chk (L : List Int) (off len : Nat) : List (List Int) := (List.range len).map fun i => (L.drop (off + i * 2)).take 2
/-- What is kept. -/
def kept (np : List Int → Bool) (L : List Int) (k : Nat) : List Int := ((chk L 0 k).filter np).flatten
end Go.Proofs.Ytckcojgfgcjamaa
set_option maxRecDepth 100000
set_option linter.unusedSimpArgs false
set_option linter.unusedVariables false
namespace Go.Proofs.Ytckcojgfgcjamaa
open Go Go.RowKit
/-! DeleteFunc with a closure over one rack. -/
--@tbl delR = slices.DeleteFunc[[][2]int,[2]int]
/-! The model's. -/
--@tbl l2Idle = spec.l2Idle
--@tbl l2Useful = spec.l2Useful
end Go.Proofs.Ytckcojgfgcjamaa
set_option maxRecDepth 100000
set_option linter.unusedSimpArgs false
set_option linter.unusedVariables false
namespace Go.Proofs.Ytckcojgfgcjamaa
open Go Go.RowKit
/-! IsStuck. -/
end Go.Proofs.Ytckcojgfgcjamaa
set_option maxRecDepth 100000
set_option linter.unusedSimpArgs false
set_option linter.unusedVariables false
namespace Go.Proofs.Ytckcojgfgcjamaa
open Go Go.RowKit
theorem run_of_next {P : Program} {s : Sem Value} {x : Value} {w : World} (h : (do pure (Next.value (← s)) : Sem Next).run P w = .ok (.value x) w) : s.run P w = .ok x w := by
  simp only [Sem.run_bind] at h
  generalize s.run P w = r at h
  cases r with
  | ok y w1 => simp only [Result.andThen_ok, Sem.run_pure] at h; cases h; rfl
  | halt y w1 => simp only [Result.andThen_halt] at h; cases h
theorem runPart_int {t : TypeId} (hk : (tys t).k = .int) (L : List Int) (off : Nat) (h : off < L.length) (w : World) : (part t (ints L) off).run Try.prog w = .ok (.int .i64 (L.getD off 0)) w := by
  obtain ⟨v, x, _, h2, h3, h4⟩ := part_sound (B := fun _ => 0) (H := []) (n := 0) (κ := fun v _ _ => v = .int (L.getD off 0)) tys_ok (t := t) (L := L) (off := off) (by unfold partVC; rw [hk]; all_goals exact ⟨h, rfl⟩)
  subst h3
  have h5 := h4 w (HR.nil _ _)
  rw [h2 rfl] at h5
  exact run_of_next h5
theorem runPart_arr {t k e : Nat} (hk : (tys t).k = .arr k e) (L : List Int) (off : Nat) (h : off + (tys t).size ≤ L.length) (w : World) : (part t (ints L) off).run Try.prog w = .ok (.agg (ints ((L.drop off).take (tys t).size))) w := by
  obtain ⟨v, x, _, h2, h3, h4⟩ := part_sound (B := fun _ => 0) (H := []) (n := 0) (κ := fun v _ _ => v = .arr ((L.drop off).take (tys t).size)) tys_ok (t := t) (L := L) (off := off) (by unfold partVC; rw [hk]; all_goals exact ⟨h, rfl⟩)
  subst h3
  have h5 := h4 w (HR.nil _ _)
  rw [h2 rfl] at h5
  exact run_of_next h5
/-- Equality at a type, at every depth from some depth on. -/
def EqA (D : Nat) (t : TypeId) (s : Nat) : Prop := ∀ d, D ≤ d → ∀ (L M : List Int), L.length = s → M.length = s → ∀ w, (Op.equalIn d t (.agg (ints L)) (.agg (ints M))).run Try.prog w = .ok (decide (L = M)) w
theorem take_split (L : List Int) (c k : Nat) : L.take ((k + 1) * c) = L.take c ++ (L.drop c).take (k * c) := by
  rw [show (k + 1) * c = c + k * c by rw [Nat.add_mul, Nat.one_mul, Nat.add_comm], List.take_add]
theorem items_run {d : Nat} {e : TypeId} {c : Nat} (L M : List Int) (hst : ∀ a, (a + 1) * c ≤ L.length → (a + 1) * c ≤ M.length → ∀ w, ∃ x y, (part e (ints L) (a * c)).run Try.prog w = .ok x w ∧ (part e (ints M) (a * c)).run Try.prog w = .ok y w ∧
      (Op.equalIn d e x y).run Try.prog w = .ok (decide ((L.drop (a * c)).take c = (M.drop (a * c)).take c)) w) :
    ∀ (k a : Nat), (a + k) * c ≤ L.length → (a + k) * c ≤ M.length → ∀ w, (Op.eqItems d e c (ints L) (ints M) (List.range' a k)).run Try.prog w = .ok (decide ((L.drop (a * c)).take (k * c) = (M.drop (a * c)).take (k * c))) w
  | 0, a, _, _, w => by simp [Op.eqItems]
  | k + 1, a, h1, h2, w => by
    have le : (a + 1) * c ≤ (a + (k + 1)) * c := Nat.mul_le_mul_right c (by omega)
    obtain ⟨x, y, p1, p2, p3⟩ := hst a (by omega) (by omega) w
    have ih := items_run L M hst k (a + 1) (by rw [show a + 1 + k = a + (k + 1) by omega]; exact h1) (by rw [show a + 1 + k = a + (k + 1) by omega]; exact h2) w
    have hac : (a + 1) * c = a * c + c := by rw [Nat.add_mul, Nat.one_mul]
    have hkc : (a + (k + 1)) * c = a * c + c + k * c := by rw [Nat.add_mul, Nat.add_mul, Nat.one_mul]; omega
    rw [List.range'_succ]
    simp only [Op.eqItems, Sem.run_bind, p1, p2, p3, Result.andThen_ok]
    rw [take_split, take_split, List.drop_drop, List.drop_drop, ← hac]
    by_cases hd : (L.drop (a * c)).take c = (M.drop (a * c)).take c
    · simp only [hd, decide_true, Bool.not_true, Bool.false_eq_true, if_false]
      rw [ih]
      simp
    · have : ¬ ((L.drop (a * c)).take c ++ (L.drop ((a + 1) * c)).take (k * c) = (M.drop (a * c)).take c ++ (M.drop ((a + 1) * c)).take (k * c)) := fun h => hd (List.append_inj_left h (by rw [List.length_take, List.length_take, List.length_drop, List.length_drop]; omega))
      simp [hd, this]
theorem eqA_ints {t e n : Nat} {i : TypeInfo} (hu : Try.prog.underlying t = some (.array n e)) (hi : Try.prog.info? e = some i) (hc : Try.prog.cellsOf e = 1) (hk : (tys e).k = .int) (hue : Try.prog.underlying e = some (.int .i64)) : EqA 2 t n := by
  intro d hd L M hL hM w
  obtain ⟨d, rfl⟩ : ∃ d', d = d' + 1 + 1 := ⟨d - 2, by omega⟩
  rw [run_equalIn_array w (d + 1) (ints L) (ints M) hu hi, hc, List.range_eq_range', items_run L M (fun a h1 h2 w => ⟨_, _, runPart_int hk L (a * 1) (by omega) w, runPart_int hk M (a * 1) (by omega) w, ?_⟩) n 0 (by omega) (by omega) w]
  · simp [List.take_of_length_le, hL, hM]
  · rw [run_equalIn_int w d e .i64 .i64 _ _ hue]
    have one : ∀ N : List Int, a * 1 < N.length → (N.drop (a * 1)).take 1 = [N.getD (a * 1) 0] := fun N h => by
      rw [List.drop_eq_getElem_cons h, List.take_succ_cons, List.take_zero]
      simp only [List.getD, List.getElem?_eq_getElem h, Option.getD_some]
    rw [one L (by omega), one M (by omega)]
    have : (L.getD (a * 1) 0 == M.getD (a * 1) 0) = decide ([L.getD (a * 1) 0] = [M.getD (a * 1) 0]) := by
      simp only [List.cons.injEq, and_true]
      rfl
    rw [this]
theorem eqA_arr {t e n c D k e' : Nat} {i : TypeInfo} (hu : Try.prog.underlying t = some (.array n e)) (hi : Try.prog.info? e = some i) (hc : Try.prog.cellsOf e = c) (hs : (tys e).size = c) (hk : (tys e).k = .arr k e') (he : EqA D e c) : EqA (D + 1) t (n * c) := by
  intro d hd L M hL hM w
  obtain ⟨d, rfl⟩ : ∃ d', d = d' + 1 := ⟨d - 1, by omega⟩
  have mul1 : ∀ a, (a + 1) * c = a * c + c := fun a => by rw [Nat.add_mul, Nat.one_mul]
  rw [run_equalIn_array w d (ints L) (ints M) hu hi, hc, List.range_eq_range', items_run L M (fun a h1 h2 w => ⟨_, _, runPart_arr hk L (a * c) (by rw [hs]; have := mul1 a; omega) w, runPart_arr hk M (a * c) (by rw [hs]; have := mul1 a; omega) w, ?_⟩) n 0 (by rw [Nat.zero_add]; omega) (by rw [Nat.zero_add]; omega) w]
  · simp [List.take_of_length_le, hL, hM]
  · rw [hs]
    exact he d (by omega) _ _ (by rw [List.length_take, List.length_drop]; have := mul1 a; omega) (by rw [List.length_take, List.length_drop]; have := mul1 a; omega) w
theorem eqA_one {t e c D k e' : Nat} {f : Field} (hu : Try.prog.underlying t = some (.struct #[f])) (hf : f.name ≠ "_") (hft : f.type = e) (hfo : f.offset = 0) (hs : (tys e).size = c) (hk : (tys e).k = .arr k e') (hp : Try.prog.stoodInHeld t = false) (he : EqA D e c) : EqA (D + 1) t c := by
  intro d hd L M hL hM w
  obtain ⟨d, rfl⟩ : ∃ d', d = d' + 1 := ⟨d - 1, by omega⟩
  have hfs : Try.prog.fieldsOf t = #[f] := by simp [Program.fieldsOf, hu]
  rw [run_equalIn_struct w d t (ints L) (ints M) (by rw [hfs]; exact hu) hp, hfs]
  have p1 := runPart_arr hk L 0 (by omega) w
  have p2 := runPart_arr hk M 0 (by omega) w
  rw [hs, List.drop_zero, List.take_of_length_le (by omega)] at p1 p2
  have h3 := he d (by omega) L M hL hM w
  simp only [Op.eqFields, if_pos hf, hft, hfo, Sem.run_bind, p1, p2, h3, Result.andThen_ok]
  by_cases hx : L = M
  · simp [hx]
  · simp [hx]
theorem eqI_of {t s D : Nat} (hD : D ≤ 10000) (h : EqA D t s) (hg : Try.prog.eqGuardType Try.prog.depth t = false) : EqI Try.prog t s := by
  intro L M hL hM w
  refine ⟨fun x y => ?_, fun x y => ?_, h 10000 hD L M hL hM w⟩
  · simp [eqGuard, hg]
  · simp [eqGuard, hg]
theorem eqA_A4 : EqA 2 24 4 := eqA_ints (i := (Try.prog.info? 3).getD default) Try.underlying24 (by kernel_rfl) (by kernel_rfl) rfl Try.underlying3
theorem eqA_A64 : EqA 3 25 24 := eqA_arr (c := 4) (i := (Try.prog.info? 24).getD default) Try.underlying25 (by kernel_rfl) (by kernel_rfl) rfl rfl eqA_A4
theorem eqI_rack : EqI Try.prog 27 24 := eqI_of (by omega) (eqA_one Try.underlying27 (by decide) rfl rfl rfl rfl (by kernel_rfl) eqA_A64) (by kernel_rfl)
/-! Keys of maps. -/
end Go.Proofs.Ytckcojgfgcjamaa
set_option maxRecDepth 100000
set_option linter.unusedSimpArgs false
set_option linter.unusedVariables false
namespace Go.Proofs.Ytckcojgfgcjamaa
open Go Go.RowKit
def l7Good_F : List SV → Heap → Option (Prop × SV)
  | [.arr V], _ => some (V.length = 18 ∧ I64 V, .bool (isVF V))
  | _, _ => none
theorem l7Good_T : ∀ args H p v, l7Good_F args H = some (p, v) → p → PureH Try.prog 67 args H v := by
  intro args H p v h hp
  unfold l7Good_F at h
  split at h
  · cases h; exact (by rw [← good_view hp.1 hp.2]; exact (l7Good_ok _ hp.1).any _)
  · cases h
/-! Orders are some, and not too many. -/
def fac : Nat → Nat
  | 0 => 1
  | n + 1 => fac n * (n + 1)
theorem fac_pos : ∀ n, 1 ≤ fac n
  | 0 => by simp [fac]
  | n + 1 => by
    have := fac_pos n
    show 1 ≤ fac n * (n + 1)
    exact Nat.le_trans this (Nat.le_mul_of_pos_right _ (by omega))
theorem fac_mono {m n : Nat} (h : m ≤ n) : fac m ≤ fac n := by
  induction n with
  | zero => exact Nat.le_of_eq (by rw [show m = 0 by omega])
  | succ n ih =>
    by_cases hm : m = n + 1
    · subst hm; exact Nat.le_refl _
    · exact Nat.le_trans (ih (by omega)) (Nat.le_mul_of_pos_right _ (by omega))
theorem fac_18 : fac 18 = 6402373705728000 := by decide

theorem arrN_bd (s : Int × Int) (h0 : 0 ≤ s.2) (h1 : 1 ≤ s.1) (h2 : s.1 ≤ fac s.2.toNat) : ∀ k : Nat, s.2 + k ≤ 18 → 1 ≤ (arrN k s).1 ∧ (arrN k s).1 ≤ fac (s.2 + k).toNat
  | 0, _ => by simpa [arrN] using ⟨h1, h2⟩
  | k + 1, hk => by
    obtain ⟨g1, g2⟩ := arrN_bd s h0 h1 h2 k (by omega)
    have e2 := arrN_snd k s
    have hp : s.2 + ((k + 1 : Nat) : Int) = s.2 + k + 1 := by omega
    have hf : (fac (s.2 + k + 1).toNat : Int) = fac (s.2 + k).toNat * (s.2 + k + 1) := by
      have : (s.2 + k + 1).toNat = (s.2 + k).toNat + 1 := by omega
      rw [this]
      show ((fac (s.2 + k).toNat * ((s.2 + k).toNat + 1) : Nat) : Int) = _
      rw [Int.natCast_mul]
      congr 1
      omega
    have m1 : (arrN k s).1 * (s.2 + k + 1) ≤ fac (s.2 + k).toNat * (s.2 + k + 1) := Int.mul_le_mul_of_nonneg_right g2 (by omega)
    have m0 : (arrN k s).1 ≤ (arrN k s).1 * (s.2 + k + 1) := by
      have := Int.mul_le_mul_of_nonneg_left (show (1 : Int) ≤ s.2 + k + 1 by omega) (show 0 ≤ (arrN k s).1 by omega)
      omega
    have m2 : (arrN k s).1 * ((k : Int) + 1) ≤ (arrN k s).1 * (s.2 + k + 1) := Int.mul_le_mul_of_nonneg_left (by omega) (by omega)
    have fm := fac_mono (show (s.2 + k + 1).toNat ≤ 18 by omega)
    rw [fac_18] at fm
    have w1 : IntKind.i64.wrap ((arrN k s).1 * ((arrN k s).2 + 1)) = (arrN k s).1 * (s.2 + k + 1) := by
      rw [e2]; exact wrap_in (by unfold In64; omega)
    have d0 : ((arrN k s).1 * (s.2 + k + 1)).tdiv ((k : Int) + 1) = ((arrN k s).1 * (s.2 + k + 1)) / ((k : Int) + 1) := Int.tdiv_eq_ediv_of_nonneg (by omega)
    have d1 : (arrN k s).1 ≤ ((arrN k s).1 * (s.2 + k + 1)) / ((k : Int) + 1) := (Int.le_ediv_iff_mul_le (by omega)).2 m2
    have d2 : ((arrN k s).1 * (s.2 + k + 1)) / ((k : Int) + 1) ≤ (arrN k s).1 * (s.2 + k + 1) := Int.ediv_le_self _ (by omega)
    have w2 : (arrN (k + 1) s).1 = ((arrN k s).1 * (s.2 + k + 1)) / ((k : Int) + 1) := by
      show IntKind.i64.wrap ((IntKind.i64.wrap ((arrN k s).1 * ((arrN k s).2 + 1))).tdiv ((k : Int) + 1)) = _
      rw [w1, d0]
      exact wrap_in (by unfold In64; omega)
    rw [w2, hp, hf]
    omega
theorem arrL_bd : ∀ (l : List Int) (s : Int × Int), 0 ≤ s.2 → 1 ≤ s.1 → s.1 ≤ fac s.2.toNat → Bd 0 24 l → s.2 + l.sum ≤ 18 → 1 ≤ (arrL l s).1 ∧ (arrL l s).1 ≤ 6402373705728000
  | [], s, h0, h1, h2, _, hs => by
    have fm := fac_mono (show s.2.toNat ≤ 18 by simp at hs; omega)
    rw [fac_18] at fm
    simp only [arrL]; omega
  | n :: r, s, h0, h1, h2, hb, hs => by
    have hn := hb n (by simp)
    have hr : Bd 0 24 r := fun x hx => hb x (by simp [hx])
    have hr0 := sum_bd r hr
    have hr1 : (0 : Int) ≤ r.sum := by simpa using hr0.1
    rw [List.sum_cons] at hs
    have g := arrN_bd s h0 h1 h2 n.toNat (by omega)
    have e2 := arrN_snd n.toNat s
    simp only [arrL]
    refine arrL_bd r (arrN n.toNat s) (by omega) g.1 (by rw [e2]; exact g.2) hr (by rw [e2]; omega)
theorem arrF_bd {l : List Int} (hb : Bd 0 24 l) (hs : l.sum ≤ 18) : 1 ≤ arrF l ∧ arrF l ≤ 6402373705728000 := arrL_bd l (1, 0) (by simp) (by simp) (by simp [fac]) hb (by simpa using hs)
/-! The rack in which each tube has the color of its top. -/
theorem list_ext24 {L M : List Int} (hL : L.length = 24) (hM : M.length = 24) (h : ∀ q, q < 24 → L.getD q 0 = M.getD q 0) : L = M := by
  apply List.ext_getElem (by omega)
  intro q h1 h2
  have := h q (by omega)
  simp only [List.getD, List.getElem?_eq_getElem h1, List.getElem?_eq_getElem h2, Option.getD_some] at this
  exact this
theorem list_ext6 {L M : List Int} (hL : L.length = 6) (hM : M.length = 6) (h : ∀ q, q < 6 → L.getD q 0 = M.getD q 0) : L = M := by
  apply List.ext_getElem (by omega)
  intro q h1 h2
  have := h q (by omega)
  simp only [List.getD, List.getElem?_eq_getElem h1, List.getElem?_eq_getElem h2, Option.getD_some] at this
  exact this
theorem split18 {V : List Int} (hV : V.length = 18) : V = V.take 6 ++ (V.drop 6).take 6 ++ V.drop 12 := by
  have e1 : (V.drop 6).drop 6 = V.drop 12 := by rw [List.drop_drop]
  rw [List.append_assoc, ← e1, List.take_append_drop, List.take_append_drop]
/-- What is known of a valid view. -/
theorem isV_facts {V : List Int} (hV : V.length = 18) (h64 : I64 V) (h : isVF V = true) : vTop V ∧ vMan V ∧ vTM V ∧ V.getD 12 0 = 0 ∧ Bd 0 24 (V.drop 12) ∧ (hidV V).length = 6 ∧ (hidV V).getD 0 0 = 0 ∧ Bd 0 24 (hidV V) ∧ (hidV V).sum = hmL (V.drop 6) 6 ∧ (hidV V).sum ≤ 18 := by
  have h2 := good_view hV h64
  rw [h] at h2
  have h3 := h
  simp only [isVF, gdVF, Bool.and_eq_true, decide_eq_true_eq] at h2 h3
  obtain ⟨u1, u2, u3⟩ := vok_spec h3.1.1.1.1
  have lenC : (V.drop 12).length = 6 := by rw [List.length_drop]; omega
  have lenH : (hidV V).length = 6 := by unfold hidV; rw [hidL_len]; exact lenC
  have z0 := h3.1.1.1.2
  have c0 : (V.drop 12).getD 0 0 = 0 := by rw [show (V.drop 12).getD 0 0 = V.getD 12 0 by simp [List.getD]]; exact z0
  have h0 : (hidV V).getD 0 0 = 0 := by unfold hidV; rw [hidL_zero _ _ (by omega), c0]
  have hs : (hidV V).sum = hmL (V.drop 6) 6 := by
    rw [← h2.2, sum_five lenH, sum_six lenH, h0]; omega
  have hmb := hmL_bd (M := V.drop 6) (fun k hk => by have := u2 k hk; simpa [List.getD] using this) 6 (Nat.le_refl _)
  refine ⟨u1, u2, u3, z0, all_bd h3.1.1.2 in024_bd, lenH, h0, fun x hx => ?_, hs, by omega⟩
  have hall := (all_five lenH in024).1 h2.1.2
  obtain ⟨k, hk, e⟩ := List.getElem_of_mem hx
  have e2 : (hidV V).getD k 0 = x := by rw [List.getD_eq_getElem?_getD, List.getElem?_eq_getElem hk, e]; rfl
  rcases Nat.eq_zero_or_pos k with rfl | hk0
  · omega
  · have := in024_bd _ (hall k hk0 (by omega))
    omega
/-! Views are compared. -/
theorem eqA_fields {D : Nat} : ∀ (fs : List Field) (L M : List Int) (off : Nat), off + fs.length * 6 = L.length → L.length = M.length →
    (∀ (j : Nat) (f : Field), fs[j]? = some f → f.name ≠ "_" ∧ f.type = 29 ∧ f.offset = off + j * 6) → ∀ d, 2 ≤ d → ∀ w, (Op.eqFields d (ints L) (ints M) fs).run Try.prog w = .ok (decide (L.drop off = M.drop off)) w
  | [], L, M, off, h1, h2, _, d, hd, w => by
    rw [List.drop_of_length_le (by simp at h1; omega), List.drop_of_length_le (by simp at h1; omega)]
    simp [Op.eqFields]
  | f :: fs, L, M, off, h1, h2, hf, d, hd, w => by
    obtain ⟨f1, f2, f3⟩ := hf 0 f rfl
    rw [List.length_cons] at h1
    have ih := eqA_fields (D := D) fs L M (off + 6) (by omega) h2 (fun j g hg => by
      obtain ⟨a, b, c⟩ := hf (j + 1) g (by simpa using hg)
      exact ⟨a, b, by omega⟩) d hd w
    have hk : (tys 29).k = .arr 6 3 := rfl
    have hs : (tys 29).size = 6 := rfl
    have p1 := runPart_arr hk L off (by rw [hs]; omega) w
    have p2 := runPart_arr hk M off (by rw [hs]; omega) w
    rw [hs] at p1 p2
    have h3 := eqA_ints (i := (Try.prog.info? 3).getD default) Try.underlying29 (by kernel_rfl) (by kernel_rfl) rfl Try.underlying3 d hd ((L.drop off).take 6) ((M.drop off).take 6) (by rw [List.length_take, List.length_drop]; omega) (by rw [List.length_take, List.length_drop]; omega) w
    simp only [Op.eqFields, if_pos f1, f2, f3, Nat.zero_mul, Nat.add_zero, Sem.run_bind, p1, p2, h3, Result.andThen_ok]
    have e1 : L.drop off = (L.drop off).take 6 ++ L.drop (off + 6) := by rw [← List.drop_drop]; exact (List.take_append_drop 6 _).symm
    have e2 : M.drop off = (M.drop off).take 6 ++ M.drop (off + 6) := by rw [← List.drop_drop]; exact (List.take_append_drop 6 _).symm
    by_cases hx : (L.drop off).take 6 = (M.drop off).take 6
    · simp only [hx, decide_true, Bool.not_true, Bool.false_eq_true, if_false, ih]
      congr 1
      rw [decide_eq_decide]
      constructor
      · intro h; rw [e1, e2, hx, h]
      · intro h
        rw [e1, e2, hx] at h
        exact List.append_cancel_left h
    · have : ¬ L.drop off = M.drop off := fun h => hx (by rw [h])
      simp [hx, this]
theorem eqI_view : EqI Try.prog 31 18 := by
  have hu := Try.underlying31
  refine eqI_of (D := 3) (by omega) ?_ (by kernel_rfl)
  intro d hd L M hL hM w
  obtain ⟨d, rfl⟩ : ∃ d', d = d' + 1 := ⟨d - 1, by omega⟩
  rw [run_equalIn_struct w d _ (ints L) (ints M) (by simp only [Program.fieldsOf, hu]) (by kernel_rfl)]
  have := eqA_fields (D := 0) (Try.prog.fieldsOf 31).toList L M 0 (by simp [Program.fieldsOf, hu]; omega) (by omega) (by
    simp only [Program.fieldsOf, hu]
    intro j f hf
    rcases j with _ | _ | _ | j <;> simp at hf <;> subst hf <;> exact ⟨by decide, rfl, rfl⟩) d (by omega) w
  simpa using this
/-! The walks. -/
--@tbl ChanceSorted = impl.ChanceSorted
--@tbl sChanceSorted = spec.ChanceSorted
--@tbl l7Empty = spec.l7Empty
end Go.Proofs.Ytckcojgfgcjamaa
set_option maxRecDepth 100000
set_option linter.unusedSimpArgs false
set_option linter.unusedVariables false
namespace Go.Proofs.Ytckcojgfgcjamaa
open Go Go.RowKit
def bin : Nat → Nat → Nat
  | _, 0 => 1
  | 0, _ + 1 => 0
  | n + 1, k + 1 => bin n k + bin n (k + 1)
theorem bin_zero (n : Nat) : bin n 0 = 1 := by cases n <;> rfl
theorem bin_succ : ∀ n k, bin (n + 1) (k + 1) * (k + 1) = bin n k * (n + 1)
  | 0, 0 => rfl
  | 0, k + 1 => by simp [bin]
  | n + 1, 0 => by
    have := bin_succ n 0
    have e : bin (n + 1 + 1) (0 + 1) = bin (n + 1) 0 + bin (n + 1) (0 + 1) := rfl
    rw [bin_zero] at this
    rw [e, bin_zero]
    omega
  | n + 1, k + 1 => by
    have i1 := bin_succ n k
    have i2 := bin_succ n (k + 1)
    have e : bin (n + 1 + 1) (k + 1 + 1) = bin (n + 1) (k + 1) + bin (n + 1) (k + 1 + 1) := rfl
    have e2 : bin (n + 1) (k + 1) = bin n k + bin n (k + 1) := rfl
    have e3 : (bin (n + 1) (k + 1) + bin (n + 1) (k + 1 + 1)) * (k + 1 + 1) = bin (n + 1) (k + 1) * (k + 1) + bin (n + 1) (k + 1) + bin (n + 1) (k + 1 + 1) * (k + 1 + 1) := by
      rw [Nat.add_mul, Nat.mul_add (bin (n + 1) (k + 1)) (k + 1) 1, Nat.mul_one]
    have e4 : bin (n + 1) (k + 1) * (n + 1 + 1) = bin n k * (n + 1) + bin n (k + 1) * (n + 1) + bin (n + 1) (k + 1) := by
      rw [Nat.mul_add (bin (n + 1) (k + 1)) (n + 1) 1, Nat.mul_one, e2, Nat.add_mul]
    rw [e, e3, i1, i2, e4]
    omega
theorem bin_fac : ∀ k n, bin (n + k) k * fac k * fac n = fac (n + k)
  | 0, n => by simp [bin_zero, fac]
  | k + 1, n => by
    have ih := bin_fac k n
    have h := bin_succ (n + k) k
    show bin (n + k + 1) (k + 1) * (fac k * (k + 1)) * fac n = fac (n + k) * (n + k + 1)
    rw [← ih]
    have e : bin (n + k + 1) (k + 1) * (fac k * (k + 1)) * fac n = (bin (n + k + 1) (k + 1) * (k + 1)) * (fac k * fac n) := by
      simp only [Nat.mul_assoc, Nat.mul_left_comm, Nat.mul_comm]
    rw [e, h]
    simp only [Nat.mul_assoc, Nat.mul_left_comm, Nat.mul_comm]
theorem arrN_step (s : Int × Int) (h0 : 0 ≤ s.2) (h1 : 1 ≤ s.1) (h2 : s.1 ≤ fac s.2.toNat) (k : Nat) (hk : s.2 + ((k + 1 : Nat) : Int) ≤ 18) : (arrN (k + 1) s).1 = ((arrN k s).1 * (s.2 + k + 1)) / ((k : Int) + 1) := by
  obtain ⟨g1, g2⟩ := arrN_bd s h0 h1 h2 k (by omega)
  have e2 := arrN_snd k s
  have hf : (fac (s.2 + k + 1).toNat : Int) = fac (s.2 + k).toNat * (s.2 + k + 1) := by
    have : (s.2 + k + 1).toNat = (s.2 + k).toNat + 1 := by omega
    rw [this]
    show ((fac (s.2 + k).toNat * ((s.2 + k).toNat + 1) : Nat) : Int) = _
    rw [Int.natCast_mul]
    congr 1
    omega
  have m1 : (arrN k s).1 * (s.2 + k + 1) ≤ fac (s.2 + k).toNat * (s.2 + k + 1) := Int.mul_le_mul_of_nonneg_right g2 (by omega)
  have m0 : (arrN k s).1 ≤ (arrN k s).1 * (s.2 + k + 1) := by
    have := Int.mul_le_mul_of_nonneg_left (show (1 : Int) ≤ s.2 + k + 1 by omega) (show 0 ≤ (arrN k s).1 by omega)
    omega
  have fm := fac_mono (show (s.2 + k + 1).toNat ≤ 18 by omega)
  rw [fac_18] at fm
  have w1 : IntKind.i64.wrap ((arrN k s).1 * ((arrN k s).2 + 1)) = (arrN k s).1 * (s.2 + k + 1) := by
    rw [e2]; exact wrap_in (by unfold In64; omega)
  have d0 : ((arrN k s).1 * (s.2 + k + 1)).tdiv ((k : Int) + 1) = ((arrN k s).1 * (s.2 + k + 1)) / ((k : Int) + 1) := Int.tdiv_eq_ediv_of_nonneg (by omega)
  have d2 : ((arrN k s).1 * (s.2 + k + 1)) / ((k : Int) + 1) ≤ (arrN k s).1 * (s.2 + k + 1) := Int.ediv_le_self _ (by omega)
  have d3 : 0 ≤ ((arrN k s).1 * (s.2 + k + 1)) / ((k : Int) + 1) := Int.ediv_nonneg (by omega) (by omega)
  show IntKind.i64.wrap ((IntKind.i64.wrap ((arrN k s).1 * ((arrN k s).2 + 1))).tdiv ((k : Int) + 1)) = _
  rw [w1, d0]
  exact wrap_in (by unfold In64; omega)
theorem arrN_bin (a : Int) (n : Nat) (h1 : 1 ≤ a) (h2 : a ≤ fac n) : ∀ k : Nat, n + k ≤ 18 → (arrN k (a, (n : Int))).1 = a * (bin (n + k) k : Nat)
  | 0, _ => by simp [arrN, bin_zero]
  | k + 1, hk => by
    rw [arrN_step (a, (n : Int)) (by simp) h1 (by simpa using h2) k (by simp only; omega), arrN_bin a n h1 h2 k (by omega)]
    have hb := bin_succ (n + k) k
    have hb2 : ((bin (n + k) k : Nat) : Int) * ((n : Int) + k + 1) = ((bin (n + k + 1) (k + 1) : Nat) : Int) * ((k : Int) + 1) := by
      have : ((bin (n + k) k * (n + k + 1) : Nat) : Int) = ((bin (n + k + 1) (k + 1) * (k + 1) : Nat) : Int) := by rw [hb]
      simpa using this
    show a * ((bin (n + k) k : Nat) : Int) * ((n : Int) + k + 1) / ((k : Int) + 1) = _
    rw [Int.mul_assoc, hb2, ← Int.mul_assoc, Int.mul_ediv_cancel _ (by omega)]
    rfl
def facP : List Int → Nat
  | [] => 1
  | n :: r => fac n.toNat * facP r
theorem facP_pos : ∀ l, 1 ≤ facP l
  | [] => Nat.le_refl _
  | n :: r => Nat.mul_pos (fac_pos _) (facP_pos r)
theorem arrL_fac : ∀ (l : List Int) (a : Int) (n : Nat), 1 ≤ a → a ≤ fac n → Bd 0 24 l → n + l.sum ≤ 18 → (arrL l (a, (n : Int))).1 * (facP l : Nat) * (fac n : Nat) = a * (fac (n + l.sum).toNat : Nat)
  | [], a, n, _, _, _, _ => by simp [arrL, facP]
  | x :: r, a, n, h1, h2, hb, hs => by
    have hx := hb x (by simp)
    have hr : Bd 0 24 r := fun y hy => hb y (by simp [hy])
    have hr0 : (0 : Int) ≤ r.sum := by have := (sum_bd r hr).1; simpa using this
    rw [List.sum_cons] at hs ⊢
    obtain ⟨k, rfl⟩ := Int.eq_ofNat_of_zero_le hx.1
    have g := arrN_bd (a, (n : Int)) (by simp) h1 (by simpa using h2) k (by simp only; omega)
    have e2 := arrN_snd k (a, (n : Int))
    have eb := arrN_bin a n h1 h2 k (by omega)
    have es : arrN k (a, (n : Int)) = ((arrN k (a, (n : Int))).1, ((n + k : Nat) : Int)) := by
      apply Prod.ext
      · rfl
      · rw [e2]; simp
    have hf : ((n : Int) + k).toNat = n + k := by omega
    simp only [hf] at g
    have ih := arrL_fac r (arrN k (a, (n : Int))).1 (n + k) g.1 g.2 hr (by omega)
    rw [← es, eb] at ih
    have bf := bin_fac k n
    have bp : 0 < bin (n + k) k := by
      rcases Nat.eq_zero_or_pos (bin (n + k) k) with h | h
      · rw [h, Nat.zero_mul, Nat.zero_mul] at bf
        have := fac_pos (n + k); omega
      · exact h
    simp only [arrL, facP, Int.toNat_natCast]
    generalize (arrL r (arrN k (a, (n : Int)))).1 = A at *
    have eT : ((n : Int) + ((k : Int) + r.sum)).toNat = (((n + k : Nat) : Int) + r.sum).toNat := by omega
    rw [eT]
    generalize fac (((n + k : Nat) : Int) + r.sum).toNat = T at *
    rw [← bf] at ih
    have bI : ((bin (n + k) k : Nat) : Int) ≠ 0 := by omega
    apply Int.eq_of_mul_eq_mul_left bI
    simp only [Int.natCast_mul] at ih ⊢
    generalize ((bin (n + k) k : Nat) : Int) = b at *
    generalize ((fac k : Nat) : Int) = p at *
    generalize ((fac n : Nat) : Int) = q at *
    generalize ((facP r : Nat) : Int) = f at *
    generalize (T : Int) = t at *
    have l : A * f * (b * p * q) = b * (A * (p * f) * q) := by simp only [Int.mul_assoc, Int.mul_left_comm, Int.mul_comm]
    have rr : a * b * t = b * (a * t) := by simp only [Int.mul_assoc, Int.mul_left_comm, Int.mul_comm]
    rw [← l, ih, rr]
theorem arr_fac {l : List Int} (hb : Bd 0 24 l) (hs : l.sum ≤ 18) : arrF l * (facP l : Nat) = (fac l.sum.toNat : Nat) := by
  have := arrL_fac l 1 0 (by omega) (by simp [fac]) hb (by simpa using hs)
  simpa [arrF, fac] using this
theorem facP_set : ∀ (l : List Int) (c : Nat), c < l.length → 0 < l.getD c 0 → facP (l.set c (l.getD c 0 - 1)) * (l.getD c 0).toNat = facP l
  | [], c, h, _ => by simp at h
  | x :: r, 0, _, h => by
    simp only [List.getD_cons_zero, List.set_cons_zero, facP] at h ⊢
    obtain ⟨k, hk⟩ : ∃ k : Nat, x = k + 1 := ⟨(x - 1).toNat, by omega⟩
    rw [show (x - 1).toNat = k by omega, show x.toNat = k + 1 by omega]
    show fac k * facP r * (k + 1) = fac k * (k + 1) * facP r
    simp only [Nat.mul_assoc, Nat.mul_left_comm, Nat.mul_comm]
  | x :: r, c + 1, hc, h => by
    simp only [List.getD_cons_succ, List.set_cons_succ, facP] at h ⊢
    rw [Nat.mul_assoc, facP_set r c (by simpa using hc) h]
theorem sum_less : ∀ (l : List Int) (c : Nat), c < l.length → (l.set c (l.getD c 0 - 1)).sum = l.sum - 1
  | [], c, h => by simp at h
  | x :: r, 0, _ => by simp only [List.getD_cons_zero, List.set_cons_zero, List.sum_cons]; omega
  | x :: r, c + 1, hc => by
    simp only [List.getD_cons_succ, List.set_cons_succ, List.sum_cons]
    rw [sum_less r c (by simpa using hc)]; omega
theorem bd_less {l : List Int} {c : Nat} (hb : Bd 0 24 l) (hp : 0 < l.getD c 0) : Bd 0 24 (l.set c (l.getD c 0 - 1)) := fun x hx => by
  rcases List.mem_or_eq_of_mem_set hx with h | h
  · exact hb x h
  · have : c < l.length := by
      rcases Nat.lt_or_ge c l.length with h1 | h1
      · exact h1
      · rw [List.getD_eq_getElem?_getD, List.getElem?_eq_none (by omega)] at hp; exact absurd hp (by simp)
    have := hb.getD this
    omega
/-- Orders that begin with a color. -/
def wC (L : List Int) (c : Nat) : Int := if 0 < L.getD c 0 then arrF (L.set c (L.getD c 0 - 1)) else 0
def sW (L : List Int) : Nat → Int
  | 0 => 0
  | m + 1 => sW L m + wC L (m + 1)
theorem wC_fac {L : List Int} (hL : L.length = 6) (hb : Bd 0 24 L) (hs : L.sum ≤ 18) {c : Nat} (hc : c < 6) : wC L c * (facP L : Nat) = (fac (L.sum - 1).toNat : Nat) * L.getD c 0 := by
  have h0 := hb.getD (k := c) (by omega)
  unfold wC
  split
  · rename_i hp
    have e := sum_less L c (by omega)
    have h1 := arr_fac (bd_less hb hp) (by omega)
    have h2 := facP_set L c (by omega) hp
    rw [e] at h1
    have h3 : (facP L : Int) = (facP (L.set c (L.getD c 0 - 1)) : Nat) * L.getD c 0 := by
      rw [← h2, Int.natCast_mul, Int.toNat_of_nonneg (by omega)]
    rw [h3, ← Int.mul_assoc, h1]
  · rename_i hp
    rw [show L.getD c 0 = 0 by omega]; simp
theorem wC_nn {L : List Int} (hL : L.length = 6) (hb : Bd 0 24 L) (hs : L.sum ≤ 18) (c : Nat) : 0 ≤ wC L c := by
  unfold wC
  split
  · rename_i hp
    have hc : c < L.length := by
      rcases Nat.lt_or_ge c L.length with h1 | h1
      · exact h1
      · rw [List.getD_eq_getElem?_getD, List.getElem?_eq_none (by omega)] at hp; exact absurd hp (by simp)
    have e := sum_less L c hc
    have := (arrF_bd (bd_less hb hp) (by omega)).1
    omega
  · exact Int.le_refl _
theorem sW_mono {L : List Int} (hL : L.length = 6) (hb : Bd 0 24 L) (hs : L.sum ≤ 18) {a b : Nat} (h : a ≤ b) : sW L a ≤ sW L b := by
  induction b with
  | zero => rw [show a = 0 by omega]; exact Int.le_refl _
  | succ n ih =>
    by_cases hm : a = n + 1
    · subst hm; exact Int.le_refl _
    · have := ih (by omega)
      have := wC_nn hL hb hs (n + 1)
      show sW L a ≤ sW L n + wC L (n + 1)
      omega
/-- All orders begin with a color. -/
theorem sW_all {L : List Int} (hL : L.length = 6) (h0 : L.getD 0 0 = 0) (hb : Bd 0 24 L) (hs : L.sum ≤ 18) (hp : 0 < L.sum) : sW L 5 = arrF L := by
  have hf := arr_fac hb hs
  have hP := facP_pos L
  have hw := fun c (hc : c < 6) => wC_fac hL hb hs hc
  have e : sW L 5 = 0 + wC L 1 + wC L 2 + wC L 3 + wC L 4 + wC L 5 := rfl
  have ef : (fac L.sum.toNat : Int) = (fac (L.sum - 1).toNat : Nat) * L.sum := by
    have : L.sum.toNat = (L.sum - 1).toNat + 1 := by omega
    rw [this]
    show ((fac (L.sum - 1).toNat * ((L.sum - 1).toNat + 1) : Nat) : Int) = _
    rw [Int.natCast_mul]
    congr 1
    omega
  have six := sum_six hL
  rw [h0] at six
  have hPI : ((facP L : Nat) : Int) ≠ 0 := by omega
  apply Int.eq_of_mul_eq_mul_right hPI
  rw [hf, ef, e, Int.add_mul, Int.add_mul, Int.add_mul, Int.add_mul, Int.add_mul, hw 1 (by omega), hw 2 (by omega), hw 3 (by omega), hw 4 (by omega), hw 5 (by omega), six]
  simp only [Int.mul_add]
  omega
/-- The color of the first layer of the order with a rank. -/
def pkc (L : List Int) (r : Int) : Nat := if r < sW L 1 then 1 else if r < sW L 2 then 2 else if r < sW L 3 then 3 else if r < sW L 4 then 4 else 5
theorem pkc_bd (L : List Int) (r : Int) : 1 ≤ pkc L r ∧ pkc L r ≤ 5 := by
  unfold pkc
  repeat' split
  all_goals omega
theorem pkc_lo {L : List Int} {r : Int} (hL : L.length = 6) (hb : Bd 0 24 L) (hs : L.sum ≤ 18) (h0 : 0 ≤ r) {k : Nat} (hk : k + 1 ≤ pkc L r) : sW L k ≤ r := by
  have m := fun {a b : Nat} (h : a ≤ b) => sW_mono hL hb hs h
  have z : sW L 0 = 0 := rfl
  unfold pkc at hk
  split at hk
  · have := m (show k ≤ 0 by omega); omega
  split at hk
  · have := m (show k ≤ 1 by omega); omega
  split at hk
  · have := m (show k ≤ 2 by omega); omega
  split at hk
  · have := m (show k ≤ 3 by omega); omega
  · have := m (show k ≤ 4 by omega); omega
theorem pkc_hi {L : List Int} {r : Int} (h5 : r < sW L 5) : r < sW L (pkc L r) := by
  unfold pkc
  split
  · assumption
  split
  · assumption
  split
  · assumption
  split
  · assumption
  · exact h5
theorem pkc_eq {L : List Int} {r : Int} (hL : L.length = 6) (hb : Bd 0 24 L) (hs : L.sum ≤ 18) (h0 : 0 ≤ r) (h5 : r < sW L 5) {c : Nat} (hc : 1 ≤ c) (h1 : sW L (c - 1) ≤ r) (h2 : r < sW L c) : pkc L r = c := by
  have hi := pkc_hi h5
  have lo := pkc_lo (k := pkc L r - 1) hL hb hs h0 (by have := pkc_bd L r; omega)
  rcases Nat.lt_trichotomy (pkc L r) c with h | h | h
  · have := sW_mono hL hb hs (show pkc L r ≤ c - 1 by omega); omega
  · exact h
  · have := sW_mono hL hb hs (show c ≤ pkc L r - 1 by omega); omega
/-- Hidden layers that are left, and a rank among their orders. -/
structure vwI (L : List Int) (r : Int) : Prop where
  len : L.length = 6
  z : L.getD 0 0 = 0
  b : Bd 0 24 L
  s : L.sum ≤ 18
  r0 : 0 ≤ r
  r1 : r < arrF L
def lessL (L : List Int) (c : Nat) : List Int := L.set c (L.getD c 0 - 1)
structure pkR (L : List Int) (r : Int) (c : Nat) : Prop where
  c1 : 1 ≤ c
  c5 : c ≤ 5
  p : 0 < L.getD c 0
  lo : ∀ k, k < c → sW L k ≤ r
  hi : r < sW L c
  next : vwI (lessL L c) (r - sW L (c - 1))
  sum : (lessL L c).sum = L.sum - 1
theorem pkc_step {L : List Int} {r : Int} (h : vwI L r) (hp : 0 < L.sum) : pkR L r (pkc L r) := by
  obtain ⟨c1, c5⟩ := pkc_bd L r
  have ha := sW_all h.len h.z h.b h.s hp
  have hi := pkc_hi (L := L) (r := r) (by have := h.r1; omega)
  have lo := fun k (hk : k < pkc L r) => pkc_lo h.len h.b h.s h.r0 (k := k) (by omega)
  generalize pkc L r = c at *
  have lo1 := lo (c - 1) (by omega)
  have es : sW L c = sW L (c - 1) + wC L c := by
    obtain ⟨k, rfl⟩ : ∃ k, c = k + 1 := ⟨c - 1, by omega⟩
    rfl
  have pos : 0 < L.getD c 0 := by
    rcases Int.lt_or_le 0 (L.getD c 0) with h1 | h1
    · exact h1
    · have : wC L c = 0 := if_neg (by omega)
      omega
  have sl := sum_less L c (by rw [h.len]; omega)
  have ew : wC L c = arrF (lessL L c) := if_pos pos
  refine ⟨c1, c5, pos, lo, hi, ⟨by unfold lessL; rw [List.length_set]; exact h.len, ?_, bd_less h.b pos, ?_, by omega, by omega⟩, sl⟩
  · unfold lessL
    rw [List.getD_eq_getElem?_getD, List.getElem?_set_ne (by omega), ← List.getD_eq_getElem?_getD]; exact h.z
  · show (lessL L c).sum ≤ 18
    have : (lessL L c).sum = L.sum - 1 := sl
    have := h.s
    omega
end Go.Proofs.Ytckcojgfgcjamaa
set_option maxRecDepth 100000
set_option linter.unusedSimpArgs false
set_option linter.unusedVariables false
namespace Go.Proofs.Ytckcojgfgcjamaa
open Go Go.RowKit
end Go.Proofs.Ytckcojgfgcjamaa
