/- Texts of this claim, joined (Val, Bnd, View, Hid, Rank, IsV, Upd, Del, Use). -/
import Derived.Test.YtckcojgfgcjamaaQ1
import Derived.Test.YtckcojgfgcjamaaQ2
import Derived.Test.YtckcojgfgcjamaaQ3
import Derived.Test.YtckcojgfgcjamaaQ4
set_option maxRecDepth 100000
set_option linter.unusedSimpArgs false
set_option linter.unusedVariables false
namespace Go.Proofs.Ytckcojgfgcjamaa
open Go Go.RowKit
theorem tube_cells {t : List Int} (ht : t.length = 4) (hb : tubeB t = true) : (∀ b, b < layN t → 1 ≤ t.getD b 0 ∧ t.getD b 0 ≤ 5) ∧ (∀ b, layN t ≤ b → t.getD b 0 = 0) := by
  have hle := lay_le t ht
  unfold tubeB at hb
  simp only [Bool.and_eq_true] at hb
  constructor
  · intro b hbn
    have hlt : b < t.length := by omega
    have := List.all_eq_true.1 hb.1 (t.getD b 0) (by
      simp only [List.getD, List.getElem?_eq_getElem hlt, Option.getD_some]
      exact List.mem_take_iff_getElem.2 ⟨b, by omega, rfl⟩)
    simpa [coT] using this
  · intro b hbn
    rcases Nat.lt_or_ge b 4 with h4 | h4
    · have hlt : b < t.length := by omega
      have := List.all_eq_true.1 hb.2 (t.getD b 0) (by
        simp only [List.getD, List.getElem?_eq_getElem hlt, Option.getD_some]
        exact List.mem_drop_iff_getElem.2 ⟨b - layN t, by omega, by congr 1; omega⟩)
      simpa [is0] using this
    · simp [List.getD, List.getElem?_eq_none (show t.length ≤ b by omega)]
theorem tube_of {t : List Int} (ht : t.length = 4) {n : Nat} (hn : n ≤ 4) (h1 : ∀ b, b < n → 1 ≤ t.getD b 0 ∧ t.getD b 0 ≤ 5) (h2 : ∀ b, n ≤ b → b < 4 → t.getD b 0 = 0) : tubeB t = true ∧ layN t = n := by
  have hl : layN t = n := by
    unfold layN
    rcases Nat.lt_or_ge n 4 with h4 | h4
    · have : t.findIdx? isZ0 = some n := by
        rw [List.findIdx?_eq_some_iff_getElem]
        refine ⟨by omega, ?_, fun j hj => ?_⟩
        · have := h2 n (by omega) h4
          simp only [List.getD, List.getElem?_eq_getElem (show n < t.length by omega), Option.getD_some] at this
          simp [isZ0, this]
        · have := h1 j hj
          simp only [List.getD, List.getElem?_eq_getElem (show j < t.length by omega), Option.getD_some] at this
          simp [isZ0]; omega
      rw [this]; rfl
    · have : t.findIdx? isZ0 = none := by
        rw [List.findIdx?_eq_none_iff]
        intro x hx
        obtain ⟨k, hk, rfl⟩ := List.getElem_of_mem hx
        have := h1 k (by omega)
        simp only [List.getD, List.getElem?_eq_getElem hk, Option.getD_some] at this
        simp [isZ0]; omega
      rw [this]
      simp; omega
  refine ⟨?_, hl⟩
  unfold tubeB
  rw [hl]
  simp only [Bool.and_eq_true]
  constructor
  · rw [List.all_eq_true]
    intro x hx
    obtain ⟨k, hk, rfl⟩ := List.mem_take_iff_getElem.1 hx
    have := h1 k (by omega)
    simp only [List.getD, List.getElem?_eq_getElem (show k < t.length by omega), Option.getD_some] at this
    simpa [coT] using this
  · rw [List.all_eq_true]
    intro x hx
    obtain ⟨k, hk, rfl⟩ := List.mem_drop_iff_getElem.1 hx
    have := h2 (n + k) (by omega) (by omega)
    simp only [List.getD, List.getElem?_eq_getElem (show n + k < t.length by omega), Option.getD_some] at this
    simpa [is0] using this
theorem rack_tubes {R : List Int} : rackB R = true ↔ ∀ i, i < 6 → tubeB (tubeAt R i) = true := by
  unfold rackB tubesOf tubeAt
  simp only [List.all_map, List.all_eq_true, List.mem_range, Function.comp, Nat.zero_add]
theorem tubeAt_getD (R : List Int) (i k : Nat) (h : k < 4) : (tubeAt R i).getD k 0 = R.getD (i * 4 + k) 0 := cut_getD R i k h
theorem tubeAt_ext {R R' : List Int} {i j : Nat} (h1 : (tubeAt R i).length = 4) (h2 : (tubeAt R' j).length = 4) (h : ∀ k, k < 4 → R.getD (i * 4 + k) 0 = R'.getD (j * 4 + k) 0) : tubeAt R i = tubeAt R' j := by
  apply List.ext_getElem (by omega)
  intro k hk1 hk2
  have e1 := tubeAt_getD R i k (by omega)
  have e2 := tubeAt_getD R' j k (by omega)
  have := h k (by omega)
  simp only [List.getD, List.getElem?_eq_getElem hk1, List.getElem?_eq_getElem hk2, Option.getD_some] at e1 e2 this
  rw [e1, e2]; exact this
theorem getD_set' (L : List Int) (a b : Nat) (x : Int) (h : a < L.length) : (L.set a x).getD b 0 = if a = b then x else L.getD b 0 := by
  simp only [List.getD, List.getElem?_set]
  split
  · simp [h]
  · rfl
/-- The cells of a rack behind some moved layers. -/
theorem pmR_cell {R : List Int} (hR : R.length = 24) {i j : Nat} (hi : i < 6) (hj : j < 6) (hij : i ≠ j) : ∀ m, m ≤ layN (tubeAt R i) → m + layN (tubeAt R j) ≤ 4 → ∀ a b, a < 6 → b < 4 →
    (pmR R i j m).getD (a * 4 + b) 0 = if a = i ∧ layN (tubeAt R i) - m ≤ b ∧ b < layN (tubeAt R i) then 0 else if a = j ∧ layN (tubeAt R j) ≤ b ∧ b < layN (tubeAt R j) + m then (topF (tubeAt R i)).1 else R.getD (a * 4 + b) 0
  | 0, _, _, a, b, _, _ => by
    simp only [pmR]
    rw [if_neg (by omega), if_neg (by omega)]
  | m + 1, hm, hm2, a, b, ha, hb => by
    have hli := lay_le _ (tubeAt_len hR hi)
    have hlj := lay_le _ (tubeAt_len hR hj)
    have ih := pmR_cell hR hi hj hij m (by omega) (by omega) a b ha hb
    simp only [pmR]
    rw [getD_set' _ _ _ _ (by rw [List.length_set, pmR_len]; omega), getD_set' _ _ _ _ (by rw [pmR_len]; omega), ih]
    by_cases h1 : j * 4 + (layN (tubeAt R j) + m) = a * 4 + b
    · have haj : a = j := by omega
      subst haj
      rw [if_pos h1, if_neg (by omega), if_pos (by omega)]
    · rw [if_neg h1]
      by_cases h2 : i * 4 + (layN (tubeAt R i) - 1 - m) = a * 4 + b
      · have hai : a = i := by omega
        subst hai
        rw [if_pos h2, if_pos (by omega)]
      · rw [if_neg h2]
        by_cases h3 : a = i ∧ layN (tubeAt R i) - m ≤ b ∧ b < layN (tubeAt R i)
        · rw [if_pos h3, if_pos (by omega)]
        · rw [if_neg h3]
          by_cases h4 : a = i ∧ layN (tubeAt R i) - (m + 1) ≤ b ∧ b < layN (tubeAt R i)
          · omega
          · rw [if_neg h4]
            by_cases h5 : a = j ∧ layN (tubeAt R j) ≤ b ∧ b < layN (tubeAt R j) + m
            · rw [if_pos h5, if_pos (by omega)]
            · rw [if_neg h5, if_neg (by omega)]
theorem top_co {t : List Int} (ht : t.length = 4) (hb : tubeB t = true) (h0 : 0 < layN t) : 1 ≤ (topF t).1 ∧ (topF t).1 ≤ 5 := by
  obtain ⟨r, h1, h2⟩ := topF_run t ht h0
  rw [h1]
  exact (tube_cells ht hb).1 _ (by omega)
theorem pm_facts {R : List Int} (hR : R.length = 24) (hr : rackB R = true) {i j : Nat} (hi : i < 6) (hj : j < 6) (hij : i ≠ j) {m : Nat} (hm : m ≤ layN (tubeAt R i)) (hm2 : m + layN (tubeAt R j) ≤ 4) :
    (tubeB (tubeAt (pmR R i j m) i) = true ∧ layN (tubeAt (pmR R i j m) i) = layN (tubeAt R i) - m) ∧ (tubeB (tubeAt (pmR R i j m) j) = true ∧ layN (tubeAt (pmR R i j m) j) = layN (tubeAt R j) + m) ∧
    (∀ k, k < 6 → k ≠ i → k ≠ j → tubeAt (pmR R i j m) k = tubeAt R k) := by
  have hP : (pmR R i j m).length = 24 := by rw [pmR_len, hR]
  have hc := pmR_cell hR hi hj hij m hm hm2
  have hli := tubeAt_len hR hi
  have hlj := tubeAt_len hR hj
  have ci := tube_cells hli (tubeAt_ok hr hi)
  have cj := tube_cells hlj (tubeAt_ok hr hj)
  have li := lay_le _ hli
  refine ⟨tube_of (tubeAt_len hP hi) (by omega) (fun b hb => ?_) (fun b hb hb4 => ?_), tube_of (tubeAt_len hP hj) (by omega) (fun b hb => ?_) (fun b hb hb4 => ?_), fun k hk h1 h2 => ?_⟩
  · rw [tubeAt_getD _ _ _ (by omega), hc i b hi (by omega), if_neg (by omega), if_neg (by omega), ← tubeAt_getD _ _ _ (by omega)]
    exact ci.1 b (by omega)
  · rw [tubeAt_getD _ _ _ hb4, hc i b hi hb4]
    by_cases h3 : b < layN (tubeAt R i)
    · rw [if_pos ⟨rfl, hb, h3⟩]
    · rw [if_neg (by omega), if_neg (by omega), ← tubeAt_getD _ _ _ hb4]
      exact ci.2 b (by omega)
  · rw [tubeAt_getD _ _ _ (by omega), hc j b hj (by omega), if_neg (by omega)]
    by_cases h3 : layN (tubeAt R j) ≤ b
    · rw [if_pos (by omega)]
      exact top_co hli (tubeAt_ok hr hi) (by omega)
    · rw [if_neg (by omega), ← tubeAt_getD _ _ _ (by omega)]
      exact cj.1 b (by omega)
  · rw [tubeAt_getD _ _ _ hb4, hc j b hj hb4, if_neg (by omega), if_neg (by omega), ← tubeAt_getD _ _ _ hb4]
    exact cj.2 b (by omega)
  · refine tubeAt_ext (tubeAt_len hP hk) (tubeAt_len hR hk) fun b hb => ?_
    rw [hc k b hk hb, if_neg (by omega), if_neg (by omega)]
theorem pm_rack {R : List Int} (hR : R.length = 24) (hr : rackB R = true) {i j : Nat} (hi : i < 6) (hj : j < 6) (hij : i ≠ j) {m : Nat} (hm : m ≤ layN (tubeAt R i)) (hm2 : m + layN (tubeAt R j) ≤ 4) : rackB (pmR R i j m) = true := by
  obtain ⟨h1, h2, h3⟩ := pm_facts hR hr hi hj hij hm hm2
  rw [rack_tubes]
  intro k hk
  by_cases hki : k = i
  · rw [hki]; exact h1.1
  · by_cases hkj : k = j
    · rw [hkj]; exact h2.1
    · rw [h3 k hk hki hkj]; exact tubeAt_ok hr hk
theorem can_facts {R : List Int} {i j : Int} (hR : R.length = 24) (hr : rackB R = true) (hi : 0 ≤ i ∧ i ≤ 5) (hj : 0 ≤ j ∧ j ≤ 5) (h : canF R i j = true) : i ≠ j ∧ 0 < layN (tubeAt R i.toNat) ∧ layN (tubeAt R j.toNat) < 4 ∧ 0 < pmN R i.toNat j.toNat ∧
    (pmN R i.toNat j.toNat).toNat ≤ layN (tubeAt R i.toNat) ∧ (pmN R i.toNat j.toNat).toNat + layN (tubeAt R j.toNat) ≤ 4 ∧ pmN R i.toNat j.toNat ≤ 4 := by
  simp only [canF, Bool.and_eq_true, Bool.not_eq_true', decide_eq_false_iff_not, decide_eq_true_eq] at h
  have hli := tubeAt_len hR (i := i.toNat) (by omega)
  have hlj := tubeAt_len hR (i := j.toNat) (by omega)
  have tp := top_pos _ hli (tubeAt_ok hr (by omega))
  have tl := topF_le _ hli
  have h0 := tp.1.1 h.1.1.2
  have h2 := tp.2.2 h0
  have := lay_le _ hlj
  have := lay_le _ hli
  unfold pmN
  refine ⟨h.1.1.1, h0, by omega, by omega, by omega, by omega, by omega⟩
theorem pour_rack {R : List Int} {i j : Int} (hR : R.length = 24) (hr : rackB R = true) (hi : 0 ≤ i ∧ i ≤ 5) (hj : 0 ≤ j ∧ j ≤ 5) (h : canF R i j = true) : rackB (pourF R i.toNat j.toNat) = true := by
  obtain ⟨h1, h2, h3, h4, h5, h6, _⟩ := can_facts hR hr hi hj h
  exact pm_rack hR hr (by omega) (by omega) (by omega) h5 h6
end Go.Proofs.Ytckcojgfgcjamaa
set_option maxRecDepth 100000
set_option linter.unusedSimpArgs false
set_option linter.unusedVariables false
namespace Go.Proofs.Ytckcojgfgcjamaa
open Go Go.RowKit
def sumT (f : List Int → Int) (R : List Int) (k : Nat) : Int := ((List.range k).map fun i => f (tubeAt R i)).sum
def crN (t : List Int) : Int := ((runsL t).length / 2 : Nat)
def cbN (t : List Int) : Int := max (crN t - 1) 0
/-! Counts. -/
def incr (L : List Int) (j : Nat) : List Int := L.set j (L.getD j 0 + 1)
def cntL (l : List Int) : List Int := l.foldl (fun c x => incr c x.toNat) (List.replicate 6 0)
theorem cntL_nil : cntL [] = List.replicate 6 0 := rfl
theorem cntL_take_succ (l : List Int) (k : Nat) (h : k < l.length) : cntL (l.take (k + 1)) = incr (cntL (l.take k)) (l.getD k 0).toNat := by
  unfold cntL
  rw [List.take_succ_eq_append_getElem h, List.foldl_append]
  simp [List.getD, List.getElem?_eq_getElem h]
theorem foldl_len (l : List Int) : ∀ c : List Int, (l.foldl (fun c x => incr c x.toNat) c).length = c.length := by
  induction l with
  | nil => intro c; rfl
  | cons x l ih => intro c; rw [List.foldl_cons, ih]; simp [incr]
theorem cntL_len (l : List Int) : (cntL l).length = 6 := by unfold cntL; rw [foldl_len]; rfl
theorem incr_bd {L : List Int} {b : Int} (j : Nat) (h : ∀ k, 0 ≤ L.getD k 0 ∧ L.getD k 0 ≤ b) : ∀ k, 0 ≤ (incr L j).getD k 0 ∧ (incr L j).getD k 0 ≤ b + 1 := by
  intro k
  have h1 := h k
  have h2 := h j
  unfold incr
  simp only [List.getD, List.getElem?_set] at *
  split
  · split
    · simp; omega
    · simp; omega
  · omega
theorem foldl_bd (l : List Int) : ∀ (c : List Int) (b : Int), (∀ k, 0 ≤ c.getD k 0 ∧ c.getD k 0 ≤ b) → ∀ k, 0 ≤ (l.foldl (fun c x => incr c x.toNat) c).getD k 0 ∧ (l.foldl (fun c x => incr c x.toNat) c).getD k 0 ≤ b + l.length := by
  induction l with
  | nil => intro c b h k; simpa using h k
  | cons x l ih =>
    intro c b h k
    have := ih (incr c x.toNat) (b + 1) (incr_bd _ h) k
    rw [List.foldl_cons, List.length_cons]
    omega
theorem cntL_bd (l : List Int) (k : Nat) : 0 ≤ (cntL l).getD k 0 ∧ (cntL l).getD k 0 ≤ l.length := by
  have := foldl_bd l (List.replicate 6 0) 0 (fun k => by
    simp only [List.getD, List.getElem?_replicate]
    split <;> simp) k
  unfold cntL
  omega
def botL (R : List Int) : List Int := (List.range 6).map fun i => R.getD (i * 4) 0
theorem rack_cell {R : List Int} (hR : R.length = 24) (hr : rackB R = true) {k : Nat} (h : k < 24) : 0 ≤ R.getD k 0 ∧ R.getD k 0 ≤ 5 := by
  have := (rackB_iff R hR).1 hr (k / 4) (k % 4) (by omega) (by omega)
  unfold cB at this
  rw [show k / 4 * 4 + k % 4 = k by omega] at this
  exact this.1
--@tbl bottoms = impl.bottoms
--@tbl l6Bottoms = spec.l6Bottoms
/-! The bound. -/
def bndF (R : List Int) : Int := sumT cbN R 6 + besF ((cntL (botL R)).drop 1)
theorem RL_last (t : List Int) (ht : t.length = 4) : ∀ i, 0 < i → i ≤ 4 → ∃ r n : Nat, (RL t i).length = n * 2 ∧ 0 < n ∧ (RL t i).getD (n * 2 - 2) 0 = t.getD (i - 1) 0 ∧ (RL t i).getD (n * 2 - 1) 0 = r ∧ 0 < r ∧ r ≤ i := by
  intro i
  induction i with
  | zero => intro h; omega
  | succ i ih =>
    intro _ hi
    rw [RL_succ t i (by omega)]
    by_cases hi0 : i = 0
    · subst hi0
      rw [RL_zero]
      exact ⟨1, 1, by simp [stepR], by omega, by simp [stepR], by simp [stepR], by omega, by omega⟩
    · obtain ⟨r, n, h1, h2, h3, h4, h5, h6⟩ := ih (by omega) (by omega)
      by_cases he : (RL t i).getD (n * 2 - 2) 0 = t.getD i 0
      · rw [stepR_eq h1 h2 he]
        refine ⟨r + 1, n, by simpa using h1, h2, ?_, ?_, by omega, by omega⟩
        · rw [show i + 1 - 1 = i by omega, ← he]
          simp only [List.getD, List.getElem?_set]
          rw [if_neg (by omega)]
        · rw [getD_set_self _ _ _ (by omega), h4]; omega
      · rw [stepR_ne h1 he]
        refine ⟨1, n + 1, by simp; omega, by omega, ?_, ?_, by omega, by omega⟩
        · rw [show (n + 1) * 2 - 2 = (RL t i).length + 0 by omega, getD_app_right]; rfl
        · rw [show (n + 1) * 2 - 1 = (RL t i).length + 1 by omega, getD_app_right]; rfl
theorem l2Runs_ok (t : List Int) (ht : t.length = 4) (hb : tubeB t = true) : FreshP Try.prog 115 [.arr t] [] (runsL t) ((runsL t).length / 2) 2 47 false .one := by
  have tk : t.take 4 = t := List.take_of_length_le (by omega)
  have hp := posC_lay t ht hb
  have hle := lay_le t ht
  refine fresh_of_vc (X := ⟨Try.prog, tys, [(57, l2Many_F)], [], true, true, 0, [], []⟩) fn_115 ⟨tys_ok, (.cons l2Many_T .nil), .nil, mixed⟩ (n0 := 0) rfl (Nat.le_of_ble_eq_true rfl) (by simp [wfL, SV.wf]) (wfH_spec (by simp [wfH, SObj.wf, wfL, SV.wf])) (Nat.le_refl _) ?_
  simp -implicitDefEqProofs only [Try.f115, Option.getD_some, argS, l2Many_F, ht, tk, hp, ZB, Int.reduceToNat, Nat.reduceLT, Nat.reduceLeDiff, Int.reduceLE, Int.reduceLT, Nat.reduceEqDiff, Nat.reduceSub, SB, SV.known, packR, ne_eq, reduceCtorEq, Nat.reduceEqDiff, ↓reduceIte, if_true, if_false, eq_self, Nat.reduceAdd, Nat.reduceMul, Nat.reduceSub, forall_const, oneCellS, litOne, flat1, Kd.isSca, flat, TYB]
  refine loop_intro (fun s : Nat × Nat × Nat × List Int => [(4, .int s.1), (3, .slice 1 0 s.2.1 s.2.2.1), (1, .ptr 0 0)]) (fun s => [(1, .ints (RL t s.1 ++ s.2.2.2) 47), (0, .ints t 24)]) 2
    (fun s => s.1 ≤ layN t ∧ (RL t s.1).length = s.2.1 * 2 ∧ s.2.1 ≤ s.1 ∧ s.2.2.2.length + s.2.1 * 2 = s.2.2.1 * 2) (fun s => layN t - s.1) ?_ ?_
  · refine ⟨(0, 0, 0, []), ?_, Sub.mk_id ?_ ?_ ?_ ?_ ?_⟩
    all_goals (try (simp only [RL_zero, List.append_nil, LB, subS, subH, wfS, wfH, SV.ren, renL, SObj.ren, SV.wf, SObj.wf, wfL, SV.known, Nat.reduceEqDiff, ↓reduceIte, if_true, if_false, eq_self, Nat.reduceAdd, Nat.reduceLT, Nat.reduceLeDiff, implies_true, reduceCtorEq, forall_const]; done))
    all_goals (try (simp only [RL_zero, List.append_nil, LB, subS, subH, wfS, wfH, SV.ren, renL, SObj.ren, SV.wf, SObj.wf, wfL, SV.known, Nat.reduceEqDiff, ↓reduceIte, if_true, if_false, eq_self, Nat.reduceAdd, Nat.reduceLT, Nat.reduceLeDiff, implies_true, reduceCtorEq, forall_const]; simp; done))
    all_goals (try (simp only [RL_zero, List.append_nil, LB, subS, subH, wfS, wfH, SV.ren, renL, SObj.ren, SV.wf, SObj.wf, wfL, SV.known, Nat.reduceEqDiff, ↓reduceIte, if_true, if_false, eq_self, Nat.reduceAdd, Nat.reduceLT, Nat.reduceLeDiff, implies_true, reduceCtorEq, forall_const]; (and_intros <;> (first | omega | rfl | (simp; done) | (simp; omega))); done))
    all_goals (try dsimp only)
    all_goals (and_intros <;> try (first | omega | (unfold In64; omega) | trivial | assumption))
    all_goals simp [RL_zero]
  · rintro ⟨i, n, cap, junk⟩ ⟨hi, hL, hni, hj⟩
    simp only at hi hL hni hj
    have hlst := RL_last t ht i
    have tkL : (RL t i ++ junk).take (n * 2) = RL t i := List.take_left' hL
    have lenL : (RL t i ++ junk).length = cap * 2 := by rw [List.length_append]; omega
    have ei : ((i : Int) - 1).toNat = i - 1 := by omega
    have e0 : ((n : Int) - 1).toNat * 2 = n * 2 - 2 := by omega
    by_cases hlt : i < layN t
    · have es := RL_succ t i (by omega)
      rcases Nat.eq_zero_or_pos i with h0 | h0
      · subst h0
        have en : n = 0 := by omega
        subst en
        rw [RL_zero] at es
        simp -implicitDefEqProofs only [lk_normal, l2Many_F, ht, tk, hp, tkL, lenL, ei, e0, ZB, Int.reduceToNat, Nat.reduceLT, Nat.reduceLeDiff, Int.reduceLE, Int.reduceLT, Nat.reduceEqDiff, Nat.reduceSub, SB, SV.known, packR, ne_eq, reduceCtorEq, Nat.reduceEqDiff, ↓reduceIte, if_true, if_false, eq_self, Nat.reduceAdd, Nat.reduceMul, Nat.reduceSub, forall_const, oneCellS, litOne, flat1, Kd.isSca, flat, TYB]
        refine ⟨fun _ => ?_, fun hx => absurd (by omega) hx⟩
        (try (and_intros <;> try (first | omega | (unfold In64; omega) | trivial | assumption)))
        intro junk' cap' hj'
        (try (and_intros <;> try (first | omega | (unfold In64; omega) | trivial | assumption)))
        have es1 : RL t 1 = [t.getD 0 0, 1] := RL_one t (by omega)
        refine ⟨(1, 1, cap', junk'), ?_, ?_, Sub.mk_to 1 3 ?_ ?_ ?_ ?_ ?_ ?_ ?_⟩
        all_goals (try (simp only [es1, RL_zero, LB, subS, subH, wfS, wfH, SV.ren, renL, SObj.ren, SV.wf, SObj.wf, wfL, SV.known, Nat.reduceEqDiff, ↓reduceIte, if_true, if_false, eq_self, Nat.reduceAdd, Nat.reduceLT, Nat.reduceLeDiff, implies_true, reduceCtorEq, forall_const]; done))
        all_goals (try (simp only [es1, RL_zero, LB, subS, subH, wfS, wfH, SV.ren, renL, SObj.ren, SV.wf, SObj.wf, wfL, SV.known, Nat.reduceEqDiff, ↓reduceIte, if_true, if_false, eq_self, Nat.reduceAdd, Nat.reduceLT, Nat.reduceLeDiff, implies_true, reduceCtorEq, forall_const]; simp; done))
        all_goals (try (simp only [es1, RL_zero, LB, subS, subH, wfS, wfH, SV.ren, renL, SObj.ren, SV.wf, SObj.wf, wfL, SV.known, Nat.reduceEqDiff, ↓reduceIte, if_true, if_false, eq_self, Nat.reduceAdd, Nat.reduceLT, Nat.reduceLeDiff, implies_true, reduceCtorEq, forall_const]; (and_intros <;> (first | omega | rfl | (simp; done) | (simp; omega))); done))
        all_goals (try dsimp only)
        all_goals (and_intros <;> try (first | omega | (unfold In64; omega) | trivial | assumption))
        all_goals (try (simp [es1, RL_zero]; done))
        all_goals (simp only [es1, RL_zero, LB, subS, subH, wfS, wfH, SV.ren, renL, SObj.ren, SV.wf, SObj.wf, wfL, SV.known, Nat.reduceEqDiff, ↓reduceIte, if_true, if_false, eq_self, Nat.reduceAdd, Nat.reduceLT, Nat.reduceLeDiff, implies_true, reduceCtorEq, forall_const]; simp)
      · obtain ⟨r, n', g1, g2, g3, g4, g5, g6⟩ := hlst h0 (by omega)
        have en : n' = n := by omega
        subst en
        have e1 : n' * 2 - 2 + 1 = n' * 2 - 1 := by omega
        have gd1 := getD_app (RL t i) junk (n' * 2 - 1) (by omega)
        have hs := fun x => set_app (RL t i) junk (n' * 2 - 1) x (by omega)
        simp -implicitDefEqProofs only [lk_normal, l2Many_F, ht, tk, hp, tkL, lenL, ei, e0, e1, gd1, hs, ZB, Int.reduceToNat, Nat.reduceLT, Nat.reduceLeDiff, Int.reduceLE, Int.reduceLT, Nat.reduceEqDiff, Nat.reduceSub, SB, SV.known, packR, ne_eq, reduceCtorEq, Nat.reduceEqDiff, ↓reduceIte, if_true, if_false, eq_self, Nat.reduceAdd, Nat.reduceMul, Nat.reduceSub, forall_const, oneCellS, litOne, flat1, Kd.isSca, flat, TYB]
        refine ⟨fun _ => ⟨fun _ => ?_, fun hx => absurd (by omega) hx⟩, fun hx => absurd (by omega) hx⟩
        (try (and_intros <;> try (first | omega | (unfold In64; omega) | trivial | assumption)))
        · intro he
          rw [stepR_eq g1 g2 (by rw [g3, he])] at es
          (try (and_intros <;> try (first | omega | (unfold In64; omega) | trivial | assumption)))
          refine ⟨(i + 1, n', cap, junk), ?_, ?_, Sub.mk_id ?_ ?_ ?_ ?_ ?_⟩
          all_goals (try (simp only [es, LB, subS, subH, wfS, wfH, SV.ren, renL, SObj.ren, SV.wf, SObj.wf, wfL, SV.known, Nat.reduceEqDiff, ↓reduceIte, if_true, if_false, eq_self, Nat.reduceAdd, Nat.reduceLT, Nat.reduceLeDiff, implies_true, reduceCtorEq, forall_const]; done))
          all_goals (try (simp only [es, LB, subS, subH, wfS, wfH, SV.ren, renL, SObj.ren, SV.wf, SObj.wf, wfL, SV.known, Nat.reduceEqDiff, ↓reduceIte, if_true, if_false, eq_self, Nat.reduceAdd, Nat.reduceLT, Nat.reduceLeDiff, implies_true, reduceCtorEq, forall_const]; simp; done))
          all_goals (try (simp only [es, LB, subS, subH, wfS, wfH, SV.ren, renL, SObj.ren, SV.wf, SObj.wf, wfL, SV.known, Nat.reduceEqDiff, ↓reduceIte, if_true, if_false, eq_self, Nat.reduceAdd, Nat.reduceLT, Nat.reduceLeDiff, implies_true, reduceCtorEq, forall_const]; (and_intros <;> (first | omega | rfl | (simp; done) | (simp; omega))); done))
          all_goals (try dsimp only)
          all_goals (and_intros <;> try (first | omega | (unfold In64; omega) | trivial | assumption))
          all_goals (rw [es]; simp; omega)
        · intro he
          rw [stepR_ne g1 (by rw [g3]; exact fun hx => he hx.symm)] at es
          (try (and_intros <;> try (first | omega | (unfold In64; omega) | trivial | assumption)))
          intro junk' cap' hj'
          (try (and_intros <;> try (first | omega | (unfold In64; omega) | trivial | assumption)))
          refine ⟨(i + 1, n' + 1, cap', junk'), ?_, ?_, Sub.mk_to 1 3 ?_ ?_ ?_ ?_ ?_ ?_ ?_⟩
          all_goals (try (simp only [es, LB, subS, subH, wfS, wfH, SV.ren, renL, SObj.ren, SV.wf, SObj.wf, wfL, SV.known, Nat.reduceEqDiff, ↓reduceIte, if_true, if_false, eq_self, Nat.reduceAdd, Nat.reduceLT, Nat.reduceLeDiff, implies_true, reduceCtorEq, forall_const]; done))
          all_goals (try (simp only [es, LB, subS, subH, wfS, wfH, SV.ren, renL, SObj.ren, SV.wf, SObj.wf, wfL, SV.known, Nat.reduceEqDiff, ↓reduceIte, if_true, if_false, eq_self, Nat.reduceAdd, Nat.reduceLT, Nat.reduceLeDiff, implies_true, reduceCtorEq, forall_const]; simp; done))
          all_goals (try (simp only [es, LB, subS, subH, wfS, wfH, SV.ren, renL, SObj.ren, SV.wf, SObj.wf, wfL, SV.known, Nat.reduceEqDiff, ↓reduceIte, if_true, if_false, eq_self, Nat.reduceAdd, Nat.reduceLT, Nat.reduceLeDiff, implies_true, reduceCtorEq, forall_const]; (and_intros <;> (first | omega | rfl | (simp; done) | (simp; omega))); done))
          all_goals (try dsimp only)
          all_goals (and_intros <;> try (first | omega | (unfold In64; omega) | trivial | assumption))
          all_goals (rw [es, List.length_append, g1]; simp; omega)
    · have hii : i = layN t := by omega
      have hr : runsL t = RL t i := by rw [hii]; rfl
      simp -implicitDefEqProofs only [lk_normal, l2Many_F, ht, tk, hp, tkL, lenL, ei, e0, ZB, Int.reduceToNat, Nat.reduceLT, Nat.reduceLeDiff, Int.reduceLE, Int.reduceLT, Nat.reduceEqDiff, Nat.reduceSub, SB, SV.known, packR, ne_eq, reduceCtorEq, Nat.reduceEqDiff, ↓reduceIte, if_true, if_false, eq_self, Nat.reduceAdd, Nat.reduceMul, Nat.reduceSub, forall_const, oneCellS, litOne, flat1, Kd.isSca, flat, TYB]
      refine ⟨fun hx => absurd hx (by omega), fun _ => ?_⟩
      refine .inr ⟨1, cap, junk, ?_, ?_, by omega, ?_, by simp⟩
      · rw [hr, hL]; simp [Wrap.ap]
      · rw [hr]; simp [hget_cons]
      · rw [hr]; omega
--@tbl l2Runs = spec.l2Runs
def l2Runs_F : List SV → Heap → Nat → Nat → K1 → Prop
  | [.arr t], H, n, _, κ => (t.length = 4 ∧ tubeB t = true) ∧ freshK .one (runsL t) ((runsL t).length / 2) 2 47 false H n κ
  | _, _, _, _, _ => False
theorem l2Runs_T : ∀ args H n m κ, l2Runs_F args H n m κ → GenOK Try.prog 115 args H n m κ := by
  intro args H n m κ h
  unfold l2Runs_F at h
  split at h
  · exact gen_of_fresh (l2Runs_ok _ h.1.1 h.1.2) (fun k o hk => by cases hk) h.2
  · exact h.elim
/-! The model's boundaries. -/
theorem runs_bottom (t : List Int) (ht : t.length = 4) (hb : tubeB t = true) : (0 < layN t ↔ 0 < crN t) ∧ (t.getD 0 0 = 0 ↔ layN t = 0) := by
  have hle := lay_le t ht
  constructor
  · constructor
    · intro h
      obtain ⟨n, h1, h2, h3⟩ := runsL_even t ht
      have := h3 h
      unfold crN
      omega
    · intro h
      rcases Nat.eq_zero_or_pos (layN t) with h0 | h0
      · have : crN t = 0 := by simp [crN, runsL, h0]
        omega
      · exact h0
  · obtain ⟨a, b, c, d, rfl⟩ : ∃ a b c d, t = [a, b, c, d] := by
      match t, ht with
      | [a, b, c, d], _ => exact ⟨a, b, c, d, rfl⟩
    by_cases ha : a = 0
    · subst ha; simp [layN, isZ0, List.findIdx?_cons]
    · simp [layN, isZ0, List.findIdx?_cons, ha, Ne.symm ha]
theorem pourB_facts {R : List Int} {i j : Int} (hR : R.length = 24) (h : pourB R i j = true) : rackB R = true ∧ (0 ≤ i ∧ i ≤ 5) ∧ (0 ≤ j ∧ j ≤ 5) ∧ canF R i j = true ∧ rackB (pourF R i.toNat j.toNat) = true ∧ pourT R i j = pourF R i.toNat j.toNat ∧ pourM R i j = pmN R i.toNat j.toNat := by
  have h0 := h
  simp only [pourB, Bool.and_eq_true] at h
  have bi := pl_bd h.1.1.2
  have bj := pl_bd h.1.2
  exact ⟨h.1.1.1, bi, bj, h.2, pour_rack hR h.1.1.1 bi bj h.2, by rw [pourT, if_pos h0], by rw [pourM, if_pos h0]⟩
--@tbl PourChange = impl.PourChange
--@tbl sPourChange = spec.PourChange
end Go.Proofs.Ytckcojgfgcjamaa
set_option maxRecDepth 100000
set_option linter.unusedSimpArgs false
set_option linter.unusedVariables false
namespace Go.Proofs.Ytckcojgfgcjamaa
open Go Go.RowKit
/-! Colors counted. -/
--@tbl countColors = impl.countColors
--@tbl l2Counts = spec.l2Counts
theorem cnt_step {R : List Int} (hR : R.length = 24) (hr : rackB R = true) {i j : Nat} (hi : i < 6) (hj : j < 4) : cntL (R.take (i * 4 + (j + 1))) = incr (cntL (R.take (i * 4 + j))) (R.getD (i * 4 + j) 0).toNat ∧ (0 ≤ R.getD (i * 4 + j) 0 ∧ R.getD (i * 4 + j) 0 ≤ 5) ∧
    0 ≤ (cntL (R.take (i * 4 + j))).getD (R.getD (i * 4 + j) 0).toNat 0 ∧ (cntL (R.take (i * 4 + j))).getD (R.getD (i * 4 + j) 0).toNat 0 ≤ 24 := by
  have := cntL_take_succ R (i * 4 + j) (by omega)
  have rc := rack_cell hR hr (k := i * 4 + j) (by omega)
  have cb := cntL_bd (R.take (i * 4 + j)) (R.getD (i * 4 + j) 0).toNat
  have : (R.take (i * 4 + j)).length ≤ 24 := by rw [List.length_take]; omega
  refine ⟨by rw [← Nat.add_assoc]; assumption, rc, by omega, by omega⟩
theorem countColors_ok (R : List Int) (hR : R.length = 24) (hr : rackB R = true) : PureH Try.prog 104 [.arr R] [] (.arr (cntL R)) := by
  have tkR : R.take 24 = R := List.take_of_length_le (by omega)
  refine pure_of_vc (X := ⟨Try.prog, tys, [], [], true, true, 0, [], []⟩) fn_104 ⟨tys_ok, .nil, .nil, mixed⟩ (n0 := 0) (Nat.le_of_ble_eq_true rfl) (by simp [wfL, SV.wf]) (wfH_spec (by simp [wfH, SObj.wf, wfL, SV.wf])) (Nat.le_refl _) (fun _ => by simp [SV.wf, wfL]) ?_
  simp -implicitDefEqProofs only [Try.f104, Option.getD_some, argS, hR, tkR, ZB, Int.reduceToNat, Nat.reduceLT, Nat.reduceLeDiff, Int.reduceLE, Int.reduceLT, Nat.reduceEqDiff, Nat.reduceSub, SB, SV.known, packR, ne_eq, reduceCtorEq, Nat.reduceEqDiff, ↓reduceIte, if_true, if_false, eq_self, Nat.reduceAdd, Nat.reduceMul, Nat.reduceSub, forall_const, oneCellS, litOne, flat1, Kd.isSca, flat, TYB]
  refine loop_intro (fun i : Nat => [(10, .int i), (9, .arr R), (3, .ptr 2 0), (2, .ptr 1 0), (1, .ptr 0 0)]) (fun i => [(0, .ints R 27), (1, .ints (List.replicate 6 0) 29), (2, .ints (cntL (R.take (i * 4))) 29)]) 3 (fun i => i ≤ 6) (fun i => 6 - i) ?_ ?_
  · refine ⟨0, ?_, Sub.mk_id ?_ ?_ ?_ ?_ ?_⟩
    all_goals (try (simp only [List.take_zero, Nat.zero_mul, cntL_nil, LB, subS, subH, wfS, wfH, SV.ren, renL, SObj.ren, SV.wf, SObj.wf, wfL, SV.known, Nat.reduceEqDiff, ↓reduceIte, if_true, if_false, eq_self, Nat.reduceAdd, Nat.reduceLT, Nat.reduceLeDiff, implies_true, reduceCtorEq, forall_const]; done))
    all_goals (try (simp only [List.take_zero, Nat.zero_mul, cntL_nil, LB, subS, subH, wfS, wfH, SV.ren, renL, SObj.ren, SV.wf, SObj.wf, wfL, SV.known, Nat.reduceEqDiff, ↓reduceIte, if_true, if_false, eq_self, Nat.reduceAdd, Nat.reduceLT, Nat.reduceLeDiff, implies_true, reduceCtorEq, forall_const]; simp; done))
    all_goals (try (simp only [List.take_zero, Nat.zero_mul, cntL_nil, LB, subS, subH, wfS, wfH, SV.ren, renL, SObj.ren, SV.wf, SObj.wf, wfL, SV.known, Nat.reduceEqDiff, ↓reduceIte, if_true, if_false, eq_self, Nat.reduceAdd, Nat.reduceLT, Nat.reduceLeDiff, implies_true, reduceCtorEq, forall_const]; (and_intros <;> (first | omega | rfl | (simp; done) | (simp; omega))); done))
    all_goals (try dsimp only)
    all_goals (and_intros <;> try (first | omega | (unfold In64; omega) | trivial | assumption))
  · intro i hi
    have eT : List.take 4 (List.drop (i * 4) R) = tubeAt R i := rfl
    by_cases hlt : i < 6
    · have hil : (i : Int) < 6 := by omega
      have hl := tubeAt_len hR hlt
      have tk4 : (tubeAt R i).take 4 = tubeAt R i := List.take_of_length_le (by omega)
      simp -implicitDefEqProofs only [lk_normal, hil, hR, eT, hl, tk4, ZB, Int.reduceToNat, Nat.reduceLT, Nat.reduceLeDiff, Int.reduceLE, Int.reduceLT, Nat.reduceEqDiff, Nat.reduceSub, SB, SV.known, packR, ne_eq, reduceCtorEq, Nat.reduceEqDiff, ↓reduceIte, if_true, if_false, eq_self, Nat.reduceAdd, Nat.reduceMul, Nat.reduceSub, forall_const, oneCellS, litOne, flat1, Kd.isSca, flat, TYB]
      refine ⟨by omega, ?_⟩
      refine loop_intro (fun j : Nat => [(14, .int j), (13, .arr (tubeAt R i)), (10, .int i), (9, .arr R), (3, .ptr 2 0), (2, .ptr 1 0), (1, .ptr 0 0)]) (fun j => [(0, .ints R 27), (1, .ints (List.replicate 6 0) 29), (2, .ints (cntL (R.take (i * 4 + j))) 29)]) 3 (fun j => j ≤ 4) (fun j => 4 - j) ?_ ?_
      · refine ⟨0, ?_, Sub.mk_id ?_ ?_ ?_ ?_ ?_⟩
        all_goals (try (simp only [Nat.add_zero, LB, subS, subH, wfS, wfH, SV.ren, renL, SObj.ren, SV.wf, SObj.wf, wfL, SV.known, Nat.reduceEqDiff, ↓reduceIte, if_true, if_false, eq_self, Nat.reduceAdd, Nat.reduceLT, Nat.reduceLeDiff, implies_true, reduceCtorEq, forall_const]; done))
        all_goals (try (simp only [Nat.add_zero, LB, subS, subH, wfS, wfH, SV.ren, renL, SObj.ren, SV.wf, SObj.wf, wfL, SV.known, Nat.reduceEqDiff, ↓reduceIte, if_true, if_false, eq_self, Nat.reduceAdd, Nat.reduceLT, Nat.reduceLeDiff, implies_true, reduceCtorEq, forall_const]; simp; done))
        all_goals (try (simp only [Nat.add_zero, LB, subS, subH, wfS, wfH, SV.ren, renL, SObj.ren, SV.wf, SObj.wf, wfL, SV.known, Nat.reduceEqDiff, ↓reduceIte, if_true, if_false, eq_self, Nat.reduceAdd, Nat.reduceLT, Nat.reduceLeDiff, implies_true, reduceCtorEq, forall_const]; (and_intros <;> (first | omega | rfl | (simp; done) | (simp; omega))); done))
        all_goals (try dsimp only)
        all_goals (and_intros <;> try (first | omega | (unfold In64; omega) | trivial | assumption))
      · intro j hj
        by_cases hjt : j < 4
        · have hjl : (j : Int) < 4 := by omega
          have cs := cnt_step hR hr hlt hjt
          have cl := cntL_len (R.take (i * 4 + j))
          have eg : (tubeAt R i).getD j 0 = R.getD (i * 4 + j) 0 := tubeAt_getD R i j hjt
          simp -implicitDefEqProofs only [lk_normal, hil, hjl, hR, cl, hl, eg, ZB, Int.reduceToNat, Nat.reduceLT, Nat.reduceLeDiff, Int.reduceLE, Int.reduceLT, Nat.reduceEqDiff, Nat.reduceSub, SB, SV.known, packR, ne_eq, reduceCtorEq, Nat.reduceEqDiff, ↓reduceIte, if_true, if_false, eq_self, Nat.reduceAdd, Nat.reduceMul, Nat.reduceSub, forall_const, oneCellS, litOne, flat1, Kd.isSca, flat, TYB]
          (try (and_intros <;> try (first | omega | (unfold In64; omega) | trivial | assumption)))
          refine ⟨j + 1, ?_, ?_, Sub.mk_id ?_ ?_ ?_ ?_ ?_⟩
          all_goals (try (simp only [cs.1, incr, LB, subS, subH, wfS, wfH, SV.ren, renL, SObj.ren, SV.wf, SObj.wf, wfL, SV.known, Nat.reduceEqDiff, ↓reduceIte, if_true, if_false, eq_self, Nat.reduceAdd, Nat.reduceLT, Nat.reduceLeDiff, implies_true, reduceCtorEq, forall_const]; done))
          all_goals (try (simp only [cs.1, incr, LB, subS, subH, wfS, wfH, SV.ren, renL, SObj.ren, SV.wf, SObj.wf, wfL, SV.known, Nat.reduceEqDiff, ↓reduceIte, if_true, if_false, eq_self, Nat.reduceAdd, Nat.reduceLT, Nat.reduceLeDiff, implies_true, reduceCtorEq, forall_const]; simp; done))
          all_goals (try (simp only [cs.1, incr, LB, subS, subH, wfS, wfH, SV.ren, renL, SObj.ren, SV.wf, SObj.wf, wfL, SV.known, Nat.reduceEqDiff, ↓reduceIte, if_true, if_false, eq_self, Nat.reduceAdd, Nat.reduceLT, Nat.reduceLeDiff, implies_true, reduceCtorEq, forall_const]; (and_intros <;> (first | omega | rfl | (simp; done) | (simp; omega))); done))
          all_goals (try dsimp only)
          all_goals (and_intros <;> try (first | omega | (unfold In64; omega) | trivial | assumption))
        · have hjl : ¬ (j : Int) < 4 := by omega
          obtain rfl : j = 4 := by omega
          simp -implicitDefEqProofs only [lk_normal, hjl, ZB, Int.reduceToNat, Nat.reduceLT, Nat.reduceLeDiff, Int.reduceLE, Int.reduceLT, Nat.reduceEqDiff, Nat.reduceSub, SB, SV.known, packR, ne_eq, reduceCtorEq, Nat.reduceEqDiff, ↓reduceIte, if_true, if_false, eq_self, Nat.reduceAdd, Nat.reduceMul, Nat.reduceSub, forall_const, oneCellS, litOne, flat1, Kd.isSca, flat, TYB]
          (try (and_intros <;> try (first | omega | (unfold In64; omega) | trivial | assumption)))
          have e2 : (i + 1) * 4 = i * 4 + 4 := by omega
          refine ⟨i + 1, ?_, ?_, Sub.mk_id ?_ ?_ ?_ ?_ ?_⟩
          all_goals (try (simp only [e2, LB, subS, subH, wfS, wfH, SV.ren, renL, SObj.ren, SV.wf, SObj.wf, wfL, SV.known, Nat.reduceEqDiff, ↓reduceIte, if_true, if_false, eq_self, Nat.reduceAdd, Nat.reduceLT, Nat.reduceLeDiff, implies_true, reduceCtorEq, forall_const]; done))
          all_goals (try (simp only [e2, LB, subS, subH, wfS, wfH, SV.ren, renL, SObj.ren, SV.wf, SObj.wf, wfL, SV.known, Nat.reduceEqDiff, ↓reduceIte, if_true, if_false, eq_self, Nat.reduceAdd, Nat.reduceLT, Nat.reduceLeDiff, implies_true, reduceCtorEq, forall_const]; simp; done))
          all_goals (try (simp only [e2, LB, subS, subH, wfS, wfH, SV.ren, renL, SObj.ren, SV.wf, SObj.wf, wfL, SV.known, Nat.reduceEqDiff, ↓reduceIte, if_true, if_false, eq_self, Nat.reduceAdd, Nat.reduceLT, Nat.reduceLeDiff, implies_true, reduceCtorEq, forall_const]; (and_intros <;> (first | omega | rfl | (simp; done) | (simp; omega))); done))
          all_goals (try dsimp only)
          all_goals (and_intros <;> try (first | omega | (unfold In64; omega) | trivial | assumption))
    · have hil : ¬ (i : Int) < 6 := by omega
      obtain rfl : i = 6 := by omega
      have cl2 := cntL_len R
      have tkc : (cntL R).take 6 = cntL R := List.take_of_length_le (by omega)
      simp -implicitDefEqProofs only [lk_normal, hil, hR, tkR, cl2, tkc, ZB, Int.reduceToNat, Nat.reduceLT, Nat.reduceLeDiff, Int.reduceLE, Int.reduceLT, Nat.reduceEqDiff, Nat.reduceSub, SB, SV.known, packR, ne_eq, reduceCtorEq, Nat.reduceEqDiff, ↓reduceIte, if_true, if_false, eq_self, Nat.reduceAdd, Nat.reduceMul, Nat.reduceSub, forall_const, oneCellS, litOne, flat1, Kd.isSca, flat, TYB]
      (try (and_intros <;> try (first | omega | (unfold In64; omega) | trivial | assumption)))
def countColors_F : List SV → Heap → Option (Prop × SV)
  | [.arr R], _ => some (R.length = 24 ∧ rackB R = true, .arr (cntL R))
  | _, _ => none
theorem countColors_T : ∀ args H p v, countColors_F args H = some (p, v) → p → PureH Try.prog 104 args H v := by
  intro args H p v h hp
  unfold countColors_F at h
  split at h
  · cases h; exact (countColors_ok _ hp.1 hp.2).any _
  · cases h
theorem l2Counts_ok (R : List Int) (hR : R.length = 24) (hr : rackB R = true) : PureH Try.prog 92 [.arr R] [] (.arr (cntL R)) := by
  have tkR : R.take 24 = R := List.take_of_length_le (by omega)
  refine pure_of_vc (X := ⟨Try.prog, tys, [], [], true, true, 0, [], []⟩) fn_92 ⟨tys_ok, .nil, .nil, mixed⟩ (n0 := 0) (Nat.le_of_ble_eq_true rfl) (by simp [wfL, SV.wf]) (wfH_spec (by simp [wfH, SObj.wf, wfL, SV.wf])) (Nat.le_refl _) (fun _ => by simp [SV.wf, wfL]) ?_
  simp -implicitDefEqProofs only [Try.f92, Option.getD_some, argS, hR, tkR, ZB, Int.reduceToNat, Nat.reduceLT, Nat.reduceLeDiff, Int.reduceLE, Int.reduceLT, Nat.reduceEqDiff, Nat.reduceSub, SB, SV.known, packR, ne_eq, reduceCtorEq, Nat.reduceEqDiff, ↓reduceIte, if_true, if_false, eq_self, Nat.reduceAdd, Nat.reduceMul, Nat.reduceSub, forall_const, oneCellS, litOne, flat1, Kd.isSca, flat, TYB]
  refine loop_intro (fun i : Nat => [(4, .int i), (3, .ptr 2 0), (2, .ptr 1 0), (1, .ptr 0 0)]) (fun i => [(0, .ints R 27), (1, .ints (List.replicate 6 0) 29), (2, .ints (cntL (R.take (i * 4))) 29)]) 3 (fun i => i ≤ 6) (fun i => 6 - i) ?_ ?_
  · refine ⟨0, ?_, Sub.mk_id ?_ ?_ ?_ ?_ ?_⟩
    all_goals (try (simp only [List.take_zero, Nat.zero_mul, cntL_nil, LB, subS, subH, wfS, wfH, SV.ren, renL, SObj.ren, SV.wf, SObj.wf, wfL, SV.known, Nat.reduceEqDiff, ↓reduceIte, if_true, if_false, eq_self, Nat.reduceAdd, Nat.reduceLT, Nat.reduceLeDiff, implies_true, reduceCtorEq, forall_const]; done))
    all_goals (try (simp only [List.take_zero, Nat.zero_mul, cntL_nil, LB, subS, subH, wfS, wfH, SV.ren, renL, SObj.ren, SV.wf, SObj.wf, wfL, SV.known, Nat.reduceEqDiff, ↓reduceIte, if_true, if_false, eq_self, Nat.reduceAdd, Nat.reduceLT, Nat.reduceLeDiff, implies_true, reduceCtorEq, forall_const]; simp; done))
    all_goals (try (simp only [List.take_zero, Nat.zero_mul, cntL_nil, LB, subS, subH, wfS, wfH, SV.ren, renL, SObj.ren, SV.wf, SObj.wf, wfL, SV.known, Nat.reduceEqDiff, ↓reduceIte, if_true, if_false, eq_self, Nat.reduceAdd, Nat.reduceLT, Nat.reduceLeDiff, implies_true, reduceCtorEq, forall_const]; (and_intros <;> (first | omega | rfl | (simp; done) | (simp; omega))); done))
    all_goals (try dsimp only)
    all_goals (and_intros <;> try (first | omega | (unfold In64; omega) | trivial | assumption))
  · intro i hi
    by_cases hlt : i < 6
    · have hil : (i : Int) < 6 := by omega
      simp -implicitDefEqProofs only [lk_normal, hil, hR, ZB, Int.reduceToNat, Nat.reduceLT, Nat.reduceLeDiff, Int.reduceLE, Int.reduceLT, Nat.reduceEqDiff, Nat.reduceSub, SB, SV.known, packR, ne_eq, reduceCtorEq, Nat.reduceEqDiff, ↓reduceIte, if_true, if_false, eq_self, Nat.reduceAdd, Nat.reduceMul, Nat.reduceSub, forall_const, oneCellS, litOne, flat1, Kd.isSca, flat, TYB]
      refine loop_intro (fun j : Nat => [(4, .int i), (5, .int j), (3, .ptr 2 0), (2, .ptr 1 0), (1, .ptr 0 0)]) (fun j => [(0, .ints R 27), (1, .ints (List.replicate 6 0) 29), (2, .ints (cntL (R.take (i * 4 + j))) 29)]) 3 (fun j => j ≤ 4) (fun j => 4 - j) ?_ ?_
      · refine ⟨0, ?_, Sub.mk_id ?_ ?_ ?_ ?_ ?_⟩
        all_goals (try (simp only [Nat.add_zero, LB, subS, subH, wfS, wfH, SV.ren, renL, SObj.ren, SV.wf, SObj.wf, wfL, SV.known, Nat.reduceEqDiff, ↓reduceIte, if_true, if_false, eq_self, Nat.reduceAdd, Nat.reduceLT, Nat.reduceLeDiff, implies_true, reduceCtorEq, forall_const]; done))
        all_goals (try (simp only [Nat.add_zero, LB, subS, subH, wfS, wfH, SV.ren, renL, SObj.ren, SV.wf, SObj.wf, wfL, SV.known, Nat.reduceEqDiff, ↓reduceIte, if_true, if_false, eq_self, Nat.reduceAdd, Nat.reduceLT, Nat.reduceLeDiff, implies_true, reduceCtorEq, forall_const]; simp; done))
        all_goals (try (simp only [Nat.add_zero, LB, subS, subH, wfS, wfH, SV.ren, renL, SObj.ren, SV.wf, SObj.wf, wfL, SV.known, Nat.reduceEqDiff, ↓reduceIte, if_true, if_false, eq_self, Nat.reduceAdd, Nat.reduceLT, Nat.reduceLeDiff, implies_true, reduceCtorEq, forall_const]; (and_intros <;> (first | omega | rfl | (simp; done) | (simp; omega))); done))
        all_goals (try dsimp only)
        all_goals (and_intros <;> try (first | omega | (unfold In64; omega) | trivial | assumption))
      · intro j hj
        by_cases hjt : j < 4
        · have hjl : (j : Int) < 4 := by omega
          have cs := cnt_step hR hr hlt hjt
          have cl := cntL_len (R.take (i * 4 + j))
          simp -implicitDefEqProofs only [lk_normal, hil, hjl, hR, cl, ZB, Int.reduceToNat, Nat.reduceLT, Nat.reduceLeDiff, Int.reduceLE, Int.reduceLT, Nat.reduceEqDiff, Nat.reduceSub, SB, SV.known, packR, ne_eq, reduceCtorEq, Nat.reduceEqDiff, ↓reduceIte, if_true, if_false, eq_self, Nat.reduceAdd, Nat.reduceMul, Nat.reduceSub, forall_const, oneCellS, litOne, flat1, Kd.isSca, flat, TYB]
          (try (and_intros <;> try (first | omega | (unfold In64; omega) | trivial | assumption)))
          refine ⟨j + 1, ?_, ?_, Sub.mk_id ?_ ?_ ?_ ?_ ?_⟩
          all_goals (try (simp only [cs.1, incr, LB, subS, subH, wfS, wfH, SV.ren, renL, SObj.ren, SV.wf, SObj.wf, wfL, SV.known, Nat.reduceEqDiff, ↓reduceIte, if_true, if_false, eq_self, Nat.reduceAdd, Nat.reduceLT, Nat.reduceLeDiff, implies_true, reduceCtorEq, forall_const]; done))
          all_goals (try (simp only [cs.1, incr, LB, subS, subH, wfS, wfH, SV.ren, renL, SObj.ren, SV.wf, SObj.wf, wfL, SV.known, Nat.reduceEqDiff, ↓reduceIte, if_true, if_false, eq_self, Nat.reduceAdd, Nat.reduceLT, Nat.reduceLeDiff, implies_true, reduceCtorEq, forall_const]; simp; done))
          all_goals (try (simp only [cs.1, incr, LB, subS, subH, wfS, wfH, SV.ren, renL, SObj.ren, SV.wf, SObj.wf, wfL, SV.known, Nat.reduceEqDiff, ↓reduceIte, if_true, if_false, eq_self, Nat.reduceAdd, Nat.reduceLT, Nat.reduceLeDiff, implies_true, reduceCtorEq, forall_const]; (and_intros <;> (first | omega | rfl | (simp; done) | (simp; omega))); done))
          all_goals (try dsimp only)
          all_goals (and_intros <;> try (first | omega | (unfold In64; omega) | trivial | assumption))
        · have hjl : ¬ (j : Int) < 4 := by omega
          obtain rfl : j = 4 := by omega
          simp -implicitDefEqProofs only [lk_normal, hjl, ZB, Int.reduceToNat, Nat.reduceLT, Nat.reduceLeDiff, Int.reduceLE, Int.reduceLT, Nat.reduceEqDiff, Nat.reduceSub, SB, SV.known, packR, ne_eq, reduceCtorEq, Nat.reduceEqDiff, ↓reduceIte, if_true, if_false, eq_self, Nat.reduceAdd, Nat.reduceMul, Nat.reduceSub, forall_const, oneCellS, litOne, flat1, Kd.isSca, flat, TYB]
          (try (and_intros <;> try (first | omega | (unfold In64; omega) | trivial | assumption)))
          have e2 : (i + 1) * 4 = i * 4 + 4 := by omega
          refine ⟨i + 1, ?_, ?_, Sub.mk_id ?_ ?_ ?_ ?_ ?_⟩
          all_goals (try (simp only [e2, LB, subS, subH, wfS, wfH, SV.ren, renL, SObj.ren, SV.wf, SObj.wf, wfL, SV.known, Nat.reduceEqDiff, ↓reduceIte, if_true, if_false, eq_self, Nat.reduceAdd, Nat.reduceLT, Nat.reduceLeDiff, implies_true, reduceCtorEq, forall_const]; done))
          all_goals (try (simp only [e2, LB, subS, subH, wfS, wfH, SV.ren, renL, SObj.ren, SV.wf, SObj.wf, wfL, SV.known, Nat.reduceEqDiff, ↓reduceIte, if_true, if_false, eq_self, Nat.reduceAdd, Nat.reduceLT, Nat.reduceLeDiff, implies_true, reduceCtorEq, forall_const]; simp; done))
          all_goals (try (simp only [e2, LB, subS, subH, wfS, wfH, SV.ren, renL, SObj.ren, SV.wf, SObj.wf, wfL, SV.known, Nat.reduceEqDiff, ↓reduceIte, if_true, if_false, eq_self, Nat.reduceAdd, Nat.reduceLT, Nat.reduceLeDiff, implies_true, reduceCtorEq, forall_const]; (and_intros <;> (first | omega | rfl | (simp; done) | (simp; omega))); done))
          all_goals (try dsimp only)
          all_goals (and_intros <;> try (first | omega | (unfold In64; omega) | trivial | assumption))
    · have hil : ¬ (i : Int) < 6 := by omega
      obtain rfl : i = 6 := by omega
      have cl2 := cntL_len R
      have tkc : (cntL R).take 6 = cntL R := List.take_of_length_le (by omega)
      simp -implicitDefEqProofs only [lk_normal, hil, hR, tkR, cl2, tkc, ZB, Int.reduceToNat, Nat.reduceLT, Nat.reduceLeDiff, Int.reduceLE, Int.reduceLT, Nat.reduceEqDiff, Nat.reduceSub, SB, SV.known, packR, ne_eq, reduceCtorEq, Nat.reduceEqDiff, ↓reduceIte, if_true, if_false, eq_self, Nat.reduceAdd, Nat.reduceMul, Nat.reduceSub, forall_const, oneCellS, litOne, flat1, Kd.isSca, flat, TYB]
      (try (and_intros <;> try (first | omega | (unfold In64; omega) | trivial | assumption)))
def l2Counts_F : List SV → Heap → Option (Prop × SV)
  | [.arr R], _ => some (R.length = 24 ∧ rackB R = true, .arr (cntL R))
  | _, _ => none
theorem l2Counts_T : ∀ args H p v, l2Counts_F args H = some (p, v) → p → PureH Try.prog 92 args H v := by
  intro args H p v h hp
  unfold l2Counts_F at h
  split at h
  · cases h; exact (l2Counts_ok _ hp.1 hp.2).any _
  · cases h
/-! Views. -/
def topL (R : List Int) : List Int := (List.range 6).map fun i => (topF (tubeAt R i)).1
def manL (R : List Int) : List Int := (List.range 6).map fun i => (layN (tubeAt R i) : Int)
theorem topL_len (R : List Int) : (topL R).length = 6 := by simp [topL]
theorem manL_len (R : List Int) : (manL R).length = 6 := by simp [manL]
theorem topL_getD (R : List Int) (i : Nat) (h : i < 6) : (topL R).getD i 0 = (topF (tubeAt R i)).1 := by simp [topL, List.getD, h]
theorem manL_getD (R : List Int) (i : Nat) (h : i < 6) : (manL R).getD i 0 = (layN (tubeAt R i) : Int) := by simp [manL, List.getD, h]
def ctL (R : List Int) : List Int := (cntL R).set 0 0
theorem ctL_len (R : List Int) : (ctL R).length = 6 := by simp [ctL, cntL_len]
def viewF (R : List Int) : List Int := topL R ++ manL R ++ ctL R
theorem viewF_len (R : List Int) : (viewF R).length = 18 := by simp [viewF, topL_len, manL_len, ctL_len]
/-- A view in the making. -/
def vwK (R C : List Int) (k : Nat) : List Int := ((topL R).take k ++ List.replicate (6 - k) 0) ++ ((manL R).take k ++ List.replicate (6 - k) 0) ++ C
theorem vwK_len (R C : List Int) (k : Nat) (hk : k ≤ 6) : (vwK R C k).length = 12 + C.length := by
  simp [vwK, topL_len, manL_len]; omega
theorem vwK_zero (R C : List Int) : vwK R C 0 = List.replicate 12 0 ++ C := by
  simp only [vwK, List.take_zero, List.nil_append, Nat.sub_zero]
  rfl
theorem vwK_step (R C : List Int) (k : Nat) (hk : k < 6) : ((vwK R C k).set k (topF (tubeAt R k)).1).set (6 + k) (layN (tubeAt R k) : Int) = vwK R C (k + 1) := by
  have t1 : ((topL R).take k ++ List.replicate (6 - k) 0).length = 6 := by simp [topL_len]; omega
  have t2 : ((manL R).take k ++ List.replicate (6 - k) 0).length = 6 := by simp [manL_len]; omega
  have f1 := fill_step (topL R) k 6 hk (topL_len R)
  have f2 := fill_step (manL R) k 6 hk (manL_len R)
  rw [topL_getD R k hk] at f1
  rw [manL_getD R k hk] at f2
  unfold vwK
  rw [List.append_assoc, List.set_append_left _ _ (by omega), f1]
  have t3 : (List.take (k + 1) (topL R) ++ List.replicate (6 - (k + 1)) 0).length = 6 := by simp [topL_len]; omega
  rw [List.set_append_right _ _ (by omega), t3, show 6 + k - 6 = k by omega, List.set_append_left _ _ (by omega), f2]
  simp only [List.append_assoc]
theorem vwK_end (R C : List Int) : vwK R C 6 = topL R ++ manL R ++ C := by
  unfold vwK
  rw [List.take_of_length_le (by rw [topL_len]; omega), List.take_of_length_le (by rw [manL_len]; omega)]
  simp
theorem viewOf_ok (R : List Int) (hR : R.length = 24) (hr : rackB R = true) : PureH Try.prog 50 [.arr R] [] (.arr (viewF R)) := by
  have tkR : R.take 24 = R := List.take_of_length_le (by omega)
  have cl := cntL_len R
  refine pure_of_vc (X := ⟨Try.prog, tys, [(103, top_F), (54, layers_F), (104, countColors_F)], [], true, true, 0, [], []⟩) fn_50 ⟨tys_ok, (.cons top_T (.cons layers_T (.cons countColors_T .nil))), .nil, mixed⟩ (n0 := 0) (Nat.le_of_ble_eq_true rfl) (by simp [wfL, SV.wf]) (wfH_spec (by simp [wfH, SObj.wf, wfL, SV.wf])) (Nat.le_refl _) (fun _ => by simp [SV.wf, wfL]) ?_
  simp -implicitDefEqProofs only [Try.f50, Option.getD_some, argS, top_F, layers_F, countColors_F, hR, tkR, ZB, Int.reduceToNat, Nat.reduceLT, Nat.reduceLeDiff, Int.reduceLE, Int.reduceLT, Nat.reduceEqDiff, Nat.reduceSub, SB, SV.known, packR, ne_eq, reduceCtorEq, Nat.reduceEqDiff, ↓reduceIte, if_true, if_false, eq_self, Nat.reduceAdd, Nat.reduceMul, Nat.reduceSub, forall_const, oneCellS, litOne, flat1, Kd.isSca, flat, TYB]
  refine loop_intro (fun i : Nat => [(8, .int i), (7, .arr R), (3, .ptr 2 0), (2, .ptr 1 0), (1, .ptr 0 0)]) (fun i => [(0, .ints R 27), (1, .ints (List.replicate 18 0) 31), (2, .ints (vwK R (List.replicate 6 0) i) 31)]) 3 (fun i => i ≤ 6) (fun i => 6 - i) ?_ ?_
  · have r18 : List.replicate 18 (0 : Int) = vwK R (List.replicate 6 0) 0 := by rw [vwK_zero]; rfl
    refine ⟨0, by omega, Sub.mk_id ?_ ?_ ?_ ?_ ?_⟩
    all_goals simp only [← r18, LB, subS, subH, wfS, wfH, SV.ren, renL, SObj.ren, SV.wf, SObj.wf, wfL, SV.known, Nat.reduceEqDiff, ↓reduceIte, if_true, if_false, eq_self, Nat.reduceAdd, Nat.reduceLT, Nat.reduceLeDiff, implies_true, reduceCtorEq, forall_const]
    all_goals simp
  · intro i hi
    have eT : List.take 4 (List.drop (i * 4) R) = tubeAt R i := rfl
    have vl := vwK_len R (List.replicate 6 0) i hi
    rw [List.length_replicate] at vl
    by_cases hlt : i < 6
    · have hil : (i : Int) < 6 := by omega
      have hl := tubeAt_len hR hlt
      have tk4 : (tubeAt R i).take 4 = tubeAt R i := List.take_of_length_le (by omega)
      have es := vwK_step R (List.replicate 6 0) i hlt
      simp -implicitDefEqProofs only [lk_normal, top_F, layers_F, hil, hR, eT, hl, tk4, vl, es, ZB, Int.reduceToNat, Nat.reduceLT, Nat.reduceLeDiff, Int.reduceLE, Int.reduceLT, Nat.reduceEqDiff, Nat.reduceSub, SB, SV.known, packR, ne_eq, reduceCtorEq, Nat.reduceEqDiff, ↓reduceIte, if_true, if_false, eq_self, Nat.reduceAdd, Nat.reduceMul, Nat.reduceSub, forall_const, oneCellS, litOne, flat1, Kd.isSca, flat, TYB]
      (try (and_intros <;> try (first | omega | (unfold In64; omega) | trivial | assumption)))
      refine ⟨i + 1, ?_, ?_, Sub.mk_id ?_ ?_ ?_ ?_ ?_⟩
      all_goals (try (simp only [es, LB, subS, subH, wfS, wfH, SV.ren, renL, SObj.ren, SV.wf, SObj.wf, wfL, SV.known, Nat.reduceEqDiff, ↓reduceIte, if_true, if_false, eq_self, Nat.reduceAdd, Nat.reduceLT, Nat.reduceLeDiff, implies_true, reduceCtorEq, forall_const]; done))
      all_goals (try (simp only [es, LB, subS, subH, wfS, wfH, SV.ren, renL, SObj.ren, SV.wf, SObj.wf, wfL, SV.known, Nat.reduceEqDiff, ↓reduceIte, if_true, if_false, eq_self, Nat.reduceAdd, Nat.reduceLT, Nat.reduceLeDiff, implies_true, reduceCtorEq, forall_const]; simp; done))
      all_goals (try (simp only [es, LB, subS, subH, wfS, wfH, SV.ren, renL, SObj.ren, SV.wf, SObj.wf, wfL, SV.known, Nat.reduceEqDiff, ↓reduceIte, if_true, if_false, eq_self, Nat.reduceAdd, Nat.reduceLT, Nat.reduceLeDiff, implies_true, reduceCtorEq, forall_const]; (and_intros <;> (first | omega | rfl | (simp; done) | (simp; omega))); done))
      all_goals (try dsimp only)
      all_goals (and_intros <;> try (first | omega | (unfold In64; omega) | trivial | assumption))
    · have hil : ¬ (i : Int) < 6 := by omega
      obtain rfl : i = 6 := by omega
      simp -implicitDefEqProofs only [lk_normal, countColors_F, hil, hR, hr, tkR, vl, cl, ZB, Int.reduceToNat, Nat.reduceLT, Nat.reduceLeDiff, Int.reduceLE, Int.reduceLT, Nat.reduceEqDiff, Nat.reduceSub, SB, SV.known, packR, ne_eq, reduceCtorEq, Nat.reduceEqDiff, ↓reduceIte, if_true, if_false, eq_self, Nat.reduceAdd, Nat.reduceMul, Nat.reduceSub, forall_const, oneCellS, litOne, flat1, Kd.isSca, flat, TYB]
      have ve := vwK_end R (List.replicate 6 0)
      have vfl := viewF_len R
      have t12 : List.take 12 (topL R ++ manL R ++ List.replicate 6 0) = topL R ++ manL R := List.take_left' (by rw [List.length_append, topL_len, manL_len])
      have d18 : List.drop 18 (topL R ++ manL R ++ List.replicate 6 0) = [] := List.drop_of_length_le (by simp [topL_len, manL_len])
      have sv : (topL R ++ manL R ++ cntL R).set 12 0 = viewF R := by
        rw [List.set_append_right _ _ (by rw [List.length_append, topL_len, manL_len]; omega), List.length_append, topL_len, manL_len]; rfl
      have l18 : (topL R ++ manL R ++ cntL R).length = 18 := by simp [topL_len, manL_len, cl]
      have tv : List.take 18 (viewF R) = viewF R := List.take_of_length_le (by omega)
      rw [ve, t12, d18, List.append_nil, sv, l18, tv, vfl]
      simp only [Nat.sub_self, List.replicate_zero, List.append_nil]
      exact ⟨by omega, by omega, trivial, by omega, by omega, tv⟩
def viewOf_F : List SV → Heap → Option (Prop × SV)
  | [.arr R], _ => some (R.length = 24 ∧ rackB R = true, .arr (viewF R))
  | _, _ => none
theorem viewOf_T : ∀ args H p v, viewOf_F args H = some (p, v) → p → PureH Try.prog 50 args H v := by
  intro args H p v h hp
  unfold viewOf_F at h
  split at h
  · cases h; exact (viewOf_ok _ hp.1 hp.2).any _
  · cases h
--@tbl l7View = spec.l7View
theorem l7View_ok (R : List Int) (hR : R.length = 24) (hr : rackB R = true) : PureH Try.prog 52 [.arr R] [] (.arr (viewF R)) := by
  have tkR : R.take 24 = R := List.take_of_length_le (by omega)
  have cl := cntL_len R
  have cl2 := ctL_len R
  have w0 : List.take 12 (List.replicate 18 (0 : Int)) = List.replicate 12 0 := rfl
  have w1 : (List.replicate 12 (0 : Int) ++ cntL R).length = 18 := by rw [List.length_append, cl]; rfl
  have w2 : (List.replicate 12 (0 : Int) ++ cntL R).set 12 0 = vwK R (ctL R) 0 := by
    rw [vwK_zero, List.set_append_right _ _ (by simp)]; rfl
  refine pure_of_vc (X := ⟨Try.prog, tys, [(105, l2Top_F), (57, l2Many_F), (92, l2Counts_F)], [], true, true, 0, [], []⟩) fn_52 ⟨tys_ok, (.cons l2Top_T (.cons l2Many_T (.cons l2Counts_T .nil))), .nil, mixed⟩ (n0 := 0) (Nat.le_of_ble_eq_true rfl) (by simp [wfL, SV.wf]) (wfH_spec (by simp [wfH, SObj.wf, wfL, SV.wf])) (Nat.le_refl _) (fun _ => by simp [SV.wf, wfL]) ?_
  simp -implicitDefEqProofs only [Try.f52, Option.getD_some, argS, l2Top_F, l2Many_F, l2Counts_F, hR, tkR, hr, cl, w0, w1, w2, List.append_nil, ZB, Int.reduceToNat, Nat.reduceLT, Nat.reduceLeDiff, Int.reduceLE, Int.reduceLT, Nat.reduceEqDiff, Nat.reduceSub, SB, SV.known, packR, ne_eq, reduceCtorEq, Nat.reduceEqDiff, ↓reduceIte, if_true, if_false, eq_self, Nat.reduceAdd, Nat.reduceMul, Nat.reduceSub, forall_const, oneCellS, litOne, flat1, Kd.isSca, flat, TYB]
  (try (and_intros <;> try (first | omega | (unfold In64; omega) | trivial | assumption)))
  refine loop_intro (fun i : Nat => [(4, .int i), (3, .ptr 2 0), (2, .ptr 1 0), (1, .ptr 0 0)]) (fun i => [(0, .ints R 27), (1, .ints (List.replicate 18 0) 31), (2, .ints (vwK R (ctL R) i) 31)]) 3 (fun i => i ≤ 6) (fun i => 6 - i) ?_ ?_
  · refine ⟨0, ?_, Sub.mk_id ?_ ?_ ?_ ?_ ?_⟩
    all_goals (try (simp only [LB, subS, subH, wfS, wfH, SV.ren, renL, SObj.ren, SV.wf, SObj.wf, wfL, SV.known, Nat.reduceEqDiff, ↓reduceIte, if_true, if_false, eq_self, Nat.reduceAdd, Nat.reduceLT, Nat.reduceLeDiff, implies_true, reduceCtorEq, forall_const]; done))
    all_goals (try (simp only [LB, subS, subH, wfS, wfH, SV.ren, renL, SObj.ren, SV.wf, SObj.wf, wfL, SV.known, Nat.reduceEqDiff, ↓reduceIte, if_true, if_false, eq_self, Nat.reduceAdd, Nat.reduceLT, Nat.reduceLeDiff, implies_true, reduceCtorEq, forall_const]; simp; done))
    all_goals (try (simp only [LB, subS, subH, wfS, wfH, SV.ren, renL, SObj.ren, SV.wf, SObj.wf, wfL, SV.known, Nat.reduceEqDiff, ↓reduceIte, if_true, if_false, eq_self, Nat.reduceAdd, Nat.reduceLT, Nat.reduceLeDiff, implies_true, reduceCtorEq, forall_const]; (and_intros <;> (first | omega | rfl | (simp; done) | (simp; omega))); done))
    all_goals (try dsimp only)
    all_goals (and_intros <;> try (first | omega | (unfold In64; omega) | trivial | assumption))
  · intro i hi
    have eT : List.take 4 (List.drop (i * 4) R) = tubeAt R i := rfl
    have vl := vwK_len R (ctL R) i hi
    rw [cl2] at vl
    by_cases hlt : i < 6
    · have hil : (i : Int) < 6 := by omega
      have hl := tubeAt_len hR hlt
      have hb := tubeAt_ok hr hlt
      have hp := posC_lay _ hl hb
      have es := vwK_step R (ctL R) i hlt
      simp -implicitDefEqProofs only [lk_normal, l2Top_F, l2Many_F, hil, hR, eT, hl, hb, hp, vl, es, ZB, Int.reduceToNat, Nat.reduceLT, Nat.reduceLeDiff, Int.reduceLE, Int.reduceLT, Nat.reduceEqDiff, Nat.reduceSub, SB, SV.known, packR, ne_eq, reduceCtorEq, Nat.reduceEqDiff, ↓reduceIte, if_true, if_false, eq_self, Nat.reduceAdd, Nat.reduceMul, Nat.reduceSub, forall_const, oneCellS, litOne, flat1, Kd.isSca, flat, TYB]
      (try (and_intros <;> try (first | omega | (unfold In64; omega) | trivial | assumption)))
      refine ⟨i + 1, ?_, ?_, Sub.mk_id ?_ ?_ ?_ ?_ ?_⟩
      all_goals (try (simp only [es, LB, subS, subH, wfS, wfH, SV.ren, renL, SObj.ren, SV.wf, SObj.wf, wfL, SV.known, Nat.reduceEqDiff, ↓reduceIte, if_true, if_false, eq_self, Nat.reduceAdd, Nat.reduceLT, Nat.reduceLeDiff, implies_true, reduceCtorEq, forall_const]; done))
      all_goals (try (simp only [es, LB, subS, subH, wfS, wfH, SV.ren, renL, SObj.ren, SV.wf, SObj.wf, wfL, SV.known, Nat.reduceEqDiff, ↓reduceIte, if_true, if_false, eq_self, Nat.reduceAdd, Nat.reduceLT, Nat.reduceLeDiff, implies_true, reduceCtorEq, forall_const]; simp; done))
      all_goals (try (simp only [es, LB, subS, subH, wfS, wfH, SV.ren, renL, SObj.ren, SV.wf, SObj.wf, wfL, SV.known, Nat.reduceEqDiff, ↓reduceIte, if_true, if_false, eq_self, Nat.reduceAdd, Nat.reduceLT, Nat.reduceLeDiff, implies_true, reduceCtorEq, forall_const]; (and_intros <;> (first | omega | rfl | (simp; done) | (simp; omega))); done))
      all_goals (try dsimp only)
      all_goals (and_intros <;> try (first | omega | (unfold In64; omega) | trivial | assumption))
    · have hil : ¬ (i : Int) < 6 := by omega
      obtain rfl : i = 6 := by omega
      have ve := vwK_end R (ctL R)
      simp -implicitDefEqProofs only [lk_normal, hil, hR, tkR, vl, ve, ZB, Int.reduceToNat, Nat.reduceLT, Nat.reduceLeDiff, Int.reduceLE, Int.reduceLT, Nat.reduceEqDiff, Nat.reduceSub, SB, SV.known, packR, ne_eq, reduceCtorEq, Nat.reduceEqDiff, ↓reduceIte, if_true, if_false, eq_self, Nat.reduceAdd, Nat.reduceMul, Nat.reduceSub, forall_const, oneCellS, litOne, flat1, Kd.isSca, flat, TYB]
      have vfl := viewF_len R
      have t18 : List.take 18 (topL R ++ manL R ++ ctL R) = viewF R := List.take_of_length_le (by rw [← viewF, vfl]; omega)
      rw [t18, vfl]
      simp only [Nat.sub_self, List.replicate_zero, List.append_nil]
      refine ⟨by rw [← viewF, vfl]; omega, trivial, by omega, by omega, List.take_of_length_le (by omega)⟩
def l7View_F : List SV → Heap → Option (Prop × SV)
  | [.arr R], _ => some (R.length = 24 ∧ rackB R = true, .arr (viewF R))
  | _, _ => none
theorem l7View_T : ∀ args H p v, l7View_F args H = some (p, v) → p → PureH Try.prog 52 args H v := by
  intro args H p v h hp
  unfold l7View_F at h
  split at h
  · cases h; exact (l7View_ok _ hp.1 hp.2).any _
  · cases h
--@tbl ViewBehind = impl.ViewBehind
--@tbl sViewBehind = spec.ViewBehind
def vbF (R : List Int) (i j : Int) : List Int := if pourB R i j = true then viewF (pourF R i.toNat j.toNat) else List.replicate 18 0
theorem ViewBehind_ok (R : List Int) (i j : Int) (hR : R.length = 24) : PureH Try.prog 41 [.arr R, .int i, .int j] [] (.tup [.arr (vbF R i j), .int (pourM R i j), .bool (pourB R i j)]) := by
  have tkR : R.take 24 = R := List.take_of_length_le (by omega)
  have r2 : List.replicate 2 (0 : Int) = [0, 0] := rfl
  have r18 : List.take 18 (List.replicate 18 (0 : Int)) = List.replicate 18 0 := rfl
  unfold vbF pourM pourB
  cases hr : rackB R <;> cases hi : plF i <;> cases hj : plF j
  case true.true.true =>
    have bi := pl_bd hi
    have bj := pl_bd hj
    cases hc : canF R i j
    · refine pure_of_vc (X := ⟨Try.prog, tys, [(95, isAt_F), (96, canPour_F), (97, pour_F)], [], true, true, 0, [], []⟩) fn_41 ⟨tys_ok, (.cons isAt_T (.cons canPour_T (.cons pour_T .nil))), .nil, mixed⟩ (n0 := 0) (Nat.le_of_ble_eq_true rfl) (by simp [wfL, SV.wf]) (wfH_spec (by simp [wfH, SObj.wf, wfL, SV.wf])) (Nat.le_refl _) (fun _ => by simp [SV.wf, wfL]) ?_
      simp -implicitDefEqProofs only [Try.f41, Option.getD_some, argS, isAt_F, canPour_F, pour_F, hR, tkR, hr, hi, hj, hc, r2, r18, List.set_cons_zero, List.set_cons_succ, List.drop_zero, List.all_cons, List.all_nil, ZB, Int.reduceToNat, Nat.reduceLT, Nat.reduceLeDiff, Int.reduceLE, Int.reduceLT, Nat.reduceEqDiff, Nat.reduceSub, SB, SV.known, packR, ne_eq, reduceCtorEq, Nat.reduceEqDiff, ↓reduceIte, if_true, if_false, eq_self, Nat.reduceAdd, Nat.reduceMul, Nat.reduceSub, forall_const, oneCellS, litOne, flat1, Kd.isSca, flat, TYB]
      (try (and_intros <;> try (first | omega | (unfold In64; omega) | trivial | assumption)))
    · have hr' := pour_rack hR hr bi bj hc
      have pl := pourF_len hR i.toNat j.toNat
      have tkP : (pourF R i.toNat j.toNat).take 24 = pourF R i.toNat j.toNat := List.take_of_length_le (by omega)
      have vl := viewF_len (pourF R i.toNat j.toNat)
      have tkV : (viewF (pourF R i.toNat j.toNat)).take 18 = viewF (pourF R i.toNat j.toNat) := List.take_of_length_le (by omega)
      refine pure_of_vc (X := ⟨Try.prog, tys, [(95, isAt_F), (96, canPour_F), (97, pour_F), (50, viewOf_F)], [], true, true, 0, [], []⟩) fn_41 ⟨tys_ok, (.cons isAt_T (.cons canPour_T (.cons pour_T (.cons viewOf_T .nil)))), .nil, mixed⟩ (n0 := 0) (Nat.le_of_ble_eq_true rfl) (by simp [wfL, SV.wf]) (wfH_spec (by simp [wfH, SObj.wf, wfL, SV.wf])) (Nat.le_refl _) (fun _ => by simp [SV.wf, wfL]) ?_
      simp -implicitDefEqProofs only [Try.f41, Option.getD_some, argS, isAt_F, canPour_F, pour_F, viewOf_F, hR, tkR, hr, hi, hj, hc, r2, r18, hr', pl, tkP, vl, tkV, List.set_cons_zero, List.set_cons_succ, List.drop_zero, List.all_cons, List.all_nil, ZB, Int.reduceToNat, Nat.reduceLT, Nat.reduceLeDiff, Int.reduceLE, Int.reduceLT, Nat.reduceEqDiff, Nat.reduceSub, SB, SV.known, packR, ne_eq, reduceCtorEq, Nat.reduceEqDiff, ↓reduceIte, if_true, if_false, eq_self, Nat.reduceAdd, Nat.reduceMul, Nat.reduceSub, forall_const, oneCellS, litOne, flat1, Kd.isSca, flat, TYB]
      (try (and_intros <;> try (first | omega | (unfold In64; omega) | trivial | assumption)))
  all_goals
    refine pure_of_vc (X := ⟨Try.prog, tys, [(95, isAt_F), (96, canPour_F), (97, pour_F)], [], true, true, 0, [], []⟩) fn_41 ⟨tys_ok, (.cons isAt_T (.cons canPour_T (.cons pour_T .nil))), .nil, mixed⟩ (n0 := 0) (Nat.le_of_ble_eq_true rfl) (by simp [wfL, SV.wf]) (wfH_spec (by simp [wfH, SObj.wf, wfL, SV.wf])) (Nat.le_refl _) (fun _ => by simp [SV.wf, wfL]) ?_
    simp -implicitDefEqProofs only [Try.f41, Option.getD_some, argS, isAt_F, canPour_F, pour_F, hR, tkR, hr, hi, hj, r2, r18, List.set_cons_zero, List.set_cons_succ, List.drop_zero, List.all_cons, List.all_nil, ZB, Int.reduceToNat, Nat.reduceLT, Nat.reduceLeDiff, Int.reduceLE, Int.reduceLT, Nat.reduceEqDiff, Nat.reduceSub, SB, SV.known, packR, ne_eq, reduceCtorEq, Nat.reduceEqDiff, ↓reduceIte, if_true, if_false, eq_self, Nat.reduceAdd, Nat.reduceMul, Nat.reduceSub, forall_const, oneCellS, litOne, flat1, Kd.isSca, flat, TYB]
theorem sViewBehind_ok (R : List Int) (i j : Int) (hR : R.length = 24) : PureH Try.prog 42 [.arr R, .int i, .int j] [] (.tup [.arr (vbF R i j), .int (pourM R i j), .bool (pourB R i j)]) := by
  have tkR : R.take 24 = R := List.take_of_length_le (by omega)
  have r18 : List.take 18 (List.replicate 18 (0 : Int)) = List.replicate 18 0 := rfl
  have ptl := pourT_len hR i j
  have tkT : (pourT R i j).take 24 = pourT R i j := List.take_of_length_le (by omega)
  unfold vbF
  cases hp : pourB R i j
  · have pm : pourM R i j = 0 := by rw [pourM, if_neg (by simp [hp])]
    refine pure_of_vc (X := ⟨Try.prog, tys, [(98, sPour_F)], [], true, true, 0, [], []⟩) fn_42 ⟨tys_ok, (.cons sPour_T .nil), .nil, mixed⟩ (n0 := 0) (Nat.le_of_ble_eq_true rfl) (by simp [wfL, SV.wf]) (wfH_spec (by simp [wfH, SObj.wf, wfL, SV.wf])) (Nat.le_refl _) (fun _ => by simp [SV.wf, wfL]) ?_
    simp -implicitDefEqProofs only [Try.f42, Option.getD_some, argS, sPour_F, hR, tkR, hp, ptl, tkT, r18, pm, ZB, Int.reduceToNat, Nat.reduceLT, Nat.reduceLeDiff, Int.reduceLE, Int.reduceLT, Nat.reduceEqDiff, Nat.reduceSub, SB, SV.known, packR, ne_eq, reduceCtorEq, Nat.reduceEqDiff, ↓reduceIte, if_true, if_false, eq_self, Nat.reduceAdd, Nat.reduceMul, Nat.reduceSub, forall_const, oneCellS, litOne, flat1, Kd.isSca, flat, TYB]
  · obtain ⟨hr, bi, bj, hc, hr', pe, _⟩ := pourB_facts hR hp
    have pl := pourF_len hR i.toNat j.toNat
    have tkP : (pourF R i.toNat j.toNat).take 24 = pourF R i.toNat j.toNat := List.take_of_length_le (by omega)
    have vl := viewF_len (pourF R i.toNat j.toNat)
    have tkV : (viewF (pourF R i.toNat j.toNat)).take 18 = viewF (pourF R i.toNat j.toNat) := List.take_of_length_le (by omega)
    refine pure_of_vc (X := ⟨Try.prog, tys, [(98, sPour_F), (52, l7View_F)], [], true, true, 0, [], []⟩) fn_42 ⟨tys_ok, (.cons sPour_T (.cons l7View_T .nil)), .nil, mixed⟩ (n0 := 0) (Nat.le_of_ble_eq_true rfl) (by simp [wfL, SV.wf]) (wfH_spec (by simp [wfH, SObj.wf, wfL, SV.wf])) (Nat.le_refl _) (fun _ => by simp [SV.wf, wfL]) ?_
    simp -implicitDefEqProofs only [Try.f42, Option.getD_some, argS, sPour_F, l7View_F, hR, tkR, hr, hp, pe, hr', pl, tkP, vl, tkV, r18, ZB, Int.reduceToNat, Nat.reduceLT, Nat.reduceLeDiff, Int.reduceLE, Int.reduceLT, Nat.reduceEqDiff, Nat.reduceSub, SB, SV.known, packR, ne_eq, reduceCtorEq, Nat.reduceEqDiff, ↓reduceIte, if_true, if_false, eq_self, Nat.reduceAdd, Nat.reduceMul, Nat.reduceSub, forall_const, oneCellS, litOne, flat1, Kd.isSca, flat, TYB]
def ViewBehind_F : List SV → Heap → Option (Prop × SV)
  | [.arr R, .int i, .int j], _ => some (R.length = 24, .tup [.arr (vbF R i j), .int (pourM R i j), .bool (pourB R i j)])
  | _, _ => none
theorem ViewBehind_T : ∀ args H p v, ViewBehind_F args H = some (p, v) → p → PureH Try.prog 41 args H v := by
  intro args H p v h hp
  unfold ViewBehind_F at h
  split at h
  · cases h; exact (ViewBehind_ok _ _ _ hp).any _
  · cases h
def sViewBehind_F : List SV → Heap → Option (Prop × SV)
  | [.arr R, .int i, .int j], _ => some (R.length = 24, .tup [.arr (vbF R i j), .int (pourM R i j), .bool (pourB R i j)])
  | _, _ => none
theorem sViewBehind_T : ∀ args H p v, sViewBehind_F args H = some (p, v) → p → PureH Try.prog 42 args H v := by
  intro args H p v h hp
  unfold sViewBehind_F at h
  split at h
  · cases h; exact (sViewBehind_ok _ _ _ hp).any _
  · cases h
end Go.Proofs.Ytckcojgfgcjamaa
set_option maxRecDepth 100000
set_option linter.unusedSimpArgs false
set_option linter.unusedVariables false
namespace Go.Proofs.Ytckcojgfgcjamaa
open Go Go.RowKit
def is1 (x c : Int) : Int := if x = c then 1 else 0
/-- How many cells of a tube have a color. -/
def cn (t : List Int) (c : Int) : Int := is1 (t.getD 0 0) c + is1 (t.getD 1 0) c + is1 (t.getD 2 0) c + is1 (t.getD 3 0) c
theorem is1_bd (x c : Int) : 0 ≤ is1 x c ∧ is1 x c ≤ 1 := by unfold is1; split <;> omega
theorem is1_sum {x : Int} (h : 0 ≤ x ∧ x ≤ 5) : is1 x 1 + is1 x 2 + is1 x 3 + is1 x 4 + is1 x 5 = if x = 0 then 0 else 1 := by
  have : x = 0 ∨ x = 1 ∨ x = 2 ∨ x = 3 ∨ x = 4 ∨ x = 5 := by omega
  rcases this with rfl | rfl | rfl | rfl | rfl | rfl <;> simp [is1]
theorem incr_getD (L : List Int) (j k : Nat) (hj : j < L.length) : (incr L j).getD k 0 = L.getD k 0 + (if j = k then 1 else 0) := by
  unfold incr
  simp only [List.getD, List.getElem?_set]
  by_cases h : j = k
  · subst h; simp [hj]
  · simp [h]
/-- Colors of the first cells. -/
theorem cnt_cells {R : List Int} (hR : R.length = 24) (hr : rackB R = true) {c : Nat} (hc : c < 6) : ∀ i, i ≤ 6 → (cntL (R.take (i * 4))).getD c 0 = ((List.range i).map fun q => cn (tubeAt R q) (c : Int)).sum
  | 0, _ => by
    simp only [Nat.zero_mul, List.take_zero, cntL_nil, List.range_zero, List.map_nil, List.sum_nil]
    rw [List.getD_eq_getElem?_getD, List.getElem?_replicate]
    simp [hc]
  | i + 1, hi => by
    have ih := cnt_cells hR hr hc i (by omega)
    have one : ∀ j, j < 4 → (cntL (R.take (i * 4 + (j + 1)))).getD c 0 = (cntL (R.take (i * 4 + j))).getD c 0 + is1 ((tubeAt R i).getD j 0) (c : Int) := fun j hj => by
      obtain ⟨h1, h2, _⟩ := cnt_step hR hr (i := i) (j := j) (by omega) hj
      rw [h1, incr_getD _ _ _ (by rw [cntL_len]; omega), show (tubeAt R i).getD j 0 = R.getD (i * 4 + j) 0 from cut_getD R i j hj]
      unfold is1
      congr 1
      by_cases h : (R.getD (i * 4 + j) 0).toNat = c
      · rw [if_pos h, if_pos (by omega)]
      · rw [if_neg h, if_neg (by omega)]
    rw [show (i + 1) * 4 = i * 4 + (3 + 1) by omega, one 3 (by omega), one 2 (by omega), one 1 (by omega), one 0 (by omega), Nat.add_zero, ih, List.range_succ, List.map_append, List.sum_append]
    simp only [List.map_cons, List.map_nil, List.sum_cons, List.sum_nil, cn]
    omega
/-- Of a tube's layers below its uppermost one, from the j-th on, those with a color. -/
def hcn (t : List Int) (j : Nat) (c : Int) : Int := (if j ≤ 0 ∧ 2 ≤ layN t then is1 (t.getD 0 0) c else 0) + (if j ≤ 1 ∧ 3 ≤ layN t then is1 (t.getD 1 0) c else 0) + (if j ≤ 2 ∧ 4 ≤ layN t then is1 (t.getD 2 0) c else 0)
theorem hcn_bd (t : List Int) (j : Nat) (c : Int) : 0 ≤ hcn t j c ∧ hcn t j c ≤ 3 := by
  have a0 := is1_bd (t.getD 0 0) c
  have a1 := is1_bd (t.getD 1 0) c
  have a2 := is1_bd (t.getD 2 0) c
  unfold hcn
  split <;> split <;> split <;> omega
theorem cn_hcn {t : List Int} (ht : t.length = 4) (hb : tubeB t = true) {c : Int} (hc : 1 ≤ c) : cn t c = hcn t 0 c + is1 (topF t).1 c := by
  obtain ⟨h1, h2⟩ := tube_cells ht hb
  have hle := lay_le t ht
  have z : is1 0 c = 0 := by unfold is1; rw [if_neg (by omega)]
  have top : ∀ n, layN t = n + 1 → (topF t).1 = t.getD n 0 := fun n hn => by
    obtain ⟨r, hr1, _⟩ := topF_run t ht (by omega)
    rw [hr1, hn]; rfl
  have top0 : layN t = 0 → (topF t).1 = 0 := fun h => by
    have : topF t = (0, 0) := by simp [topF, runsL, h]
    rw [this]
  unfold cn hcn
  rcases (show layN t = 0 ∨ layN t = 1 ∨ layN t = 2 ∨ layN t = 3 ∨ layN t = 4 by omega) with h | h | h | h | h
  · rw [top0 h, h2 0 (by omega), h2 1 (by omega), h2 2 (by omega), h2 3 (by omega), z, h]; simp
  · rw [top 0 h, h2 1 (by omega), h2 2 (by omega), h2 3 (by omega), z, h]; simp
  · rw [top 1 h, h2 2 (by omega), h2 3 (by omega), z, h]; simp
  · rw [top 2 h, h2 3 (by omega), z, h]; simp
  · rw [top 3 h, h]; simp
/-- What the last tubes hide. -/
def remT (R : List Int) (c : Int) : Nat → Int
  | 0 => 0
  | m + 1 => hcn (tubeAt R (5 - m)) 0 c + remT R c m
theorem remT_bd (R : List Int) (c : Int) : ∀ m, 0 ≤ remT R c m ∧ remT R c m ≤ 3 * m
  | 0 => by simp [remT]
  | m + 1 => by
    have := remT_bd R c m
    have := hcn_bd (tubeAt R (5 - m)) 0 c
    unfold remT
    omega
def wr (x : Int) : Int := IntKind.i64.wrap x
theorem wr_in {x : Int} (h : In64 x) : wr x = x := wrap_in h
/-- Counts without those of the tops. -/
def hidL (T C : List Int) : Nat → List Int
  | 0 => C
  | k + 1 => if 0 < T.getD k 0 then (hidL T C k).set (T.getD k 0).toNat (wr ((hidL T C k).getD (T.getD k 0).toNat 0 - 1)) else hidL T C k
theorem hidL_len (T C : List Int) : ∀ k, (hidL T C k).length = C.length
  | 0 => rfl
  | k + 1 => by
    unfold hidL
    split
    · rw [List.length_set, hidL_len T C k]
    · exact hidL_len T C k
theorem hidL_zero (T C : List Int) (hC : 0 < C.length) : ∀ k, (hidL T C k).getD 0 0 = C.getD 0 0
  | 0 => rfl
  | k + 1 => by
    unfold hidL
    split
    · rename_i h
      rw [← hidL_zero T C hC k]
      have : ∀ (L : List Int) (j : Nat) (x : Int), 0 < j → (L.set j x).getD 0 0 = L.getD 0 0 := fun L j x h => by
        simp only [List.getD, List.getElem?_set]
        rw [if_neg (by omega)]
      exact this _ _ _ (by omega)
    · exact hidL_zero T C hC k
theorem hidL_get {T C : List Int} (hC : C.length = 6) (hT : ∀ k, k < 6 → 0 ≤ T.getD k 0 ∧ T.getD k 0 ≤ 5) {c : Nat} (hc : 1 ≤ c) (hc6 : c < 6) (h24 : 0 ≤ C.getD c 0 ∧ C.getD c 0 ≤ 24) : ∀ k, k ≤ 6 →
    (hidL T C k).getD c 0 = C.getD c 0 - ((List.range k).map fun q => is1 (T.getD q 0) (c : Int)).sum ∧ 0 ≤ ((List.range k).map fun q => is1 (T.getD q 0) (c : Int)).sum ∧ ((List.range k).map fun q => is1 (T.getD q 0) (c : Int)).sum ≤ k
  | 0, _ => by simp [hidL]
  | k + 1, hk => by
    obtain ⟨h1, h2, h3⟩ := hidL_get hC hT hc hc6 h24 k (by omega)
    have hl := hidL_len T C k
    have hb := is1_bd (T.getD k 0) (c : Int)
    have ht := hT k (by omega)
    rw [List.range_succ, List.map_append, List.sum_append]
    simp only [List.map_cons, List.map_nil, List.sum_cons, List.sum_nil]
    refine ⟨?_, by omega, by omega⟩
    unfold hidL
    split
    · rename_i hp
      by_cases hcc : (T.getD k 0).toNat = c
      · have e1 : is1 (T.getD k 0) (c : Int) = 1 := by unfold is1; rw [if_pos (by omega)]
        rw [e1, hcc, wr_in (by rw [h1]; unfold In64; omega)]
        have : ∀ (L : List Int) (x : Int), c < L.length → (L.set c x).getD c 0 = x := fun L x h => by simp [List.getD, h]
        rw [this _ _ (by omega), h1]
        omega
      · have e1 : is1 (T.getD k 0) (c : Int) = 0 := by unfold is1; rw [if_neg (by omega)]
        rw [e1]
        have : ∀ (L : List Int) (j : Nat) (x : Int), j ≠ c → (L.set j x).getD c 0 = L.getD c 0 := fun L j x h => by simp [List.getD, List.getElem?_set, h]
        rw [this _ _ _ hcc, h1]
        omega
    · rename_i hp
      have e1 : is1 (T.getD k 0) (c : Int) = 0 := by unfold is1; rw [if_neg (by omega)]
      rw [h1, e1]; omega
/-- The hidden counts of a rack. -/
theorem hid_rack {R : List Int} (hR : R.length = 24) (hr : rackB R = true) {c : Nat} (hc : 1 ≤ c) (hc6 : c < 6) : (hidL (topL R) (ctL R) 6).getD c 0 = remT R c 6 := by
  have hT : ∀ k, k < 6 → 0 ≤ (topL R).getD k 0 ∧ (topL R).getD k 0 ≤ 5 := fun k hk => by
    rw [topL_getD R k hk]
    obtain ⟨h1, h2⟩ := tube_cells (tubeAt_len hR hk) (tubeAt_ok hr hk)
    rcases Nat.eq_zero_or_pos (layN (tubeAt R k)) with h0 | h0
    · have : topF (tubeAt R k) = (0, 0) := by simp [topF, runsL, h0]
      rw [this]; simp
    · obtain ⟨r, hr1, _⟩ := topF_run _ (tubeAt_len hR hk) h0
      rw [hr1]
      have := h1 (layN (tubeAt R k) - 1) (by omega)
      simp only
      omega
  have e0 : (ctL R).getD c 0 = (cntL R).getD c 0 := by
    unfold ctL
    simp only [List.getD, List.getElem?_set]
    rw [if_neg (by omega)]
  have e1 := cnt_cells hR hr hc6 6 (Nat.le_refl _)
  rw [show R.take (6 * 4) = R from List.take_of_length_le (by omega)] at e1
  have cb : ∀ i, i < 6 → cn (tubeAt R i) (c : Int) = hcn (tubeAt R i) 0 c + is1 (topF (tubeAt R i)).1 c := fun i hi => cn_hcn (tubeAt_len hR hi) (tubeAt_ok hr hi) (by omega)
  have six : ∀ f : Nat → Int, ((List.range 6).map f).sum = f 0 + f 1 + f 2 + f 3 + f 4 + f 5 := fun f => by
    simp [List.range_succ]; omega
  rw [six, cb 0 (by omega), cb 1 (by omega), cb 2 (by omega), cb 3 (by omega), cb 4 (by omega), cb 5 (by omega)] at e1
  have b0 := hcn_bd (tubeAt R 0) 0 c
  have b1 := hcn_bd (tubeAt R 1) 0 c
  have b2 := hcn_bd (tubeAt R 2) 0 c
  have b3 := hcn_bd (tubeAt R 3) 0 c
  have b4 := hcn_bd (tubeAt R 4) 0 c
  have b5 := hcn_bd (tubeAt R 5) 0 c
  have t0 := is1_bd (topF (tubeAt R 0)).1 c
  have t1 := is1_bd (topF (tubeAt R 1)).1 c
  have t2 := is1_bd (topF (tubeAt R 2)).1 c
  have t3 := is1_bd (topF (tubeAt R 3)).1 c
  have t4 := is1_bd (topF (tubeAt R 4)).1 c
  have t5 := is1_bd (topF (tubeAt R 5)).1 c
  obtain ⟨g1, _, _⟩ := hidL_get (ctL_len R) hT hc hc6 (by rw [e0]; omega) 6 (Nat.le_refl _)
  rw [g1, six, e0, topL_getD R 0 (by omega), topL_getD R 1 (by omega), topL_getD R 2 (by omega), topL_getD R 3 (by omega), topL_getD R 4 (by omega), topL_getD R 5 (by omega)]
  simp only [remT, Nat.sub_self, Nat.reduceSub, Nat.sub_zero]
  omega
--@tbl hidden = (impl.View).hidden
--@tbl l7Hidden = spec.l7Hidden
/-- What is asked of a view's tops and numbers. -/
def vTop (V : List Int) : Prop := ∀ k, k < 6 → 0 ≤ V.getD k 0 ∧ V.getD k 0 ≤ 5
def vMan (V : List Int) : Prop := ∀ k, k < 6 → 0 ≤ V.getD (6 + k) 0 ∧ V.getD (6 + k) 0 ≤ 4
def vTM (V : List Int) : Prop := ∀ k, k < 6 → (0 < V.getD (6 + k) 0 ↔ 0 < V.getD k 0)
theorem take6_get (V : List Int) (k : Nat) (h : k < 6) : (V.take 6).getD k 0 = V.getD k 0 := by simp [List.getD, List.getElem?_take, h]
theorem wr_small (i : Nat) (h : i < 1000) : IntKind.i64.wrap ((i : Int) + 1) = (i : Int) + 1 := wrap_in (by unfold In64; omega)
theorem hidden_ok (V : List Int) (hV : V.length = 18) (hT : ∀ k, k < 6 → 0 ≤ V.getD k 0 ∧ V.getD k 0 ≤ 5) : PureH Try.prog 53 [.arr V] [] (.arr (hidL (V.take 6) (V.drop 12) 6)) := by
  have tkV : V.take 18 = V := List.take_of_length_le (by omega)
  have lenC : (V.drop 12).length = 6 := by rw [List.length_drop]; omega
  have tkC : (V.drop 12).take 6 = V.drop 12 := List.take_of_length_le (by omega)
  have lenT : (V.take 6).length = 6 := by rw [List.length_take]; omega
  have hl := hidL_len (V.take 6) (V.drop 12)
  refine pure_of_vc (X := ⟨Try.prog, tys, [], [], false, true, 0, [], []⟩) fn_53 ⟨tys_ok, .nil, .nil, mixed⟩ (n0 := 0) (Nat.le_of_ble_eq_true rfl) (by simp [wfL, SV.wf]) (wfH_spec (by simp [wfH, SObj.wf, wfL, SV.wf])) (Nat.le_refl _) (fun _ => by simp [SV.wf, wfL]) ?_
  simp -implicitDefEqProofs only [Try.f53, Option.getD_some, argS, hV, tkV, lenC, tkC, ZB, Int.reduceToNat, Nat.reduceLT, Nat.reduceLeDiff, Int.reduceLE, Int.reduceLT, Nat.reduceEqDiff, Nat.reduceSub, SB, SV.known, packR, ne_eq, reduceCtorEq, Nat.reduceEqDiff, ↓reduceIte, if_true, if_false, eq_self, Nat.reduceAdd, Nat.reduceMul, Nat.reduceSub, forall_const, oneCellS, litOne, flat1, Kd.isSca, flat, TYB]
  refine loop_intro (fun k : Nat => [(10, .int k), (9, .arr (V.take 6)), (3, .ptr 2 0), (2, .ptr 1 0)]) (fun k => [(2, .ints (hidL (V.take 6) (V.drop 12) k) 29), (1, .ints (List.replicate 6 0) 29)]) 3 (fun k => k ≤ 6) (fun k => 6 - k) ?_ ?_
  · refine ⟨0, ?_, Sub.mk_id ?_ ?_ ?_ ?_ ?_⟩
    all_goals (try (simp only [hidL, LB, subS, subH, wfS, wfH, SV.ren, renL, SObj.ren, SV.wf, SObj.wf, wfL, SV.known, Nat.reduceEqDiff, ↓reduceIte, if_true, if_false, eq_self, Nat.reduceAdd, Nat.reduceLT, Nat.reduceLeDiff, implies_true, reduceCtorEq, forall_const]; done))
    all_goals (try (simp only [hidL, LB, subS, subH, wfS, wfH, SV.ren, renL, SObj.ren, SV.wf, SObj.wf, wfL, SV.known, Nat.reduceEqDiff, ↓reduceIte, if_true, if_false, eq_self, Nat.reduceAdd, Nat.reduceLT, Nat.reduceLeDiff, implies_true, reduceCtorEq, forall_const]; simp; done))
    all_goals (try (simp only [hidL, LB, subS, subH, wfS, wfH, SV.ren, renL, SObj.ren, SV.wf, SObj.wf, wfL, SV.known, Nat.reduceEqDiff, ↓reduceIte, if_true, if_false, eq_self, Nat.reduceAdd, Nat.reduceLT, Nat.reduceLeDiff, implies_true, reduceCtorEq, forall_const]; (and_intros <;> (first | omega | rfl | (simp; done) | (simp; omega))); done))
    all_goals (try dsimp only)
    all_goals (and_intros <;> try (first | omega | (unfold In64; omega) | trivial | assumption))
  · intro k hk
    have hlk : (hidL (V.take 6) (V.drop 12) k).length = 6 := by rw [hl]; exact lenC
    have tkk : (hidL (V.take 6) (V.drop 12) k).take 6 = hidL (V.take 6) (V.drop 12) k := List.take_of_length_le (by omega)
    by_cases hlt : k < 6
    · have hkl : (k : Int) < 6 := by omega
      have ge := take6_get V k hlt
      have hb := hT k hlt
      have w1 := wr_small k (by omega)
      by_cases hp : 0 < V.getD k 0
      · have es : hidL (V.take 6) (V.drop 12) (k + 1) = (hidL (V.take 6) (V.drop 12) k).set (V.getD k 0).toNat (IntKind.i64.wrap ((hidL (V.take 6) (V.drop 12) k).getD (V.getD k 0).toNat 0 - 1)) := by
          rw [hidL, ge, if_pos hp]; rfl
        simp -implicitDefEqProofs only [lk_normal, hkl, ge, hlk, lenT, hp, w1, ZB, Int.reduceToNat, Nat.reduceLT, Nat.reduceLeDiff, Int.reduceLE, Int.reduceLT, Nat.reduceEqDiff, Nat.reduceSub, SB, SV.known, packR, ne_eq, reduceCtorEq, Nat.reduceEqDiff, ↓reduceIte, if_true, if_false, eq_self, Nat.reduceAdd, Nat.reduceMul, Nat.reduceSub, forall_const, oneCellS, litOne, flat1, Kd.isSca, flat, TYB]
        (try (and_intros <;> try (first | omega | (unfold In64; omega) | trivial | assumption)))
        refine ⟨k + 1, ?_, ?_, Sub.mk_id ?_ ?_ ?_ ?_ ?_⟩
        all_goals (try (simp only [es, LB, subS, subH, wfS, wfH, SV.ren, renL, SObj.ren, SV.wf, SObj.wf, wfL, SV.known, Nat.reduceEqDiff, ↓reduceIte, if_true, if_false, eq_self, Nat.reduceAdd, Nat.reduceLT, Nat.reduceLeDiff, implies_true, reduceCtorEq, forall_const]; done))
        all_goals (try (simp only [es, LB, subS, subH, wfS, wfH, SV.ren, renL, SObj.ren, SV.wf, SObj.wf, wfL, SV.known, Nat.reduceEqDiff, ↓reduceIte, if_true, if_false, eq_self, Nat.reduceAdd, Nat.reduceLT, Nat.reduceLeDiff, implies_true, reduceCtorEq, forall_const]; simp; done))
        all_goals (try (simp only [es, LB, subS, subH, wfS, wfH, SV.ren, renL, SObj.ren, SV.wf, SObj.wf, wfL, SV.known, Nat.reduceEqDiff, ↓reduceIte, if_true, if_false, eq_self, Nat.reduceAdd, Nat.reduceLT, Nat.reduceLeDiff, implies_true, reduceCtorEq, forall_const]; (and_intros <;> (first | omega | rfl | (simp; done) | (simp; omega))); done))
        all_goals (try dsimp only)
        all_goals (and_intros <;> try (first | omega | (unfold In64; omega) | trivial | assumption))
      · have es : hidL (V.take 6) (V.drop 12) (k + 1) = hidL (V.take 6) (V.drop 12) k := by rw [hidL, ge, if_neg hp]
        simp -implicitDefEqProofs only [lk_normal, hkl, ge, hlk, lenT, hp, w1, ZB, Int.reduceToNat, Nat.reduceLT, Nat.reduceLeDiff, Int.reduceLE, Int.reduceLT, Nat.reduceEqDiff, Nat.reduceSub, SB, SV.known, packR, ne_eq, reduceCtorEq, Nat.reduceEqDiff, ↓reduceIte, if_true, if_false, eq_self, Nat.reduceAdd, Nat.reduceMul, Nat.reduceSub, forall_const, oneCellS, litOne, flat1, Kd.isSca, flat, TYB]
        (try (and_intros <;> try (first | omega | (unfold In64; omega) | trivial | assumption)))
        refine ⟨k + 1, ?_, ?_, Sub.mk_id ?_ ?_ ?_ ?_ ?_⟩
        all_goals (try (simp only [es, LB, subS, subH, wfS, wfH, SV.ren, renL, SObj.ren, SV.wf, SObj.wf, wfL, SV.known, Nat.reduceEqDiff, ↓reduceIte, if_true, if_false, eq_self, Nat.reduceAdd, Nat.reduceLT, Nat.reduceLeDiff, implies_true, reduceCtorEq, forall_const]; done))
        all_goals (try (simp only [es, LB, subS, subH, wfS, wfH, SV.ren, renL, SObj.ren, SV.wf, SObj.wf, wfL, SV.known, Nat.reduceEqDiff, ↓reduceIte, if_true, if_false, eq_self, Nat.reduceAdd, Nat.reduceLT, Nat.reduceLeDiff, implies_true, reduceCtorEq, forall_const]; simp; done))
        all_goals (try (simp only [es, LB, subS, subH, wfS, wfH, SV.ren, renL, SObj.ren, SV.wf, SObj.wf, wfL, SV.known, Nat.reduceEqDiff, ↓reduceIte, if_true, if_false, eq_self, Nat.reduceAdd, Nat.reduceLT, Nat.reduceLeDiff, implies_true, reduceCtorEq, forall_const]; (and_intros <;> (first | omega | rfl | (simp; done) | (simp; omega))); done))
        all_goals (try dsimp only)
        all_goals (and_intros <;> try (first | omega | (unfold In64; omega) | trivial | assumption))
    · have hkl : ¬ (k : Int) < 6 := by omega
      obtain rfl : k = 6 := by omega
      simp -implicitDefEqProofs only [lk_normal, hkl, hlk, tkk, lenT, ZB, Int.reduceToNat, Nat.reduceLT, Nat.reduceLeDiff, Int.reduceLE, Int.reduceLT, Nat.reduceEqDiff, Nat.reduceSub, SB, SV.known, packR, ne_eq, reduceCtorEq, Nat.reduceEqDiff, ↓reduceIte, if_true, if_false, eq_self, Nat.reduceAdd, Nat.reduceMul, Nat.reduceSub, forall_const, oneCellS, litOne, flat1, Kd.isSca, flat, TYB]
      (try (and_intros <;> try (first | omega | (unfold In64; omega) | trivial | assumption)))
def hidden_F : List SV → Heap → Option (Prop × SV)
  | [.arr V], _ => some (V.length = 18 ∧ vTop V, .arr (hidL (V.take 6) (V.drop 12) 6))
  | _, _ => none
theorem hidden_T : ∀ args H p v, hidden_F args H = some (p, v) → p → PureH Try.prog 53 args H v := by
  intro args H p v h hp
  unfold hidden_F at h
  split at h
  · cases h; exact (hidden_ok _ hp.1 hp.2).any _
  · cases h
def hmL (M : List Int) : Nat → Int
  | 0 => 0
  | k + 1 => if 0 < M.getD k 0 then hmL M k + M.getD k 0 - 1 else hmL M k
theorem hmL_bd {M : List Int} (hM : ∀ k, k < 6 → 0 ≤ M.getD k 0 ∧ M.getD k 0 ≤ 4) : ∀ k, k ≤ 6 → 0 ≤ hmL M k ∧ hmL M k ≤ 3 * k
  | 0, _ => by simp [hmL]
  | k + 1, hk => by
    have := hmL_bd hM k (by omega)
    have := hM k (by omega)
    unfold hmL
    split <;> omega
theorem l7Hidden_ok (V : List Int) (hV : V.length = 18) (hT : ∀ k, k < 6 → 0 ≤ V.getD k 0 ∧ V.getD k 0 ≤ 5) (hM : ∀ k, k < 6 → 0 ≤ V.getD (6 + k) 0 ∧ V.getD (6 + k) 0 ≤ 4) (hTM : ∀ k, k < 6 → (0 < V.getD (6 + k) 0 ↔ 0 < V.getD k 0)) : PureH Try.prog 56 [.arr V] [] (.tup [.int (hmL (V.drop 6) 6), .arr (hidL (V.take 6) (V.drop 12) 6)]) := by
  have tkV : V.take 18 = V := List.take_of_length_le (by omega)
  have lenC : (V.drop 12).length = 6 := by rw [List.length_drop]; omega
  have tkC : (V.drop 12).take 6 = V.drop 12 := List.take_of_length_le (by omega)
  have gM : ∀ k, (V.drop 6).getD k 0 = V.getD (6 + k) 0 := fun k => by simp [List.getD]
  have hl := hidL_len (V.take 6) (V.drop 12)
  have hmb := hmL_bd (M := V.drop 6) fun k hk => by rw [gM]; exact hM k hk
  refine pure_of_vc (X := ⟨Try.prog, tys, [], [], false, true, 0, [], []⟩) fn_56 ⟨tys_ok, .nil, .nil, mixed⟩ (n0 := 0) (Nat.le_of_ble_eq_true rfl) (by simp [wfL, SV.wf]) (wfH_spec (by simp [wfH, SObj.wf, wfL, SV.wf])) (Nat.le_refl _) (fun _ => by simp [SV.wf, wfL]) ?_
  simp -implicitDefEqProofs only [Try.f56, Option.getD_some, argS, hV, tkV, lenC, tkC, ZB, Int.reduceToNat, Nat.reduceLT, Nat.reduceLeDiff, Int.reduceLE, Int.reduceLT, Nat.reduceEqDiff, Nat.reduceSub, SB, SV.known, packR, ne_eq, reduceCtorEq, Nat.reduceEqDiff, ↓reduceIte, if_true, if_false, eq_self, Nat.reduceAdd, Nat.reduceMul, Nat.reduceSub, forall_const, oneCellS, litOne, flat1, Kd.isSca, flat, TYB]
  refine loop_intro (fun k : Nat => [(6, .int k), (4, .int (hmL (V.drop 6) k)), (5, .ptr 2 0), (3, .ptr 1 0), (1, .ptr 0 0)]) (fun k => [(2, .ints (hidL (V.take 6) (V.drop 12) k) 29), (1, .ints (List.replicate 6 0) 29), (0, .ints V 31)]) 3 (fun k => k ≤ 6) (fun k => 6 - k) ?_ ?_
  · refine ⟨0, ?_, Sub.mk_id ?_ ?_ ?_ ?_ ?_⟩
    all_goals (try (simp only [hidL, hmL, LB, subS, subH, wfS, wfH, SV.ren, renL, SObj.ren, SV.wf, SObj.wf, wfL, SV.known, Nat.reduceEqDiff, ↓reduceIte, if_true, if_false, eq_self, Nat.reduceAdd, Nat.reduceLT, Nat.reduceLeDiff, implies_true, reduceCtorEq, forall_const]; done))
    all_goals (try (simp only [hidL, hmL, LB, subS, subH, wfS, wfH, SV.ren, renL, SObj.ren, SV.wf, SObj.wf, wfL, SV.known, Nat.reduceEqDiff, ↓reduceIte, if_true, if_false, eq_self, Nat.reduceAdd, Nat.reduceLT, Nat.reduceLeDiff, implies_true, reduceCtorEq, forall_const]; simp; done))
    all_goals (try (simp only [hidL, hmL, LB, subS, subH, wfS, wfH, SV.ren, renL, SObj.ren, SV.wf, SObj.wf, wfL, SV.known, Nat.reduceEqDiff, ↓reduceIte, if_true, if_false, eq_self, Nat.reduceAdd, Nat.reduceLT, Nat.reduceLeDiff, implies_true, reduceCtorEq, forall_const]; (and_intros <;> (first | omega | rfl | (simp; done) | (simp; omega))); done))
    all_goals (try dsimp only)
    all_goals (and_intros <;> try (first | omega | (unfold In64; omega) | trivial | assumption))
  · intro k hk
    have hlk : (hidL (V.take 6) (V.drop 12) k).length = 6 := by rw [hl]; exact lenC
    have tkk : (hidL (V.take 6) (V.drop 12) k).take 6 = hidL (V.take 6) (V.drop 12) k := List.take_of_length_le (by omega)
    by_cases hlt : k < 6
    · have hkl : (k : Int) < 6 := by omega
      have ge := take6_get V k hlt
      have hb := hT k hlt
      have hbM := hM k hlt
      have hmk := hmb k hk
      have w1 := wr_small k (by omega)
      by_cases hp : 0 < V.getD (6 + k) 0
      · have hp2 := (hTM k hlt).1 hp
        have es : hidL (V.take 6) (V.drop 12) (k + 1) = (hidL (V.take 6) (V.drop 12) k).set (V.getD k 0).toNat (IntKind.i64.wrap ((hidL (V.take 6) (V.drop 12) k).getD (V.getD k 0).toNat 0 - 1)) := by
          rw [hidL, ge, if_pos hp2]; rfl
        have em : hmL (V.drop 6) (k + 1) = hmL (V.drop 6) k + V.getD (6 + k) 0 - 1 := by rw [hmL, gM, if_pos hp]
        have w2 : IntKind.i64.wrap (hmL (V.drop 6) k + V.getD (6 + k) 0) = hmL (V.drop 6) k + V.getD (6 + k) 0 := wrap_in (by unfold In64; omega)
        have w3 : IntKind.i64.wrap (hmL (V.drop 6) k + V.getD (6 + k) 0 - 1) = hmL (V.drop 6) k + V.getD (6 + k) 0 - 1 := wrap_in (by unfold In64; omega)
        simp -implicitDefEqProofs only [lk_normal, hkl, ge, hV, hlk, hp, w1, w2, w3, ZB, Int.reduceToNat, Nat.reduceLT, Nat.reduceLeDiff, Int.reduceLE, Int.reduceLT, Nat.reduceEqDiff, Nat.reduceSub, SB, SV.known, packR, ne_eq, reduceCtorEq, Nat.reduceEqDiff, ↓reduceIte, if_true, if_false, eq_self, Nat.reduceAdd, Nat.reduceMul, Nat.reduceSub, forall_const, oneCellS, litOne, flat1, Kd.isSca, flat, TYB]
        (try (and_intros <;> try (first | omega | (unfold In64; omega) | trivial | assumption)))
        refine ⟨k + 1, ?_, ?_, Sub.mk_id ?_ ?_ ?_ ?_ ?_⟩
        all_goals (try (simp only [es, em, LB, subS, subH, wfS, wfH, SV.ren, renL, SObj.ren, SV.wf, SObj.wf, wfL, SV.known, Nat.reduceEqDiff, ↓reduceIte, if_true, if_false, eq_self, Nat.reduceAdd, Nat.reduceLT, Nat.reduceLeDiff, implies_true, reduceCtorEq, forall_const]; done))
        all_goals (try (simp only [es, em, LB, subS, subH, wfS, wfH, SV.ren, renL, SObj.ren, SV.wf, SObj.wf, wfL, SV.known, Nat.reduceEqDiff, ↓reduceIte, if_true, if_false, eq_self, Nat.reduceAdd, Nat.reduceLT, Nat.reduceLeDiff, implies_true, reduceCtorEq, forall_const]; simp; done))
        all_goals (try (simp only [es, em, LB, subS, subH, wfS, wfH, SV.ren, renL, SObj.ren, SV.wf, SObj.wf, wfL, SV.known, Nat.reduceEqDiff, ↓reduceIte, if_true, if_false, eq_self, Nat.reduceAdd, Nat.reduceLT, Nat.reduceLeDiff, implies_true, reduceCtorEq, forall_const]; (and_intros <;> (first | omega | rfl | (simp; done) | (simp; omega))); done))
        all_goals (try dsimp only)
        all_goals (and_intros <;> try (first | omega | (unfold In64; omega) | trivial | assumption))
      · have hp2 : ¬ 0 < V.getD k 0 := fun h => hp ((hTM k hlt).2 h)
        have es : hidL (V.take 6) (V.drop 12) (k + 1) = hidL (V.take 6) (V.drop 12) k := by rw [hidL, ge, if_neg hp2]
        have em : hmL (V.drop 6) (k + 1) = hmL (V.drop 6) k := by rw [hmL, gM, if_neg hp]
        simp -implicitDefEqProofs only [lk_normal, hkl, ge, hV, hlk, hp, w1, ZB, Int.reduceToNat, Nat.reduceLT, Nat.reduceLeDiff, Int.reduceLE, Int.reduceLT, Nat.reduceEqDiff, Nat.reduceSub, SB, SV.known, packR, ne_eq, reduceCtorEq, Nat.reduceEqDiff, ↓reduceIte, if_true, if_false, eq_self, Nat.reduceAdd, Nat.reduceMul, Nat.reduceSub, forall_const, oneCellS, litOne, flat1, Kd.isSca, flat, TYB]
        (try (and_intros <;> try (first | omega | (unfold In64; omega) | trivial | assumption)))
        refine ⟨k + 1, ?_, ?_, Sub.mk_id ?_ ?_ ?_ ?_ ?_⟩
        all_goals (try (simp only [es, em, LB, subS, subH, wfS, wfH, SV.ren, renL, SObj.ren, SV.wf, SObj.wf, wfL, SV.known, Nat.reduceEqDiff, ↓reduceIte, if_true, if_false, eq_self, Nat.reduceAdd, Nat.reduceLT, Nat.reduceLeDiff, implies_true, reduceCtorEq, forall_const]; done))
        all_goals (try (simp only [es, em, LB, subS, subH, wfS, wfH, SV.ren, renL, SObj.ren, SV.wf, SObj.wf, wfL, SV.known, Nat.reduceEqDiff, ↓reduceIte, if_true, if_false, eq_self, Nat.reduceAdd, Nat.reduceLT, Nat.reduceLeDiff, implies_true, reduceCtorEq, forall_const]; simp; done))
        all_goals (try (simp only [es, em, LB, subS, subH, wfS, wfH, SV.ren, renL, SObj.ren, SV.wf, SObj.wf, wfL, SV.known, Nat.reduceEqDiff, ↓reduceIte, if_true, if_false, eq_self, Nat.reduceAdd, Nat.reduceLT, Nat.reduceLeDiff, implies_true, reduceCtorEq, forall_const]; (and_intros <;> (first | omega | rfl | (simp; done) | (simp; omega))); done))
        all_goals (try dsimp only)
        all_goals (and_intros <;> try (first | omega | (unfold In64; omega) | trivial | assumption))
    · have hkl : ¬ (k : Int) < 6 := by omega
      obtain rfl : k = 6 := by omega
      simp -implicitDefEqProofs only [lk_normal, hkl, hlk, tkk, ZB, Int.reduceToNat, Nat.reduceLT, Nat.reduceLeDiff, Int.reduceLE, Int.reduceLT, Nat.reduceEqDiff, Nat.reduceSub, SB, SV.known, packR, ne_eq, reduceCtorEq, Nat.reduceEqDiff, ↓reduceIte, if_true, if_false, eq_self, Nat.reduceAdd, Nat.reduceMul, Nat.reduceSub, forall_const, oneCellS, litOne, flat1, Kd.isSca, flat, TYB]
      (try (and_intros <;> try (first | omega | (unfold In64; omega) | trivial | assumption)))
def l7Hidden_F : List SV → Heap → Option (Prop × SV)
  | [.arr V], _ => some (V.length = 18 ∧ vTop V ∧ vMan V ∧ vTM V, .tup [.int (hmL (V.drop 6) 6), .arr (hidL (V.take 6) (V.drop 12) 6)])
  | _, _ => none
theorem l7Hidden_T : ∀ args H p v, l7Hidden_F args H = some (p, v) → p → PureH Try.prog 56 args H v := by
  intro args H p v h hp
  unfold l7Hidden_F at h
  split at h
  · cases h; exact (l7Hidden_ok _ hp.1 hp.2.1 hp.2.2.1 hp.2.2.2).any _
  · cases h
/-! The view of a rack. -/
theorem topL_bd {R : List Int} (hR : R.length = 24) (hr : rackB R = true) : ∀ k, k < 6 → 0 ≤ (topL R).getD k 0 ∧ (topL R).getD k 0 ≤ 5 := fun k hk => by
  rw [topL_getD R k hk]
  obtain ⟨h1, h2⟩ := tube_cells (tubeAt_len hR hk) (tubeAt_ok hr hk)
  rcases Nat.eq_zero_or_pos (layN (tubeAt R k)) with h0 | h0
  · have : topF (tubeAt R k) = (0, 0) := by simp [topF, runsL, h0]
    rw [this]; simp
  · obtain ⟨r, hr1, _⟩ := topF_run _ (tubeAt_len hR hk) h0
    rw [hr1]
    have := h1 (layN (tubeAt R k) - 1) (by omega)
    simp only
    omega
theorem viewF_take (R : List Int) : (viewF R).take 6 = topL R := by
  unfold viewF
  rw [List.append_assoc]
  exact List.take_left' (topL_len R)
theorem viewF_drop (R : List Int) : (viewF R).drop 12 = ctL R := by
  unfold viewF
  exact List.drop_left' (by rw [List.length_append, topL_len, manL_len])
theorem viewF_man (R : List Int) : (viewF R).drop 6 = manL R ++ ctL R := by
  unfold viewF
  rw [List.append_assoc]
  exact List.drop_left' (topL_len R)
theorem viewF_top {R : List Int} {k : Nat} (hk : k < 6) : (viewF R).getD k 0 = (topF (tubeAt R k)).1 := by
  rw [← take6_get _ _ hk, viewF_take, topL_getD R k hk]
theorem viewF_many {R : List Int} {k : Nat} (hk : k < 6) : (viewF R).getD (6 + k) 0 = (layN (tubeAt R k) : Int) := by
  have : (viewF R).getD (6 + k) 0 = ((viewF R).drop 6).getD k 0 := by simp [List.getD]
  rw [this, viewF_man, ← manL_getD R k hk]
  simp only [List.getD, List.getElem?_append_left (show k < (manL R).length by rw [manL_len]; omega)]
theorem viewF_ok {R : List Int} (hR : R.length = 24) (hr : rackB R = true) : vTop (viewF R) ∧ vMan (viewF R) ∧ vTM (viewF R) := by
  refine ⟨fun k hk => ?_, fun k hk => ?_, fun k hk => ?_⟩
  · rw [← take6_get _ _ hk, viewF_take]; exact topL_bd hR hr k hk
  · rw [viewF_many hk]; have := lay_le _ (tubeAt_len hR hk); omega
  · rw [viewF_many hk, viewF_top hk]
    have := (top_pos _ (tubeAt_len hR hk) (tubeAt_ok hr hk)).1
    omega
end Go.Proofs.Ytckcojgfgcjamaa
set_option maxRecDepth 100000
set_option linter.unusedSimpArgs false
set_option linter.unusedVariables false
namespace Go.Proofs.Ytckcojgfgcjamaa
open Go Go.RowKit
structure rkI (R L : List Int) (i j : Nat) : Prop where
  a : L.length = 6
  b : L.getD 0 0 = 0
  c : ∀ c : Nat, 1 ≤ c → c < 6 → hcn (tubeAt R i) j c + remT R c (5 - i) ≤ L.getD c 0 ∧ L.getD c 0 ≤ 24
structure rkJ (R L : List Int) (i : Nat) : Prop where
  a : L.length = 6
  b : L.getD 0 0 = 0
  c : ∀ c : Nat, 1 ≤ c → c < 6 → remT R c (6 - i) ≤ L.getD c 0 ∧ L.getD c 0 ≤ 24
theorem getD_set_ne (L : List Int) (j c : Nat) (x : Int) (h : j ≠ c) : (L.set j x).getD c 0 = L.getD c 0 := by simp [List.getD, List.getElem?_set, h]
theorem getD_set_eq (L : List Int) (c : Nat) (x : Int) (h : c < L.length) : (L.set c x).getD c 0 = x := by simp [List.getD, h]
theorem set_getD_self (L : List Int) (c : Nat) : L.set c (L.getD c 0) = L := by
  apply List.ext_getElem?
  intro k
  rw [List.getElem?_set]
  split
  · rename_i h
    subst h
    split
    · rename_i h; simp [List.getD, List.getElem?_eq_getElem h]
    · rename_i h; rw [List.getElem?_eq_none (by omega)]
  · rfl
end Go.Proofs.Ytckcojgfgcjamaa
set_option maxRecDepth 100000
set_option linter.unusedSimpArgs false
set_option linter.unusedVariables false
namespace Go.Proofs.Ytckcojgfgcjamaa
open Go Go.RowKit
def vk (V : List Int) (k : Nat) : Bool := plF (V.getD k 0) && in04 (V.getD (6 + k) 0) && (decide (0 < V.getD k 0) == decide (0 < V.getD (6 + k) 0))
def vok (V : List Int) : Bool := (List.range 6).all (vk V)
theorem vok_spec {V : List Int} (h : vok V = true) : vTop V ∧ vMan V ∧ vTM V := by
  have h1 : ∀ k, k < 6 → vk V k = true := fun k hk => List.all_eq_true.1 h k (List.mem_range.2 hk)
  refine ⟨fun k hk => ?_, fun k hk => ?_, fun k hk => ?_⟩
  all_goals
    have := h1 k hk
    simp only [vk, plF, in04, Bool.and_eq_true, decide_eq_true_eq, beq_iff_eq] at this
  · exact this.1.1
  · exact this.1.2
  · have := this.2
    rw [decide_eq_decide] at this
    exact this.symm
theorem vk_t {V : List Int} {k : Nat} (h1 : 0 ≤ V.getD k 0 ∧ V.getD k 0 ≤ 5) (h2 : 0 ≤ V.getD (6 + k) 0 ∧ V.getD (6 + k) 0 ≤ 4) (h3 : 0 < V.getD k 0 ↔ 0 < V.getD (6 + k) 0) : vk V k = true := by
  unfold vk plF in04
  rw [decide_eq_true h1, decide_eq_true h2, Bool.and_self, Bool.true_and, beq_iff_eq, decide_eq_decide]
  exact h3
theorem vk_f {V : List Int} {k : Nat} (h3 : ¬ (0 < V.getD k 0 ↔ 0 < V.getD (6 + k) 0)) : vk V k = false := by
  unfold vk
  have : (decide (0 < V.getD k 0) == decide (0 < V.getD (6 + k) 0)) = false := by rw [beq_eq_false_iff_ne, ne_eq, decide_eq_decide]; exact h3
  rw [this, Bool.and_false]
theorem bq1 : (true == false) = false := rfl
theorem bq2 : (false == true) = false := rfl
theorem vok_of {V : List Int} (h : ∀ k, k < 6 → vk V k = true) : vok V = true := List.all_eq_true.2 fun k hk => h k (List.mem_range.1 hk)
theorem vok_not {V : List Int} {k : Nat} (hk : k < 6) (h : vk V k = false) : vok V = false := by
  cases hv : vok V with
  | false => rfl
  | true =>
    have := List.all_eq_true.1 hv k (List.mem_range.2 hk)
    rw [h] at this; cases this
def nn (n : Int) : Bool := decide (0 ≤ n)
def hidV (V : List Int) : List Int := hidL (V.take 6) (V.drop 12) 6
def isVF (V : List Int) : Bool := vok V && decide (V.getD 12 0 = 0) && (V.drop 12).all in024 && (hidV V).all nn && decide ((V.drop 12).sum = ((V.drop 6).take 6).sum)
--@tbl IsView = impl.IsView
theorem IsView1_ok (n : Int) : PureH Try.prog 79 [.int n] [] (.bool (in024 n)) := by
  refine pure_of_vc (X := ⟨Try.prog, tys, [(63, within_F)], [], true, true, 0, [], []⟩) fn_79 ⟨tys_ok, (.cons within_T .nil), .nil, mixed⟩ (n0 := 0) (Nat.le_of_ble_eq_true rfl) (by simp [wfL, SV.wf]) (wfH_spec (by simp [wfH, SObj.wf, wfL, SV.wf])) (Nat.le_refl _) (fun _ => by simp [SV.wf, wfL]) ?_
  simp -implicitDefEqProofs only [Try.f79, Option.getD_some, argS, within_F, SB, SV.known, packR, ne_eq, reduceCtorEq, Nat.reduceEqDiff, ↓reduceIte, if_true, if_false, eq_self, Nat.reduceAdd, Nat.reduceMul, Nat.reduceSub, forall_const, oneCellS, litOne, flat1, Kd.isSca, flat, TYB]
  trivial
theorem IsView2_ok (n : Int) : PureH Try.prog 80 [.int n] [] (.bool (nn n)) := by
  refine pure_of_vc (X := ⟨Try.prog, tys, [], [], true, true, 0, [], []⟩) fn_80 ⟨tys_ok, .nil, .nil, mixed⟩ (n0 := 0) (Nat.le_of_ble_eq_true rfl) (by simp [wfL, SV.wf]) (wfH_spec (by simp [wfH, SObj.wf, wfL, SV.wf])) (Nat.le_refl _) (fun _ => by simp [SV.wf, wfL]) ?_
  simp -implicitDefEqProofs only [Try.f80, Option.getD_some, argS, SB, SV.known, packR, ne_eq, reduceCtorEq, Nat.reduceEqDiff, ↓reduceIte, if_true, if_false, eq_self, Nat.reduceAdd, Nat.reduceMul, Nat.reduceSub, forall_const, oneCellS, litOne, flat1, Kd.isSca, flat, TYB]
  rfl
--@tbl areAll_view = impl.areAll[int]
def areAll_view_F := areAllI_F [(79, in024), (80, nn)]
theorem areAll_view_T : ∀ args H p v, areAll_view_F args H = some (p, v) → p → PureH Try.prog 78 args H v :=
  areAllI_T (by intro q hq; simp at hq; rcases hq with rfl | rfl; exact IsView1_ok; exact IsView2_ok)
theorem IsView_ok (V : List Int) (hV : V.length = 18) : PureH Try.prog 27 [.arr V] [] (.bool (isVF V)) := by
  have tkV : V.take 18 = V := List.take_of_length_le (by omega)
  have lenT : (V.take 6).length = 6 := by rw [List.length_take]; omega
  have lenM : ((V.drop 6).take 6).length = 6 := by rw [List.length_take, List.length_drop]; omega
  have lenC : (V.drop 12).length = 6 := by rw [List.length_drop]; omega
  have tkC : (V.drop 12).take 6 = V.drop 12 := List.take_of_length_le (by omega)
  have lenH : (hidV V).length = 6 := by unfold hidV; rw [hidL_len]; exact lenC
  have tkH : (hidV V).take 6 = hidV V := List.take_of_length_le (by omega)
  have g12 : (V.drop 12).getD 0 0 = V.getD 12 0 := by simp [List.getD]
  have fin : ∀ k, k < 6 → vk V k = false → isVF V = false := fun k hk h => by unfold isVF; rw [vok_not hk h]; rfl
  refine pure_of_vc (X := ⟨Try.prog, tys, [(63, within_F), (53, hidden_F), (78, areAll_view_F), (68, sum_F)], [], true, true, 0, [], []⟩) fn_27 ⟨tys_ok, (.cons within_T (.cons hidden_T (.cons areAll_view_T (.cons sum_T .nil)))), .nil, mixed⟩ (n0 := 0) (Nat.le_of_ble_eq_true rfl) (by simp [wfL, SV.wf]) (wfH_spec (by simp [wfH, SObj.wf, wfL, SV.wf])) (Nat.le_refl _) (fun _ => by simp [SV.wf, wfL]) ?_
  simp -implicitDefEqProofs only [Try.f27, Option.getD_some, argS, within_F, hidden_F, areAll_view_F, sum_F, hV, tkV, ZB, Int.reduceToNat, Nat.reduceLT, Nat.reduceLeDiff, Int.reduceLE, Int.reduceLT, Nat.reduceEqDiff, Nat.reduceSub, SB, SV.known, packR, ne_eq, reduceCtorEq, Nat.reduceEqDiff, ↓reduceIte, if_true, if_false, eq_self, Nat.reduceAdd, Nat.reduceMul, Nat.reduceSub, forall_const, oneCellS, litOne, flat1, Kd.isSca, flat, TYB]
  refine loop_intro (fun k : Nat => [(8, .int k), (7, .arr (V.take 6)), (1, .ptr 0 0)]) (fun k => [(0, .ints V 31)]) 1 (fun k => k ≤ 6 ∧ ∀ q, q < k → vk V q = true) (fun k => 6 - k) ?_ ?_
  · refine ⟨0, ?_, Sub.mk_id ?_ ?_ ?_ ?_ ?_⟩
    all_goals (try (simp only [LB, subS, subH, wfS, wfH, SV.ren, renL, SObj.ren, SV.wf, SObj.wf, wfL, SV.known, Nat.reduceEqDiff, ↓reduceIte, if_true, if_false, eq_self, Nat.reduceAdd, Nat.reduceLT, Nat.reduceLeDiff, implies_true, reduceCtorEq, forall_const]; done))
    all_goals (try (simp only [LB, subS, subH, wfS, wfH, SV.ren, renL, SObj.ren, SV.wf, SObj.wf, wfL, SV.known, Nat.reduceEqDiff, ↓reduceIte, if_true, if_false, eq_self, Nat.reduceAdd, Nat.reduceLT, Nat.reduceLeDiff, implies_true, reduceCtorEq, forall_const]; simp; done))
    all_goals (try (simp only [LB, subS, subH, wfS, wfH, SV.ren, renL, SObj.ren, SV.wf, SObj.wf, wfL, SV.known, Nat.reduceEqDiff, ↓reduceIte, if_true, if_false, eq_self, Nat.reduceAdd, Nat.reduceLT, Nat.reduceLeDiff, implies_true, reduceCtorEq, forall_const]; (and_intros <;> (first | omega | rfl | (simp; done) | (simp; omega))); done))
    all_goals (try dsimp only)
    all_goals (and_intros <;> try (first | omega | (unfold In64; omega) | trivial | assumption))
    all_goals (intro q hq; omega)
  · rintro k ⟨hk, hv⟩
    by_cases hlt : k < 6
    · have hkl : (k : Int) < 6 := by omega
      have ge := take6_get V k hlt
      have gm : V.getD (6 + k) 0 = V.getD (6 + k) 0 := rfl
      by_cases h1 : 0 ≤ V.getD k 0 ∧ V.getD k 0 ≤ 5
      · by_cases h2 : 0 ≤ V.getD (6 + k) 0 ∧ V.getD (6 + k) 0 ≤ 4
        · by_cases h3 : 0 < V.getD k 0
          · by_cases h4 : 0 < V.getD (6 + k) 0
            · have hkk : vk V k = true := vk_t h1 h2 (by omega)
              simp -implicitDefEqProofs only [lk_normal, within_F, hkl, ge, lenT, hV, h1, h2, h3, h4, and_self, decide_true, bq1, bq2, ZB, Int.reduceToNat, Nat.reduceLT, Nat.reduceLeDiff, Int.reduceLE, Int.reduceLT, Nat.reduceEqDiff, Nat.reduceSub, SB, SV.known, packR, ne_eq, reduceCtorEq, Nat.reduceEqDiff, ↓reduceIte, if_true, if_false, eq_self, Nat.reduceAdd, Nat.reduceMul, Nat.reduceSub, forall_const, oneCellS, litOne, flat1, Kd.isSca, flat, TYB]
              (try (and_intros <;> try (first | omega | (unfold In64; omega) | trivial | assumption)))
              refine ⟨k + 1, ?_, ?_, Sub.mk_id ?_ ?_ ?_ ?_ ?_⟩
              all_goals (try (simp only [LB, subS, subH, wfS, wfH, SV.ren, renL, SObj.ren, SV.wf, SObj.wf, wfL, SV.known, Nat.reduceEqDiff, ↓reduceIte, if_true, if_false, eq_self, Nat.reduceAdd, Nat.reduceLT, Nat.reduceLeDiff, implies_true, reduceCtorEq, forall_const]; done))
              all_goals (try (simp only [LB, subS, subH, wfS, wfH, SV.ren, renL, SObj.ren, SV.wf, SObj.wf, wfL, SV.known, Nat.reduceEqDiff, ↓reduceIte, if_true, if_false, eq_self, Nat.reduceAdd, Nat.reduceLT, Nat.reduceLeDiff, implies_true, reduceCtorEq, forall_const]; simp; done))
              all_goals (try (simp only [LB, subS, subH, wfS, wfH, SV.ren, renL, SObj.ren, SV.wf, SObj.wf, wfL, SV.known, Nat.reduceEqDiff, ↓reduceIte, if_true, if_false, eq_self, Nat.reduceAdd, Nat.reduceLT, Nat.reduceLeDiff, implies_true, reduceCtorEq, forall_const]; (and_intros <;> (first | omega | rfl | (simp; done) | (simp; omega))); done))
              all_goals (try dsimp only)
              all_goals (and_intros <;> try (first | omega | (unfold In64; omega) | trivial | assumption))
              · intro q hq
                by_cases hqk : q = k
                · subst hqk; exact hkk
                · exact hv q (by omega)
            · have hkk := fin k hlt (vk_f (by omega))
              simp -implicitDefEqProofs only [lk_normal, within_F, hkl, ge, lenT, hV, h1, h2, h3, h4, hkk, and_self, decide_true, decide_false, bq1, bq2, ZB, Int.reduceToNat, Nat.reduceLT, Nat.reduceLeDiff, Int.reduceLE, Int.reduceLT, Nat.reduceEqDiff, Nat.reduceSub, SB, SV.known, packR, ne_eq, reduceCtorEq, Nat.reduceEqDiff, ↓reduceIte, if_true, if_false, eq_self, Nat.reduceAdd, Nat.reduceMul, Nat.reduceSub, forall_const, oneCellS, litOne, flat1, Kd.isSca, flat, TYB]
              (try (and_intros <;> try (first | omega | (unfold In64; omega) | trivial | assumption)))
          · by_cases h4 : 0 < V.getD (6 + k) 0
            · have hkk := fin k hlt (vk_f (by omega))
              simp -implicitDefEqProofs only [lk_normal, within_F, hkl, ge, lenT, hV, h1, h2, h3, h4, hkk, and_self, decide_true, decide_false, bq1, bq2, ZB, Int.reduceToNat, Nat.reduceLT, Nat.reduceLeDiff, Int.reduceLE, Int.reduceLT, Nat.reduceEqDiff, Nat.reduceSub, SB, SV.known, packR, ne_eq, reduceCtorEq, Nat.reduceEqDiff, ↓reduceIte, if_true, if_false, eq_self, Nat.reduceAdd, Nat.reduceMul, Nat.reduceSub, forall_const, oneCellS, litOne, flat1, Kd.isSca, flat, TYB]
              (try (and_intros <;> try (first | omega | (unfold In64; omega) | trivial | assumption)))
            · have hkk : vk V k = true := vk_t h1 h2 (by omega)
              simp -implicitDefEqProofs only [lk_normal, within_F, hkl, ge, lenT, hV, h1, h2, h3, h4, and_self, decide_true, decide_false, bq1, bq2, ZB, Int.reduceToNat, Nat.reduceLT, Nat.reduceLeDiff, Int.reduceLE, Int.reduceLT, Nat.reduceEqDiff, Nat.reduceSub, SB, SV.known, packR, ne_eq, reduceCtorEq, Nat.reduceEqDiff, ↓reduceIte, if_true, if_false, eq_self, Nat.reduceAdd, Nat.reduceMul, Nat.reduceSub, forall_const, oneCellS, litOne, flat1, Kd.isSca, flat, TYB]
              (try (and_intros <;> try (first | omega | (unfold In64; omega) | trivial | assumption)))
              refine ⟨k + 1, ?_, ?_, Sub.mk_id ?_ ?_ ?_ ?_ ?_⟩
              all_goals (try (simp only [LB, subS, subH, wfS, wfH, SV.ren, renL, SObj.ren, SV.wf, SObj.wf, wfL, SV.known, Nat.reduceEqDiff, ↓reduceIte, if_true, if_false, eq_self, Nat.reduceAdd, Nat.reduceLT, Nat.reduceLeDiff, implies_true, reduceCtorEq, forall_const]; done))
              all_goals (try (simp only [LB, subS, subH, wfS, wfH, SV.ren, renL, SObj.ren, SV.wf, SObj.wf, wfL, SV.known, Nat.reduceEqDiff, ↓reduceIte, if_true, if_false, eq_self, Nat.reduceAdd, Nat.reduceLT, Nat.reduceLeDiff, implies_true, reduceCtorEq, forall_const]; simp; done))
              all_goals (try (simp only [LB, subS, subH, wfS, wfH, SV.ren, renL, SObj.ren, SV.wf, SObj.wf, wfL, SV.known, Nat.reduceEqDiff, ↓reduceIte, if_true, if_false, eq_self, Nat.reduceAdd, Nat.reduceLT, Nat.reduceLeDiff, implies_true, reduceCtorEq, forall_const]; (and_intros <;> (first | omega | rfl | (simp; done) | (simp; omega))); done))
              all_goals (try dsimp only)
              all_goals (and_intros <;> try (first | omega | (unfold In64; omega) | trivial | assumption))
              · intro q hq
                by_cases hqk : q = k
                · subst hqk; exact hkk
                · exact hv q (by omega)
        · have hkk := fin k hlt (by unfold vk in04; rw [decide_eq_false h2]; simp)
          simp -implicitDefEqProofs only [lk_normal, within_F, hkl, ge, lenT, hV, h1, h2, hkk, and_self, decide_true, decide_false, bq1, bq2, ZB, Int.reduceToNat, Nat.reduceLT, Nat.reduceLeDiff, Int.reduceLE, Int.reduceLT, Nat.reduceEqDiff, Nat.reduceSub, SB, SV.known, packR, ne_eq, reduceCtorEq, Nat.reduceEqDiff, ↓reduceIte, if_true, if_false, eq_self, Nat.reduceAdd, Nat.reduceMul, Nat.reduceSub, forall_const, oneCellS, litOne, flat1, Kd.isSca, flat, TYB]
          (try (and_intros <;> try (first | omega | (unfold In64; omega) | trivial | assumption)))
      · have hkk := fin k hlt (by unfold vk plF; rw [decide_eq_false h1]; simp)
        simp -implicitDefEqProofs only [lk_normal, within_F, hkl, ge, lenT, hV, h1, hkk, and_self, decide_true, decide_false, bq1, bq2, ZB, Int.reduceToNat, Nat.reduceLT, Nat.reduceLeDiff, Int.reduceLE, Int.reduceLT, Nat.reduceEqDiff, Nat.reduceSub, SB, SV.known, packR, ne_eq, reduceCtorEq, Nat.reduceEqDiff, ↓reduceIte, if_true, if_false, eq_self, Nat.reduceAdd, Nat.reduceMul, Nat.reduceSub, forall_const, oneCellS, litOne, flat1, Kd.isSca, flat, TYB]
        (try (and_intros <;> try (first | omega | (unfold In64; omega) | trivial | assumption)))
    · have hkl : ¬ (k : Int) < 6 := by omega
      obtain rfl : k = 6 := by omega
      have hok := vok_of hv
      obtain ⟨u1, u2, u3⟩ := vok_spec hok
      have eH : hidL (V.take 6) (V.drop 12) 6 = hidV V := rfl
      have hF : isVF V = (decide (V.getD 12 0 = 0) && (V.drop 12).all in024 && (hidV V).all nn && decide ((V.drop 12).sum = ((V.drop 6).take 6).sum)) := by
        unfold isVF; rw [hok]; rfl
      rw [hF]
      by_cases z0 : V.getD 12 0 = 0
      · cases hA : (V.drop 12).all in024
        · simp -implicitDefEqProofs only [lk_normal, hidden_F, sum_F, areAll_view_F, areAllI_F, hkl, lenT, hV, tkV, lenC, tkC, lenM, lenH, tkH, u1, eH, z0, hA, decide_true, ZB, Int.reduceToNat, Nat.reduceLT, Nat.reduceLeDiff, Int.reduceLE, Int.reduceLT, Nat.reduceEqDiff, Nat.reduceSub, SB, SV.known, packR, ne_eq, reduceCtorEq, Nat.reduceEqDiff, ↓reduceIte, if_true, if_false, eq_self, Nat.reduceAdd, Nat.reduceMul, Nat.reduceSub, forall_const, oneCellS, litOne, flat1, Kd.isSca, flat, TYB]
        · cases hN : (hidV V).all nn
          · simp -implicitDefEqProofs only [lk_normal, hidden_F, sum_F, areAll_view_F, areAllI_F, hkl, lenT, hV, tkV, lenC, tkC, lenM, lenH, tkH, u1, eH, z0, hA, hN, decide_true, ZB, Int.reduceToNat, Nat.reduceLT, Nat.reduceLeDiff, Int.reduceLE, Int.reduceLT, Nat.reduceEqDiff, Nat.reduceSub, SB, SV.known, packR, ne_eq, reduceCtorEq, Nat.reduceEqDiff, ↓reduceIte, if_true, if_false, eq_self, Nat.reduceAdd, Nat.reduceMul, Nat.reduceSub, forall_const, oneCellS, litOne, flat1, Kd.isSca, flat, TYB]
          · have b1 := all_bd hA (a := -1000000) (b := 1000000) (by intro x hx; have := in024_bd x hx; omega)
            have b2 : Bd (-1000000) 1000000 ((V.drop 6).take 6) := fun x hx => by
              obtain ⟨i, hi, e⟩ := List.getElem_of_mem hx
              have := u2 i (by omega)
              simp at e
              have e2 : V.getD (6 + i) 0 = x := by
                have h18 : 6 + i < V.length := by omega
                rw [List.getD_eq_getElem?_getD, List.getElem?_eq_getElem h18]; exact e
              omega
            simp -implicitDefEqProofs only [lk_normal, hidden_F, sum_F, areAll_view_F, areAllI_F, hkl, lenT, hV, tkV, lenC, tkC, lenM, lenH, tkH, u1, eH, z0, hA, hN, decide_true, ZB, Int.reduceToNat, Nat.reduceLT, Nat.reduceLeDiff, Int.reduceLE, Int.reduceLT, Nat.reduceEqDiff, Nat.reduceSub, SB, SV.known, packR, ne_eq, reduceCtorEq, Nat.reduceEqDiff, ↓reduceIte, if_true, if_false, eq_self, Nat.reduceAdd, Nat.reduceMul, Nat.reduceSub, forall_const, oneCellS, litOne, flat1, Kd.isSca, flat, TYB]
            exact ⟨b1, b2⟩
      · simp -implicitDefEqProofs only [lk_normal, hidden_F, sum_F, areAll_view_F, areAllI_F, hkl, lenT, hV, tkV, lenC, tkC, lenM, lenH, tkH, u1, eH, z0, decide_false, ZB, Int.reduceToNat, Nat.reduceLT, Nat.reduceLeDiff, Int.reduceLE, Int.reduceLT, Nat.reduceEqDiff, Nat.reduceSub, SB, SV.known, packR, ne_eq, reduceCtorEq, Nat.reduceEqDiff, ↓reduceIte, if_true, if_false, eq_self, Nat.reduceAdd, Nat.reduceMul, Nat.reduceSub, forall_const, oneCellS, litOne, flat1, Kd.isSca, flat, TYB]
--@tbl l7Good = spec.l7Good
def gdVF (V : List Int) : Bool := vok V && decide (V.getD 12 0 = 0) && ((hidV V).drop 1).all in024 && decide (((hidV V).drop 1).sum = hmL (V.drop 6) 6)
theorem l7Good_ok (V : List Int) (hV : V.length = 18) : PureH Try.prog 67 [.arr V] [] (.bool (gdVF V)) := by
  have tkV : V.take 18 = V := List.take_of_length_le (by omega)
  have lenC : (V.drop 12).length = 6 := by rw [List.length_drop]; omega
  have lenH : (hidV V).length = 6 := by unfold hidV; rw [hidL_len]; exact lenC
  have tkH : (hidV V).take 6 = hidV V := List.take_of_length_le (by omega)
  have fin : ∀ k, k < 6 → vk V k = false → gdVF V = false := fun k hk h => by unfold gdVF; rw [vok_not hk h]; rfl
  refine pure_of_vc (X := ⟨Try.prog, tys, [(65, l1In_F), (56, l7Hidden_F)], [], true, true, 0, [], []⟩) fn_67 ⟨tys_ok, (.cons l1In_T (.cons l7Hidden_T .nil)), .nil, mixed⟩ (n0 := 0) (Nat.le_of_ble_eq_true rfl) (by simp [wfL, SV.wf]) (wfH_spec (by simp [wfH, SObj.wf, wfL, SV.wf])) (Nat.le_refl _) (fun _ => by simp [SV.wf, wfL]) ?_
  simp -implicitDefEqProofs only [Try.f67, Option.getD_some, argS, l1In_F, l7Hidden_F, hV, tkV, ZB, Int.reduceToNat, Nat.reduceLT, Nat.reduceLeDiff, Int.reduceLE, Int.reduceLT, Nat.reduceEqDiff, Nat.reduceSub, SB, SV.known, packR, ne_eq, reduceCtorEq, Nat.reduceEqDiff, ↓reduceIte, if_true, if_false, eq_self, Nat.reduceAdd, Nat.reduceMul, Nat.reduceSub, forall_const, oneCellS, litOne, flat1, Kd.isSca, flat, TYB]
  refine loop_intro (fun k : Nat => [(3, .int k), (1, .ptr 0 0)]) (fun k => [(0, .ints V 31)]) 1 (fun k => k ≤ 6 ∧ ∀ q, q < k → vk V q = true) (fun k => 6 - k) ?_ ?_
  · refine ⟨0, ?_, Sub.mk_id ?_ ?_ ?_ ?_ ?_⟩
    all_goals (try (simp only [LB, subS, subH, wfS, wfH, SV.ren, renL, SObj.ren, SV.wf, SObj.wf, wfL, SV.known, Nat.reduceEqDiff, ↓reduceIte, if_true, if_false, eq_self, Nat.reduceAdd, Nat.reduceLT, Nat.reduceLeDiff, implies_true, reduceCtorEq, forall_const]; done))
    all_goals (try (simp only [LB, subS, subH, wfS, wfH, SV.ren, renL, SObj.ren, SV.wf, SObj.wf, wfL, SV.known, Nat.reduceEqDiff, ↓reduceIte, if_true, if_false, eq_self, Nat.reduceAdd, Nat.reduceLT, Nat.reduceLeDiff, implies_true, reduceCtorEq, forall_const]; simp; done))
    all_goals (try (simp only [LB, subS, subH, wfS, wfH, SV.ren, renL, SObj.ren, SV.wf, SObj.wf, wfL, SV.known, Nat.reduceEqDiff, ↓reduceIte, if_true, if_false, eq_self, Nat.reduceAdd, Nat.reduceLT, Nat.reduceLeDiff, implies_true, reduceCtorEq, forall_const]; (and_intros <;> (first | omega | rfl | (simp; done) | (simp; omega))); done))
    all_goals (try dsimp only)
    all_goals (and_intros <;> try (first | omega | (unfold In64; omega) | trivial | assumption))
    all_goals (intro q hq; omega)
  · rintro k ⟨hk, hv⟩
    by_cases hlt : k < 6
    · have hkl : (k : Int) < 6 := by omega
      by_cases h2 : 0 ≤ V.getD (6 + k) 0 ∧ V.getD (6 + k) 0 ≤ 4
      · by_cases h1 : 0 ≤ V.getD k 0 ∧ V.getD k 0 ≤ 5
        · by_cases h3 : V.getD k 0 = 0
          · by_cases h4 : V.getD (6 + k) 0 = 0
            · have hkk : vk V k = true := vk_t h1 h2 (by omega)
              simp -implicitDefEqProofs only [lk_normal, l1In_F, hkl, hV, h1, h2, h3, h4, and_self, decide_true, bq1, bq2, ZB, Int.reduceToNat, Nat.reduceLT, Nat.reduceLeDiff, Int.reduceLE, Int.reduceLT, Nat.reduceEqDiff, Nat.reduceSub, SB, SV.known, packR, ne_eq, reduceCtorEq, Nat.reduceEqDiff, ↓reduceIte, if_true, if_false, eq_self, Nat.reduceAdd, Nat.reduceMul, Nat.reduceSub, forall_const, oneCellS, litOne, flat1, Kd.isSca, flat, TYB]
              (try (and_intros <;> try (first | omega | (unfold In64; omega) | trivial | assumption)))
              refine ⟨k + 1, ?_, ?_, Sub.mk_id ?_ ?_ ?_ ?_ ?_⟩
              all_goals (try (simp only [LB, subS, subH, wfS, wfH, SV.ren, renL, SObj.ren, SV.wf, SObj.wf, wfL, SV.known, Nat.reduceEqDiff, ↓reduceIte, if_true, if_false, eq_self, Nat.reduceAdd, Nat.reduceLT, Nat.reduceLeDiff, implies_true, reduceCtorEq, forall_const]; done))
              all_goals (try (simp only [LB, subS, subH, wfS, wfH, SV.ren, renL, SObj.ren, SV.wf, SObj.wf, wfL, SV.known, Nat.reduceEqDiff, ↓reduceIte, if_true, if_false, eq_self, Nat.reduceAdd, Nat.reduceLT, Nat.reduceLeDiff, implies_true, reduceCtorEq, forall_const]; simp; done))
              all_goals (try (simp only [LB, subS, subH, wfS, wfH, SV.ren, renL, SObj.ren, SV.wf, SObj.wf, wfL, SV.known, Nat.reduceEqDiff, ↓reduceIte, if_true, if_false, eq_self, Nat.reduceAdd, Nat.reduceLT, Nat.reduceLeDiff, implies_true, reduceCtorEq, forall_const]; (and_intros <;> (first | omega | rfl | (simp; done) | (simp; omega))); done))
              all_goals (try dsimp only)
              all_goals (and_intros <;> try (first | omega | (unfold In64; omega) | trivial | assumption))
              · intro q hq
                by_cases hqk : q = k
                · subst hqk; exact hkk
                · exact hv q (by omega)
            · have h5 : 0 < V.getD (6 + k) 0 := by omega
              have hkk := fin k hlt (vk_f (by omega))
              simp -implicitDefEqProofs only [lk_normal, l1In_F, hkl, hV, h1, h2, h3, h4, hkk, and_self, decide_true, decide_false, bq1, bq2, ZB, Int.reduceToNat, Nat.reduceLT, Nat.reduceLeDiff, Int.reduceLE, Int.reduceLT, Nat.reduceEqDiff, Nat.reduceSub, SB, SV.known, packR, ne_eq, reduceCtorEq, Nat.reduceEqDiff, ↓reduceIte, if_true, if_false, eq_self, Nat.reduceAdd, Nat.reduceMul, Nat.reduceSub, forall_const, oneCellS, litOne, flat1, Kd.isSca, flat, TYB]
              (try (and_intros <;> try (first | omega | (unfold In64; omega) | trivial | assumption)))
          · have h6 : 0 < V.getD k 0 := by omega
            by_cases h4 : V.getD (6 + k) 0 = 0
            · have hkk := fin k hlt (vk_f (by omega))
              simp -implicitDefEqProofs only [lk_normal, l1In_F, hkl, hV, h1, h2, h3, h4, hkk, and_self, decide_true, decide_false, bq1, bq2, ZB, Int.reduceToNat, Nat.reduceLT, Nat.reduceLeDiff, Int.reduceLE, Int.reduceLT, Nat.reduceEqDiff, Nat.reduceSub, SB, SV.known, packR, ne_eq, reduceCtorEq, Nat.reduceEqDiff, ↓reduceIte, if_true, if_false, eq_self, Nat.reduceAdd, Nat.reduceMul, Nat.reduceSub, forall_const, oneCellS, litOne, flat1, Kd.isSca, flat, TYB]
              (try (and_intros <;> try (first | omega | (unfold In64; omega) | trivial | assumption)))
            · have h5 : 0 < V.getD (6 + k) 0 := by omega
              have hkk : vk V k = true := vk_t h1 h2 (by omega)
              simp -implicitDefEqProofs only [lk_normal, l1In_F, hkl, hV, h1, h2, h3, h4, and_self, decide_true, decide_false, bq1, bq2, ZB, Int.reduceToNat, Nat.reduceLT, Nat.reduceLeDiff, Int.reduceLE, Int.reduceLT, Nat.reduceEqDiff, Nat.reduceSub, SB, SV.known, packR, ne_eq, reduceCtorEq, Nat.reduceEqDiff, ↓reduceIte, if_true, if_false, eq_self, Nat.reduceAdd, Nat.reduceMul, Nat.reduceSub, forall_const, oneCellS, litOne, flat1, Kd.isSca, flat, TYB]
              (try (and_intros <;> try (first | omega | (unfold In64; omega) | trivial | assumption)))
              refine ⟨k + 1, ?_, ?_, Sub.mk_id ?_ ?_ ?_ ?_ ?_⟩
              all_goals (try (simp only [LB, subS, subH, wfS, wfH, SV.ren, renL, SObj.ren, SV.wf, SObj.wf, wfL, SV.known, Nat.reduceEqDiff, ↓reduceIte, if_true, if_false, eq_self, Nat.reduceAdd, Nat.reduceLT, Nat.reduceLeDiff, implies_true, reduceCtorEq, forall_const]; done))
              all_goals (try (simp only [LB, subS, subH, wfS, wfH, SV.ren, renL, SObj.ren, SV.wf, SObj.wf, wfL, SV.known, Nat.reduceEqDiff, ↓reduceIte, if_true, if_false, eq_self, Nat.reduceAdd, Nat.reduceLT, Nat.reduceLeDiff, implies_true, reduceCtorEq, forall_const]; simp; done))
              all_goals (try (simp only [LB, subS, subH, wfS, wfH, SV.ren, renL, SObj.ren, SV.wf, SObj.wf, wfL, SV.known, Nat.reduceEqDiff, ↓reduceIte, if_true, if_false, eq_self, Nat.reduceAdd, Nat.reduceLT, Nat.reduceLeDiff, implies_true, reduceCtorEq, forall_const]; (and_intros <;> (first | omega | rfl | (simp; done) | (simp; omega))); done))
              all_goals (try dsimp only)
              all_goals (and_intros <;> try (first | omega | (unfold In64; omega) | trivial | assumption))
              · intro q hq
                by_cases hqk : q = k
                · subst hqk; exact hkk
                · exact hv q (by omega)
        · have hkk := fin k hlt (by unfold vk plF; rw [decide_eq_false h1]; simp)
          simp -implicitDefEqProofs only [lk_normal, l1In_F, hkl, hV, h1, h2, hkk, and_self, decide_true, decide_false, bq1, bq2, ZB, Int.reduceToNat, Nat.reduceLT, Nat.reduceLeDiff, Int.reduceLE, Int.reduceLT, Nat.reduceEqDiff, Nat.reduceSub, SB, SV.known, packR, ne_eq, reduceCtorEq, Nat.reduceEqDiff, ↓reduceIte, if_true, if_false, eq_self, Nat.reduceAdd, Nat.reduceMul, Nat.reduceSub, forall_const, oneCellS, litOne, flat1, Kd.isSca, flat, TYB]
          (try (and_intros <;> try (first | omega | (unfold In64; omega) | trivial | assumption)))
      · have hkk := fin k hlt (by unfold vk in04; rw [decide_eq_false h2]; simp)
        simp -implicitDefEqProofs only [lk_normal, l1In_F, hkl, hV, h2, hkk, and_self, decide_true, decide_false, bq1, bq2, ZB, Int.reduceToNat, Nat.reduceLT, Nat.reduceLeDiff, Int.reduceLE, Int.reduceLT, Nat.reduceEqDiff, Nat.reduceSub, SB, SV.known, packR, ne_eq, reduceCtorEq, Nat.reduceEqDiff, ↓reduceIte, if_true, if_false, eq_self, Nat.reduceAdd, Nat.reduceMul, Nat.reduceSub, forall_const, oneCellS, litOne, flat1, Kd.isSca, flat, TYB]
        (try (and_intros <;> try (first | omega | (unfold In64; omega) | trivial | assumption)))
    · have hkl : ¬ (k : Int) < 6 := by omega
      obtain rfl : k = 6 := by omega
      have hok := vok_of hv
      obtain ⟨u1, u2, u3⟩ := vok_spec hok
      have eH : hidL (V.take 6) (V.drop 12) 6 = hidV V := rfl
      have hF : gdVF V = (decide (V.getD 12 0 = 0) && ((hidV V).drop 1).all in024 && decide (((hidV V).drop 1).sum = hmL (V.drop 6) 6)) := by
        unfold gdVF; rw [hok]; rfl
      rw [hF]
      simp -implicitDefEqProofs only [lk_normal, l7Hidden_F, hkl, hV, tkV, lenH, tkH, u1, u2, u3, eH, ZB, Int.reduceToNat, Nat.reduceLT, Nat.reduceLeDiff, Int.reduceLE, Int.reduceLT, Nat.reduceEqDiff, Nat.reduceSub, SB, SV.known, packR, ne_eq, reduceCtorEq, Nat.reduceEqDiff, ↓reduceIte, if_true, if_false, eq_self, Nat.reduceAdd, Nat.reduceMul, Nat.reduceSub, forall_const, oneCellS, litOne, flat1, Kd.isSca, flat, TYB]
      have hmb := hmL_bd (M := V.drop 6) (fun k hk => by have := u2 k hk; simpa [List.getD] using this) 6 (Nat.le_refl _)
      generalize hmL (V.drop 6) 6 = hm at *
      have lenD : ((hidV V).drop 1).length = 5 := by rw [List.length_drop]; omega
      have gD : ∀ k, ((hidV V).drop 1).getD k 0 = (hidV V).getD (k + 1) 0 := fun k => by simp [List.getD, Nat.add_comm]
      generalize hD : (hidV V).drop 1 = D at *
      refine loop_intro (fun k : Nat => [(7, .int ((k : Int) + 1)), (6, .int (D.take k).sum), (4, .int hm), (5, .ptr 1 0), (1, .ptr 0 0)]) (fun k => [(1, .ints (hidV V) 29), (0, .ints V 31)]) 2 (fun k => k ≤ 5 ∧ (D.take k).all in024 = true) (fun k => 6 - k) ?_ ?_
      · refine ⟨0, ?_, Sub.mk_id ?_ ?_ ?_ ?_ ?_⟩
        all_goals (try (simp only [List.take_zero, List.sum_nil, LB, subS, subH, wfS, wfH, SV.ren, renL, SObj.ren, SV.wf, SObj.wf, wfL, SV.known, Nat.reduceEqDiff, ↓reduceIte, if_true, if_false, eq_self, Nat.reduceAdd, Nat.reduceLT, Nat.reduceLeDiff, implies_true, reduceCtorEq, forall_const]; done))
        all_goals (try (simp only [List.take_zero, List.sum_nil, LB, subS, subH, wfS, wfH, SV.ren, renL, SObj.ren, SV.wf, SObj.wf, wfL, SV.known, Nat.reduceEqDiff, ↓reduceIte, if_true, if_false, eq_self, Nat.reduceAdd, Nat.reduceLT, Nat.reduceLeDiff, implies_true, reduceCtorEq, forall_const]; simp; done))
        all_goals (try (simp only [List.take_zero, List.sum_nil, LB, subS, subH, wfS, wfH, SV.ren, renL, SObj.ren, SV.wf, SObj.wf, wfL, SV.known, Nat.reduceEqDiff, ↓reduceIte, if_true, if_false, eq_self, Nat.reduceAdd, Nat.reduceLT, Nat.reduceLeDiff, implies_true, reduceCtorEq, forall_const]; (and_intros <;> (first | omega | rfl | (simp; done) | (simp; omega))); done))
        all_goals (try dsimp only)
        all_goals (and_intros <;> try (first | omega | (unfold In64; omega) | trivial | assumption))
        all_goals simp
      · rintro k ⟨hk, hA⟩
        have hb1 := sum_bd _ (all_bd hA in024_bd)
        have hl1 : (D.take k).length = k := by rw [List.length_take]; omega
        rw [hl1] at hb1
        by_cases hlt : k < 5
        · have hkl : (k : Int) + 1 ≤ 5 := by omega
          have tn : ((k : Int) + 1).toNat = k + 1 := by omega
          have k0 : 0 ≤ (k : Int) + 1 := by omega
          have k6 : (k : Int) + 1 < 6 := by omega
          have es : (D.take (k + 1)).sum = (D.take k).sum + D.getD k 0 := by
            rw [List.take_succ_eq_append_getElem (by omega), List.sum_append]
            simp [List.getD, List.getElem?_eq_getElem (show k < D.length by omega)]
          have ea := all_take_succ in024 D k (by omega)
          rw [hA, Bool.true_and] at ea
          by_cases h1 : 0 ≤ D.getD k 0 ∧ D.getD k 0 ≤ 24
          · have e1 : in024 (D.getD k 0) = true := decide_eq_true h1
            rw [e1] at ea
            simp -implicitDefEqProofs only [lk_normal, l1In_F, hkl, hV, lenH, tn, k0, k6, ← gD, h1, and_self, decide_true, ZB, Int.reduceToNat, Nat.reduceLT, Nat.reduceLeDiff, Int.reduceLE, Int.reduceLT, Nat.reduceEqDiff, Nat.reduceSub, SB, SV.known, packR, ne_eq, reduceCtorEq, Nat.reduceEqDiff, ↓reduceIte, if_true, if_false, eq_self, Nat.reduceAdd, Nat.reduceMul, Nat.reduceSub, forall_const, oneCellS, litOne, flat1, Kd.isSca, flat, TYB]
            (try (and_intros <;> try (first | omega | (unfold In64; omega) | trivial | assumption)))
            refine ⟨k + 1, ?_, ?_, Sub.mk_id ?_ ?_ ?_ ?_ ?_⟩
            all_goals (try (simp only [es, LB, subS, subH, wfS, wfH, SV.ren, renL, SObj.ren, SV.wf, SObj.wf, wfL, SV.known, Nat.reduceEqDiff, ↓reduceIte, if_true, if_false, eq_self, Nat.reduceAdd, Nat.reduceLT, Nat.reduceLeDiff, implies_true, reduceCtorEq, forall_const]; done))
            all_goals (try (simp only [es, LB, subS, subH, wfS, wfH, SV.ren, renL, SObj.ren, SV.wf, SObj.wf, wfL, SV.known, Nat.reduceEqDiff, ↓reduceIte, if_true, if_false, eq_self, Nat.reduceAdd, Nat.reduceLT, Nat.reduceLeDiff, implies_true, reduceCtorEq, forall_const]; simp; done))
            all_goals (try (simp only [es, LB, subS, subH, wfS, wfH, SV.ren, renL, SObj.ren, SV.wf, SObj.wf, wfL, SV.known, Nat.reduceEqDiff, ↓reduceIte, if_true, if_false, eq_self, Nat.reduceAdd, Nat.reduceLT, Nat.reduceLeDiff, implies_true, reduceCtorEq, forall_const]; (and_intros <;> (first | omega | rfl | (simp; done) | (simp; omega))); done))
            all_goals (try dsimp only)
            all_goals (and_intros <;> try (first | omega | (unfold In64; omega) | trivial | assumption))
          · have e1 : in024 (D.getD k 0) = false := decide_eq_false h1
            have ef : D.all in024 = false := by
              rw [List.all_eq_false]
              exact ⟨D.getD k 0, by rw [List.getD_eq_getElem?_getD, List.getElem?_eq_getElem (show k < D.length by omega)]; exact List.getElem_mem _, by rw [e1]; simp⟩
            simp -implicitDefEqProofs only [lk_normal, l1In_F, hkl, hV, lenH, tn, k0, k6, ← gD, h1, ef, and_self, decide_true, decide_false, ZB, Int.reduceToNat, Nat.reduceLT, Nat.reduceLeDiff, Int.reduceLE, Int.reduceLT, Nat.reduceEqDiff, Nat.reduceSub, SB, SV.known, packR, ne_eq, reduceCtorEq, Nat.reduceEqDiff, ↓reduceIte, if_true, if_false, eq_self, Nat.reduceAdd, Nat.reduceMul, Nat.reduceSub, forall_const, oneCellS, litOne, flat1, Kd.isSca, flat, TYB]
            (try (and_intros <;> try (first | omega | (unfold In64; omega) | trivial | assumption)))
            all_goals simp
        · have hkl : ¬ (k : Int) + 1 ≤ 5 := by omega
          obtain rfl : k = 5 := by omega
          have tD : D.take 5 = D := List.take_of_length_le (by omega)
          have hkl : ¬ (5 : Int) + 1 ≤ 5 := by omega
          rw [tD] at hA ⊢
          by_cases z0 : V.getD 12 0 = 0
          · simp -implicitDefEqProofs only [lk_normal, hkl, hV, z0, hA, decide_true, ZB, Int.reduceToNat, Nat.reduceLT, Nat.reduceLeDiff, Int.reduceLE, Int.reduceLT, Nat.reduceEqDiff, Nat.reduceSub, SB, SV.known, packR, ne_eq, reduceCtorEq, Nat.reduceEqDiff, ↓reduceIte, if_true, if_false, eq_self, Nat.reduceAdd, Nat.reduceMul, Nat.reduceSub, forall_const, oneCellS, litOne, flat1, Kd.isSca, flat, TYB]
          · simp -implicitDefEqProofs only [lk_normal, hkl, hV, z0, hA, decide_false, ZB, Int.reduceToNat, Nat.reduceLT, Nat.reduceLeDiff, Int.reduceLE, Int.reduceLT, Nat.reduceEqDiff, Nat.reduceSub, SB, SV.known, packR, ne_eq, reduceCtorEq, Nat.reduceEqDiff, ↓reduceIte, if_true, if_false, eq_self, Nat.reduceAdd, Nat.reduceMul, Nat.reduceSub, forall_const, oneCellS, litOne, flat1, Kd.isSca, flat, TYB]
def IsView_F : List SV → Heap → Option (Prop × SV)
  | [.arr V], _ => some (V.length = 18, .bool (isVF V))
  | _, _ => none
theorem IsView_T : ∀ args H p v, IsView_F args H = some (p, v) → p → PureH Try.prog 27 args H v := by
  intro args H p v h hp
  unfold IsView_F at h
  split at h
  · cases h; exact (IsView_ok _ hp).any _
  · cases h
/-! Both mean the same. -/
def I64 (V : List Int) : Prop := ∀ x ∈ V, In64 x
def tau (V : List Int) (c k : Nat) : Int := ((List.range k).map fun q => is1 ((V.take 6).getD q 0) (c : Int)).sum
theorem tau_bd (V : List Int) (c : Nat) : ∀ k, 0 ≤ tau V c k ∧ tau V c k ≤ k
  | 0 => by simp [tau]
  | k + 1 => by
    have := tau_bd V c k
    have hb := is1_bd ((V.take 6).getD k 0) (c : Int)
    unfold tau at *
    rw [List.range_succ, List.map_append, List.sum_append]
    simp only [List.map_cons, List.map_nil, List.sum_cons, List.sum_nil]
    omega
theorem tau_succ (V : List Int) (c k : Nat) : tau V c (k + 1) = tau V c k + is1 ((V.take 6).getD k 0) (c : Int) := by
  unfold tau
  rw [List.range_succ, List.map_append, List.sum_append]
  simp only [List.map_cons, List.map_nil, List.sum_cons, List.sum_nil]
  omega
theorem hid_cases {V : List Int} (hV : V.length = 18) (h64 : ∀ x ∈ V, In64 x) (hT : vTop V) {c : Nat} (hc : 1 ≤ c) (hc6 : c < 6) : ∀ k, k ≤ 6 → In64 ((hidL (V.take 6) (V.drop 12) k).getD c 0) ∧
    ((hidL (V.take 6) (V.drop 12) k).getD c 0 = (V.drop 12).getD c 0 - tau V c k ∨ (9223372036854775807 - (k : Int) ≤ (hidL (V.take 6) (V.drop 12) k).getD c 0 ∧ (V.drop 12).getD c 0 ≤ -9223372036854775808 + (k : Int)))
  | 0, _ => by
    have hx : In64 ((V.drop 12).getD c 0) := by
      have : (V.drop 12).getD c 0 ∈ V := by
        have h1 : c < (V.drop 12).length := by rw [List.length_drop]; omega
        rw [List.getD_eq_getElem?_getD, List.getElem?_eq_getElem h1]
        exact List.mem_of_mem_drop (List.getElem_mem h1)
      exact h64 _ this
    refine ⟨hx, .inl ?_⟩
    simp [tau, hidL]
  | k + 1, hk => by
    obtain ⟨h1, h2⟩ := hid_cases hV h64 hT hc hc6 k (by omega)
    have hl : (hidL (V.take 6) (V.drop 12) k).length = 6 := by rw [hidL_len, List.length_drop]; omega
    have ht := hT k (by omega)
    have ge := take6_get V k (by omega)
    rw [tau_succ, ge]
    unfold hidL
    rw [ge]
    split
    · rename_i hp
      by_cases hcc : (V.getD k 0).toNat = c
      · have e1 : is1 (V.getD k 0) (c : Int) = 1 := by unfold is1; rw [if_pos (by omega)]
        rw [e1, hcc, getD_set_eq _ _ _ (by omega)]
        by_cases hm : (hidL (V.take 6) (V.drop 12) k).getD c 0 = -9223372036854775808
        · have ew : wr ((hidL (V.take 6) (V.drop 12) k).getD c 0 - 1) = 9223372036854775807 := by rw [hm]; rfl
          rw [ew]
          have hb := tau_bd V c k
          refine ⟨by unfold In64; omega, .inr ?_⟩
          rcases h2 with h2 | h2 <;> omega
        · have ew : wr ((hidL (V.take 6) (V.drop 12) k).getD c 0 - 1) = (hidL (V.take 6) (V.drop 12) k).getD c 0 - 1 := wr_in (by unfold In64 at *; omega)
          rw [ew]
          refine ⟨by unfold In64 at *; omega, ?_⟩
          rcases h2 with h2 | h2
          · exact .inl (by omega)
          · exact .inr (by omega)
      · have e1 : is1 (V.getD k 0) (c : Int) = 0 := by unfold is1; rw [if_neg (by omega)]
        rw [e1, getD_set_ne _ _ _ _ hcc]
        refine ⟨h1, ?_⟩
        rcases h2 with h2 | h2
        · exact .inl (by omega)
        · exact .inr (by omega)
    · rename_i hp
      have e1 : is1 (V.getD k 0) (c : Int) = 0 := by unfold is1; rw [if_neg (by omega)]
      rw [e1]
      refine ⟨h1, ?_⟩
      rcases h2 with h2 | h2
      · exact .inl (by omega)
      · exact .inr (by omega)
theorem sum_six {l : List Int} (h : l.length = 6) : l.sum = l.getD 0 0 + l.getD 1 0 + l.getD 2 0 + l.getD 3 0 + l.getD 4 0 + l.getD 5 0 := by
  match l, h with
  | [a, b, c, d, e, f], _ => simp; omega
theorem sum_five {l : List Int} (h : l.length = 6) : (l.drop 1).sum = l.getD 1 0 + l.getD 2 0 + l.getD 3 0 + l.getD 4 0 + l.getD 5 0 := by
  match l, h with
  | [a, b, c, d, e, f], _ => simp; omega
theorem all_six {l : List Int} (h : l.length = 6) (pr : Int → Bool) : l.all pr = true ↔ ∀ k, k < 6 → pr (l.getD k 0) = true := by
  match l, h with
  | [a, b, c, d, e, f], _ =>
    simp only [List.all_cons, List.all_nil, Bool.and_true, Bool.and_eq_true]
    constructor
    · rintro ⟨h0, h1, h2, h3, h4, h5⟩ k hk
      rcases (show k = 0 ∨ k = 1 ∨ k = 2 ∨ k = 3 ∨ k = 4 ∨ k = 5 by omega) with rfl | rfl | rfl | rfl | rfl | rfl <;> assumption
    · intro g
      exact ⟨g 0 (by omega), g 1 (by omega), g 2 (by omega), g 3 (by omega), g 4 (by omega), g 5 (by omega)⟩
theorem all_five {l : List Int} (h : l.length = 6) (pr : Int → Bool) : (l.drop 1).all pr = true ↔ ∀ k, 1 ≤ k → k < 6 → pr (l.getD k 0) = true := by
  match l, h with
  | [a, b, c, d, e, f], _ =>
    simp only [List.drop_succ_cons, List.drop_zero, List.all_cons, List.all_nil, Bool.and_true, Bool.and_eq_true]
    constructor
    · rintro ⟨h1, h2, h3, h4, h5⟩ k hk hk6
      rcases (show k = 1 ∨ k = 2 ∨ k = 3 ∨ k = 4 ∨ k = 5 by omega) with rfl | rfl | rfl | rfl | rfl <;> assumption
    · intro g
      exact ⟨g 1 (by omega) (by omega), g 2 (by omega) (by omega), g 3 (by omega) (by omega), g 4 (by omega) (by omega), g 5 (by omega) (by omega)⟩
theorem hm_tau {V : List Int} (hT : vTop V) (hTM : vTM V) (hM : vMan V) : ∀ k, k ≤ 6 → hmL (V.drop 6) k + (tau V 1 k + tau V 2 k + tau V 3 k + tau V 4 k + tau V 5 k) = (((V.drop 6).take k)).sum
  | 0, _ => by simp [hmL, tau]
  | k + 1, hk => by
    have ih := hm_tau hT hTM hM k (by omega)
    have ht := hT k (by omega)
    have htm := hTM k (by omega)
    have hm := hM k (by omega)
    have gM : (V.drop 6).getD k 0 = V.getD (6 + k) 0 := by simp [List.getD]
    have ge := take6_get V k (by omega)
    have h5 : is1 (V.getD k 0) ((1 : Nat) : Int) + is1 (V.getD k 0) ((2 : Nat) : Int) + is1 (V.getD k 0) ((3 : Nat) : Int) + is1 (V.getD k 0) ((4 : Nat) : Int) + is1 (V.getD k 0) ((5 : Nat) : Int) = if V.getD k 0 = 0 then 0 else 1 := is1_sum ht
    rw [tau_succ, tau_succ, tau_succ, tau_succ, tau_succ, ge]
    have es : ((V.drop 6).take (k + 1)).sum = ((V.drop 6).take k).sum + V.getD (6 + k) 0 := by
      by_cases hlen : k < (V.drop 6).length
      · rw [List.take_succ_eq_append_getElem hlen, List.sum_append]
        rw [← gM]
        simp [List.getD, List.getElem?_eq_getElem hlen]
      · have : V.getD (6 + k) 0 = 0 := by
          rw [← gM, List.getD_eq_getElem?_getD, List.getElem?_eq_none (by omega)]; rfl
        rw [this, List.take_of_length_le (by omega), List.take_of_length_le (by omega)]; omega
    rw [es, hmL, gM]
    split
    · rename_i hp
      rw [if_neg (by omega)] at h5
      omega
    · rename_i hp
      rw [if_pos (by omega)] at h5
      omega
theorem good_view {V : List Int} (hV : V.length = 18) (h64 : ∀ x ∈ V, In64 x) : gdVF V = isVF V := by
  unfold gdVF isVF
  cases hv : vok V
  · rfl
  · obtain ⟨u1, u2, u3⟩ := vok_spec hv
    by_cases z0 : V.getD 12 0 = 0
    · have lenC : (V.drop 12).length = 6 := by rw [List.length_drop]; omega
      have lenH : (hidV V).length = 6 := by unfold hidV; rw [hidL_len]; exact lenC
      have c0 : (V.drop 12).getD 0 0 = 0 := by rw [show (V.drop 12).getD 0 0 = V.getD 12 0 by simp [List.getD]]; exact z0
      have h0 : (hidV V).getD 0 0 = 0 := by unfold hidV; rw [hidL_zero _ _ (by omega), c0]
      have hc := fun c h1 h2 => hid_cases hV h64 u1 (c := c) h1 h2 6 (Nat.le_refl _)
      have ht := hm_tau u1 u3 u2 6 (Nat.le_refl _)
      have t := fun c => tau_bd V c 6
      have sM : 0 ≤ ((V.drop 6).take 6).sum ∧ ((V.drop 6).take 6).sum ≤ 24 := by
        have lenM : ((V.drop 6).take 6).length = 6 := by rw [List.length_take, List.length_drop]; omega
        have gM : ∀ k, k < 6 → ((V.drop 6).take 6).getD k 0 = V.getD (6 + k) 0 := fun k hk => by simp [List.getD, List.getElem?_take, hk]
        rw [sum_six lenM, gM 0 (by omega), gM 1 (by omega), gM 2 (by omega), gM 3 (by omega), gM 4 (by omega), gM 5 (by omega)]
        have := u2 0 (by omega); have := u2 1 (by omega); have := u2 2 (by omega); have := u2 3 (by omega); have := u2 4 (by omega); have := u2 5 (by omega)
        omega
      simp only [z0, decide_true, Bool.true_and]
      rw [Bool.eq_iff_iff, Bool.and_eq_true, Bool.and_eq_true, Bool.and_eq_true, decide_eq_true_eq, decide_eq_true_eq, all_five lenH, all_six lenC, all_six lenH, sum_five lenH, sum_six lenC, c0]
      have hh : ∀ c, (hidL (V.take 6) (V.drop 12) 6).getD c 0 = (hidV V).getD c 0 := fun c => rfl
      simp only [hh] at hc
      generalize hidV V = H at *
      generalize V.drop 12 = C at *
      generalize ((V.drop 6).take 6).sum = sm at *
      generalize hmL (V.drop 6) 6 = hm at *
      have t1 := t 1; have t2 := t 2; have t3 := t 3; have t4 := t 4; have t5 := t 5
      have c1 := hc 1 (by omega) (by omega); have c2 := hc 2 (by omega) (by omega); have c3 := hc 3 (by omega) (by omega); have c4 := hc 4 (by omega) (by omega); have c5 := hc 5 (by omega) (by omega)
      clear hc t
      unfold In64 at *
      constructor
      · rintro ⟨g, e⟩
        have g1 := in024_bd _ (g 1 (by omega) (by omega)); have g2 := in024_bd _ (g 2 (by omega) (by omega)); have g3 := in024_bd _ (g 3 (by omega) (by omega)); have g4 := in024_bd _ (g 4 (by omega) (by omega)); have g5 := in024_bd _ (g 5 (by omega) (by omega))
        refine ⟨⟨fun k hk => ?_, fun k hk => ?_⟩, by omega⟩
        · refine decide_eq_true ?_
          rcases (show k = 0 ∨ k = 1 ∨ k = 2 ∨ k = 3 ∨ k = 4 ∨ k = 5 by omega) with rfl | rfl | rfl | rfl | rfl | rfl <;> omega
        · refine decide_eq_true ?_
          rcases (show k = 0 ∨ k = 1 ∨ k = 2 ∨ k = 3 ∨ k = 4 ∨ k = 5 by omega) with rfl | rfl | rfl | rfl | rfl | rfl <;> omega
      · rintro ⟨⟨gc, gh⟩, e⟩
        have g1 := in024_bd _ (gc 1 (by omega)); have g2 := in024_bd _ (gc 2 (by omega)); have g3 := in024_bd _ (gc 3 (by omega)); have g4 := in024_bd _ (gc 4 (by omega)); have g5 := in024_bd _ (gc 5 (by omega))
        have nb : ∀ x, nn x = true → 0 ≤ x := fun x h => of_decide_eq_true h
        have n1 := nb _ (gh 1 (by omega)); have n2 := nb _ (gh 2 (by omega)); have n3 := nb _ (gh 3 (by omega)); have n4 := nb _ (gh 4 (by omega)); have n5 := nb _ (gh 5 (by omega))
        refine ⟨fun k h1 hk => decide_eq_true ?_, ?_⟩
        · rcases (show k = 1 ∨ k = 2 ∨ k = 3 ∨ k = 4 ∨ k = 5 by omega) with rfl | rfl | rfl | rfl | rfl <;> omega
        · omega
    · simp only [z0, decide_false, Bool.and_false, Bool.false_and]
end Go.Proofs.Ytckcojgfgcjamaa
set_option maxRecDepth 100000
set_option linter.unusedSimpArgs false
set_option linter.unusedVariables false
namespace Go.Proofs.Ytckcojgfgcjamaa
open Go Go.RowKit

structure UpdP (P : Program) (f : FuncId) (args : List SV) (b : Nat) (H0 : Heap) (o o' : SObj) (r : SV) : Prop where
  ent : Entd P f
  lo : o.live = true
  wo : ∀ n, o'.wf n
  call : ∀ B w, HR B ((b, o) :: H0) w → Calls P f (denL B args).toArray w fun e w' => e = .returned (r.den B) ∧ Kept (fun i => i = B b ∨ w.heap.size ≤ i) w w' ∧ w'.heap[B b]? = some (o'.den B)

/-- A heap that holds another one. -/
def Ext (Hc H : Heap) : Prop := ∀ k o, hget Hc k = some o → hget H k = some o
theorem Ext.refl (H : Heap) : Ext H H := fun _ _ h => h
theorem Ext.cons {Hc H : Heap} {b : Nat} {o : SObj} {n : Nat} (hw : hwf n Hc) (hb : n ≤ b) (h : Ext Hc H) : Ext Hc ((b, o) :: H) := fun k o1 hk => by
  have := (hw k o1 hk).1
  rw [hget_cons, if_neg (by omega)]
  exact h k o1 hk
end Go.Proofs.Ytckcojgfgcjamaa
set_option maxRecDepth 100000
set_option linter.unusedSimpArgs false
set_option linter.unusedVariables false
namespace Go.Proofs.Ytckcojgfgcjamaa
open Go Go.RowKit
def chk (L : List Int) (off len : Nat) : List (List Int) := (List.range len).map fun i => (L.drop (off + i * 2)).take 2
/-- What is kept. -/
def kept (np : List Int → Bool) (L : List Int) (k : Nat) : List Int := ((chk L 0 k).filter np).flatten
end Go.Proofs.Ytckcojgfgcjamaa
set_option maxRecDepth 100000
set_option linter.unusedSimpArgs false
set_option linter.unusedVariables false
namespace Go.Proofs.Ytckcojgfgcjamaa
open Go Go.RowKit
/-! DeleteFunc with a closure over one rack. -/
--@tbl delR = slices.DeleteFunc[[][2]int,[2]int]
/-! The model's. -/
--@tbl l2Idle = spec.l2Idle
--@tbl l2Useful = spec.l2Useful
end Go.Proofs.Ytckcojgfgcjamaa
