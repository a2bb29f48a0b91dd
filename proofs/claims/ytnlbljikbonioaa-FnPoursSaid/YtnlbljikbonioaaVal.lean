/- Plain: pours and moves leave valid racks. -/
import Derived.Test.YtnlbljikbonioaaN
set_option maxRecDepth 100000
set_option linter.unusedSimpArgs false
set_option linter.unusedVariables false
namespace Go.Proofs.Ytnlbljikbonioaa
open Go Go.RowKit
theorem tube_cells {t : List Int} (ht : t.length = 4) (hb : tubeB t = true) : (∀ b, b < layN t → 1 ≤ t.getD b 0 ∧ t.getD b 0 ≤ 5) ∧ (∀ b, layN t ≤ b → t.getD b 0 = 0) := by
  have hle := lay_le t ht
  unfold tubeB at hb
  simp only [Bool.and_eq_true] at hb
  constructor
  · intro b hbn
    have hlt : b < t.length := by omega
    have := List.all_eq_true.1 hb.1 (t.getD b 0) (by
      simp only [List.getD, List.getElem?_eq_getElem hlt, Option.getD_some]
      exact List.mem_take_iff_getElem.2 ⟨b, by omega, rfl⟩)
    simpa [coT] using this
  · intro b hbn
    rcases Nat.lt_or_ge b 4 with h4 | h4
    · have hlt : b < t.length := by omega
      have := List.all_eq_true.1 hb.2 (t.getD b 0) (by
        simp only [List.getD, List.getElem?_eq_getElem hlt, Option.getD_some]
        exact List.mem_drop_iff_getElem.2 ⟨b - layN t, by omega, by congr 1; omega⟩)
      simpa [is0] using this
    · simp [List.getD, List.getElem?_eq_none (show t.length ≤ b by omega)]
theorem tube_of {t : List Int} (ht : t.length = 4) {n : Nat} (hn : n ≤ 4) (h1 : ∀ b, b < n → 1 ≤ t.getD b 0 ∧ t.getD b 0 ≤ 5) (h2 : ∀ b, n ≤ b → b < 4 → t.getD b 0 = 0) : tubeB t = true ∧ layN t = n := by
  have hl : layN t = n := by
    unfold layN
    rcases Nat.lt_or_ge n 4 with h4 | h4
    · have : t.findIdx? isZ0 = some n := by
        rw [List.findIdx?_eq_some_iff_getElem]
        refine ⟨by omega, ?_, fun j hj => ?_⟩
        · have := h2 n (by omega) h4
          simp only [List.getD, List.getElem?_eq_getElem (show n < t.length by omega), Option.getD_some] at this
          simp [isZ0, this]
        · have := h1 j hj
          simp only [List.getD, List.getElem?_eq_getElem (show j < t.length by omega), Option.getD_some] at this
          simp [isZ0]; omega
      rw [this]; rfl
    · have : t.findIdx? isZ0 = none := by
        rw [List.findIdx?_eq_none_iff]
        intro x hx
        obtain ⟨k, hk, rfl⟩ := List.getElem_of_mem hx
        have := h1 k (by omega)
        simp only [List.getD, List.getElem?_eq_getElem hk, Option.getD_some] at this
        simp [isZ0]; omega
      rw [this]
      simp; omega
  refine ⟨?_, hl⟩
  unfold tubeB
  rw [hl]
  simp only [Bool.and_eq_true]
  constructor
  · rw [List.all_eq_true]
    intro x hx
    obtain ⟨k, hk, rfl⟩ := List.mem_take_iff_getElem.1 hx
    have := h1 k (by omega)
    simp only [List.getD, List.getElem?_eq_getElem (show k < t.length by omega), Option.getD_some] at this
    simpa [coT] using this
  · rw [List.all_eq_true]
    intro x hx
    obtain ⟨k, hk, rfl⟩ := List.mem_drop_iff_getElem.1 hx
    have := h2 (n + k) (by omega) (by omega)
    simp only [List.getD, List.getElem?_eq_getElem (show n + k < t.length by omega), Option.getD_some] at this
    simpa [is0] using this
theorem rack_tubes {R : List Int} : rackB R = true ↔ ∀ i, i < 6 → tubeB (tubeAt R i) = true := by
  unfold rackB tubesOf tubeAt
  simp only [List.all_map, List.all_eq_true, List.mem_range, Function.comp, Nat.zero_add]
theorem tubeAt_getD (R : List Int) (i k : Nat) (h : k < 4) : (tubeAt R i).getD k 0 = R.getD (i * 4 + k) 0 := cut_getD R i k h
theorem tubeAt_ext {R R' : List Int} {i j : Nat} (h1 : (tubeAt R i).length = 4) (h2 : (tubeAt R' j).length = 4) (h : ∀ k, k < 4 → R.getD (i * 4 + k) 0 = R'.getD (j * 4 + k) 0) : tubeAt R i = tubeAt R' j := by
  apply List.ext_getElem (by omega)
  intro k hk1 hk2
  have e1 := tubeAt_getD R i k (by omega)
  have e2 := tubeAt_getD R' j k (by omega)
  have := h k (by omega)
  simp only [List.getD, List.getElem?_eq_getElem hk1, List.getElem?_eq_getElem hk2, Option.getD_some] at e1 e2 this
  rw [e1, e2]; exact this
theorem getD_set' (L : List Int) (a b : Nat) (x : Int) (h : a < L.length) : (L.set a x).getD b 0 = if a = b then x else L.getD b 0 := by
  simp only [List.getD, List.getElem?_set]
  split
  · simp [h]
  · rfl
/-- The cells of a rack behind some moved layers. -/
theorem pmR_cell {R : List Int} (hR : R.length = 24) {i j : Nat} (hi : i < 6) (hj : j < 6) (hij : i ≠ j) : ∀ m, m ≤ layN (tubeAt R i) → m + layN (tubeAt R j) ≤ 4 → ∀ a b, a < 6 → b < 4 →
    (pmR R i j m).getD (a * 4 + b) 0 = if a = i ∧ layN (tubeAt R i) - m ≤ b ∧ b < layN (tubeAt R i) then 0 else if a = j ∧ layN (tubeAt R j) ≤ b ∧ b < layN (tubeAt R j) + m then (topF (tubeAt R i)).1 else R.getD (a * 4 + b) 0
  | 0, _, _, a, b, _, _ => by
    simp only [pmR]
    rw [if_neg (by omega), if_neg (by omega)]
  | m + 1, hm, hm2, a, b, ha, hb => by
    have hli := lay_le _ (tubeAt_len hR hi)
    have hlj := lay_le _ (tubeAt_len hR hj)
    have ih := pmR_cell hR hi hj hij m (by omega) (by omega) a b ha hb
    simp only [pmR]
    rw [getD_set' _ _ _ _ (by rw [List.length_set, pmR_len]; omega), getD_set' _ _ _ _ (by rw [pmR_len]; omega), ih]
    by_cases h1 : j * 4 + (layN (tubeAt R j) + m) = a * 4 + b
    · have haj : a = j := by omega
      subst haj
      rw [if_pos h1, if_neg (by omega), if_pos (by omega)]
    · rw [if_neg h1]
      by_cases h2 : i * 4 + (layN (tubeAt R i) - 1 - m) = a * 4 + b
      · have hai : a = i := by omega
        subst hai
        rw [if_pos h2, if_pos (by omega)]
      · rw [if_neg h2]
        by_cases h3 : a = i ∧ layN (tubeAt R i) - m ≤ b ∧ b < layN (tubeAt R i)
        · rw [if_pos h3, if_pos (by omega)]
        · rw [if_neg h3]
          by_cases h4 : a = i ∧ layN (tubeAt R i) - (m + 1) ≤ b ∧ b < layN (tubeAt R i)
          · omega
          · rw [if_neg h4]
            by_cases h5 : a = j ∧ layN (tubeAt R j) ≤ b ∧ b < layN (tubeAt R j) + m
            · rw [if_pos h5, if_pos (by omega)]
            · rw [if_neg h5, if_neg (by omega)]
theorem top_co {t : List Int} (ht : t.length = 4) (hb : tubeB t = true) (h0 : 0 < layN t) : 1 ≤ (topF t).1 ∧ (topF t).1 ≤ 5 := by
  obtain ⟨r, h1, h2⟩ := topF_run t ht h0
  rw [h1]
  exact (tube_cells ht hb).1 _ (by omega)
theorem pm_facts {R : List Int} (hR : R.length = 24) (hr : rackB R = true) {i j : Nat} (hi : i < 6) (hj : j < 6) (hij : i ≠ j) {m : Nat} (hm : m ≤ layN (tubeAt R i)) (hm2 : m + layN (tubeAt R j) ≤ 4) :
    (tubeB (tubeAt (pmR R i j m) i) = true ∧ layN (tubeAt (pmR R i j m) i) = layN (tubeAt R i) - m) ∧ (tubeB (tubeAt (pmR R i j m) j) = true ∧ layN (tubeAt (pmR R i j m) j) = layN (tubeAt R j) + m) ∧
    (∀ k, k < 6 → k ≠ i → k ≠ j → tubeAt (pmR R i j m) k = tubeAt R k) := by
  have hP : (pmR R i j m).length = 24 := by rw [pmR_len, hR]
  have hc := pmR_cell hR hi hj hij m hm hm2
  have hli := tubeAt_len hR hi
  have hlj := tubeAt_len hR hj
  have ci := tube_cells hli (tubeAt_ok hr hi)
  have cj := tube_cells hlj (tubeAt_ok hr hj)
  have li := lay_le _ hli
  refine ⟨tube_of (tubeAt_len hP hi) (by omega) (fun b hb => ?_) (fun b hb hb4 => ?_), tube_of (tubeAt_len hP hj) (by omega) (fun b hb => ?_) (fun b hb hb4 => ?_), fun k hk h1 h2 => ?_⟩
  · rw [tubeAt_getD _ _ _ (by omega), hc i b hi (by omega), if_neg (by omega), if_neg (by omega), ← tubeAt_getD _ _ _ (by omega)]
    exact ci.1 b (by omega)
  · rw [tubeAt_getD _ _ _ hb4, hc i b hi hb4]
    by_cases h3 : b < layN (tubeAt R i)
    · rw [if_pos ⟨rfl, hb, h3⟩]
    · rw [if_neg (by omega), if_neg (by omega), ← tubeAt_getD _ _ _ hb4]
      exact ci.2 b (by omega)
  · rw [tubeAt_getD _ _ _ (by omega), hc j b hj (by omega), if_neg (by omega)]
    by_cases h3 : layN (tubeAt R j) ≤ b
    · rw [if_pos (by omega)]
      exact top_co hli (tubeAt_ok hr hi) (by omega)
    · rw [if_neg (by omega), ← tubeAt_getD _ _ _ (by omega)]
      exact cj.1 b (by omega)
  · rw [tubeAt_getD _ _ _ hb4, hc j b hj hb4, if_neg (by omega), if_neg (by omega), ← tubeAt_getD _ _ _ hb4]
    exact cj.2 b (by omega)
  · refine tubeAt_ext (tubeAt_len hP hk) (tubeAt_len hR hk) fun b hb => ?_
    rw [hc k b hk hb, if_neg (by omega), if_neg (by omega)]
theorem pm_rack {R : List Int} (hR : R.length = 24) (hr : rackB R = true) {i j : Nat} (hi : i < 6) (hj : j < 6) (hij : i ≠ j) {m : Nat} (hm : m ≤ layN (tubeAt R i)) (hm2 : m + layN (tubeAt R j) ≤ 4) : rackB (pmR R i j m) = true := by
  obtain ⟨h1, h2, h3⟩ := pm_facts hR hr hi hj hij hm hm2
  rw [rack_tubes]
  intro k hk
  by_cases hki : k = i
  · rw [hki]; exact h1.1
  · by_cases hkj : k = j
    · rw [hkj]; exact h2.1
    · rw [h3 k hk hki hkj]; exact tubeAt_ok hr hk
theorem can_facts {R : List Int} {i j : Int} (hR : R.length = 24) (hr : rackB R = true) (hi : 0 ≤ i ∧ i ≤ 5) (hj : 0 ≤ j ∧ j ≤ 5) (h : canF R i j = true) : i ≠ j ∧ 0 < layN (tubeAt R i.toNat) ∧ layN (tubeAt R j.toNat) < 4 ∧ 0 < pmN R i.toNat j.toNat ∧
    (pmN R i.toNat j.toNat).toNat ≤ layN (tubeAt R i.toNat) ∧ (pmN R i.toNat j.toNat).toNat + layN (tubeAt R j.toNat) ≤ 4 ∧ pmN R i.toNat j.toNat ≤ 4 := by
  simp only [canF, Bool.and_eq_true, Bool.not_eq_true', decide_eq_false_iff_not, decide_eq_true_eq] at h
  have hli := tubeAt_len hR (i := i.toNat) (by omega)
  have hlj := tubeAt_len hR (i := j.toNat) (by omega)
  have tp := top_pos _ hli (tubeAt_ok hr (by omega))
  have tl := topF_le _ hli
  have h0 := tp.1.1 h.1.1.2
  have h2 := tp.2.2 h0
  have := lay_le _ hlj
  have := lay_le _ hli
  unfold pmN
  refine ⟨h.1.1.1, h0, by omega, by omega, by omega, by omega, by omega⟩
theorem pour_rack {R : List Int} {i j : Int} (hR : R.length = 24) (hr : rackB R = true) (hi : 0 ≤ i ∧ i ≤ 5) (hj : 0 ≤ j ∧ j ≤ 5) (h : canF R i j = true) : rackB (pourF R i.toNat j.toNat) = true := by
  obtain ⟨h1, h2, h3, h4, h5, h6, _⟩ := can_facts hR hr hi hj h
  exact pm_rack hR hr (by omega) (by omega) (by omega) h5 h6
end Go.Proofs.Ytnlbljikbonioaa
