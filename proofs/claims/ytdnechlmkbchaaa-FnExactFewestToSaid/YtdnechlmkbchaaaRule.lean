/- Walks: pours by rules. -/
import Derived.Test.YtdnechlmkbchaaaBnd
import Derived.Test.YtdnechlmkbchaaaGL
set_option maxRecDepth 100000
set_option linter.unusedSimpArgs false
set_option linter.unusedVariables false
namespace Go.Proofs.Ytdnechlmkbchaaa
open Go Go.RowKit
def roomF (R D : List Int) (j : Nat) : Int := D.getD j 0 - (layN (tubeAt R j) : Int)
def movF (R D : List Int) (u i j : Int) : Int :=
  if i = j ∨ (topF (tubeAt R i.toNat)).1 = 0 ∨ roomF R D j.toNat = 0 then 0 else if u = 4 then 1
  else if (topF (tubeAt R j.toNat)).1 ≠ 0 ∧ (topF (tubeAt R j.toNat)).1 ≠ (topF (tubeAt R i.toNat)).1 then 0
  else if u = 2 then 1 else if u = 3 ∧ roomF R D j.toNat < (topF (tubeAt R i.toNat)).2 then 0 else min (topF (tubeAt R i.toNat)).2 (roomF R D j.toNat)
def ruF (u : Int) : Bool := decide (1 ≤ u ∧ u ≤ 4)
--@tbl isRule = impl.isRule
--@tbl l8Rule = spec.l8Rule
/-- Depths that a rack fits. -/
def forB (R D : List Int) : Bool := rackB R && D.all isDep && fitF R D
theorem forB_facts {R D : List Int} (hD : D.length = 6) (h : forB R D = true) : rackB R = true ∧ D.all isDep = true ∧ fitF R D = true ∧ ∀ j, j < 6 → 1 ≤ D.getD j 0 ∧ D.getD j 0 ≤ 4 ∧ 0 ≤ roomF R D j ∧ roomF R D j ≤ 4 - (layN (tubeAt R j) : Int) := by
  simp only [forB, Bool.and_eq_true] at h
  refine ⟨h.1.1, h.1.2, h.2, fun j hj => ?_⟩
  have h1 := List.all_eq_true.1 h.1.2 (D.getD j 0) (by
    simp only [List.getD, List.getElem?_eq_getElem (show j < D.length by omega), Option.getD_some]
    exact List.getElem_mem _)
  have h2 : 1 ≤ D.getD j 0 ∧ D.getD j 0 ≤ 4 := by simpa [isDep] using h1
  have h3 := h.2
  unfold fitF at h3
  have h4 := List.all_eq_true.1 h3 j (List.mem_range.2 hj)
  have h5 : (layN (tubeAt R j) : Int) ≤ D.getD j 0 := by simpa using h4
  unfold roomF
  omega
--@tbl isFor = impl.isFor
--@tbl movedBy = impl.movedBy
theorem top_zero (t : List Int) (ht : t.length = 4) (hb : tubeB t = true) : ((topF t).1 = 0 ↔ layN t = 0) ∧ ((topF t).2 = 0 ↔ layN t = 0) := by
  rcases Nat.eq_zero_or_pos (layN t) with h0 | h0
  · have : topF t = (0, 0) := by simp [topF, runsL, h0]
    simp [this, h0]
  · have tp := top_pos t ht hb
    have := tp.1.2 h0
    have := tp.2.2 h0
    omega
--@tbl l8Moves = spec.l8Moves
/-! Moved layers. -/
def mvR (R : List Int) (i j : Nat) : Nat → List Int
  | 0 => R
  | k + 1 => ((mvR R i j k).set (j * 4 + (layN (tubeAt R j) + k)) ((mvR R i j k).getD (i * 4 + (layN (tubeAt R i) - 1 - k)) 0)).set (i * 4 + (layN (tubeAt R i) - 1 - k)) 0
theorem mvR_len (R : List Int) (i j : Nat) : ∀ k, (mvR R i j k).length = R.length
  | 0 => rfl
  | k + 1 => by simp [mvR, mvR_len R i j k]
theorem mvR_cell {R : List Int} (hR : R.length = 24) {i j : Nat} (hi : i < 6) (hj : j < 6) (hij : i ≠ j) : ∀ m, m ≤ layN (tubeAt R i) → m + layN (tubeAt R j) ≤ 4 → ∀ a b, a < 6 → b < 4 →
    (mvR R i j m).getD (a * 4 + b) 0 = if a = i ∧ layN (tubeAt R i) - m ≤ b ∧ b < layN (tubeAt R i) then 0 else if a = j ∧ layN (tubeAt R j) ≤ b ∧ b < layN (tubeAt R j) + m then R.getD (i * 4 + (layN (tubeAt R i) - 1 - (b - layN (tubeAt R j)))) 0 else R.getD (a * 4 + b) 0
  | 0, _, _, a, b, _, _ => by
    simp only [mvR]
    rw [if_neg (by omega), if_neg (by omega)]
  | m + 1, hm, hm2, a, b, ha, hb => by
    have hli := lay_le _ (tubeAt_len hR hi)
    have hlj := lay_le _ (tubeAt_len hR hj)
    have ih := mvR_cell hR hi hj hij m (by omega) (by omega)
    have it := ih i (layN (tubeAt R i) - 1 - m) hi (by omega)
    rw [if_neg (by omega), if_neg (by omega)] at it
    simp only [mvR]
    rw [getD_set' _ _ _ _ (by rw [List.length_set, mvR_len]; omega), getD_set' _ _ _ _ (by rw [mvR_len]; omega), it, ih a b ha hb]
    by_cases h1 : i * 4 + (layN (tubeAt R i) - 1 - m) = a * 4 + b
    · have hai : a = i := by omega
      subst hai
      rw [if_pos h1, if_pos (by omega)]
    · rw [if_neg h1]
      by_cases h2 : j * 4 + (layN (tubeAt R j) + m) = a * 4 + b
      · have haj : a = j := by omega
        subst haj
        rw [if_pos h2, if_neg (by omega), if_pos (by omega)]
        have : b = layN (tubeAt R a) + m := by omega
        subst this
        congr 2; omega
      · rw [if_neg h2]
        by_cases h3 : a = i ∧ layN (tubeAt R i) - m ≤ b ∧ b < layN (tubeAt R i)
        · rw [if_pos h3, if_pos (by omega)]
        · rw [if_neg h3]
          by_cases h4 : a = i ∧ layN (tubeAt R i) - (m + 1) ≤ b ∧ b < layN (tubeAt R i)
          · omega
          · rw [if_neg h4]
            by_cases h5 : a = j ∧ layN (tubeAt R j) ≤ b ∧ b < layN (tubeAt R j) + m
            · rw [if_pos h5, if_pos (by omega)]
            · rw [if_neg h5, if_neg (by omega)]
theorem mv_facts {R : List Int} (hR : R.length = 24) (hr : rackB R = true) {i j : Nat} (hi : i < 6) (hj : j < 6) (hij : i ≠ j) {m : Nat} (hm : m ≤ layN (tubeAt R i)) (hm2 : m + layN (tubeAt R j) ≤ 4) :
    (tubeB (tubeAt (mvR R i j m) i) = true ∧ layN (tubeAt (mvR R i j m) i) = layN (tubeAt R i) - m) ∧ (tubeB (tubeAt (mvR R i j m) j) = true ∧ layN (tubeAt (mvR R i j m) j) = layN (tubeAt R j) + m) ∧
    (∀ k, k < 6 → k ≠ i → k ≠ j → tubeAt (mvR R i j m) k = tubeAt R k) := by
  have hP : (mvR R i j m).length = 24 := by rw [mvR_len, hR]
  have hc := mvR_cell hR hi hj hij m hm hm2
  have hli := tubeAt_len hR hi
  have hlj := tubeAt_len hR hj
  have ci := tube_cells hli (tubeAt_ok hr hi)
  have cj := tube_cells hlj (tubeAt_ok hr hj)
  have li := lay_le _ hli
  refine ⟨tube_of (tubeAt_len hP hi) (by omega) (fun b hb => ?_) (fun b hb hb4 => ?_), tube_of (tubeAt_len hP hj) (by omega) (fun b hb => ?_) (fun b hb hb4 => ?_), fun k hk h1 h2 => ?_⟩
  · rw [tubeAt_getD _ _ _ (by omega), hc i b hi (by omega), if_neg (by omega), if_neg (by omega), ← tubeAt_getD _ _ _ (by omega)]
    exact ci.1 b (by omega)
  · rw [tubeAt_getD _ _ _ hb4, hc i b hi hb4]
    by_cases h3 : b < layN (tubeAt R i)
    · rw [if_pos ⟨rfl, hb, h3⟩]
    · rw [if_neg (by omega), if_neg (by omega), ← tubeAt_getD _ _ _ hb4]
      exact ci.2 b (by omega)
  · rw [tubeAt_getD _ _ _ (by omega), hc j b hj (by omega), if_neg (by omega)]
    by_cases h3 : layN (tubeAt R j) ≤ b
    · rw [if_pos (by omega), ← tubeAt_getD _ _ _ (by omega)]
      exact ci.1 _ (by omega)
    · rw [if_neg (by omega), ← tubeAt_getD _ _ _ (by omega)]
      exact cj.1 b (by omega)
  · rw [tubeAt_getD _ _ _ hb4, hc j b hj hb4, if_neg (by omega), if_neg (by omega), ← tubeAt_getD _ _ _ hb4]
    exact cj.2 b (by omega)
  · refine tubeAt_ext (tubeAt_len hP hk) (tubeAt_len hR hk) fun b hb => ?_
    rw [hc k b hk hb, if_neg (by omega), if_neg (by omega)]
theorem mv_rack {R : List Int} (hR : R.length = 24) (hr : rackB R = true) {i j : Nat} (hi : i < 6) (hj : j < 6) (hij : i ≠ j) {m : Nat} (hm : m ≤ layN (tubeAt R i)) (hm2 : m + layN (tubeAt R j) ≤ 4) : rackB (mvR R i j m) = true := by
  obtain ⟨h1, h2, h3⟩ := mv_facts hR hr hi hj hij hm hm2
  rw [rack_tubes]
  intro k hk
  by_cases hki : k = i
  · rw [hki]; exact h1.1
  · by_cases hkj : k = j
    · rw [hkj]; exact h2.1
    · rw [h3 k hk hki hkj]; exact tubeAt_ok hr hk
theorem movF_bd {R D : List Int} {u i j : Int} (hR : R.length = 24) (hD : D.length = 6) (hf : forB R D = true) (hi : 0 ≤ i ∧ i ≤ 5) (hj : 0 ≤ j ∧ j ≤ 5) : 0 ≤ movF R D u i j ∧ (movF R D u i j = 0 ∨ (i ≠ j ∧ (movF R D u i j).toNat ≤ layN (tubeAt R i.toNat) ∧ (movF R D u i j).toNat + layN (tubeAt R j.toNat) ≤ 4)) := by
  have ff := forB_facts hD hf
  have f2 := ff.2.2.2 j.toNat (by omega)
  have li := tubeAt_len hR (i := i.toNat) (by omega)
  have bi := tubeAt_ok ff.1 (i := i.toNat) (by omega)
  have tl := topF_le _ li
  have tp := top_pos _ li bi
  have lle := lay_le _ li
  have tc : (topF (tubeAt R i.toNat)).1 = 0 ∨ 0 < layN (tubeAt R i.toNat) := by
    rcases Nat.eq_zero_or_pos (layN (tubeAt R i.toNat)) with h0 | h0
    · left; simp [topF, runsL, h0]
    · exact .inr h0
  unfold movF
  repeat' split
  all_goals omega
--@tbl move = impl.move
--@tbl l8Move = spec.l8Move
--@tbl l8Fits2 = spec.l8Fits
def pbB (R D : List Int) (u : Int) (i j : Nat) : Bool := decide (0 < movF R D u i j)
end Go.Proofs.Ytdnechlmkbchaaa
