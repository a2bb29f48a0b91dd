/- Texts of this claim, joined (BH3, LayI, SrtI, BH4, Draw). -/
import Derived.Test.YtopfnkmlgcjpbaaQ1
import Derived.Test.YtopfnkmlgcjpbaaQ2
import Derived.Test.YtopfnkmlgcjpbaaQ3
import Derived.Test.YtopfnkmlgcjpbaaQ4
import Derived.Test.YtopfnkmlgcjpbaaQ5
import Derived.Test.YtopfnkmlgcjpbaaQ6
import Derived.Shelf.SortM.Plain
import Derived.Shelf.SlGeneric
import Derived.Test.YtopfnkmlgcjpbaaProg
/- Plain: what a pour does to runs, boundaries and the bound. -/
set_option maxRecDepth 100000
set_option linter.unusedSimpArgs false
set_option linter.unusedVariables false
namespace Go.Proofs.Ytopfnkmlgcjpbaa
open Go Go.RowKit
theorem RLlast (t : List Int) (ht : t.length = 4) : ∀ i, 0 < i → i ≤ 4 → (RL t i).getD ((RL t i).length - 2) 0 = t.getD (i - 1) 0 := fun i h0 hi => (nd_runs t ht i hi).2 h0
def RLn (t : List Int) (i : Nat) : Nat := (RL t i).length / 2
theorem RLn_zero (t : List Int) : RLn t 0 = 0 := by simp [RLn, RL_zero]
theorem RLn_succ (t : List Int) (ht : t.length = 4) (i : Nat) (hi : i < 4) : RLn t (i + 1) = RLn t i + if 0 < i ∧ t.getD (i - 1) 0 = t.getD i 0 then 0 else 1 := by
  obtain ⟨n, n1, n2, n3⟩ := RL_even t ht i (by omega)
  unfold RLn
  rw [RL_succ t i (by omega)]
  unfold stepR
  by_cases h : 0 < i ∧ t.getD (i - 1) 0 = t.getD i 0
  · have hl := RLlast t ht i h.1 (by omega)
    have := n3 h.1
    rw [if_pos h, if_pos ⟨by omega, by rw [hl]; exact h.2⟩, List.length_set]; omega
  · rw [if_neg h, if_neg, List.length_append, n1]
    · simp only [List.length_cons, List.length_nil]; omega
    · rintro ⟨h1, h2⟩
      rcases Nat.eq_zero_or_pos i with h0 | h0
      · subst h0; rw [RL_zero] at h1; simp at h1
      · rw [RLlast t ht i h0 (by omega)] at h2
        exact h ⟨h0, h2⟩
theorem RLn_congr {t s : List Int} (ht : t.length = 4) (hs : s.length = 4) : ∀ i, i ≤ 4 → (∀ k, k < i → t.getD k 0 = s.getD k 0) → RLn t i = RLn s i
  | 0, _, _ => by rw [RLn_zero, RLn_zero]
  | i + 1, hi, h => by
    rw [RLn_succ t ht i (by omega), RLn_succ s hs i (by omega), RLn_congr ht hs i (by omega) fun k hk => h k (by omega), h i (by omega), h (i - 1) (by omega)]
theorem crN_RL (t : List Int) : crN t = (RLn t (layN t) : Nat) := rfl
/-- A top run taken off, in parts or whole. -/
theorem RLn_off {t : List Int} (ht : t.length = 4) {a r : Nat} (ha : a ≤ 4) (h : isRun t a r) : ∀ m, m ≤ r → RLn t (a - m) + (if m = r then 1 else 0) = RLn t a
  | 0, _ => by
    have := h.1
    rw [if_neg (by omega)]; rfl
  | m + 1, hm => by
    have ih := RLn_off ht ha h m (by omega)
    have hr := h.2.1
    rw [if_neg (by omega)] at ih
    have e : a - m = a - (m + 1) + 1 := by omega
    rw [e, RLn_succ t ht _ (by omega)] at ih
    have g1 := h.2.2.1 m (by omega)
    have e1 : a - 1 - m = a - (m + 1) := by omega
    rw [e1] at g1
    by_cases hmr : m + 1 = r
    · rw [if_pos hmr]
      rw [if_neg, ] at ih
      · omega
      · rintro ⟨p0, p1⟩
        rcases h.2.2.2 with q | q
        · omega
        · rw [g1, show a - (m + 1) - 1 = a - 1 - r by omega] at p1
          exact q p1
    · rw [if_neg hmr]
      have g2 := h.2.2.1 (m + 1) (by omega)
      rw [if_pos ⟨by omega, by rw [g1, show a - (m + 1) - 1 = a - 1 - (m + 1) by omega]; exact g2⟩] at ih
      omega
/-- Layers of one color put on top. -/
theorem RLn_on {t s : List Int} (ht : t.length = 4) (hs : s.length = 4) {b : Nat} {c : Int} (h1 : ∀ k, k < b → s.getD k 0 = t.getD k 0) (h0 : b = 0 ∨ t.getD (b - 1) 0 = c) : ∀ m, b + m ≤ 4 → (∀ k, b ≤ k → k < b + m → s.getD k 0 = c) → RLn s (b + m) = RLn t b + if b = 0 ∧ 0 < m then 1 else 0
  | 0, hm, _ => by
    rw [if_neg (by omega), Nat.add_zero, Nat.add_zero]
    exact RLn_congr hs ht b (by omega) h1
  | m + 1, hm, h => by
    have ih := RLn_on ht hs h1 h0 m (by omega) fun k k1 k2 => h k k1 (by omega)
    rw [← Nat.add_assoc, RLn_succ s hs _ (by omega), ih]
    have e := h (b + m) (by omega) (by omega)
    by_cases hb : b = 0
    · subst hb
      by_cases hm0 : m = 0
      · subst hm0; simp
      · have q1 : 0 < 0 + m ∧ s.getD (0 + m - 1) 0 = s.getD (0 + m) 0 := ⟨by omega, by rw [e]; exact h (0 + m - 1) (by omega) (by omega)⟩
        have q2 : 0 = 0 ∧ 0 < m := ⟨rfl, by omega⟩
        have q3 : 0 = 0 ∧ 0 < m + 1 := ⟨rfl, by omega⟩
        rw [if_pos q1, if_pos q2, if_pos q3]
    · have q1 : 0 < b + m ∧ s.getD (b + m - 1) 0 = s.getD (b + m) 0 := by
        refine ⟨by omega, ?_⟩
        rw [e]
        by_cases hm0 : m = 0
        · subst hm0
          rw [Nat.add_zero, h1 _ (by omega)]
          rcases h0 with q | q
          · exact absurd q hb
          · exact q
        · exact h _ (by omega) (by omega)
      have q2 : ¬ (b = 0 ∧ 0 < m) := fun q => hb q.1
      have q3 : ¬ (b = 0 ∧ 0 < m + 1) := fun q => hb q.1
      rw [if_pos q1, if_neg q2, if_neg q3]
theorem sumT_two {f : List Int → Int} {R N : List Int} {i j : Nat} (hij : i ≠ j) (h : ∀ k, k < 6 → k ≠ i → k ≠ j → tubeAt N k = tubeAt R k) : ∀ k, k ≤ 6 → sumT f N k = sumT f R k + (if i < k then f (tubeAt N i) - f (tubeAt R i) else 0) + (if j < k then f (tubeAt N j) - f (tubeAt R j) else 0)
  | 0, _ => by simp [sumT_zero]
  | k + 1, hk => by
    have ih := sumT_two (f := f) hij h k (by omega)
    rw [sumT_succ, sumT_succ, ih]
    by_cases hi : k = i
    · subst hi
      rw [if_neg (show ¬ k < k by omega), if_pos (show k < k + 1 by omega)]
      by_cases hj : j < k
      · rw [if_pos hj, if_pos (show j < k + 1 by omega)]; omega
      · rw [if_neg hj, if_neg (show ¬ j < k + 1 by omega)]; omega
    · by_cases hj : k = j
      · subst hj
        rw [if_neg (show ¬ k < k by omega), if_pos (show k < k + 1 by omega)]
        by_cases h2 : i < k
        · rw [if_pos h2, if_pos (show i < k + 1 by omega)]; omega
        · rw [if_neg h2, if_neg (show ¬ i < k + 1 by omega)]; omega
      · rw [h k (by omega) hi hj]
        have e1 : (i < k + 1) = (i < k) := by apply propext; omega
        have e2 : (j < k + 1) = (j < k) := by apply propext; omega
        simp only [e1, e2]
        omega
/-- Is this the bottom's color? -/
def gB (c : Nat) (t : List Int) : Int := if (t.getD 0 0).toNat = c then 1 else 0
theorem bot_sum {R : List Int} (hR : R.length = 24) (hr : rackB R = true) (c : Nat) : ∀ k, k ≤ 6 → (cntL ((botL R).take k)).getD c 0 = sumT (gB c) R k
  | 0, _ => by
    have z : (List.replicate 6 (0 : Int)).getD c 0 = 0 := by
      rw [List.getD_eq_getElem?_getD, List.getElem?_replicate]
      split <;> rfl
    rw [List.take_zero, cntL_nil, z]; rfl
  | k + 1, hk => by
    rw [bot_step hR hr (by omega), bot_sum hR hr c k (by omega), sumT_succ]; rfl
theorem bes5 {R : List Int} (hR : R.length = 24) (hr : rackB R = true) : besF ((cntL (botL R)).drop 1) = max (sumT (gB 1) R 6 - 1) 0 + max (sumT (gB 2) R 6 - 1) 0 + max (sumT (gB 3) R 6 - 1) 0 + max (sumT (gB 4) R 6 - 1) 0 + max (sumT (gB 5) R 6 - 1) 0 := by
  have tk6 : (botL R).take 6 = botL R := List.take_of_length_le (by rw [botL_len]; omega)
  have g : ∀ c, (cntL (botL R)).getD c 0 = sumT (gB c) R 6 := fun c => by
    have := bot_sum hR hr c 6 (Nat.le_refl _)
    rwa [tk6] at this
  have hl := cntL_len (botL R)
  rw [← g 1, ← g 2, ← g 3, ← g 4, ← g 5]
  generalize cntL (botL R) = L at hl
  match L, hl with
  | [a, b, c, d, e, f], _ => simp [besF]; omega
theorem bes_chg {T : Nat} (hT : 1 ≤ T ∧ T ≤ 5) {d w1 w2 w3 w4 w5 q1 q2 q3 q4 q5 : Int} (k1 : w1 = q1 + if T = 1 then d else 0) (k2 : w2 = q2 + if T = 2 then d else 0) (k3 : w3 = q3 + if T = 3 then d else 0) (k4 : w4 = q4 + if T = 4 then d else 0) (k5 : w5 = q5 + if T = 5 then d else 0) :
    min d 0 ≤ max (w1 - 1) 0 + max (w2 - 1) 0 + max (w3 - 1) 0 + max (w4 - 1) 0 + max (w5 - 1) 0 - (max (q1 - 1) 0 + max (q2 - 1) 0 + max (q3 - 1) 0 + max (q4 - 1) 0 + max (q5 - 1) 0) := by
  rcases (show T = 1 ∨ T = 2 ∨ T = 3 ∨ T = 4 ∨ T = 5 by omega) with h | h | h | h | h <;> subst h <;> simp at k1 k2 k3 k4 k5 <;> omega
theorem bnd_arith {A B M r z1 z2 z3 z4 : Nat} {u1 u2 v1 v2 a1 a2 a3 a4 Q W d : Int} (hA : M ≤ A) (hr : M ≤ r) (hrA : r ≤ A) (M1 : 1 ≤ M) (h4 : M = r ∨ 0 < B) (sj : z1 = z4 + if B = 0 ∧ 0 < M then 1 else 0) (si : z2 + (if M = r then 1 else 0) = z3) (e1 : a1 = z2) (e2 : a2 = z1) (e3 : a3 = z3) (e4 : a4 = z4)
    (zi : A - M = 0 → z2 = 0) (pi : 0 < A - M → 0 < z2) (pj : 0 < B → 0 < z4) (zj : B = 0 → z4 = 0) (s1 : v2 = v1 + (a1 - a3) + (a2 - a4)) (s2 : u2 = u1 + (max (a1 - 1) 0 - max (a3 - 1) 0) + (max (a2 - 1) 0 - max (a4 - 1) 0)) (hd : d = (if M = A then -1 else 0) + if B = 0 then 1 else 0) (hk : min d 0 ≤ W - Q) :
    (v2 - v1 ≤ 0 ∧ -1 ≤ v2 - v1) ∧ u2 - u1 ≤ 0 ∧ -1 ≤ (u2 + W) - (u1 + Q) := by
  by_cases hB : B = 0
  · have hr2 : M = r := by omega
    rw [if_pos ⟨hB, by omega⟩] at sj
    rw [if_pos hr2] at si
    rw [if_pos hB] at hd
    have := zj hB
    by_cases hM : M = A
    · rw [if_pos hM] at hd
      have := zi (by omega)
      omega
    · rw [if_neg hM] at hd
      have := pi (by omega)
      omega
  · have hB' : 0 < B := by omega
    have hz := pj hB'
    rw [if_neg (fun h => hB h.1)] at sj
    rw [if_neg hB] at hd
    by_cases hr2 : M = r
    · rw [if_pos hr2] at si
      by_cases hM : M = A
      · rw [if_pos hM] at hd
        have := zi (by omega)
        omega
      · rw [if_neg hM] at hd
        have := pi (by omega)
        omega
    · rw [if_neg hr2] at si
      rw [if_neg (show ¬ M = A by omega)] at hd
      omega

/-- A tube that gives. -/
theorem src_facts {t s : List Int} (ht : t.length = 4) (hs : s.length = 4) (hb : tubeB s = true) {r M : Nat} (hr : isRun t (layN t) r) (h0 : 0 < layN t) (hM : M ≤ r) (hl : layN s = layN t - M) (hc : ∀ k, k < layN t - M → s.getD k 0 = t.getD k 0) :
    crN s = (RLn t (layN t - M) : Nat) ∧ RLn t (layN t - M) + (if M = r then 1 else 0) = RLn t (layN t) ∧ (layN t - M = 0 → RLn t (layN t - M) = 0) ∧ (0 < layN t - M → 0 < RLn t (layN t - M)) ∧
    (s.getD 0 0 = if M = layN t then 0 else t.getD 0 0) ∧ (M = layN t → t.getD 0 0 = t.getD (layN t - 1) 0) := by
  have ai := lay_le _ ht
  have rle := hr.2.1
  refine ⟨?_, RLn_off ht ai hr M hM, fun h => by rw [h, RLn_zero], fun h => ?_, ?_, fun h => ?_⟩
  · rw [crN_RL, hl]
    congr 1
    exact RLn_congr hs ht _ (by omega) hc
  · obtain ⟨n, n1, n2, n3⟩ := RL_even _ ht (layN t - M) (by omega)
    have := n3 h
    unfold RLn; omega
  · by_cases h : M = layN t
    · rw [if_pos h]
      exact (tube_cells hs hb).2 0 (by omega)
    · rw [if_neg h]; exact hc 0 (by omega)
  · have := hr.2.2.1 (layN t - 1) (by omega)
    rw [show layN t - 1 - (layN t - 1) = 0 by omega] at this
    exact this
/-- A tube that takes. -/
theorem tgt_facts {t s : List Int} (ht : t.length = 4) (hs : s.length = 4) (hb : tubeB t = true) {M : Nat} {c : Int} (M1 : 1 ≤ M) (hM : M + layN t ≤ 4) (hl : layN s = layN t + M) (hc : ∀ k, k < layN t → s.getD k 0 = t.getD k 0) (hc2 : ∀ k, layN t ≤ k → k < layN t + M → s.getD k 0 = c) (hj : layN t = 0 ∨ t.getD (layN t - 1) 0 = c) :
    crN s = (RLn s (layN t + M) : Nat) ∧ RLn s (layN t + M) = RLn t (layN t) + (if layN t = 0 ∧ 0 < M then 1 else 0) ∧ (layN t = 0 → RLn t (layN t) = 0) ∧ (0 < layN t → 0 < RLn t (layN t)) ∧
    (s.getD 0 0 = if layN t = 0 then c else t.getD 0 0) ∧ (layN t = 0 → t.getD 0 0 = 0) := by
  have ai := lay_le _ ht
  refine ⟨?_, RLn_on ht hs hc hj M (by omega) hc2, fun h => by rw [h, RLn_zero], fun h => ?_, ?_, fun h => ?_⟩
  · rw [crN_RL, hl]
  · obtain ⟨n, n1, n2, n3⟩ := RL_even _ ht (layN t) (by omega)
    have := n3 h
    unfold RLn; omega
  · by_cases h : layN t = 0
    · rw [if_pos h]; exact hc2 0 (by omega) (by omega)
    · rw [if_neg h]; exact hc 0 (by omega)
  · exact (tube_cells ht hb).2 0 (by omega)
theorem g_chg {p1 p2 : Prop} [Decidable p1] [Decidable p2] {c T : Nat} {x1 x2 y1 y2 v d : Int} (hc : 1 ≤ c) (h1 : x2 = if p1 then 0 else x1) (h2 : p1 → x1 = v) (h3 : y2 = if p2 then v else y1) (h4 : p2 → y1 = 0) (hT : v.toNat = T) (hd : d = (if p1 then -1 else 0) + if p2 then 1 else 0) :
    ((if x2.toNat = c then (1 : Int) else 0) - if x1.toNat = c then 1 else 0) + ((if y2.toNat = c then (1 : Int) else 0) - if y1.toNat = c then 1 else 0) = if T = c then d else 0 := by
  have z0 : ¬ ((0 : Int).toNat = c) := by rw [Int.toNat_zero]; omega
  subst hd h1 h3 hT
  by_cases q1 : p1 <;> by_cases q2 : p2
  · rw [if_pos q1, if_pos q2, if_pos q1, if_pos q2, h2 q1, h4 q2, if_neg z0]; split <;> rfl
  · rw [if_pos q1, if_neg q2, if_pos q1, if_neg q2, h2 q1, if_neg z0]; split <;> split <;> rfl
  · rw [if_neg q1, if_pos q2, if_neg q1, if_pos q2, h4 q2, if_neg z0]; split <;> split <;> rfl
  · rw [if_neg q1, if_neg q2, if_neg q1, if_neg q2]; split <;> split <;> split <;> rfl
theorem can_top2 {R : List Int} (hR : R.length = 24) (hr : rackB R = true) {x y : Int} (hy : 0 ≤ y ∧ y ≤ 5) (hc : canF R x y = true) : layN (tubeAt R y.toNat) = 0 ∨ (tubeAt R y.toNat).getD (layN (tubeAt R y.toNat) - 1) 0 = (topF (tubeAt R x.toNat)).1 := by
  have hj : y.toNat < 6 := by omega
  have lj := tubeAt_len hR hj
  rcases Nat.eq_zero_or_pos (layN (tubeAt R y.toNat)) with h | h
  · exact .inl h
  · right
    obtain ⟨s, f1, f2⟩ := topF_run _ lj h
    have tp := (top_co lj (tubeAt_ok hr hj) h).1
    simp only [canF, Bool.and_eq_true, Bool.or_eq_true, decide_eq_true_eq] at hc
    rw [f1] at hc tp
    rcases hc.2 with q | q
    · exact absurd q (by dsimp only at tp ⊢; omega)
    · exact q
theorem pour_bnd0 {R N : List Int} (hR : R.length = 24) (hN : N.length = 24) (hr : rackB R = true) (hrN : rackB N = true) {i j : Nat} (hi : i < 6) (hj : j < 6) (hij : i ≠ j) (h5 : ∀ k, k < 6 → k ≠ i → k ≠ j → tubeAt N k = tubeAt R k) {M r : Nat} {c : Int} (hM : M ≤ r) (h4 : M = r ∨ 0 < layN (tubeAt R j)) (M1 : 1 ≤ M) (hMj : M + layN (tubeAt R j) ≤ 4)
    (hru : isRun (tubeAt R i) (layN (tubeAt R i)) r) (h0 : 0 < layN (tubeAt R i)) (hct : (tubeAt R i).getD (layN (tubeAt R i) - 1) 0 = c) (hc5 : 1 ≤ c ∧ c ≤ 5) (l1 : layN (tubeAt N i) = layN (tubeAt R i) - M) (l2 : layN (tubeAt N j) = layN (tubeAt R j) + M)
    (c1 : ∀ k, k < layN (tubeAt R i) - M → (tubeAt N i).getD k 0 = (tubeAt R i).getD k 0) (c2 : ∀ k, k < layN (tubeAt R j) → (tubeAt N j).getD k 0 = (tubeAt R j).getD k 0) (c3 : ∀ k, layN (tubeAt R j) ≤ k → k < layN (tubeAt R j) + M → (tubeAt N j).getD k 0 = c) (tj : layN (tubeAt R j) = 0 ∨ (tubeAt R j).getD (layN (tubeAt R j) - 1) 0 = c) :
    (sumT crN N 6 - sumT crN R 6 ≤ 0 ∧ -1 ≤ sumT crN N 6 - sumT crN R 6) ∧ sumT cbN N 6 - sumT cbN R 6 ≤ 0 ∧ -1 ≤ bndF N - bndF R := by
  obtain ⟨a1, a2, a3, a4, a5, a6⟩ := src_facts (tubeAt_len hR hi) (tubeAt_len hN hi) (tubeAt_ok hrN hi) hru h0 hM l1 c1
  obtain ⟨b1, b2, b3, b4, b5, b6⟩ := tgt_facts (tubeAt_len hR hj) (tubeAt_len hN hj) (tubeAt_ok hr hj) M1 hMj l2 c2 c3 tj
  rw [hct] at a6
  have s1 := sumT_two (f := crN) hij h5 6 (Nat.le_refl _)
  have s2 := sumT_two (f := cbN) hij h5 6 (Nat.le_refl _)
  have s3 := fun c => sumT_two (f := gB c) hij h5 6 (Nat.le_refl _)
  simp only [if_pos hi, if_pos hj] at s1 s2 s3
  obtain ⟨d, hd⟩ : ∃ d : Int, d = (if M = layN (tubeAt R i) then -1 else 0) + if layN (tubeAt R j) = 0 then 1 else 0 := ⟨_, rfl⟩
  have key : ∀ q : Nat, 1 ≤ q → sumT (gB q) N 6 = sumT (gB q) R 6 + if c.toNat = q then d else 0 := fun q hq => by
    have := g_chg hq a5 a6 b5 b6 rfl hd
    rw [s3 q, ← this]
    unfold gB
    rw [Int.add_assoc]
  have kk := bes_chg (T := c.toNat) (by omega) (key 1 (by omega)) (key 2 (by omega)) (key 3 (by omega)) (key 4 (by omega)) (key 5 (by omega))
  rw [← bes5 hR hr, ← bes5 hN hrN] at kk
  have rle := hru.2.1
  exact bnd_arith (Nat.le_trans hM rle) hM rle M1 h4 b2 a2 a1 b1 (crN_RL _) (crN_RL _) a3 a4 b4 b3 s1 s2 hd kk
/-- What a pour does to runs, boundaries and the bound. -/
theorem pour_bnd {R : List Int} (hR : R.length = 24) (hr : rackB R = true) {x y : Int} (ho : cpO R x y = true) (hc : canF R x y = true) :
    (sumT crN (pourF R x.toNat y.toNat) 6 - sumT crN R 6 ≤ 0 ∧ -1 ≤ sumT crN (pourF R x.toNat y.toNat) 6 - sumT crN R 6) ∧ sumT cbN (pourF R x.toNat y.toNat) 6 - sumT cbN R 6 ≤ 0 ∧ -1 ≤ bndF (pourF R x.toNat y.toNat) - bndF R := by
  obtain ⟨_, hx, hy, hxy⟩ := pl_of ho
  obtain ⟨g1, g2, g3, g4, g5, g6, g7⟩ := can_facts hR hr hx hy hc
  have hi : x.toNat < 6 := by omega
  have hj : y.toNat < 6 := by omega
  have hij : x.toNat ≠ y.toNat := by omega
  have li := tubeAt_len hR hi
  obtain ⟨r, e1, e2⟩ := topF_run _ li g2
  have hrN := pour_rack hR hr hx hy hc
  have et1 : (topF (tubeAt R x.toNat)).1 = (tubeAt R x.toNat).getD (layN (tubeAt R x.toNat) - 1) 0 := by rw [e1]
  have et2 : (topF (tubeAt R x.toNat)).2 = (r : Int) := by rw [e1]
  obtain ⟨M, hM⟩ : ∃ M : Nat, pmN R x.toNat y.toNat = M := ⟨(pmN R x.toNat y.toNat).toNat, by omega⟩
  have hMd : (M : Int) = min (r : Int) (4 - (layN (tubeAt R y.toNat) : Int)) := by rw [← hM, ← et2]; rfl
  have eM' : (pmN R x.toNat y.toNat).toNat = M := by omega
  have eN : pourF R x.toNat y.toNat = pmR R x.toNat y.toNat M := by unfold pourF; rw [eM']
  rw [eN] at hrN ⊢
  have ai := lay_le _ li
  have hMi : M ≤ layN (tubeAt R x.toNat) := by omega
  have hMj : M + layN (tubeAt R y.toNat) ≤ 4 := by omega
  obtain ⟨⟨p1, p2⟩, ⟨p3, p4⟩, p5⟩ := pm_facts hR hr hi hj hij hMi hMj
  have cell := pmR_cell hR hi hj hij M hMi hMj
  have hN : (pmR R x.toNat y.toNat M).length = 24 := by rw [pmR_len, hR]
  have rle := e2.2.1
  have q1 : M ≤ r := by omega
  have q2 : M = r ∨ 0 < layN (tubeAt R y.toNat) := by omega
  have q3 : 1 ≤ M := by omega
  clear hMd hM eM' g4 g5 g6 g7
  refine pour_bnd0 hR hN hr hrN hi hj hij p5 q1 q2 q3 hMj e2 g2 et1.symm (top_co li (tubeAt_ok hr hi) g2) p2 p4 (fun k hk => ?_) (fun k hk => ?_) (fun k h1 h2 => ?_) (can_top2 hR hr hy hc)
  · rw [tubeAt_getD _ _ _ (by omega), cell x.toNat k hi (by omega), if_neg (by omega), if_neg (by omega), tubeAt_getD _ _ _ (by omega)]
  · rw [tubeAt_getD _ _ _ (by omega), cell y.toNat k hj (by omega), if_neg (by omega), if_neg (by omega), tubeAt_getD _ _ _ (by omega)]
  · rw [tubeAt_getD _ _ _ (by omega), cell y.toNat k hj (by omega), if_neg (by omega), if_pos ⟨rfl, h1, h2⟩]
end Go.Proofs.Ytopfnkmlgcjpbaa
/- The contract of sorting, laid at this program (the kit's tool wrote it). -/
namespace Go.Proofs
open Go.Shelf
def Ytopfnkmlgcjpbaa.laySortI_ren : Go.Shelf.Ren := ⟨fun | 5 => 134 | 8 => 157 | 7 => 156 | 19 => 170 | 20 => 171 | 10 => 161 | 11 => 162 | 12 => 163 | 13 => 164 | 14 => 165 | 15 => 166 | 16 => 167 | 17 => 168 | 18 => 169 | 30 => 172 | 31 => 173 | 32 => 174 | 33 => 175 | 34 => 176 | 35 => 177 | 40 => 178 | n => n, fun | 23 => 40 | 25 => 3 | 3 => 3 | 32 => 127 | 22 => 40 | 0 => 0 | 44 => 140 | 46 => 86 | 4 => 4 | 36 => 133 | 35 => 132 | 41 => 49 | 5 => 5 | 9 => 9 | 53 => 142 | 57 => 146 | 63 => 148 | 64 => 117 | n => n, fun | n => n⟩
theorem Ytopfnkmlgcjpbaa.laySortI : Go.Proofs.SlLaysM.n5 Try.prog Ytopfnkmlgcjpbaa.laySortI_ren := {
  mixed := by kernel_rfl
  f5 := ⟨Try.f134.name, by decide, Try.func134.trans (congrArg some (by kernel_rfl))⟩
  f7 := ⟨Try.f156.name, by decide, Try.func156.trans (congrArg some (by kernel_rfl))⟩
  f8 := Try.func157.trans (congrArg some (by kernel_rfl))
  f10 := ⟨Try.f161.name, by decide, Try.func161.trans (congrArg some (by kernel_rfl))⟩
  f11 := ⟨Try.f162.name, by decide, Try.func162.trans (congrArg some (by kernel_rfl))⟩
  f12 := ⟨Try.f163.name, by decide, Try.func163.trans (congrArg some (by kernel_rfl))⟩
  f13 := ⟨Try.f164.name, by decide, Try.func164.trans (congrArg some (by kernel_rfl))⟩
  f14 := ⟨Try.f165.name, by decide, Try.func165.trans (congrArg some (by kernel_rfl))⟩
  f15 := ⟨Try.f166.name, by decide, Try.func166.trans (congrArg some (by kernel_rfl))⟩
  f16 := ⟨Try.f167.name, by decide, Try.func167.trans (congrArg some (by kernel_rfl))⟩
  f17 := ⟨Try.f168.name, by decide, Try.func168.trans (congrArg some (by kernel_rfl))⟩
  f18 := ⟨Try.f169.name, by decide, Try.func169.trans (congrArg some (by kernel_rfl))⟩
  f19 := Try.func170.trans (congrArg some (by kernel_rfl))
  f20 := Try.func171.trans (congrArg some (by kernel_rfl))
  f30 := ⟨Try.f172.name, by decide, Try.func172.trans (congrArg some (by kernel_rfl))⟩
  f31 := Try.func173.trans (congrArg some (by kernel_rfl))
  f32 := Try.func174.trans (congrArg some (by kernel_rfl))
  f33 := ⟨Try.f175.name, by decide, Try.func175.trans (congrArg some (by kernel_rfl))⟩
  f34 := ⟨Try.f176.name, by decide, Try.func176.trans (congrArg some (by kernel_rfl))⟩
  f35 := ⟨Try.f177.name, by decide, Try.func177.trans (congrArg some (by kernel_rfl))⟩
  f40 := ⟨Try.f178.name, by decide, Try.func178.trans (congrArg some (by kernel_rfl))⟩
  t0 := Try.underlying0
  a0 := Try.isAgg0
  z0 := Try.sizeOf0
  v0 := Try.zeroValue0
  t3 := Try.underlying3
  a3 := Try.isAgg3
  z3 := Try.sizeOf3
  v3 := Try.zeroValue3
  t4 := Try.underlying4
  a4 := Try.isAgg4
  z4 := Try.sizeOf4
  v4 := Try.zeroValue4
  t5 := Try.underlying5
  a5 := Try.isAgg5
  z5 := Try.sizeOf5
  v5 := Try.zeroValue5
  t9 := Try.underlying9
  a9 := Try.isAgg9
  z9 := Try.sizeOf9
  v9 := Try.zeroValue9
  t22 := Try.underlying40
  a22 := Try.isAgg40
  z22 := Try.sizeOf40
  v22 := Try.zeroValue40
  t23 := Try.underlying40
  a23 := Try.isAgg40
  z23 := Try.sizeOf40
  v23 := Try.zeroValue40
  t25 := Try.underlying3
  a25 := Try.isAgg3
  z25 := Try.sizeOf3
  v25 := Try.zeroValue3
  t32 := Try.underlying127
  a32 := Try.isAgg127
  z32 := Try.sizeOf127
  v32 := Try.zeroValue127
  t35 := Try.underlying132
  a35 := Try.isAgg132
  z35 := Try.sizeOf132
  v35 := Try.zeroValue132
  t36 := Try.underlying133
  a36 := Try.isAgg133
  z36 := Try.sizeOf133
  v36 := Try.zeroValue133
  t41 := Try.underlying49
  a41 := Try.isAgg49
  z41 := Try.sizeOf49
  v41 := Try.zeroValue49
  t44 := Try.underlying140
  a44 := Try.isAgg140
  z44 := Try.sizeOf140
  v44 := Try.zeroValue140
  t46 := Try.underlying86
  a46 := Try.isAgg86
  z46 := Try.sizeOf86
  v46 := Try.zeroValue86
  t53 := Try.underlying142
  a53 := Try.isAgg142
  z53 := Try.sizeOf142
  v53 := Try.zeroValue142
  t57 := Try.underlying146
  a57 := Try.isAgg146
  z57 := Try.sizeOf146
  v57 := Try.zeroValue146
  t63 := Try.underlying148
  a63 := Try.isAgg148
  z63 := Try.sizeOf148
  v63 := Try.zeroValue148
  t64 := Try.underlying117
  a64 := Try.isAgg117
  z64 := Try.sizeOf117
  v64 := Try.zeroValue117 }
end Go.Proofs
/- Contracts: slices.Sort over ints; RoomLeft. -/
set_option maxRecDepth 100000
set_option linter.unusedSimpArgs false
set_option linter.unusedVariables false
namespace Go.Proofs.Ytopfnkmlgcjpbaa
open Go Go.RowKit
def smI (zs : List Int) : List Int := zs.mergeSort fun x y => decide (x ≤ y)
theorem smI_len (zs : List Int) : (smI zs).length = zs.length := List.length_mergeSort ..
theorem holds_i {w : World} {blk e : Nat} {F Z : List Int} (hb : w.heap[blk]? = some (.cells (ints (F ++ Z)) e (0, 0))) : Sort.Holds (Value.int .i64) w blk 0 F.toArray := fun j hj => by
  have hj' : j < F.length := by simpa using hj
  refine ⟨?_, ?_⟩
  · simp only [World.cell?, hb]
    have h1 : (F ++ Z)[0 + j]? = F[j]? := by rw [Nat.zero_add, List.getElem?_append_left hj']
    show (ints (F ++ Z))[0 + j]? = some (Value.int .i64 F.toArray[j]!)
    simp only [ints, List.getElem?_toArray, List.getElem?_map, h1]
    simp [hj']
  · simp [World.frozen?, hb]
theorem put_i {F F' Z : List Int} (hF : F'.length = F.length) : Sort.putCells (Value.int .i64) 0 F'.toArray (ints (F ++ Z)) = ints (F' ++ Z) := by
  apply Array.ext_getElem?
  intro t
  simp only [Sort.putCells, Array.getElem?_mapIdx, ints, List.getElem?_toArray, List.getElem?_map]
  by_cases h2 : t < F'.length
  · rw [List.getElem?_append_left (show t < F.length by omega), List.getElem?_append_left h2, List.getElem?_eq_getElem (show t < F.length by omega), List.getElem?_eq_getElem h2]
    simp [h2]
  · rw [List.getElem?_append_right (show F.length ≤ t by omega), List.getElem?_append_right (show F'.length ≤ t by omega), hF]
    cases Z[t - F.length]? with
    | none => rfl
    | some v => simp [h2]
theorem sortI_ok (zs Z : List Int) (e cap n : Nat) (hn : zs.length = n) (hb : n < 4611686018427387904) :
    UpdP Try.prog 134 [.slice 0 0 n cap] 0 [] (.ints (zs ++ Z) e) (.ints (smI zs ++ Z) e) (.tup []) := by
  refine ⟨fn_134.ent, rfl, fun _ => trivial, fun B w hH => ?_⟩
  have hblk : w.heap[B 0]? = some (.cells (ints (zs ++ Z)) e (0, 0)) := hH.at_ 0 _ rfl rfl
  have hlt : B 0 < w.heap.size := by
    rcases Nat.lt_or_ge (B 0) w.heap.size with h | h
    · exact h
    · rw [Array.getElem?_eq_none h] at hblk; cases hblk
  have hcon := AnyM.slices_Sort_int laySortI (B 0) 0 cap zs w (holds_i hblk) hlt (by omega)
  rw [hn] at hcon
  refine hcon.mono fun r w' hh => ?_
  obtain ⟨rfl, m, os, rfl⟩ := hh
  have hblk' : (Sort.grow (Sort.putRow (Value.int .i64) (Sort.ahead w m) (B 0) 0 (smI zs).toArray) os).heap[B 0]? = some (.cells (ints (smI zs ++ Z)) e (0, 0)) := by
    unfold Sort.grow Sort.putRow Sort.mapBlock Sort.ahead
    simp only []
    rw [Array.getElem?_append_left (by simpa using hlt), Array.getElem?_modify, if_pos rfl, hblk]
    simp only [Option.map_some, Sort.onCells]
    rw [put_i (smI_len zs)]
  refine ⟨rfl, ⟨rfl, rfl, rfl, ?_, fun i hi hM => ?_, ?_⟩, hblk'⟩
  · unfold Sort.grow Sort.putRow Sort.mapBlock Sort.ahead
    simp
  · have hne : B 0 ≠ i := fun h => hM (.inl h.symm)
    unfold Sort.grow Sort.putRow Sort.mapBlock Sort.ahead
    simp only []
    rw [Array.getElem?_append_left (by simpa using hi), Array.getElem?_modify, if_neg hne]
  · exact Nat.le_add_right _ _
--@tbl sortI = slices.Sort[[]int,int]
def sortI_F : List SV → Heap → Nat → Nat → K1 → Prop
  | [.slice b 0 n _], H, N, m, κ => match hget H b with
    | some (.ints L e) => n ≤ L.length ∧ n < 4611686018427387904 ∧ m ≤ b ∧ κ (.tup []) ((b, .ints (smI (L.take n) ++ L.drop n) e) :: H) N
    | _ => False
  | _, _, _, _, _ => False
theorem sortI_T : ∀ args H n m κ, sortI_F args H n m κ → GenOK Try.prog 134 args H n m κ := by
  intro args H N m κ h
  unfold sortI_F at h
  split at h
  · rename_i b n cap
    split at h
    · rename_i L e hb
      obtain ⟨hL, h62, hm, h⟩ := h
      have hu := sortI_ok (L.take n) (L.drop n) e cap n (by rw [List.length_take]; omega) h62
      rw [List.take_append_drop] at hu
      have := gen_of_upd (H := H) (n := N) (m := m) (κ := κ) hu (fun _ => b) (fun j o1 hj => by
        rw [hget_cons] at hj
        split at hj
        · cases hj; exact hb
        · cases hj) (fun j1 o1 j2 o2 g1 g2 he => by
        rw [hget_cons] at g1 g2
        split at g1
        · split at g2
          · omega
          · cases g2
        · cases g1) (by simpa using hm) rfl (fun _ _ => trivial) (by simpa [SV.ren, renL] using h)
      simpa [renL, SV.ren] using this
    · exact h.elim
  · exact h.elim
/-! Rooms. -/
def roomL (R : List Int) (k : Nat) : List Int := (List.range k).map fun i => 4 - (layN (tubeAt R i) : Int)
theorem roomL_zero (R : List Int) : roomL R 0 = [] := rfl
theorem roomL_succ (R : List Int) (k : Nat) : roomL R (k + 1) = roomL R k ++ [4 - (layN (tubeAt R k) : Int)] := by simp [roomL, List.range_succ]
theorem roomL_len (R : List Int) (k : Nat) : (roomL R k).length = k := by simp [roomL]
/-- Sorting by counting. -/
def cs (l : List Int) (n : Nat) : List Int := (List.range n).flatMap fun (v : Nat) => l.filter fun x => decide (x = (v : Int))
theorem cs_zero (l : List Int) : cs l 0 = [] := rfl
theorem cs_succ (l : List Int) (n : Nat) : cs l (n + 1) = cs l n ++ l.filter fun x => decide (x = (n : Int)) := by simp [cs, List.range_succ]
theorem cs_perm (l : List Int) (h0 : ∀ x ∈ l, 0 ≤ x) : ∀ n, (cs l n).Perm (l.filter fun x => decide (x < (n : Int)))
  | 0 => by
    have : l.filter (fun x => decide (x < ((0 : Nat) : Int))) = [] := List.filter_eq_nil_iff.2 fun x hx => by have := h0 x hx; simp; omega
    rw [this, cs_zero]
  | n + 1 => by
    rw [cs_succ]
    refine List.Perm.trans ((cs_perm l h0 n).append_right _) ?_
    have := List.filter_append_perm (fun x => decide (x < (n : Int))) (l.filter fun x => decide (x < ((n + 1 : Nat) : Int)))
    rw [List.filter_filter, List.filter_filter] at this
    refine List.Perm.trans (List.Perm.of_eq ?_) this
    congr 1
    · refine List.filter_congr fun x hx => ?_
      by_cases h : x < (n : Int)
      · simp [h]; omega
      · simp [h]
    · refine List.filter_congr fun x hx => ?_
      by_cases h : x = (n : Int)
      · subst h; simp; omega
      · simp [h]; omega
theorem cs_lt (l : List Int) : ∀ n, ∀ x ∈ cs l n, x < (n : Int)
  | 0, x, h => by rw [cs_zero] at h; cases h
  | n + 1, x, h => by
    rw [cs_succ, List.mem_append] at h
    rcases h with h | h
    · have := cs_lt l n x h; omega
    · have := (List.mem_filter.1 h).2
      simp at this; omega
theorem cs_pw (l : List Int) : ∀ n, (cs l n).Pairwise (· ≤ ·)
  | 0 => List.Pairwise.nil
  | n + 1 => by
    rw [cs_succ, List.pairwise_append]
    refine ⟨cs_pw l n, ?_, fun a ha b hb => ?_⟩
    · refine List.Pairwise.imp_of_mem (R := fun _ _ => True) (fun {a b} ha hb _ => ?_) (List.pairwise_of_forall (fun _ _ => trivial))
      have h1 := (List.mem_filter.1 ha).2
      have h2 := (List.mem_filter.1 hb).2
      simp at h1 h2; omega
    · have h1 := cs_lt l n a ha
      have h2 := (List.mem_filter.1 hb).2
      simp at h2; omega
theorem cs_sm (l : List Int) (n : Nat) (h : ∀ x ∈ l, 0 ≤ x ∧ x < (n : Int)) : cs l n = smI l := by
  refine List.Perm.eq_of_pairwise (le := (· ≤ ·)) (fun a b _ _ h1 h2 => by omega) (cs_pw l n) ?_ ?_
  · have := List.pairwise_mergeSort (le := fun x y : Int => decide (x ≤ y)) (fun a b c h1 h2 => by simp at *; omega) (fun a b => by simp; omega) l
    exact List.Pairwise.imp (fun h => by simpa using h) this
  · refine List.Perm.trans (cs_perm l (fun x hx => (h x hx).1) n) (List.Perm.trans (List.Perm.of_eq ?_) (List.mergeSort_perm l _).symm)
    exact List.filter_eq_self.2 fun x hx => by simpa using (h x hx).2
def rmF (R : List Int) : List Int := if rackB R = true then smI (roomL R 6) else []
theorem rmF_len (R : List Int) (h : rackB R = true) : (rmF R).length = 6 := by unfold rmF; rw [if_pos h, smI_len, roomL_len]
--@tbl RoomLeft = impl.RoomLeft
--@tbl sRoomLeft = spec.RoomLeft
theorem RoomLeft_ok (R : List Int) (hR : R.length = 24) : FreshP Try.prog 66 [.arr R] [] (rmF R) (rmF R).length 1 3 true (.more [.bool (rackB R)]) := by
  have tkR : R.take 24 = R := List.take_of_length_le (by omega)
  unfold rmF
  cases hr : rackB R
  · refine fresh_of_vc (X := ⟨Try.prog, tys, [(11, IsRack_F), (133, layers_F)], [(134, sortI_F)], true, true, 0, [], []⟩) fn_66 ⟨tys_ok, (.cons IsRack_T (.cons layers_T .nil)), (.cons sortI_T .nil), mixed⟩ (n0 := 0) rfl (Nat.le_of_ble_eq_true rfl) (by simp [wfL, SV.wf]) (wfH_spec (by simp [wfH, SObj.wf])) (Nat.le_refl _) ?_
    simp -implicitDefEqProofs only [Try.f66, Option.getD_some, argS, IsRack_F, layers_F, sortI_F, hR, tkR, hr, freshK, Wrap.ap, ZB, Int.reduceToNat, Nat.reduceLT, Nat.reduceLeDiff, Int.reduceLE, Int.reduceLT, Nat.reduceEqDiff, Nat.reduceSub, SB, SV.known, packR, ne_eq, reduceCtorEq, Nat.reduceEqDiff, ↓reduceIte, if_true, if_false, eq_self, Nat.reduceAdd, Nat.reduceMul, Nat.reduceSub, forall_const, oneCellS, litOne, flat1, Kd.isSca, flat, TYB]
    exact .inl ⟨rfl, rfl, rfl⟩
  · refine fresh_of_vc (X := ⟨Try.prog, tys, [(11, IsRack_F), (133, layers_F)], [(134, sortI_F)], true, true, 0, [], []⟩) fn_66 ⟨tys_ok, (.cons IsRack_T (.cons layers_T .nil)), (.cons sortI_T .nil), mixed⟩ (n0 := 0) rfl (Nat.le_of_ble_eq_true rfl) (by simp [wfL, SV.wf]) (wfH_spec (by simp [wfH, SObj.wf])) (Nat.le_refl _) ?_
    simp -implicitDefEqProofs only [Try.f66, Option.getD_some, argS, IsRack_F, layers_F, sortI_F, hR, tkR, hr, freshK, Wrap.ap, ZB, Int.reduceToNat, Nat.reduceLT, Nat.reduceLeDiff, Int.reduceLE, Int.reduceLT, Nat.reduceEqDiff, Nat.reduceSub, SB, SV.known, packR, ne_eq, reduceCtorEq, Nat.reduceEqDiff, ↓reduceIte, if_true, if_false, eq_self, Nat.reduceAdd, Nat.reduceMul, Nat.reduceSub, forall_const, oneCellS, litOne, flat1, Kd.isSca, flat, TYB]
    refine loop_intro (fun s : Nat × Nat × List Int => [(12, .int s.1), (11, .arr R), (4, outV s.1 s.1 s.2.1)]) (fun s => outH s.1 (roomL R s.1 ++ s.2.2) 3 [(0, .ints R 27)]) 2 (fun s => s.1 ≤ 6 ∧ s.2.2.length + s.1 = s.2.1) (fun s => 6 - s.1) ?_ ?_
    · refine ⟨(0, 0, []), ⟨by omega, rfl⟩, Sub.mk_id ?_ ?_ ?_ ?_ ?_⟩
      all_goals simp only [outV_zero, outH_zero, LB, subS, subH, wfS, wfH, SV.ren, renL, SObj.ren, SV.wf, SObj.wf, wfL, SV.known, Nat.reduceEqDiff, ↓reduceIte, if_true, if_false, eq_self, Nat.reduceAdd, Nat.reduceLT, Nat.reduceLeDiff, implies_true, reduceCtorEq, forall_const]
      all_goals (try simp)
    · rintro ⟨i, cap, junk⟩ ⟨hi, hj⟩
      simp only at hi hj
      have eT : List.take 4 (List.drop (i * 4) R) = tubeAt R i := rfl
      by_cases hlt : i < 6
      · have hil : (i : Int) < 6 := by omega
        have hl := tubeAt_len hR hlt
        have hb := tubeAt_ok hr hlt
        have tk4 : (tubeAt R i).take 4 = tubeAt R i := List.take_of_length_le (by omega)
        have hlay := lay_le _ hl
        have es := roomL_succ R i
        have lA := roomL_len R i
        have lenA : (roomL R i ++ junk).length = cap := by rw [List.length_append]; omega
        have tkA : (roomL R i ++ junk).take i = roomL R i := List.take_left' lA
        cases i with
        | zero =>
          have eT0 : List.take 4 R = tubeAt R 0 := rfl
          have s1 : (List.replicate 1 (0 : Int)).set 0 (4 - (layN (tubeAt R 0) : Int)) = [4 - (layN (tubeAt R 0) : Int)] := rfl
          rw [roomL_zero, List.nil_append, Nat.zero_add] at es
          simp -implicitDefEqProofs only [lk_normal, layers_F, outV_zero, outH_zero, hil, hR, eT0, hl, hb, tk4, s1, ZB, Int.reduceToNat, Nat.reduceLT, Nat.reduceLeDiff, Int.reduceLE, Int.reduceLT, Nat.reduceEqDiff, Nat.reduceSub, SB, SV.known, packR, ne_eq, reduceCtorEq, Nat.reduceEqDiff, ↓reduceIte, if_true, if_false, eq_self, Nat.reduceAdd, Nat.reduceMul, Nat.reduceSub, forall_const, oneCellS, litOne, flat1, Kd.isSca, flat, TYB]
          refine ⟨by unfold In64; omega, fun junk' cap' hj' => ⟨by unfold In64; omega, ?_⟩⟩
          refine ⟨(1, cap', junk'), ?_, ?_, Sub.mk_to 1 4 ?_ ?_ ?_ ?_ ?_ ?_ ?_⟩
          all_goals (try (simp only [es, outV_succ, outH_succ, LB, subS, subH, wfS, wfH, SV.ren, renL, SObj.ren, SV.wf, SObj.wf, wfL, SV.known, Nat.reduceEqDiff, ↓reduceIte, if_true, if_false, eq_self, Nat.reduceAdd, Nat.reduceLT, Nat.reduceLeDiff, implies_true, reduceCtorEq, forall_const]; done))
          all_goals (try (simp only [es, outV_succ, outH_succ, LB, subS, subH, wfS, wfH, SV.ren, renL, SObj.ren, SV.wf, SObj.wf, wfL, SV.known, Nat.reduceEqDiff, ↓reduceIte, if_true, if_false, eq_self, Nat.reduceAdd, Nat.reduceLT, Nat.reduceLeDiff, implies_true, reduceCtorEq, forall_const]; simp; done))
          all_goals (try (simp only [es, outV_succ, outH_succ, LB, subS, subH, wfS, wfH, SV.ren, renL, SObj.ren, SV.wf, SObj.wf, wfL, SV.known, Nat.reduceEqDiff, ↓reduceIte, if_true, if_false, eq_self, Nat.reduceAdd, Nat.reduceLT, Nat.reduceLeDiff, implies_true, reduceCtorEq, forall_const]; (and_intros <;> (first | omega | rfl | (simp; done) | (simp; omega))); done))
          all_goals (try dsimp only)
          all_goals (and_intros <;> try (first | omega | (unfold In64; omega) | trivial | assumption))
          all_goals (simp only [es, outV_succ, outH_succ, LB, subS, subH, wfS, wfH, SV.ren, renL, SObj.ren, SV.wf, SObj.wf, wfL, SV.known, Nat.reduceEqDiff, ↓reduceIte, if_true, if_false, eq_self, Nat.reduceAdd, Nat.reduceLT, Nat.reduceLeDiff, implies_true, reduceCtorEq, forall_const] <;> simp)
        | succ i =>
          have s1 : (List.replicate 1 (0 : Int)).set 0 (4 - (layN (tubeAt R (i + 1)) : Int)) = [4 - (layN (tubeAt R (i + 1)) : Int)] := rfl
          simp -implicitDefEqProofs only [lk_normal, layers_F, outV_succ, outH_succ, hil, hR, eT, hl, hb, tk4, lenA, tkA, s1, ZB, Int.reduceToNat, Nat.reduceLT, Nat.reduceLeDiff, Int.reduceLE, Int.reduceLT, Nat.reduceEqDiff, Nat.reduceSub, SB, SV.known, packR, ne_eq, reduceCtorEq, Nat.reduceEqDiff, ↓reduceIte, if_true, if_false, eq_self, Nat.reduceAdd, Nat.reduceMul, Nat.reduceSub, forall_const, oneCellS, litOne, flat1, Kd.isSca, flat, TYB]
          refine ⟨by omega, by unfold In64; omega, by omega, by omega, by omega, fun junk' cap' hj' => ⟨by unfold In64; omega, ?_⟩⟩
          refine ⟨(i + 1 + 1, cap', junk'), ?_, ?_, Sub.mk_to 1 4 ?_ ?_ ?_ ?_ ?_ ?_ ?_⟩
          all_goals (try (simp only [es, outV_succ, outH_succ, LB, subS, subH, wfS, wfH, SV.ren, renL, SObj.ren, SV.wf, SObj.wf, wfL, SV.known, Nat.reduceEqDiff, ↓reduceIte, if_true, if_false, eq_self, Nat.reduceAdd, Nat.reduceLT, Nat.reduceLeDiff, implies_true, reduceCtorEq, forall_const]; done))
          all_goals (try (simp only [es, outV_succ, outH_succ, LB, subS, subH, wfS, wfH, SV.ren, renL, SObj.ren, SV.wf, SObj.wf, wfL, SV.known, Nat.reduceEqDiff, ↓reduceIte, if_true, if_false, eq_self, Nat.reduceAdd, Nat.reduceLT, Nat.reduceLeDiff, implies_true, reduceCtorEq, forall_const]; simp; done))
          all_goals (try (simp only [es, outV_succ, outH_succ, LB, subS, subH, wfS, wfH, SV.ren, renL, SObj.ren, SV.wf, SObj.wf, wfL, SV.known, Nat.reduceEqDiff, ↓reduceIte, if_true, if_false, eq_self, Nat.reduceAdd, Nat.reduceLT, Nat.reduceLeDiff, implies_true, reduceCtorEq, forall_const]; (and_intros <;> (first | omega | rfl | (simp; done) | (simp; omega))); done))
          all_goals (try dsimp only)
          all_goals (and_intros <;> try (first | omega | (unfold In64; omega) | trivial | assumption))
          all_goals (simp only [es, outV_succ, outH_succ, LB, subS, subH, wfS, wfH, SV.ren, renL, SObj.ren, SV.wf, SObj.wf, wfL, SV.known, Nat.reduceEqDiff, ↓reduceIte, if_true, if_false, eq_self, Nat.reduceAdd, Nat.reduceLT, Nat.reduceLeDiff, implies_true, reduceCtorEq, forall_const] <;> simp)
      · obtain rfl : i = 6 := by omega
        have lA := roomL_len R 6
        have tkA : (roomL R 6 ++ junk).take 6 = roomL R 6 := List.take_left' lA
        have dkA : (roomL R 6 ++ junk).drop 6 = junk := List.drop_left' lA
        have ls := smI_len (roomL R 6)
        simp -implicitDefEqProofs only [lk_normal, sortI_F, outV_succ, outH_succ, tkA, dkA, ZB, Int.reduceToNat, Nat.reduceLT, Nat.reduceLeDiff, Int.reduceLE, Int.reduceLT, Nat.reduceEqDiff, Nat.reduceSub, SB, SV.known, packR, ne_eq, reduceCtorEq, Nat.reduceEqDiff, ↓reduceIte, if_true, if_false, eq_self, Nat.reduceAdd, Nat.reduceMul, Nat.reduceSub, forall_const, oneCellS, litOne, flat1, Kd.isSca, flat, TYB]
        refine ⟨by rw [List.length_append]; omega, .inr ⟨1, cap, junk, by rw [ls, lA]; rfl, by simp [hget_cons], by omega, by rw [ls]; omega, fun _ h0 => ?_⟩⟩
        have := congrArg List.length h0
        rw [ls, lA] at this
        simp at this
theorem room_bd {R : List Int} (hR : R.length = 24) : ∀ k, k ≤ 6 → ∀ x ∈ roomL R k, 0 ≤ x ∧ x < ((5 : Nat) : Int) := fun k hk x hx => by
  obtain ⟨i, hi, rfl⟩ := List.mem_map.1 hx
  have := lay_le _ (tubeAt_len hR (show i < 6 by have := List.mem_range.1 hi; omega))
  omega
def co (R : List Int) (v i : Nat) : List Int := cs (roomL R 6) v ++ (roomL R i).filter fun x => decide (x = (v : Int))
theorem co_zero (R : List Int) (v : Nat) : co R v 0 = cs (roomL R 6) v := by simp [co, roomL_zero]
theorem co_six (R : List Int) (v : Nat) : co R v 6 = cs (roomL R 6) (v + 1) := by rw [cs_succ]; rfl
theorem co_succ (R : List Int) (v i : Nat) : co R v (i + 1) = co R v i ++ if 4 - (layN (tubeAt R i) : Int) = (v : Int) then [(v : Int)] else [] := by
  have e : (roomL R (i + 1)).filter (fun x => decide (x = (v : Int))) = (roomL R i).filter (fun x => decide (x = (v : Int))) ++ ([4 - (layN (tubeAt R i) : Int)]).filter (fun x => decide (x = (v : Int))) := by rw [roomL_succ, List.filter_append]
  unfold co
  rw [e, ← List.append_assoc]
  congr 1
  by_cases h : 4 - (layN (tubeAt R i) : Int) = (v : Int)
  · rw [if_pos h, h]; simp
  · rw [if_neg h]; simp [h]
theorem co_len {R : List Int} (hR : R.length = 24) (v i : Nat) : (co R v i).length ≤ 6 + i := by
  unfold co
  have h1 := (cs_perm (roomL R 6) (fun x hx => (room_bd hR 6 (Nat.le_refl _) x hx).1) v).length_eq
  have h2 := List.length_filter_le (fun x => decide (x < (v : Int))) (roomL R 6)
  have h3 := List.length_filter_le (fun x => decide (x = (v : Int))) (roomL R i)
  rw [roomL_len] at h2 h3
  rw [List.length_append]; omega
theorem sRoomLeft_ok (R : List Int) (hR : R.length = 24) : FreshP Try.prog 67 [.arr R] [] (rmF R) (rmF R).length 1 3 false (.more [.bool (rackB R)]) := by
  have tkR : R.take 24 = R := List.take_of_length_le (by omega)
  unfold rmF
  cases hr : rackB R
  · refine fresh_of_vc (X := ⟨Try.prog, tys, [(72, l2Rack_F), (135, l2Many_F)], [], true, true, 0, [], []⟩) fn_67 ⟨tys_ok, (.cons l2Rack_T (.cons l2Many_T .nil)), .nil, mixed⟩ (n0 := 0) rfl (Nat.le_of_ble_eq_true rfl) (by simp [wfL, SV.wf]) (wfH_spec (by simp [wfH, SObj.wf])) (Nat.le_refl _) ?_
    simp -implicitDefEqProofs only [Try.f67, Option.getD_some, argS, l2Rack_F, l2Many_F, hR, tkR, hr, freshK, Wrap.ap, ZB, Int.reduceToNat, Nat.reduceLT, Nat.reduceLeDiff, Int.reduceLE, Int.reduceLT, Nat.reduceEqDiff, Nat.reduceSub, SB, SV.known, packR, ne_eq, reduceCtorEq, Nat.reduceEqDiff, ↓reduceIte, if_true, if_false, eq_self, Nat.reduceAdd, Nat.reduceMul, Nat.reduceSub, forall_const, oneCellS, litOne, flat1, Kd.isSca, flat, TYB]
    exact .inr ⟨1, 0, [], by simp [Wrap.ap], by simp [hget_cons], by omega, by simp, by simp⟩
  · refine fresh_of_vc (X := ⟨Try.prog, tys, [(72, l2Rack_F), (135, l2Many_F)], [], true, true, 0, [], []⟩) fn_67 ⟨tys_ok, (.cons l2Rack_T (.cons l2Many_T .nil)), .nil, mixed⟩ (n0 := 0) rfl (Nat.le_of_ble_eq_true rfl) (by simp [wfL, SV.wf]) (wfH_spec (by simp [wfH, SObj.wf])) (Nat.le_refl _) ?_
    simp -implicitDefEqProofs only [Try.f67, Option.getD_some, argS, l2Rack_F, l2Many_F, hR, tkR, hr, freshK, Wrap.ap, ZB, Int.reduceToNat, Nat.reduceLT, Nat.reduceLeDiff, Int.reduceLE, Int.reduceLT, Nat.reduceEqDiff, Nat.reduceSub, SB, SV.known, packR, ne_eq, reduceCtorEq, Nat.reduceEqDiff, ↓reduceIte, if_true, if_false, eq_self, Nat.reduceAdd, Nat.reduceMul, Nat.reduceSub, forall_const, oneCellS, litOne, flat1, Kd.isSca, flat, TYB]
    refine loop_intro (fun s : Nat × Nat × List Int => [(5, .int s.1), (4, .slice 1 0 (co R s.1 0).length s.2.1), (1, .ptr 0 0)]) (fun s => [(1, .ints (co R s.1 0 ++ s.2.2) 3), (0, .ints R 27)]) 2 (fun s => s.1 ≤ 5 ∧ s.2.2.length + (co R s.1 0).length = s.2.1) (fun s => 5 - s.1) ?_ ?_
    · have c0 : co R 0 0 = [] := rfl
      refine ⟨(0, 0, []), ?_, Sub.mk_id ?_ ?_ ?_ ?_ ?_⟩
      all_goals (try (simp only [c0, List.length_nil, List.append_nil, LB, subS, subH, wfS, wfH, SV.ren, renL, SObj.ren, SV.wf, SObj.wf, wfL, SV.known, Nat.reduceEqDiff, ↓reduceIte, if_true, if_false, eq_self, Nat.reduceAdd, Nat.reduceLT, Nat.reduceLeDiff, implies_true, reduceCtorEq, forall_const]; done))
      all_goals (try (simp only [c0, List.length_nil, List.append_nil, LB, subS, subH, wfS, wfH, SV.ren, renL, SObj.ren, SV.wf, SObj.wf, wfL, SV.known, Nat.reduceEqDiff, ↓reduceIte, if_true, if_false, eq_self, Nat.reduceAdd, Nat.reduceLT, Nat.reduceLeDiff, implies_true, reduceCtorEq, forall_const]; simp; done))
      all_goals (try (simp only [c0, List.length_nil, List.append_nil, LB, subS, subH, wfS, wfH, SV.ren, renL, SObj.ren, SV.wf, SObj.wf, wfL, SV.known, Nat.reduceEqDiff, ↓reduceIte, if_true, if_false, eq_self, Nat.reduceAdd, Nat.reduceLT, Nat.reduceLeDiff, implies_true, reduceCtorEq, forall_const]; (and_intros <;> (first | omega | rfl | (simp; done) | (simp; omega))); done))
      all_goals (try dsimp only)
      all_goals (and_intros <;> try (first | omega | (unfold In64; omega) | trivial | assumption))
    · rintro ⟨v, cap, junk⟩ ⟨hv, hj⟩
      simp only at hv hj
      by_cases hv5 : v < 5
      · have hvl : (v : Int) ≤ 4 := by omega
        simp -implicitDefEqProofs only [lk_normal, hvl, ZB, Int.reduceToNat, Nat.reduceLT, Nat.reduceLeDiff, Int.reduceLE, Int.reduceLT, Nat.reduceEqDiff, Nat.reduceSub, SB, SV.known, packR, ne_eq, reduceCtorEq, Nat.reduceEqDiff, ↓reduceIte, if_true, if_false, eq_self, Nat.reduceAdd, Nat.reduceMul, Nat.reduceSub, forall_const, oneCellS, litOne, flat1, Kd.isSca, flat, TYB]
        refine loop_intro (fun s : Nat × Nat × List Int => [(6, .int s.1), (5, .int v), (4, .slice 1 0 (co R v s.1).length s.2.1), (1, .ptr 0 0)]) (fun s => [(1, .ints (co R v s.1 ++ s.2.2) 3), (0, .ints R 27)]) 2 (fun s => s.1 ≤ 6 ∧ s.2.2.length + (co R v s.1).length = s.2.1) (fun s => 6 - s.1) ?_ ?_
        · refine ⟨(0, cap, junk), ?_, Sub.mk_id ?_ ?_ ?_ ?_ ?_⟩
          all_goals (try (simp only [LB, subS, subH, wfS, wfH, SV.ren, renL, SObj.ren, SV.wf, SObj.wf, wfL, SV.known, Nat.reduceEqDiff, ↓reduceIte, if_true, if_false, eq_self, Nat.reduceAdd, Nat.reduceLT, Nat.reduceLeDiff, implies_true, reduceCtorEq, forall_const]; done))
          all_goals (try (simp only [LB, subS, subH, wfS, wfH, SV.ren, renL, SObj.ren, SV.wf, SObj.wf, wfL, SV.known, Nat.reduceEqDiff, ↓reduceIte, if_true, if_false, eq_self, Nat.reduceAdd, Nat.reduceLT, Nat.reduceLeDiff, implies_true, reduceCtorEq, forall_const]; simp; done))
          all_goals (try (simp only [LB, subS, subH, wfS, wfH, SV.ren, renL, SObj.ren, SV.wf, SObj.wf, wfL, SV.known, Nat.reduceEqDiff, ↓reduceIte, if_true, if_false, eq_self, Nat.reduceAdd, Nat.reduceLT, Nat.reduceLeDiff, implies_true, reduceCtorEq, forall_const]; (and_intros <;> (first | omega | rfl | (simp; done) | (simp; omega))); done))
          all_goals (try dsimp only)
          all_goals (and_intros <;> try (first | omega | (unfold In64; omega) | trivial | assumption))
        · rintro ⟨i, cap, junk⟩ ⟨hi, hj⟩
          simp only at hi hj
          have eT : List.take 4 (List.drop (i * 4) R) = tubeAt R i := rfl
          have lA := co_len hR v i
          by_cases hlt : i < 6
          · have hil : (i : Int) < 6 := by omega
            have hl := tubeAt_len hR hlt
            have hb := tubeAt_ok hr hlt
            have tk4 : (tubeAt R i).take 4 = tubeAt R i := List.take_of_length_le (by omega)
            have hlay := lay_le _ hl
            have es := co_succ R v i
            have lenA : (co R v i ++ junk).length = cap := by rw [List.length_append]; omega
            have tkA : (co R v i ++ junk).take (co R v i).length = co R v i := List.take_left' rfl
            have i4 : i * 4 + 4 ≤ 24 := by omega
            have pc := posC_lay _ hl hb
            by_cases he : 4 - (layN (tubeAt R i) : Int) = (v : Int)
            · rw [if_pos he] at es
              have el : (co R v (i + 1)).length = (co R v i).length + 1 := by rw [es, List.length_append]; rfl
              have s1 : (List.replicate 1 (0 : Int)).set 0 (v : Int) = [(v : Int)] := rfl
              simp -implicitDefEqProofs only [lk_normal, l2Many_F, hil, hR, eT, hl, hb, tk4, pc, he, lenA, tkA, s1, i4, ZB, Int.reduceToNat, Nat.reduceLT, Nat.reduceLeDiff, Int.reduceLE, Int.reduceLT, Nat.reduceEqDiff, Nat.reduceSub, SB, SV.known, packR, ne_eq, reduceCtorEq, Nat.reduceEqDiff, ↓reduceIte, if_true, if_false, eq_self, Nat.reduceAdd, Nat.reduceMul, Nat.reduceSub, forall_const, oneCellS, litOne, flat1, Kd.isSca, flat, TYB]
              refine ⟨by omega, by unfold In64; omega, by omega, by omega, by omega, fun junk' cap' hj' => ⟨by unfold In64; omega, ?_⟩⟩
              refine ⟨(i + 1, cap', junk'), ?_, ?_, Sub.mk_to 1 3 ?_ ?_ ?_ ?_ ?_ ?_ ?_⟩
              all_goals (try (simp only [es, el, LB, subS, subH, wfS, wfH, SV.ren, renL, SObj.ren, SV.wf, SObj.wf, wfL, SV.known, Nat.reduceEqDiff, ↓reduceIte, if_true, if_false, eq_self, Nat.reduceAdd, Nat.reduceLT, Nat.reduceLeDiff, implies_true, reduceCtorEq, forall_const]; done))
              all_goals (try (simp only [es, el, LB, subS, subH, wfS, wfH, SV.ren, renL, SObj.ren, SV.wf, SObj.wf, wfL, SV.known, Nat.reduceEqDiff, ↓reduceIte, if_true, if_false, eq_self, Nat.reduceAdd, Nat.reduceLT, Nat.reduceLeDiff, implies_true, reduceCtorEq, forall_const]; simp; done))
              all_goals (try (simp only [es, el, LB, subS, subH, wfS, wfH, SV.ren, renL, SObj.ren, SV.wf, SObj.wf, wfL, SV.known, Nat.reduceEqDiff, ↓reduceIte, if_true, if_false, eq_self, Nat.reduceAdd, Nat.reduceLT, Nat.reduceLeDiff, implies_true, reduceCtorEq, forall_const]; (and_intros <;> (first | omega | rfl | (simp; done) | (simp; omega))); done))
              all_goals (try dsimp only)
              all_goals (and_intros <;> try (first | omega | (unfold In64; omega) | trivial | assumption))
              all_goals (simp only [es, LB, subS, subH, wfS, wfH, SV.ren, renL, SObj.ren, SV.wf, SObj.wf, wfL, SV.known, Nat.reduceEqDiff, ↓reduceIte, if_true, if_false, eq_self, Nat.reduceAdd, Nat.reduceLT, Nat.reduceLeDiff, implies_true, reduceCtorEq, forall_const] <;> simp)
            · rw [if_neg he, List.append_nil] at es
              simp -implicitDefEqProofs only [lk_normal, l2Many_F, hil, hR, eT, hl, hb, tk4, pc, he, lenA, tkA, i4, ZB, Int.reduceToNat, Nat.reduceLT, Nat.reduceLeDiff, Int.reduceLE, Int.reduceLT, Nat.reduceEqDiff, Nat.reduceSub, SB, SV.known, packR, ne_eq, reduceCtorEq, Nat.reduceEqDiff, ↓reduceIte, if_true, if_false, eq_self, Nat.reduceAdd, Nat.reduceMul, Nat.reduceSub, forall_const, oneCellS, litOne, flat1, Kd.isSca, flat, TYB]
              refine ⟨by omega, by unfold In64; omega, by unfold In64; omega, ?_⟩
              refine ⟨(i + 1, cap, junk), ?_, ?_, Sub.mk_id ?_ ?_ ?_ ?_ ?_⟩
              all_goals (try (simp only [es, LB, subS, subH, wfS, wfH, SV.ren, renL, SObj.ren, SV.wf, SObj.wf, wfL, SV.known, Nat.reduceEqDiff, ↓reduceIte, if_true, if_false, eq_self, Nat.reduceAdd, Nat.reduceLT, Nat.reduceLeDiff, implies_true, reduceCtorEq, forall_const]; done))
              all_goals (try (simp only [es, LB, subS, subH, wfS, wfH, SV.ren, renL, SObj.ren, SV.wf, SObj.wf, wfL, SV.known, Nat.reduceEqDiff, ↓reduceIte, if_true, if_false, eq_self, Nat.reduceAdd, Nat.reduceLT, Nat.reduceLeDiff, implies_true, reduceCtorEq, forall_const]; simp; done))
              all_goals (try (simp only [es, LB, subS, subH, wfS, wfH, SV.ren, renL, SObj.ren, SV.wf, SObj.wf, wfL, SV.known, Nat.reduceEqDiff, ↓reduceIte, if_true, if_false, eq_self, Nat.reduceAdd, Nat.reduceLT, Nat.reduceLeDiff, implies_true, reduceCtorEq, forall_const]; (and_intros <;> (first | omega | rfl | (simp; done) | (simp; omega))); done))
              all_goals (try dsimp only)
              all_goals (and_intros <;> try (first | omega | (unfold In64; omega) | trivial | assumption))
          · obtain rfl : i = 6 := by omega
            have e6 : co R v 6 = co R (v + 1) 0 := by rw [co_zero, co_six]
            simp -implicitDefEqProofs only [lk_normal, ZB, Int.reduceToNat, Nat.reduceLT, Nat.reduceLeDiff, Int.reduceLE, Int.reduceLT, Nat.reduceEqDiff, Nat.reduceSub, SB, SV.known, packR, ne_eq, reduceCtorEq, Nat.reduceEqDiff, ↓reduceIte, if_true, if_false, eq_self, Nat.reduceAdd, Nat.reduceMul, Nat.reduceSub, forall_const, oneCellS, litOne, flat1, Kd.isSca, flat, TYB]
            refine ⟨by unfold In64; omega, ?_⟩
            rw [e6] at hj
            refine ⟨(v + 1, cap, junk), ?_, ?_, Sub.mk_id ?_ ?_ ?_ ?_ ?_⟩
            all_goals (try (simp only [e6, LB, subS, subH, wfS, wfH, SV.ren, renL, SObj.ren, SV.wf, SObj.wf, wfL, SV.known, Nat.reduceEqDiff, ↓reduceIte, if_true, if_false, eq_self, Nat.reduceAdd, Nat.reduceLT, Nat.reduceLeDiff, implies_true, reduceCtorEq, forall_const]; done))
            all_goals (try (simp only [e6, LB, subS, subH, wfS, wfH, SV.ren, renL, SObj.ren, SV.wf, SObj.wf, wfL, SV.known, Nat.reduceEqDiff, ↓reduceIte, if_true, if_false, eq_self, Nat.reduceAdd, Nat.reduceLT, Nat.reduceLeDiff, implies_true, reduceCtorEq, forall_const]; simp; done))
            all_goals (try (simp only [e6, LB, subS, subH, wfS, wfH, SV.ren, renL, SObj.ren, SV.wf, SObj.wf, wfL, SV.known, Nat.reduceEqDiff, ↓reduceIte, if_true, if_false, eq_self, Nat.reduceAdd, Nat.reduceLT, Nat.reduceLeDiff, implies_true, reduceCtorEq, forall_const]; (and_intros <;> (first | omega | rfl | (simp; done) | (simp; omega))); done))
            all_goals (try dsimp only)
            all_goals (and_intros <;> try (first | omega | (unfold In64; omega) | trivial | assumption))
      · obtain rfl : v = 5 := by omega
        have hvl : ¬ (((5 : Nat) : Int) ≤ 4) := by omega
        have e5 : co R 5 0 = smI (roomL R 6) := by rw [co_zero]; exact cs_sm _ _ (room_bd hR 6 (Nat.le_refl _))
        have ls := smI_len (roomL R 6)
        have lA := roomL_len R 6
        rw [e5] at hj
        simp -implicitDefEqProofs only [lk_normal, hvl, e5, ZB, Int.reduceToNat, Nat.reduceLT, Nat.reduceLeDiff, Int.reduceLE, Int.reduceLT, Nat.reduceEqDiff, Nat.reduceSub, SB, SV.known, packR, ne_eq, reduceCtorEq, Nat.reduceEqDiff, ↓reduceIte, if_true, if_false, eq_self, Nat.reduceAdd, Nat.reduceMul, Nat.reduceSub, forall_const, oneCellS, litOne, flat1, Kd.isSca, flat, TYB]
        exact .inr ⟨1, cap, junk, rfl, by simp [hget_cons], by omega, by omega, by simp⟩
end Go.Proofs.Ytopfnkmlgcjpbaa
/- Walks: what the law of bounds does with lists of numbers. -/
set_option maxRecDepth 100000
set_option linter.unusedSimpArgs false
set_option linter.unusedVariables false
namespace Go.Proofs.Ytopfnkmlgcjpbaa
open Go Go.RowKit
--@tbl rInts = laws.rInts
theorem rInts_ok (L1 L2 : List Int) (e1 e2 c1 c2 m : Nat) (h1 : m ≤ L1.length) (h2 : m ≤ L2.length) (h : L1.take m = L2.take m) (hm : m ≤ 4611686018427387903) :
    PureH Try.prog 20 [.slice 0 0 m c1, .slice 1 0 m c2] [(0, .ints L1 e1), (1, .ints L2 e2)] (.bool true) := by
  refine pure_of_vc (X := ⟨Try.prog, tys, [], [], true, true, 2, [], []⟩) fn_20 ⟨tys_ok, .nil, .nil, mixed⟩ (n0 := 2) (Nat.le_of_ble_eq_true rfl) (by simp [wfL, SV.wf]) (wfH_spec (by simp [wfH, SObj.wf])) (Nat.le_refl _) (fun _ => by simp [SV.wf, wfL]) ?_
  simp -implicitDefEqProofs only [Try.f20, Option.getD_some, argS, ZB, Int.reduceToNat, Nat.reduceLT, Nat.reduceLeDiff, Int.reduceLE, Int.reduceLT, Nat.reduceEqDiff, Nat.reduceSub, SB, SV.known, packR, ne_eq, reduceCtorEq, Nat.reduceEqDiff, ↓reduceIte, if_true, if_false, eq_self, Nat.reduceAdd, Nat.reduceMul, Nat.reduceSub, forall_const, oneCellS, litOne, flat1, Kd.isSca, flat, TYB]
  refine loop_intro (fun i : Nat => [(5, .int i), (0, .slice 0 0 m c1), (1, .slice 1 0 m c2)]) (fun _ => [(0, .ints L1 e1), (1, .ints L2 e2)]) 2 (fun i => i ≤ m) (fun i => m - i) ?_ ?_
  · refine ⟨0, ?_, Sub.mk_id ?_ ?_ ?_ ?_ ?_⟩
    all_goals (try (simp only [LB, subS, subH, wfS, wfH, SV.ren, renL, SObj.ren, SV.wf, SObj.wf, wfL, SV.known, Nat.reduceEqDiff, ↓reduceIte, if_true, if_false, eq_self, Nat.reduceAdd, Nat.reduceLT, Nat.reduceLeDiff, implies_true, reduceCtorEq, forall_const]; done))
    all_goals (try (simp only [LB, subS, subH, wfS, wfH, SV.ren, renL, SObj.ren, SV.wf, SObj.wf, wfL, SV.known, Nat.reduceEqDiff, ↓reduceIte, if_true, if_false, eq_self, Nat.reduceAdd, Nat.reduceLT, Nat.reduceLeDiff, implies_true, reduceCtorEq, forall_const]; simp; done))
    all_goals (try (simp only [LB, subS, subH, wfS, wfH, SV.ren, renL, SObj.ren, SV.wf, SObj.wf, wfL, SV.known, Nat.reduceEqDiff, ↓reduceIte, if_true, if_false, eq_self, Nat.reduceAdd, Nat.reduceLT, Nat.reduceLeDiff, implies_true, reduceCtorEq, forall_const]; (and_intros <;> (first | omega | rfl | (simp; done) | (simp; omega))); done))
    all_goals (try dsimp only)
    all_goals (and_intros <;> try (first | omega | (unfold In64; omega) | trivial | assumption))
  · intro i hi
    by_cases hlt : i < m
    · have hil : (i : Int) < m := by omega
      have ee : L1.getD i 0 = L2.getD i 0 := by
        have := congrArg (fun l => l.getD i 0) h
        simpa [List.getD_eq_getElem?_getD, List.getElem?_take, hlt] using this
      have q1 : i < L1.length := by omega
      have q2 : i < L2.length := by omega
      simp -implicitDefEqProofs only [lk_normal, hil, ee, q1, q2, ZB, Int.reduceToNat, Nat.reduceLT, Nat.reduceLeDiff, Int.reduceLE, Int.reduceLT, Nat.reduceEqDiff, Nat.reduceSub, SB, SV.known, packR, ne_eq, reduceCtorEq, Nat.reduceEqDiff, ↓reduceIte, if_true, if_false, eq_self, Nat.reduceAdd, Nat.reduceMul, Nat.reduceSub, forall_const, oneCellS, litOne, flat1, Kd.isSca, flat, TYB]
      (try (and_intros <;> try (first | omega | (unfold In64; omega) | trivial | assumption)))
      refine ⟨i + 1, ?_, ?_, Sub.mk_id ?_ ?_ ?_ ?_ ?_⟩
      all_goals (try (simp only [LB, subS, subH, wfS, wfH, SV.ren, renL, SObj.ren, SV.wf, SObj.wf, wfL, SV.known, Nat.reduceEqDiff, ↓reduceIte, if_true, if_false, eq_self, Nat.reduceAdd, Nat.reduceLT, Nat.reduceLeDiff, implies_true, reduceCtorEq, forall_const]; done))
      all_goals (try (simp only [LB, subS, subH, wfS, wfH, SV.ren, renL, SObj.ren, SV.wf, SObj.wf, wfL, SV.known, Nat.reduceEqDiff, ↓reduceIte, if_true, if_false, eq_self, Nat.reduceAdd, Nat.reduceLT, Nat.reduceLeDiff, implies_true, reduceCtorEq, forall_const]; simp; done))
      all_goals (try (simp only [LB, subS, subH, wfS, wfH, SV.ren, renL, SObj.ren, SV.wf, SObj.wf, wfL, SV.known, Nat.reduceEqDiff, ↓reduceIte, if_true, if_false, eq_self, Nat.reduceAdd, Nat.reduceLT, Nat.reduceLeDiff, implies_true, reduceCtorEq, forall_const]; (and_intros <;> (first | omega | rfl | (simp; done) | (simp; omega))); done))
      all_goals (try dsimp only)
      all_goals (and_intros <;> try (first | omega | (unfold In64; omega) | trivial | assumption))
    · have hil : ¬ (i : Int) < m := by omega
      simp -implicitDefEqProofs only [lk_normal, hil, ZB, Int.reduceToNat, Nat.reduceLT, Nat.reduceLeDiff, Int.reduceLE, Int.reduceLT, Nat.reduceEqDiff, Nat.reduceSub, SB, SV.known, packR, ne_eq, reduceCtorEq, Nat.reduceEqDiff, ↓reduceIte, if_true, if_false, eq_self, Nat.reduceAdd, Nat.reduceMul, Nat.reduceSub, forall_const, oneCellS, litOne, flat1, Kd.isSca, flat, TYB]
theorem rInts_ns (L2 : List Int) (e2 c2 : Nat) : PureH Try.prog 20 [.nils, .slice 0 0 0 c2] [(0, .ints L2 e2)] (.bool true) := by
  refine pure_of_vc (X := ⟨Try.prog, tys, [], [], true, true, 1, [], []⟩) fn_20 ⟨tys_ok, .nil, .nil, mixed⟩ (n0 := 1) (Nat.le_of_ble_eq_true rfl) (by simp [wfL, SV.wf]) (wfH_spec (by simp [wfH, SObj.wf])) (Nat.le_refl _) (fun _ => by simp [SV.wf, wfL]) ?_
  simp -implicitDefEqProofs only [Try.f20, Option.getD_some, argS, ZB, Int.reduceToNat, Nat.reduceLT, Nat.reduceLeDiff, Int.reduceLE, Int.reduceLT, Nat.reduceEqDiff, Nat.reduceSub, SB, SV.known, packR, ne_eq, reduceCtorEq, Nat.reduceEqDiff, ↓reduceIte, if_true, if_false, eq_self, Nat.reduceAdd, Nat.reduceMul, Nat.reduceSub, forall_const, oneCellS, litOne, flat1, Kd.isSca, flat, TYB]
  refine loop_intro (fun i : Nat => [(5, .int 0), (0, .nils), (1, .slice 0 0 0 c2)]) (fun _ => [(0, .ints L2 e2)]) 1 (fun i => True) (fun i => 0) ?_ ?_
  · refine ⟨0, ?_, Sub.mk_id ?_ ?_ ?_ ?_ ?_⟩
    all_goals (try (simp only [LB, subS, subH, wfS, wfH, SV.ren, renL, SObj.ren, SV.wf, SObj.wf, wfL, SV.known, Nat.reduceEqDiff, ↓reduceIte, if_true, if_false, eq_self, Nat.reduceAdd, Nat.reduceLT, Nat.reduceLeDiff, implies_true, reduceCtorEq, forall_const]; done))
    all_goals (try (simp only [LB, subS, subH, wfS, wfH, SV.ren, renL, SObj.ren, SV.wf, SObj.wf, wfL, SV.known, Nat.reduceEqDiff, ↓reduceIte, if_true, if_false, eq_self, Nat.reduceAdd, Nat.reduceLT, Nat.reduceLeDiff, implies_true, reduceCtorEq, forall_const]; simp; done))
    all_goals (try (simp only [LB, subS, subH, wfS, wfH, SV.ren, renL, SObj.ren, SV.wf, SObj.wf, wfL, SV.known, Nat.reduceEqDiff, ↓reduceIte, if_true, if_false, eq_self, Nat.reduceAdd, Nat.reduceLT, Nat.reduceLeDiff, implies_true, reduceCtorEq, forall_const]; (and_intros <;> (first | omega | rfl | (simp; done) | (simp; omega))); done))
    all_goals (try dsimp only)
    all_goals (and_intros <;> try (first | omega | (unfold In64; omega) | trivial | assumption))
  · intro i hi
    simp -implicitDefEqProofs only [lk_normal, ZB, Int.reduceToNat, Nat.reduceLT, Nat.reduceLeDiff, Int.reduceLE, Int.reduceLT, Nat.reduceEqDiff, Nat.reduceSub, SB, SV.known, packR, ne_eq, reduceCtorEq, Nat.reduceEqDiff, ↓reduceIte, if_true, if_false, eq_self, Nat.reduceAdd, Nat.reduceMul, Nat.reduceSub, forall_const, oneCellS, litOne, flat1, Kd.isSca, flat, TYB]
def rInts_F : List SV → Heap → Option (Prop × SV)
  | [.slice a 0 l1 _, .slice b 0 l2 _], H => match hget H a, hget H b with
    | some (.ints L1 _), some (.ints L2 _) => some (a ≠ b ∧ l1 = l2 ∧ l1 ≤ L1.length ∧ l2 ≤ L2.length ∧ L1.take l1 = L2.take l2 ∧ l1 ≤ 4611686018427387903, .bool true)
    | _, _ => none
  | [.nils, .slice b 0 l2 _], H => match hget H b with
    | some (.ints _ _) => some (l2 = 0, .bool true)
    | _ => none
  | _, _ => none
theorem rInts_T : ∀ args H p v, rInts_F args H = some (p, v) → p → PureH Try.prog 20 args H v := by
  intro args H p v h hp
  unfold rInts_F at h
  split at h
  · rename_i a l1 c1 b l2 c2
    split at h
    · rename_i L1 e1 L2 e2 g1 g2
      cases h
      obtain ⟨hab, rfl, q1, q2, q3, q4⟩ := hp
      have := (rInts_ok L1 L2 e1 e2 c1 c2 l1 q1 q2 q3 q4).sub (H := H) (fun j => if j = 0 then a else b) (fun j o hj => by
        simp only [hget_cons] at hj
        split at hj
        · rename_i hj0; cases hj; refine ⟨?_, fun _ => by omega, by simp [hj0]⟩; show hget H (if j = 0 then a else b) = _; rw [if_pos hj0]; exact g1
        · rename_i hj0
          split at hj
          · rename_i hj1; cases hj; refine ⟨?_, fun _ => by omega, by simp [hj1]⟩; show hget H (if j = 0 then a else b) = _; rw [if_neg hj0]; exact g2
          · cases hj) (fun x hx y hy he => by
        simp at hx hy
        rcases hx with rfl | rfl <;> rcases hy with rfl | rfl <;> simp at he <;> omega) (fun _ => trivial)
      simpa [renL, SV.ren] using this
    · cases h
  · rename_i b l2 c2
    split at h
    · rename_i L2 e2 g2
      cases h
      subst hp
      exact one_block (rInts_ns L2 e2 c2) g2 rfl (fun _ => trivial)
    · cases h
  · cases h
def RoomLeft_F : List SV → Heap → Nat → Nat → K1 → Prop
  | [.arr R], H, n, _, κ => R.length = 24 ∧ freshK (.more [.bool (rackB R)]) (rmF R) (rmF R).length 1 3 true H n κ
  | _, _, _, _, _ => False
theorem RoomLeft_T : ∀ args H n m κ, RoomLeft_F args H n m κ → GenOK Try.prog 66 args H n m κ := by
  intro args H n m κ h
  unfold RoomLeft_F at h
  split at h
  · exact gen_of_fresh (RoomLeft_ok _ h.1) (fun k o hk => by cases hk) h.2
  · exact h.elim
def sRoomLeft_F : List SV → Heap → Nat → Nat → K1 → Prop
  | [.arr R], H, n, _, κ => R.length = 24 ∧ freshK (.more [.bool (rackB R)]) (rmF R) (rmF R).length 1 3 false H n κ
  | _, _, _, _, _ => False
theorem sRoomLeft_T : ∀ args H n m κ, sRoomLeft_F args H n m κ → GenOK Try.prog 67 args H n m κ := by
  intro args H n m κ h
  unfold sRoomLeft_F at h
  split at h
  · exact gen_of_fresh (sRoomLeft_ok _ h.1) (fun k o hk => by cases hk) h.2
  · exact h.elim
end Go.Proofs.Ytopfnkmlgcjpbaa
/- Walks: how arguments are drawn from bytes. -/
set_option maxRecDepth 100000
set_option linter.unusedSimpArgs false
set_option linter.unusedVariables false
namespace Go.Proofs.Ytopfnkmlgcjpbaa
open Go Go.RowKit
/-- A code of bytes: nil, or a window of a block. -/
def BytV (kc : Nat) (v : SV) (H : Heap) : Prop := (v = .nils ∧ ∃ o, hget H kc = some o) ∨ ∃ (off len cap : Nat) (L : List Int), v = .slice kc off len cap ∧ hget H kc = some (.winU off L) ∧ L.length = len ∧ len ≤ 1000000000 ∧ ∀ x ∈ L, 0 ≤ x ∧ x ≤ 255
theorem BytV.wf {kc n : Nat} {v : SV} {H : Heap} (h : BytV kc v H) (hw : hwf n H) : v.wf n ∧ kc < n := by
  rcases h with ⟨rfl, o, h⟩ | ⟨off, len, cap, L, rfl, h, _⟩
  · exact ⟨trivial, (hw _ _ h).1⟩
  · exact ⟨(hw _ _ h).1, (hw _ _ h).1⟩
theorem BytV.one {kc : Nat} {v : SV} {H : Heap} (h : BytV kc v H) : oneCellS v = true := by
  rcases h with ⟨rfl, o, h⟩ | ⟨off, len, cap, L, rfl, h, _⟩ <;> rfl
theorem BytV.at {kc : Nat} {v : SV} {H H' : Heap} (h : BytV kc v H) (hf : ∀ o, hget H kc = some o → hget H' kc = some o) : BytV kc v H' := by
  rcases h with ⟨rfl, o, h⟩ | ⟨off, len, cap, L, rfl, h, h2⟩
  · exact .inl ⟨rfl, o, hf _ h⟩
  · exact .inr ⟨off, len, cap, L, rfl, hf _ h, h2⟩
/-- A cursor, its bytes, and the number of draws. -/
def CurH (c kc a : Nat) (H : Heap) : Prop := ∃ (v : SV) (s : Int), hget H c = some (.cells [v, .int a, .lit (.int .u64 s)] 88) ∧ BytV kc v H ∧ kc ≠ c
/-- What draws leave. -/
structure Drawn (c kc a k n : Nat) (H H' : Heap) (n' : Nat) : Prop where
  le : n ≤ n'
  wf : hwf n' H'
  cur : ∃ a', a ≤ a' ∧ a' ≤ a + k ∧ CurH c kc a' H'
  fr : ∀ i o, i < n → i ≠ c → hget H i = some o → hget H' i = some o
theorem u8_in {x : Int} (h : 0 ≤ x ∧ x ≤ 255) : In64 x := by unfold In64; omega
theorem and_255 (x : Int) : 0 ≤ IntKind.u64.wrap ((BitVec.ofInt IntKind.u64.bits x &&& BitVec.ofInt IntKind.u64.bits 255).toNat : Int) ∧ IntKind.u64.wrap ((BitVec.ofInt IntKind.u64.bits x &&& BitVec.ofInt IntKind.u64.bits 255).toNat : Int) ≤ 255 := by
  have h : (BitVec.ofInt IntKind.u64.bits x &&& BitVec.ofInt IntKind.u64.bits 255).toNat ≤ 255 := by
    rw [BitVec.toNat_and]
    exact Nat.le_trans Nat.and_le_right (by decide)
  generalize (BitVec.ofInt IntKind.u64.bits x &&& BitVec.ofInt IntKind.u64.bits 255).toNat = y at h ⊢
  have e : IntKind.u64.wrap (y : Int) = y := by
    unfold IntKind.wrap
    have h2 : ((y : Int) % (2 ^ IntKind.u64.bits : Int)) = y := Int.emod_eq_of_lt (by omega) (by show (y : Int) < 18446744073709551616; omega)
    simp only [h2]
    rfl
  rw [e]; omega
def next_F : List SV → Heap → Nat → Nat → K1 → Prop
  | [.ptr c 0], H, n, m, κ => ∃ kc a, CurH c kc a H ∧ m ≤ c ∧ a ≤ 1000000 ∧ ∀ x H', 0 ≤ x → x ≤ 255 → Drawn c kc a 1 n H H' n → κ (.int x) H' n
  | _, _, _, _, _ => False
theorem next_vc (c kc a m n : Nat) (H : Heap) (hC : CurH c kc a H) (hm : m ≤ c) (ha : a ≤ 1000000) (hwH : hwf n H) :
    codeVC (⟨Try.prog, tys, [], [], true, true, m, [], []⟩ : Cx) n (Try.f147.body.getD .skip) (argS 0 [.ptr c 0]) H n
      (retK tys Try.f147.results.toList fun v H' n' => ∃ x : Int, v = .int x ∧ 0 ≤ x ∧ x ≤ 255 ∧ Drawn c kc a 1 n H H' n ∧ n' = n) := by
  obtain ⟨v, s, h1, h2, h6⟩ := hC
  have hc := (hwH _ _ h1).1
  obtain ⟨hvw, hk⟩ := h2.wf hwH
  have fin : ∀ s', Drawn c kc a 1 n H ((c, .cells [v, .int ((a : Int) + 1), .lit (.int .u64 s')] 88) :: (c, .cells [v, .int ((a : Int) + 1), .lit (.int .u64 s)] 88) :: H) n := fun s' =>
    ⟨Nat.le_refl _, hwf_cons (hwf_cons hwH hc (by simp [SObj.wf, wfL, SV.wf]; exact hvw)) hc (by simp [SObj.wf, wfL, SV.wf]; exact hvw),
      ⟨a + 1, by omega, by omega, v, s', by simp [hget_cons], h2.at (fun o ho => by rw [hget_cons, if_neg h6, hget_cons, if_neg h6]; exact ho), h6⟩,
      fun i o _ hi ho => by rw [hget_cons, if_neg hi, hget_cons, if_neg hi]; exact ho⟩
  rcases h2 with ⟨rfl, o, h2⟩ | ⟨off, len, cap, L, rfl, h2, h3, h4, h5⟩
  · have hil : ¬ (a : Int) < 0 := by omega
    have hil2 : ¬ (a : Int) + 1 ≤ 0 := by omega
    simp -implicitDefEqProofs only [Try.f147, Option.getD_some, argS, h1, hil, hil2, ZB, Int.reduceToNat, Nat.reduceLT, Nat.reduceLeDiff, Int.reduceLE, Int.reduceLT, Nat.reduceEqDiff, Nat.reduceSub, SB, SV.known, packR, ne_eq, reduceCtorEq, Nat.reduceEqDiff, ↓reduceIte, if_true, if_false, eq_self, Nat.reduceAdd, Nat.reduceMul, Nat.reduceSub, forall_const, oneCellS, litOne, flat1, Kd.isSca, flat, TYB]
    exact ⟨by unfold In64; omega, hm, hm, u8_in (and_255 _), _, rfl, (and_255 _).1, (and_255 _).2, fin _⟩
  by_cases hal : a < len
  · have hil : (a : Int) < len := by omega
    have hil2 : (a : Int) + 1 ≤ len := by omega
    have gL : off ≤ off + a ∧ off + a < off + L.length := by omega
    have ga : off + a - off = a := by omega
    have bL : 0 ≤ L.getD a 0 ∧ L.getD a 0 ≤ 255 := by
      rw [List.getD_eq_getElem?_getD, List.getElem?_eq_getElem (by omega)]
      exact h5 _ (List.getElem_mem _)
    have iL := u8_in bL
    simp -implicitDefEqProofs only [Try.f147, Option.getD_some, argS, h1, h2, hil, hil2, gL, ga, iL, ZB, Int.reduceToNat, Nat.reduceLT, Nat.reduceLeDiff, Int.reduceLE, Int.reduceLT, Nat.reduceEqDiff, Nat.reduceSub, SB, SV.known, packR, ne_eq, reduceCtorEq, Nat.reduceEqDiff, ↓reduceIte, if_true, if_false, eq_self, Nat.reduceAdd, Nat.reduceMul, Nat.reduceSub, forall_const, oneCellS, litOne, flat1, Kd.isSca, flat, TYB]
    exact ⟨by omega, by unfold In64; omega, hm, hm, _, rfl, bL.1, bL.2, fin _⟩
  · have hil : ¬ (a : Int) < len := by omega
    have hil2 : ¬ (a : Int) + 1 ≤ len := by omega
    simp -implicitDefEqProofs only [Try.f147, Option.getD_some, argS, h1, h2, hil, hil2, ZB, Int.reduceToNat, Nat.reduceLT, Nat.reduceLeDiff, Int.reduceLE, Int.reduceLT, Nat.reduceEqDiff, Nat.reduceSub, SB, SV.known, packR, ne_eq, reduceCtorEq, Nat.reduceEqDiff, ↓reduceIte, if_true, if_false, eq_self, Nat.reduceAdd, Nat.reduceMul, Nat.reduceSub, forall_const, oneCellS, litOne, flat1, Kd.isSca, flat, TYB]
    exact ⟨by unfold In64; omega, hm, hm, u8_in (and_255 _), _, rfl, (and_255 _).1, (and_255 _).2, fin _⟩
theorem fnx_next : FnOK Try.prog 147 Try.f147 (Try.f147.body.getD .skip) [] [] := ⟨Try.func147, rfl, by kernel_rfl, by kernel_rfl⟩
theorem next_T : ∀ args H n m κ, next_F args H n m κ → GenOK Try.prog 147 args H n m κ := by
  intro args H n m κ h
  unfold next_F at h
  split at h
  · rename_i c
    obtain ⟨kc, a, hC, hm, ha, h1⟩ := h
    exact gen_direct (X := ⟨Try.prog, tys, [], [], true, true, m, [], []⟩) fnx_next ⟨tys_ok, .nil, .nil, mixed⟩ rfl (Nat.le_of_ble_eq_true rfl) (fun hwH hwa => next_vc c kc a m n H hC hm ha hwH) fun hwH v H' n' hψ h3 h4 h5 => by
      obtain ⟨x, rfl, g1, g2, g3, rfl⟩ := hψ
      exact h1 x H' g1 g2 g3
  · exact h.elim
theorem Drawn.trans {c kc a k a' k' n n1 n2 : Nat} {H H1 H2 : Heap} (h1 : Drawn c kc a k n H H1 n1) (h2 : Drawn c kc a' k' n1 H1 H2 n2) (h : a' ≤ a + k) (h' : a ≤ a') : Drawn c kc a (k + k') n H H2 n2 :=
  ⟨Nat.le_trans h1.le h2.le, h2.wf, by
    obtain ⟨b, g1, g2, g3⟩ := h2.cur
    exact ⟨b, by omega, by omega, g3⟩, fun i o hi hc ho => h2.fr i o (Nat.lt_of_lt_of_le hi h1.le) hc (h1.fr i o hi hc ho)⟩
theorem Drawn.more {c kc a k k' n n1 : Nat} {H H1 : Heap} (h1 : Drawn c kc a k n H H1 n1) (h : k ≤ k') : Drawn c kc a k' n H H1 n1 :=
  ⟨h1.le, h1.wf, by
    obtain ⟨b, g1, g2, g3⟩ := h1.cur
    exact ⟨b, g1, by omega, g3⟩, h1.fr⟩
/-- A number below another one. -/
def pick_F : List SV → Heap → Nat → Nat → K1 → Prop
  | [.ptr c 0, .int k], H, n, m, κ => ∃ kc a, CurH c kc a H ∧ m ≤ c ∧ a ≤ 999990 ∧ ∀ (x : Int) H', 0 ≤ x → (x < k ∨ x = 0) → Drawn c kc a 2 n H H' n → κ (.int x) H' n
  | _, _, _, _, _ => False
theorem pick_vc (c kc a m n : Nat) (k : Int) (H : Heap) (hC : CurH c kc a H) (hm : m ≤ c) (ha : a ≤ 999990) (hwH : hwf n H) :
    codeVC (⟨Try.prog, tys, [], [(147, next_F)], true, true, m, [147], []⟩ : Cx) n (Try.f94.body.getD .skip) (argS 0 [.ptr c 0, .int k]) H n
      (retK tys Try.f94.results.toList fun v H' n' => ∃ x : Int, v = .int x ∧ 0 ≤ x ∧ (x < k ∨ x = 0) ∧ Drawn c kc a 2 n H H' n ∧ n' = n) := by
  have d0 : Drawn c kc a 2 n H H n := ⟨Nat.le_refl _, hwH, ⟨a, Nat.le_refl _, by omega, hC⟩, fun i o _ _ h => h⟩
  by_cases hk : k ≤ 1
  · simp -implicitDefEqProofs only [Try.f94, Option.getD_some, argS, hk, ZB, Int.reduceToNat, Nat.reduceLT, Nat.reduceLeDiff, Int.reduceLE, Int.reduceLT, Nat.reduceEqDiff, Nat.reduceSub, SB, SV.known, packR, ne_eq, reduceCtorEq, Nat.reduceEqDiff, ↓reduceIte, if_true, if_false, eq_self, Nat.reduceAdd, Nat.reduceMul, Nat.reduceSub, forall_const, oneCellS, litOne, flat1, Kd.isSca, flat, TYB]
    exact ⟨0, rfl, Int.le_refl _, .inr rfl, d0⟩
  · simp -implicitDefEqProofs only [Try.f94, Option.getD_some, argS, next_F, hk, ZB, Int.reduceToNat, Nat.reduceLT, Nat.reduceLeDiff, Int.reduceLE, Int.reduceLT, Nat.reduceEqDiff, Nat.reduceSub, SB, SV.known, packR, ne_eq, reduceCtorEq, Nat.reduceEqDiff, ↓reduceIte, if_true, if_false, eq_self, Nat.reduceAdd, Nat.reduceMul, Nat.reduceSub, forall_const, oneCellS, litOne, flat1, Kd.isSca, flat, TYB]
    refine ⟨kc, a, hC, hm, by omega, fun x H1 hx0 hx1 hd1 => ?_⟩
    obtain ⟨a1, ha1, ha1', hC1⟩ := hd1.cur
    by_cases hk2 : 200 < k
    · simp -implicitDefEqProofs only [next_F, hk2, ZB, Int.reduceToNat, Nat.reduceLT, Nat.reduceLeDiff, Int.reduceLE, Int.reduceLT, Nat.reduceEqDiff, Nat.reduceSub, SB, SV.known, packR, ne_eq, reduceCtorEq, Nat.reduceEqDiff, ↓reduceIte, if_true, if_false, eq_self, Nat.reduceAdd, Nat.reduceMul, Nat.reduceSub, forall_const, oneCellS, litOne, flat1, Kd.isSca, flat, TYB]
      refine ⟨⟨by unfold In64; omega, kc, a1, hC1, hm, by omega, fun y H2 hy0 hy1 hd2 => ?_⟩, fun h => absurd trivial h⟩
      have hr := Int.tmod_lt_of_pos (x * 256 + y) (show 0 < k by omega)
      have hr0 := Int.tmod_nonneg k (show 0 ≤ x * 256 + y by omega)
      exact ⟨by unfold In64; omega, by omega, _, rfl, hr0, .inl hr, hd1.trans hd2 ha1' ha1⟩
    · simp -implicitDefEqProofs only [next_F, hk2, ZB, Int.reduceToNat, Nat.reduceLT, Nat.reduceLeDiff, Int.reduceLE, Int.reduceLT, Nat.reduceEqDiff, Nat.reduceSub, SB, SV.known, packR, ne_eq, reduceCtorEq, Nat.reduceEqDiff, ↓reduceIte, if_true, if_false, eq_self, Nat.reduceAdd, Nat.reduceMul, Nat.reduceSub, forall_const, oneCellS, litOne, flat1, Kd.isSca, flat, TYB]
      exact ⟨by omega, _, rfl, Int.tmod_nonneg k hx0, .inl (Int.tmod_lt_of_pos x (show 0 < k by omega)), hd1.more (by omega)⟩
theorem fnx_pick : FnOK Try.prog 94 Try.f94 (Try.f94.body.getD .skip) [147] [] := ⟨Try.func94, rfl, by kernel_rfl, by kernel_rfl⟩
theorem pick_T : ∀ args H n m κ, pick_F args H n m κ → GenOK Try.prog 94 args H n m κ := by
  intro args H n m κ h
  unfold pick_F at h
  split at h
  · rename_i c k
    obtain ⟨kc, a, hC, hm, ha, h1⟩ := h
    exact gen_direct (X := ⟨Try.prog, tys, [], [(147, next_F)], true, true, m, [147], []⟩) fnx_pick ⟨tys_ok, .nil, .cons next_T .nil, mixed⟩ rfl (Nat.le_of_ble_eq_true rfl) (fun hwH hwa => pick_vc c kc a m n k H hC hm ha hwH) fun hwH v H' n' hψ h3 h4 h5 => by
      obtain ⟨x, rfl, g1, g2, g3, rfl⟩ := hψ
      exact h1 x H' g1 g2 g3
  · exact h.elim
def one_F : List SV → Heap → Nat → Nat → K1 → Prop
  | [.ptr c 0, .int _], H, n, m, κ => ∃ kc a, CurH c kc a H ∧ m ≤ c ∧ a ≤ 999990 ∧ ∀ (b : Bool) H', Drawn c kc a 2 n H H' n → κ (.bool b) H' n
  | _, _, _, _, _ => False
theorem one_vc (c kc a m n : Nat) (k : Int) (H : Heap) (hC : CurH c kc a H) (hm : m ≤ c) (ha : a ≤ 999990) (hwH : hwf n H) :
    codeVC (⟨Try.prog, tys, [], [(94, pick_F)], true, true, m, [94], []⟩ : Cx) n (Try.f92.body.getD .skip) (argS 0 [.ptr c 0, .int k]) H n
      (retK tys Try.f92.results.toList fun v H' n' => ∃ b : Bool, v = .bool b ∧ Drawn c kc a 2 n H H' n ∧ n' = n) := by
  simp -implicitDefEqProofs only [Try.f92, Option.getD_some, argS, pick_F, ZB, Int.reduceToNat, Nat.reduceLT, Nat.reduceLeDiff, Int.reduceLE, Int.reduceLT, Nat.reduceEqDiff, Nat.reduceSub, SB, SV.known, packR, ne_eq, reduceCtorEq, Nat.reduceEqDiff, ↓reduceIte, if_true, if_false, eq_self, Nat.reduceAdd, Nat.reduceMul, Nat.reduceSub, forall_const, oneCellS, litOne, flat1, Kd.isSca, flat, TYB]
  exact ⟨kc, a, hC, hm, ha, fun x H1 _ _ hd1 => ⟨_, rfl, hd1⟩⟩
theorem fnx_one : FnOK Try.prog 92 Try.f92 (Try.f92.body.getD .skip) [94] [] := ⟨Try.func92, rfl, by kernel_rfl, by kernel_rfl⟩
theorem one_T : ∀ args H n m κ, one_F args H n m κ → GenOK Try.prog 92 args H n m κ := by
  intro args H n m κ h
  unfold one_F at h
  split at h
  · rename_i c k
    obtain ⟨kc, a, hC, hm, ha, h1⟩ := h
    exact gen_direct (X := ⟨Try.prog, tys, [], [(94, pick_F)], true, true, m, [94], []⟩) fnx_one ⟨tys_ok, .nil, .cons pick_T .nil, mixed⟩ rfl (Nat.le_of_ble_eq_true rfl) (fun hwH hwa => one_vc c kc a m n k H hC hm ha hwH) fun hwH v H' n' hψ h3 h4 h5 => by
      obtain ⟨b, rfl, g3, rfl⟩ := hψ
      exact h1 b H' g3
  · exact h.elim
/-- One of some numbers. -/
def among_F : List SV → Heap → Nat → Nat → K1 → Prop
  | [.ptr c 0, .slice b 0 len _], H, n, m, κ => match hget H b with
    | some (.ints L _) => 0 < len ∧ len ≤ L.length ∧ len ≤ 1000 ∧ b < n ∧ b ≠ c ∧ ∃ kc a, CurH c kc a H ∧ m ≤ c ∧ a ≤ 999990 ∧ ∀ (i : Nat) H', i < len → Drawn c kc a 2 n H H' n → κ (.int (L.getD i 0)) H' n
    | _ => False
  | _, _, _, _, _ => False
theorem among_vc (c kc a m n b len cap e : Nat) (L : List Int) (H : Heap) (hb : hget H b = some (.ints L e)) (hl : 0 < len ∧ len ≤ L.length) (hl2 : len ≤ 1000) (hbn : b < n) (hbc : b ≠ c) (hC : CurH c kc a H) (hm : m ≤ c) (ha : a ≤ 999990) (hwH : hwf n H) :
    codeVC (⟨Try.prog, tys, [], [(94, pick_F)], true, true, m, [94], []⟩ : Cx) n (Try.f119.body.getD .skip) (argS 0 [.ptr c 0, .slice b 0 len cap]) H n
      (retK tys Try.f119.results.toList fun v H' n' => ∃ i : Nat, v = .int (L.getD i 0) ∧ i < len ∧ Drawn c kc a 2 n H H' n ∧ n' = n) := by
  simp -implicitDefEqProofs only [Try.f119, Option.getD_some, argS, pick_F, hb, ZB, Int.reduceToNat, Nat.reduceLT, Nat.reduceLeDiff, Int.reduceLE, Int.reduceLT, Nat.reduceEqDiff, Nat.reduceSub, SB, SV.known, packR, ne_eq, reduceCtorEq, Nat.reduceEqDiff, ↓reduceIte, if_true, if_false, eq_self, Nat.reduceAdd, Nat.reduceMul, Nat.reduceSub, forall_const, oneCellS, litOne, flat1, Kd.isSca, flat, TYB]
  refine ⟨kc, a, hC, hm, ha, fun x H1 hx0 hx1 hd1 => ?_⟩
  obtain ⟨i, rfl⟩ : ∃ i : Nat, x = i := ⟨x.toNat, by omega⟩
  have hi : i < len := by omega
  have hil : (i : Int) < len := by omega
  have hb1 := hd1.fr b _ hbn hbc hb
  simp -implicitDefEqProofs only [hb1, hil, ZB, Int.reduceToNat, Nat.reduceLT, Nat.reduceLeDiff, Int.reduceLE, Int.reduceLT, Nat.reduceEqDiff, Nat.reduceSub, SB, SV.known, packR, ne_eq, reduceCtorEq, Nat.reduceEqDiff, ↓reduceIte, if_true, if_false, eq_self, Nat.reduceAdd, Nat.reduceMul, Nat.reduceSub, forall_const, oneCellS, litOne, flat1, Kd.isSca, flat, TYB]
  exact ⟨by omega, by omega, i, rfl, hi, hd1⟩
theorem fnx_among : FnOK Try.prog 119 Try.f119 (Try.f119.body.getD .skip) [94] [] := ⟨Try.func119, rfl, by kernel_rfl, by kernel_rfl⟩
theorem among_T : ∀ args H n m κ, among_F args H n m κ → GenOK Try.prog 119 args H n m κ := by
  intro args H n m κ h
  unfold among_F at h
  split at h
  · rename_i c b len cap
    split at h
    · rename_i L e hb
      obtain ⟨g1, g2, g3, g4, g5, kc, a, hC, hm, ha, h1⟩ := h
      exact gen_direct (X := ⟨Try.prog, tys, [], [(94, pick_F)], true, true, m, [94], []⟩) fnx_among ⟨tys_ok, .nil, .cons pick_T .nil, mixed⟩ rfl (Nat.le_of_ble_eq_true rfl) (fun hwH hwa => among_vc c kc a m n b len cap e L H hb ⟨g1, g2⟩ g3 g4 g5 hC hm ha hwH) fun hwH v H' n' hψ h3 h4 h5 => by
        obtain ⟨i, rfl, hi, g6, rfl⟩ := hψ
        exact h1 i H' hi g6
    · exact h.elim
  · exact h.elim
theorem CurH.lt {c kc a n : Nat} {H : Heap} (h : CurH c kc a H) (hw : hwf n H) : c < n ∧ kc < n ∧ kc ≠ c := by
  obtain ⟨v, s, h1, h2, h6⟩ := h
  exact ⟨(hw _ _ h1).1, (h2.wf hw).2, h6⟩
theorem CurH.cons {c kc a k : Nat} {H : Heap} (h : CurH c kc a H) (o : SObj) (h1 : k ≠ c) (h2 : k ≠ kc) : CurH c kc a ((k, o) :: H) := by
  obtain ⟨v, s, g1, g2, g6⟩ := h
  exact ⟨v, s, by rw [hget_cons, if_neg (fun e => h1 e.symm)]; exact g1, g2.at (fun o ho => by rw [hget_cons, if_neg (fun e => h2 e.symm)]; exact ho), g6⟩
/-- A block put beside. -/
theorem Drawn.put {c kc a k n0 n n' k0 : Nat} {H0 H : Heap} (h : Drawn c kc a k n0 H0 H n) (hc : c < n0 ∧ kc < n0 ∧ kc ≠ c) (o : SObj) (h0 : n0 ≤ k0) (hk : k0 < n') (hn : n ≤ n') (ho : o.wf n') : Drawn c kc a k n0 H0 ((k0, o) :: H) n' := by
  obtain ⟨b, g1, g2, g3⟩ := h.cur
  exact ⟨Nat.le_trans h.le hn, hwf_cons (hwf_mono hn h.wf) hk ho, ⟨b, g1, g2, g3.cons o (by omega) (by omega)⟩, fun i o' hi hic ho' => by
    rw [hget_cons, if_neg (by omega)]
    exact h.fr i o' hi hic ho'⟩
theorem Drawn.start {c kc a n : Nat} {H : Heap} (h : CurH c kc a H) (hw : hwf n H) : Drawn c kc a 0 n H H n := ⟨Nat.le_refl _, hw, ⟨a, Nat.le_refl _, Nat.le_refl _, h⟩, fun _ _ _ _ h => h⟩
/-- One of a few numbers, drawn from a list just made. -/
theorem among_new {c kc a k n0 n m : Nat} {H0 H : Heap} {κ : K1} (h : Drawn c kc a k n0 H0 H n) (hC : CurH c kc a H0) (hw0 : hwf n0 H0) (hm : m ≤ c) (ha : a + k ≤ 999980) (L : List Int) (e len cap : Nat) (hl : 0 < len ∧ len ≤ L.length) (hl2 : len ≤ 1000)
    (hκ : ∀ (i : Nat) H', i < len → Drawn c kc a (k + 2) n0 H0 H' (n + 1) → κ (.int (L.getD i 0)) H' (n + 1)) : among_F [.ptr c 0, .slice n 0 len cap] ((n, .ints L e) :: H) (n + 1) m κ := by
  obtain ⟨q1, q2, q3⟩ := hC.lt hw0
  have h2 := h.put (hC.lt hw0) (k0 := n) (n' := n + 1) (.ints L e) h.le (by omega) (by omega) trivial
  obtain ⟨b, g1, g2, g3⟩ := h2.cur
  have hle := h.le
  simp only [among_F, hget_cons, if_true]
  exact ⟨hl.1, hl.2, hl2, by omega, by omega, kc, b, g3, hm, by omega, fun i H' hi hd => hκ i H' hi (h2.trans hd g2 g1)⟩
def place_F : List SV → Heap → Nat → Nat → K1 → Prop
  | [.ptr c 0], H, n, m, κ => ∃ kc a, CurH c kc a H ∧ m ≤ c ∧ a ≤ 999900 ∧ ∀ (x : Int) H' n', In64 x → Drawn c kc a 4 n H H' n' → κ (.int x) H' n'
  | _, _, _, _, _ => False
theorem place_vc (c kc a m n : Nat) (H : Heap) (hC : CurH c kc a H) (hm : m ≤ c) (ha : a ≤ 999900) (hwH : hwf n H) :
    codeVC (⟨Try.prog, tys, [], [(94, pick_F), (92, one_F), (119, among_F)], true, true, m, [94, 92, 119], []⟩ : Cx) n (Try.f146.body.getD .skip) (argS 0 [.ptr c 0]) H n
      (retK tys Try.f146.results.toList fun v H' n' => ∃ x : Int, v = .int x ∧ In64 x ∧ Drawn c kc a 4 n H H' n') := by
  simp -implicitDefEqProofs only [Try.f146, Option.getD_some, argS, one_F, ZB, Int.reduceToNat, Nat.reduceLT, Nat.reduceLeDiff, Int.reduceLE, Int.reduceLT, Nat.reduceEqDiff, Nat.reduceSub, SB, SV.known, packR, ne_eq, reduceCtorEq, Nat.reduceEqDiff, ↓reduceIte, if_true, if_false, eq_self, Nat.reduceAdd, Nat.reduceMul, Nat.reduceSub, forall_const, oneCellS, litOne, flat1, Kd.isSca, flat, TYB]
  refine ⟨kc, a, hC, hm, by omega, fun b H1 hd1 => ?_⟩
  obtain ⟨a1, ha1, ha1', hC1⟩ := hd1.cur
  cases b
  · simp -implicitDefEqProofs only [pick_F, ZB, Int.reduceToNat, Nat.reduceLT, Nat.reduceLeDiff, Int.reduceLE, Int.reduceLT, Nat.reduceEqDiff, Nat.reduceSub, SB, SV.known, packR, ne_eq, reduceCtorEq, Nat.reduceEqDiff, ↓reduceIte, if_true, if_false, eq_self, Nat.reduceAdd, Nat.reduceMul, Nat.reduceSub, forall_const, oneCellS, litOne, flat1, Kd.isSca, flat, TYB]
    exact ⟨kc, a1, hC1, hm, by omega, fun x H2 hx0 hx1 hd2 => ⟨x, rfl, by unfold In64; omega, hd1.trans hd2 ha1' ha1⟩⟩
  · simp -implicitDefEqProofs only [ZB, Int.reduceToNat, Nat.reduceLT, Nat.reduceLeDiff, Int.reduceLE, Int.reduceLT, Nat.reduceEqDiff, Nat.reduceSub, SB, SV.known, packR, ne_eq, reduceCtorEq, Nat.reduceEqDiff, ↓reduceIte, if_true, if_false, eq_self, Nat.reduceAdd, Nat.reduceMul, Nat.reduceSub, forall_const, oneCellS, litOne, flat1, Kd.isSca, flat, TYB]
    refine among_new hd1 hC hwH hm (by omega) _ _ _ _ (by simp) (by omega) fun i H' hi hd => ?_
    have hI : In64 (([-1, 6, 4611686018427387904] : List Int).getD i 0) := by
      match i, hi with
      | 0, _ => simp [In64]
      | 1, _ => simp [In64]
      | 2, _ => simp [In64]
    simp -implicitDefEqProofs only [ZB, Int.reduceToNat, Nat.reduceLT, Nat.reduceLeDiff, Int.reduceLE, Int.reduceLT, Nat.reduceEqDiff, Nat.reduceSub, SB, SV.known, packR, ne_eq, reduceCtorEq, Nat.reduceEqDiff, ↓reduceIte, if_true, if_false, eq_self, Nat.reduceAdd, Nat.reduceMul, Nat.reduceSub, forall_const, oneCellS, litOne, flat1, Kd.isSca, flat, TYB]
    exact ⟨_, rfl, hI, hd⟩
theorem fnx_place : FnOK Try.prog 146 Try.f146 (Try.f146.body.getD .skip) [94, 92, 119] [] := ⟨Try.func146, rfl, by kernel_rfl, by kernel_rfl⟩
theorem place_T : ∀ args H n m κ, place_F args H n m κ → GenOK Try.prog 146 args H n m κ := by
  intro args H n m κ h
  unfold place_F at h
  split at h
  · rename_i c
    obtain ⟨kc, a, hC, hm, ha, h1⟩ := h
    exact gen_direct (X := ⟨Try.prog, tys, [], [(94, pick_F), (92, one_F), (119, among_F)], true, true, m, [94, 92, 119], []⟩) fnx_place ⟨tys_ok, .nil, .cons pick_T (.cons one_T (.cons among_T .nil)), mixed⟩ rfl (Nat.le_of_ble_eq_true rfl) (fun hwH hwa => place_vc c kc a m n H hC hm ha hwH) fun hwH v H' n' hψ h3 h4 h5 => by
      obtain ⟨x, rfl, hI, g3⟩ := hψ
      exact h1 x H' n' hI g3
  · exact h.elim
theorem Drawn.push {c kc a k n0 n : Nat} {H0 H : Heap} (h : Drawn c kc a k n0 H0 H n) (hc : c < n0 ∧ kc < n0 ∧ kc ≠ c) (o : SObj) (ho : o.wf (n + 1)) : Drawn c kc a k n0 H0 ((n, o) :: H) (n + 1) := h.put hc o h.le (by omega) (by omega) ho
theorem Drawn.pushI {c kc a k n0 n : Nat} {H0 H : Heap} (h : Drawn c kc a k n0 H0 H n) (hc : c < n0 ∧ kc < n0 ∧ kc ≠ c) {L : List Int} {e : Nat} : Drawn c kc a k n0 H0 ((n, .ints L e) :: H) (n + 1) := h.push hc _ trivial
theorem Drawn.putI {c kc a k n0 n k0 : Nat} {H0 H : Heap} (h : Drawn c kc a k n0 H0 H n) (hc : c < n0 ∧ kc < n0 ∧ kc ≠ c) {L : List Int} {e : Nat} (h0 : n0 ≤ k0) (hk : k0 < n) : Drawn c kc a k n0 H0 ((k0, .ints L e) :: H) n := h.put hc _ h0 hk (Nat.le_refl _) trivial
/-- What is kept of one's own blocks. -/
def Fr (n0 n : Nat) (H H' : Heap) : Prop := ∀ j o, n0 ≤ j → j < n → hget H j = some o → hget H' j = some o
theorem Fr.use {n0 n j : Nat} {H H' : Heap} {o : SObj} (h : Fr n0 n H H') (h1 : n0 ≤ j) (h2 : j < n) (h3 : hget H j = some o) : hget H' j = some o := h j o h1 h2 h3
theorem Drawn.own {c kc a k n0 n n' : Nat} {H H' : Heap} (h : Drawn c kc a k n H H' n') (hc : c < n0) : Fr n0 n H H' := fun j o h1 h2 h3 => h.fr j o h2 (by omega) h3
theorem among_use {c kc a k n0 n m b len cap e : Nat} {H0 H : Heap} {κ : K1} {L : List Int} (h : Drawn c kc a k n0 H0 H n) (hc : c < n0 ∧ kc < n0 ∧ kc ≠ c) (hm : m ≤ c) (ha : a + k ≤ 999980) (hb : hget H b = some (.ints L e)) (h0 : n0 ≤ b) (hl : 0 < len ∧ len ≤ L.length ∧ len ≤ 1000)
    (hκ : ∀ (x : Int) H', x ∈ L → Drawn c kc a (k + 2) n0 H0 H' n → Fr n0 n H H' → κ (.int x) H' n) : among_F [.ptr c 0, .slice b 0 len cap] H n m κ := by
  obtain ⟨b', g1, g2, g3⟩ := h.cur
  have hbn := (h.wf _ _ hb).1
  simp only [among_F, hb]
  refine ⟨hl.1, hl.2.1, hl.2.2, hbn, by omega, kc, b', g3, hm, by omega, fun i H' hi hd => hκ _ H' ?_ (h.trans hd g2 g1) (hd.own hc.1)⟩
  rw [List.getD_eq_getElem?_getD, List.getElem?_eq_getElem (by omega)]
  exact List.getElem_mem _
theorem pick_use {c kc a k n0 n m : Nat} {H0 H : Heap} {κ : K1} (h : Drawn c kc a k n0 H0 H n) (hc : c < n0 ∧ kc < n0 ∧ kc ≠ c) (hm : m ≤ c) (ha : a + k ≤ 999980) {z : Int}
    (hκ : ∀ (x : Int) H', 0 ≤ x → (x < z ∨ x = 0) → Drawn c kc a (k + 2) n0 H0 H' n → Fr n0 n H H' → κ (.int x) H' n) : pick_F [.ptr c 0, .int z] H n m κ := by
  obtain ⟨b', g1, g2, g3⟩ := h.cur
  exact ⟨kc, b', g3, hm, by omega, fun x H' h1 h2 hd => hκ x H' h1 h2 (h.trans hd g2 g1) (hd.own hc.1)⟩
theorem one_use {c kc a k n0 n m : Nat} {H0 H : Heap} {κ : K1} (h : Drawn c kc a k n0 H0 H n) (hc : c < n0 ∧ kc < n0 ∧ kc ≠ c) (hm : m ≤ c) (ha : a + k ≤ 999980) {z : Int}
    (hκ : ∀ (x : Bool) H', Drawn c kc a (k + 2) n0 H0 H' n → Fr n0 n H H' → κ (.bool x) H' n) : one_F [.ptr c 0, .int z] H n m κ := by
  obtain ⟨b', g1, g2, g3⟩ := h.cur
  exact ⟨kc, b', g3, hm, by omega, fun x H' hd => hκ x H' (h.trans hd g2 g1) (hd.own hc.1)⟩
theorem place_use {c kc a k n0 n m : Nat} {H0 H : Heap} {κ : K1} (h : Drawn c kc a k n0 H0 H n) (hc : c < n0 ∧ kc < n0 ∧ kc ≠ c) (hm : m ≤ c) (ha : a + k ≤ 999900)
    (hκ : ∀ (x : Int) H' n', In64 x → Drawn c kc a (k + 4) n0 H0 H' n' → n ≤ n' → Fr n0 n H H' → κ (.int x) H' n') : place_F [.ptr c 0] H n m κ := by
  obtain ⟨b', g1, g2, g3⟩ := h.cur
  exact ⟨kc, b', g3, hm, by omega, fun x H' n' hI hd => hκ x H' n' hI (h.trans hd g2 g1) hd.le (hd.own hc.1)⟩
end Go.Proofs.Ytopfnkmlgcjpbaa
