/- Texts of this claim, joined (RP0, EqR, FP2, RPL, Draw). -/
import Derived.Test.YtopfnkmlgcjpbaaQ1
import Derived.Test.YtopfnkmlgcjpbaaQ2
import Derived.Test.YtopfnkmlgcjpbaaQ3
import Derived.Test.YtopfnkmlgcjpbaaQ4
import Derived.Test.YtopfnkmlgcjpbaaQ5
import Derived.ChangeKeysEq
import Derived.Laws.StructEq
set_option maxRecDepth 100000
set_option linter.unusedSimpArgs false
set_option linter.unusedVariables false
namespace Go.Proofs.Ytopfnkmlgcjpbaa
open Go Go.RowKit
theorem GL_congr {c d : Nat → Nat → Bool} (h : ∀ i j, i < 6 → j < 6 → c i j = d i j) : ∀ m, m ≤ 36 → GL c m = GL d m
  | 0, _ => rfl
  | m + 1, hm => by
    rw [GL_succ, GL_succ, GL_congr h m (by omega)]
    unfold prG
    rw [h (m / 6) (m % 6) (by omega) (by omega)]
theorem GL_pre (c : Nat → Nat → Bool) (m : Nat) : ∀ k, ∃ r, GL c (m + k) = GL c m ++ r
  | 0 => ⟨[], by simp⟩
  | k + 1 => by
    obtain ⟨r, h⟩ := GL_pre c m k
    exact ⟨r ++ prG c (m + k), by rw [show m + (k + 1) = m + k + 1 by omega, GL_succ, h, List.append_assoc]⟩
theorem GL_in {c : Nat → Nat → Bool} {a b n : Nat} (ha : a < 6) (hb : b < 6) (hc : c a b = true) (hn : (GL c 36).length = n * 2) (j : List Int) : inP (GL c 36 ++ j) n [(a : Int), (b : Int)] = true := by
  obtain ⟨p, hp, _⟩ := GL_even c (a * 6 + b)
  have e1 := GL_at c a b hb
  rw [if_pos hc] at e1
  obtain ⟨r, hr⟩ := GL_pre c (a * 6 + b + 1) (36 - (a * 6 + b + 1))
  rw [show a * 6 + b + 1 + (36 - (a * 6 + b + 1)) = 36 by omega, e1] at hr
  have hl : p < n := by
    have := congrArg List.length hr
    rw [List.length_append, List.length_append, hp, hn] at this
    simp at this; omega
  refine inP_of hl ?_
  rw [hr, List.append_assoc, List.append_assoc, List.drop_left' hp]; rfl
theorem GL_part {c d : Nat → Nat → Bool} (h : ∀ i j, i < 6 → j < 6 → c i j = true → d i j = true) {nc nd : Nat} (hc : (GL c 36).length = nc * 2) (hd : (GL d 36).length = nd * 2) (jc jd : List Int) : ∀ i, i < nc → inP (GL d 36 ++ jd) nd (((GL c 36 ++ jc).drop (i * 2)).take 2) = true := fun i hi => by
  obtain ⟨a, b, ha, hb, hab, he⟩ := GL_pair c 36 (Nat.le_refl _) i (by omega)
  rw [List.drop_append_of_le_length (by omega), List.take_append_of_le_length (by rw [List.length_drop]; omega), he]
  exact GL_in ha hb (h a b ha hb hab) hd jd
theorem GL_sub_nil {c d : Nat → Nat → Bool} (h : ∀ i j, i < 6 → j < 6 → c i j = true → d i j = true) (hd : GL d 36 = []) : GL c 36 = [] := by
  obtain ⟨n, hn, _⟩ := GL_even c 36
  rcases Nat.eq_zero_or_pos n with h0 | h0
  · subst h0; exact List.length_eq_zero_iff.1 (by omega)
  · have := GL_part h hn (nd := 0) (by rw [hd]; rfl) [] [] 0 h0
    rw [inP_zero] at this; cases this
/-- What the rules move. -/
theorem mov_cases {R D : List Int} {i j : Int} (hR : R.length = 24) (hD : D.length = 6) (hf : forB R D = true) (hi : 0 ≤ i ∧ i ≤ 5) (hj : 0 ≤ j ∧ j ≤ 5) :
    (movF R D 1 i j = 0 ∧ movF R D 2 i j = 0 ∧ movF R D 3 i j = 0 ∧ movF R D 4 i j = 0) ∨
    (i ≠ j ∧ 0 < layN (tubeAt R i.toNat) ∧ 1 ≤ (topF (tubeAt R i.toNat)).2 ∧ 1 ≤ roomF R D j.toNat ∧ movF R D 4 i j = 1 ∧
      ((((topF (tubeAt R j.toNat)).1 ≠ 0 ∧ (topF (tubeAt R j.toNat)).1 ≠ (topF (tubeAt R i.toNat)).1) ∧ movF R D 1 i j = 0 ∧ movF R D 2 i j = 0 ∧ movF R D 3 i j = 0) ∨
       (¬ ((topF (tubeAt R j.toNat)).1 ≠ 0 ∧ (topF (tubeAt R j.toNat)).1 ≠ (topF (tubeAt R i.toNat)).1) ∧ movF R D 1 i j = min (topF (tubeAt R i.toNat)).2 (roomF R D j.toNat) ∧ movF R D 2 i j = 1 ∧ movF R D 3 i j = if roomF R D j.toNat < (topF (tubeAt R i.toNat)).2 then 0 else min (topF (tubeAt R i.toNat)).2 (roomF R D j.toNat)))) := by
  have ff := forB_facts hD hf
  have f2 := ff.2.2.2 j.toNat (by omega)
  have li := tubeAt_len hR (i := i.toNat) (by omega)
  have tz := top_zero _ li (tubeAt_ok ff.1 (by omega))
  have tl := topF_le _ li
  unfold movF
  by_cases h1 : i = j ∨ (topF (tubeAt R i.toNat)).1 = 0 ∨ roomF R D j.toNat = 0
  · left; simp only [if_pos h1]; exact ⟨trivial, trivial, trivial, trivial⟩
  · right
    simp only [if_neg h1]
    have h2 : i ≠ j ∧ (topF (tubeAt R i.toNat)).1 ≠ 0 ∧ roomF R D j.toNat ≠ 0 := by
      refine ⟨fun h => h1 (.inl h), fun h => h1 (.inr (.inl h)), fun h => h1 (.inr (.inr h))⟩
    refine ⟨h2.1, by omega, by omega, by omega, by simp, ?_⟩
    by_cases h3 : (topF (tubeAt R j.toNat)).1 ≠ 0 ∧ (topF (tubeAt R j.toNat)).1 ≠ (topF (tubeAt R i.toNat)).1
    · left
      refine ⟨h3, ?_, ?_, ?_⟩ <;> simp [h3]
    · right
      refine ⟨h3, ?_, ?_, ?_⟩ <;> rw [if_neg (by decide), if_neg h3]
      · rw [if_neg (by decide), if_neg (by simp)]
      · simp
      · rw [if_neg (by decide)]
        by_cases h4 : roomF R D j.toNat < (topF (tubeAt R i.toNat)).2
        · simp [h4]
        · simp [h4]
theorem pb_12 {R D : List Int} (hR : R.length = 24) (hD : D.length = 6) (hf : forB R D = true) (i j : Nat) (hi : i < 6) (hj : j < 6) : pbB R D 1 i j = pbB R D 2 i j := by
  unfold pbB
  rcases mov_cases (i := (i : Int)) (j := (j : Int)) hR hD hf (by omega) (by omega) with h | ⟨h1, h2, h3, h4, h5, h | h⟩
  · rw [h.1, h.2.1]
  · rw [h.2.1, h.2.2.1]
  · rw [h.2.1, h.2.2.1]
    rw [decide_eq_true (show (0 : Int) < 1 by omega)]
    exact decide_eq_true (by omega)
theorem pb_31 {R D : List Int} (hR : R.length = 24) (hD : D.length = 6) (hf : forB R D = true) (i j : Nat) (hi : i < 6) (hj : j < 6) (h : pbB R D 3 i j = true) : pbB R D 1 i j = true ∧ pbB R D 2 i j = true ∧ pbB R D 4 i j = true := by
  have h := of_decide_eq_true h
  rcases mov_cases (i := (i : Int)) (j := (j : Int)) hR hD hf (by omega) (by omega) with q | ⟨h1, h2, h3, h4, h5, q | q⟩
  · omega
  · omega
  · have e := q.2.2.2
    refine ⟨decide_eq_true ?_, decide_eq_true ?_, decide_eq_true ?_⟩
    · rw [q.2.1]; omega
    · rw [q.2.2.1]; omega
    · rw [h5]; omega
theorem pb_14 {R D : List Int} (hR : R.length = 24) (hD : D.length = 6) (hf : forB R D = true) (i j : Nat) (hi : i < 6) (hj : j < 6) (h : pbB R D 1 i j = true) : pbB R D 4 i j = true := by
  have h := of_decide_eq_true h
  rcases mov_cases (i := (i : Int)) (j := (j : Int)) hR hD hf (by omega) (by omega) with q | ⟨h1, h2, h3, h4, h5, q | q⟩
  · omega
  · omega
  · refine decide_eq_true ?_
    rw [h5]; omega
theorem com_3 {R D : List Int} (hR : R.length = 24) (hD : D.length = 6) (hf : forB R D = true) (i j : Nat) (hi : i < 6) (hj : j < 6) : comD R D i j = pbB R D 3 i j := by
  have e : comD R D i j = (pbB R D 1 i j && (pbB R D 2 i j && pbB R D 3 i j && pbB R D 4 i j)) := rfl
  rw [e]
  cases h : pbB R D 3 i j
  · simp
  · obtain ⟨h1, h2, h4⟩ := pb_31 hR hD hf i j hi hj h
    rw [h1, h2, h4]; rfl
theorem sam_3 {R D : List Int} (i j : Nat) (h : samD R D i j = true) : pbB R D 3 i j = true := by
  have h := of_decide_eq_true h
  refine decide_eq_true ?_
  omega
/-! Drops. -/
theorem mv_for {R D : List Int} (hR : R.length = 24) (hD : D.length = 6) (hf : forB R D = true) {i j : Nat} (hi : i < 6) (hj : j < 6) (hij : i ≠ j) {m : Nat} (hm : m ≤ layN (tubeAt R i)) (hm2 : (m : Int) ≤ roomF R D j) : forB (mvR R i j m) D = true := by
  have ff := forB_facts hD hf
  have f2 := ff.2.2.2 j hj
  have f3 := ff.2.2.2 i hi
  have h4 : m + layN (tubeAt R j) ≤ 4 := by omega
  obtain ⟨m1, m2, m3⟩ := mv_facts hR ff.1 hi hj hij hm h4
  have mr := mv_rack hR ff.1 hi hj hij hm h4
  simp only [forB, Bool.and_eq_true]
  refine ⟨⟨mr, ff.2.1⟩, fit_none fun k hk => ?_⟩
  have f4 := ff.2.2.2 k hk
  by_cases hki : k = i
  · subst hki
    rw [m1.2]
    unfold roomF at f3
    omega
  · by_cases hkj : k = j
    · subst hkj
      rw [m2.2]
      unfold roomF at hm2
      omega
    · rw [m3 k hk hki hkj]
      unfold roomF at f4
      omega
theorem top_cell {t : List Int} (ht : t.length = 4) (h0 : 0 < layN t) : (topF t).1 = t.getD (layN t - 1) 0 := by
  obtain ⟨r, h1, _⟩ := topF_run t ht h0
  rw [h1]
/-- One more drop. -/
theorem drop_step {R D : List Int} (hR : R.length = 24) (hD : D.length = 6) (hf : forB R D = true) {i j : Int} (hi : 0 ≤ i ∧ i ≤ 5) (hj : 0 ≤ j ∧ j ≤ 5) {k : Nat} (hk : (k : Int) < movF R D 1 i j) :
    forB (mvR R i.toNat j.toNat k) D = true ∧ movF (mvR R i.toNat j.toNat k) D 2 i j = 1 ∧ mvR (mvR R i.toNat j.toNat k) i.toNat j.toNat 1 = mvR R i.toNat j.toNat (k + 1) := by
  have hi6 : i.toNat < 6 := by omega
  have hj6 : j.toNat < 6 := by omega
  have ff := forB_facts hD hf
  have f2 := ff.2.2.2 j.toNat hj6
  have li := tubeAt_len hR hi6
  have lj := tubeAt_len hR hj6
  have tl := topF_le _ li
  rcases mov_cases (i := i) (j := j) hR hD hf hi hj with h | ⟨h1, h2, h3, h4, h5, h | h⟩
  · omega
  · omega
  obtain ⟨q1, q2, _, _⟩ := h
  have hij : i.toNat ≠ j.toNat := by omega
  have hkr : (k : Int) < (topF (tubeAt R i.toNat)).2 := by omega
  have hkm : (k : Int) < roomF R D j.toNat := by omega
  have hki : k ≤ layN (tubeAt R i.toNat) := by omega
  have h44 : k + layN (tubeAt R j.toNat) ≤ 4 := by omega
  obtain ⟨m1, m2, m3⟩ := mv_facts hR ff.1 hi6 hj6 hij hki h44
  have hfk := mv_for hR hD hf hi6 hj6 hij hki (by omega)
  have hN : (mvR R i.toNat j.toNat k).length = 24 := by rw [mvR_len, hR]
  have nli := tubeAt_len hN hi6
  have nlj := tubeAt_len hN hj6
  have ai := lay_le _ li
  have cell := mvR_cell hR hi6 hj6 hij k hki h44
  obtain ⟨r, e1, e2⟩ := topF_run _ li h2
  have er : (topF (tubeAt R i.toNat)).2 = (r : Int) := by rw [e1]
  have et : (topF (tubeAt R i.toNat)).1 = (tubeAt R i.toNat).getD (layN (tubeAt R i.toNat) - 1) 0 := by rw [e1]
  have run : ∀ q, q < r → (tubeAt R i.toNat).getD (layN (tubeAt R i.toNat) - 1 - q) 0 = (topF (tubeAt R i.toNat)).1 := fun q hq => by rw [et]; exact e2.2.2.1 q hq
  have tni : (topF (tubeAt (mvR R i.toNat j.toNat k) i.toNat)).1 = (topF (tubeAt R i.toNat)).1 := by
    rw [top_cell nli (by omega), m1.2, tubeAt_getD _ _ _ (by omega), cell i.toNat _ hi6 (by omega), if_neg (by omega), if_neg (by omega), ← tubeAt_getD _ _ _ (by omega), show layN (tubeAt R i.toNat) - k - 1 = layN (tubeAt R i.toNat) - 1 - k by omega]
    exact run k (by omega)
  have tnj : 0 < k → (topF (tubeAt (mvR R i.toNat j.toNat k) j.toNat)).1 = (topF (tubeAt R i.toNat)).1 := fun h0 => by
    rw [top_cell nlj (by omega), m2.2, tubeAt_getD _ _ _ (by omega), cell j.toNat _ hj6 (by omega), if_neg (by omega), if_pos ⟨rfl, by omega, by omega⟩, ← tubeAt_getD _ _ _ (by omega)]
    exact run _ (by omega)
  have tz := top_zero _ nli m1.1
  refine ⟨hfk, ?_, ?_⟩
  · have n1 : ¬ (i = j ∨ (topF (tubeAt (mvR R i.toNat j.toNat k) i.toNat)).1 = 0 ∨ roomF (mvR R i.toNat j.toNat k) D j.toNat = 0) := by
      have er2 : roomF (mvR R i.toNat j.toNat k) D j.toNat = roomF R D j.toNat - k := by unfold roomF; rw [m2.2]; omega
      rw [tz.1, m1.2, er2]
      omega
    have n2 : ¬ ((topF (tubeAt (mvR R i.toNat j.toNat k) j.toNat)).1 ≠ 0 ∧ (topF (tubeAt (mvR R i.toNat j.toNat k) j.toNat)).1 ≠ (topF (tubeAt (mvR R i.toNat j.toNat k) i.toNat)).1) := by
      rw [tni]
      rcases Nat.eq_zero_or_pos k with h0 | h0
      · subst h0; exact q1
      · rw [tnj h0]; exact fun h => h.2 rfl
    unfold movF
    rw [if_neg n1, if_neg (by decide), if_neg n2, if_pos rfl]
  · show ((mvR R i.toNat j.toNat k).set (j.toNat * 4 + (layN (tubeAt (mvR R i.toNat j.toNat k) j.toNat) + 0)) ((mvR R i.toNat j.toNat k).getD (i.toNat * 4 + (layN (tubeAt (mvR R i.toNat j.toNat k) i.toNat) - 1 - 0)) 0)).set (i.toNat * 4 + (layN (tubeAt (mvR R i.toNat j.toNat k) i.toNat) - 1 - 0)) 0 = _
    rw [m1.2, m2.2]
    simp only [mvR]
    rw [show layN (tubeAt R j.toNat) + k + 0 = layN (tubeAt R j.toNat) + k by omega, show layN (tubeAt R i.toNat) - k - 1 - 0 = layN (tubeAt R i.toNat) - 1 - k by omega]
/-- A pour by the first rule in tubes of 4 layers is a plain one. -/
theorem rule_plain {R : List Int} (hR : R.length = 24) {i j : Int} (h : pbyB R [4, 4, 4, 4, 4, 4] 1 i j = true) : pourB R i j = true ∧ pourT R i j = pbyT R [4, 4, 4, 4, 4, 4] 1 i j ∧ pourM R i j = pbyN R [4, 4, 4, 4, 4, 4] 1 i j := by
  have h' := h
  unfold pbyB at h'
  simp only [Bool.and_eq_true, Bool.not_eq_true', decide_eq_false_iff_not] at h'
  obtain ⟨⟨⟨⟨hf, _⟩, hpi⟩, hpj⟩, hm⟩ := h'
  have hi : 0 ≤ i ∧ i ≤ 5 := of_decide_eq_true hpi
  have hj : 0 ≤ j ∧ j ≤ 5 := of_decide_eq_true hpj
  have hi6 : i.toNat < 6 := by omega
  have hj6 : j.toNat < 6 := by omega
  have hD : ([4, 4, 4, 4, 4, 4] : List Int).length = 6 := rfl
  have ff := forB_facts hD hf
  have li := tubeAt_len hR hi6
  have lj := tubeAt_len hR hj6
  have tl := topF_le _ li
  have er : roomF R [4, 4, 4, 4, 4, 4] j.toNat = 4 - (layN (tubeAt R j.toNat) : Int) := by
    unfold roomF
    have : ([4, 4, 4, 4, 4, 4] : List Int).getD j.toNat 0 = 4 := by
      match j.toNat, hj6 with
      | 0, _ => rfl
      | 1, _ => rfl
      | 2, _ => rfl
      | 3, _ => rfl
      | 4, _ => rfl
      | 5, _ => rfl
    rw [this]
  rcases mov_cases (i := i) (j := j) hR hD hf hi hj with q | ⟨h1, h2, h3, h4, h5, q | q⟩
  · omega
  · omega
  obtain ⟨q1, q2, _, _⟩ := q
  have hij : i.toNat ≠ j.toNat := by omega
  have tp := (top_pos _ li (tubeAt_ok ff.1 hi6)).1
  have hc : canF R i j = true := by
    simp only [canF, Bool.and_eq_true, Bool.not_eq_true', decide_eq_false_iff_not, decide_eq_true_eq, Bool.or_eq_true]
    refine ⟨⟨⟨h1, tp.2 h2⟩, by omega⟩, ?_⟩
    by_cases h0 : (topF (tubeAt R j.toNat)).1 = 0
    · exact .inl h0
    · by_cases h6 : (topF (tubeAt R j.toNat)).1 = (topF (tubeAt R i.toNat)).1
      · exact .inr h6
      · exact absurd ⟨h0, h6⟩ q1
  have hp : pourB R i j = true := by unfold pourB; rw [ff.1, hpi, hpj, hc]; rfl
  have eN : pmN R i.toNat j.toNat = movF R [4, 4, 4, 4, 4, 4] 1 i j := by rw [q2, er]; rfl
  refine ⟨hp, ?_, ?_⟩
  · unfold pourT pbyT pourF
    rw [if_pos hp, if_pos h, eN]
    obtain ⟨M, hM⟩ : ∃ M : Nat, movF R [4, 4, 4, 4, 4, 4] 1 i j = M := ⟨(movF R [4, 4, 4, 4, 4, 4] 1 i j).toNat, by omega⟩
    rw [hM, Int.toNat_natCast]
    obtain ⟨r, e1, e2⟩ := topF_run _ li h2
    have er2 : (topF (tubeAt R i.toNat)).2 = (r : Int) := by rw [e1]
    have et : (topF (tubeAt R i.toNat)).1 = (tubeAt R i.toNat).getD (layN (tubeAt R i.toNat) - 1) 0 := by rw [e1]
    have ai := lay_le _ li
    have hMi : M ≤ layN (tubeAt R i.toNat) := by omega
    have hMj : M + layN (tubeAt R j.toNat) ≤ 4 := by omega
    have c1 := pmR_cell hR hi6 hj6 hij M hMi hMj
    have c2 := mvR_cell hR hi6 hj6 hij M hMi hMj
    apply List.ext_getElem (by rw [pmR_len, mvR_len])
    intro q q1' q2'
    have hq24 : q < 24 := by rw [pmR_len, hR] at q1'; exact q1'
    have : (pmR R i.toNat j.toNat M).getD q 0 = (mvR R i.toNat j.toNat M).getD q 0 := by
      have hq : q = q / 4 * 4 + q % 4 := by omega
      rw [hq, c1 (q / 4) (q % 4) (by omega) (by omega), c2 (q / 4) (q % 4) (by omega) (by omega)]
      by_cases hA : q / 4 = i.toNat ∧ layN (tubeAt R i.toNat) - M ≤ q % 4 ∧ q % 4 < layN (tubeAt R i.toNat)
      · rw [if_pos hA, if_pos hA]
      · rw [if_neg hA, if_neg hA]
        by_cases hB : q / 4 = j.toNat ∧ layN (tubeAt R j.toNat) ≤ q % 4 ∧ q % 4 < layN (tubeAt R j.toNat) + M
        · rw [if_pos hB, if_pos hB, ← tubeAt_getD _ _ _ (by omega), e2.2.2.1 (q % 4 - layN (tubeAt R j.toNat)) (by omega), et]
        · rw [if_neg hB, if_neg hB]
    simpa [List.getD, List.getElem?_eq_getElem q1', List.getElem?_eq_getElem q2'] using this
  · unfold pourM pbyN
    rw [if_pos hp, if_pos h, eN]
theorem crl_eq {R D : List Int} (hf : forB R D = true) : crlF R D = [0, (((GL (pbB R D 1) 36).length / 2 : Nat) : Int), (((GL (pbB R D 2) 36).length / 2 : Nat) : Int), (((GL (pbB R D 3) 36).length / 2 : Nat) : Int), (((GL (pbB R D 4) 36).length / 2 : Nat) : Int)] := by
  unfold crlF
  rw [if_pos hf]; rfl
end Go.Proofs.Ytopfnkmlgcjpbaa
set_option maxRecDepth 100000
set_option linter.unusedSimpArgs false
set_option linter.unusedVariables false
namespace Go.Proofs.Ytopfnkmlgcjpbaa
open Go Go.RowKit
theorem run_of_next {P : Program} {s : Sem Value} {x : Value} {w : World} (h : (do pure (Next.value (← s)) : Sem Next).run P w = .ok (.value x) w) : s.run P w = .ok x w := by
  simp only [Sem.run_bind] at h
  generalize s.run P w = r at h
  cases r with
  | ok y w1 => simp only [Result.andThen_ok, Sem.run_pure] at h; cases h; rfl
  | halt y w1 => simp only [Result.andThen_halt] at h; cases h
theorem runPart_int {t : TypeId} (hk : (tys t).k = .int) (L : List Int) (off : Nat) (h : off < L.length) (w : World) : (part t (ints L) off).run Try.prog w = .ok (.int .i64 (L.getD off 0)) w := by
  obtain ⟨v, x, _, h2, h3, h4⟩ := part_sound (B := fun _ => 0) (H := []) (n := 0) (κ := fun v _ _ => v = .int (L.getD off 0)) tys_ok (t := t) (L := L) (off := off) (by unfold partVC; rw [hk]; all_goals exact ⟨h, rfl⟩)
  subst h3
  have h5 := h4 w (HR.nil _ _)
  rw [h2 rfl] at h5
  exact run_of_next h5
theorem runPart_arr {t k e : Nat} (hk : (tys t).k = .arr k e) (L : List Int) (off : Nat) (h : off + (tys t).size ≤ L.length) (w : World) : (part t (ints L) off).run Try.prog w = .ok (.agg (ints ((L.drop off).take (tys t).size))) w := by
  obtain ⟨v, x, _, h2, h3, h4⟩ := part_sound (B := fun _ => 0) (H := []) (n := 0) (κ := fun v _ _ => v = .arr ((L.drop off).take (tys t).size)) tys_ok (t := t) (L := L) (off := off) (by unfold partVC; rw [hk]; all_goals exact ⟨h, rfl⟩)
  subst h3
  have h5 := h4 w (HR.nil _ _)
  rw [h2 rfl] at h5
  exact run_of_next h5
/-- Equality at a type, at every depth from some depth on. -/
def EqA (D : Nat) (t : TypeId) (s : Nat) : Prop := ∀ d, D ≤ d → ∀ (L M : List Int), L.length = s → M.length = s → ∀ w, (Op.equalIn d t (.agg (ints L)) (.agg (ints M))).run Try.prog w = .ok (decide (L = M)) w
theorem take_split (L : List Int) (c k : Nat) : L.take ((k + 1) * c) = L.take c ++ (L.drop c).take (k * c) := by
  rw [show (k + 1) * c = c + k * c by rw [Nat.add_mul, Nat.one_mul, Nat.add_comm], List.take_add]
theorem items_run {d : Nat} {e : TypeId} {c : Nat} (L M : List Int) (hst : ∀ a, (a + 1) * c ≤ L.length → (a + 1) * c ≤ M.length → ∀ w, ∃ x y, (part e (ints L) (a * c)).run Try.prog w = .ok x w ∧ (part e (ints M) (a * c)).run Try.prog w = .ok y w ∧
      (Op.equalIn d e x y).run Try.prog w = .ok (decide ((L.drop (a * c)).take c = (M.drop (a * c)).take c)) w) :
    ∀ (k a : Nat), (a + k) * c ≤ L.length → (a + k) * c ≤ M.length → ∀ w, (Op.eqItems d e c (ints L) (ints M) (List.range' a k)).run Try.prog w = .ok (decide ((L.drop (a * c)).take (k * c) = (M.drop (a * c)).take (k * c))) w
  | 0, a, _, _, w => by simp [Op.eqItems]
  | k + 1, a, h1, h2, w => by
    have le : (a + 1) * c ≤ (a + (k + 1)) * c := Nat.mul_le_mul_right c (by omega)
    obtain ⟨x, y, p1, p2, p3⟩ := hst a (by omega) (by omega) w
    have ih := items_run L M hst k (a + 1) (by rw [show a + 1 + k = a + (k + 1) by omega]; exact h1) (by rw [show a + 1 + k = a + (k + 1) by omega]; exact h2) w
    have hac : (a + 1) * c = a * c + c := by rw [Nat.add_mul, Nat.one_mul]
    have hkc : (a + (k + 1)) * c = a * c + c + k * c := by rw [Nat.add_mul, Nat.add_mul, Nat.one_mul]; omega
    rw [List.range'_succ]
    simp only [Op.eqItems, Sem.run_bind, p1, p2, p3, Result.andThen_ok]
    rw [take_split, take_split, List.drop_drop, List.drop_drop, ← hac]
    by_cases hd : (L.drop (a * c)).take c = (M.drop (a * c)).take c
    · simp only [hd, decide_true, Bool.not_true, Bool.false_eq_true, if_false]
      rw [ih]
      simp
    · have : ¬ ((L.drop (a * c)).take c ++ (L.drop ((a + 1) * c)).take (k * c) = (M.drop (a * c)).take c ++ (M.drop ((a + 1) * c)).take (k * c)) := fun h => hd (List.append_inj_left h (by rw [List.length_take, List.length_take, List.length_drop, List.length_drop]; omega))
      simp [hd, this]
theorem eqA_ints {t e n : Nat} {i : TypeInfo} (hu : Try.prog.underlying t = some (.array n e)) (hi : Try.prog.info? e = some i) (hc : Try.prog.cellsOf e = 1) (hk : (tys e).k = .int) (hue : Try.prog.underlying e = some (.int .i64)) : EqA 2 t n := by
  intro d hd L M hL hM w
  obtain ⟨d, rfl⟩ : ∃ d', d = d' + 1 + 1 := ⟨d - 2, by omega⟩
  rw [run_equalIn_array w (d + 1) (ints L) (ints M) hu hi, hc, List.range_eq_range', items_run L M (fun a h1 h2 w => ⟨_, _, runPart_int hk L (a * 1) (by omega) w, runPart_int hk M (a * 1) (by omega) w, ?_⟩) n 0 (by omega) (by omega) w]
  · simp [List.take_of_length_le, hL, hM]
  · rw [run_equalIn_int w d e .i64 .i64 _ _ hue]
    have one : ∀ N : List Int, a * 1 < N.length → (N.drop (a * 1)).take 1 = [N.getD (a * 1) 0] := fun N h => by
      rw [List.drop_eq_getElem_cons h, List.take_succ_cons, List.take_zero]
      simp only [List.getD, List.getElem?_eq_getElem h, Option.getD_some]
    rw [one L (by omega), one M (by omega)]
    have : (L.getD (a * 1) 0 == M.getD (a * 1) 0) = decide ([L.getD (a * 1) 0] = [M.getD (a * 1) 0]) := by
      simp only [List.cons.injEq, and_true]
      rfl
    rw [this]
theorem eqA_arr {t e n c D k e' : Nat} {i : TypeInfo} (hu : Try.prog.underlying t = some (.array n e)) (hi : Try.prog.info? e = some i) (hc : Try.prog.cellsOf e = c) (hs : (tys e).size = c) (hk : (tys e).k = .arr k e') (he : EqA D e c) : EqA (D + 1) t (n * c) := by
  intro d hd L M hL hM w
  obtain ⟨d, rfl⟩ : ∃ d', d = d' + 1 := ⟨d - 1, by omega⟩
  have mul1 : ∀ a, (a + 1) * c = a * c + c := fun a => by rw [Nat.add_mul, Nat.one_mul]
  rw [run_equalIn_array w d (ints L) (ints M) hu hi, hc, List.range_eq_range', items_run L M (fun a h1 h2 w => ⟨_, _, runPart_arr hk L (a * c) (by rw [hs]; have := mul1 a; omega) w, runPart_arr hk M (a * c) (by rw [hs]; have := mul1 a; omega) w, ?_⟩) n 0 (by rw [Nat.zero_add]; omega) (by rw [Nat.zero_add]; omega) w]
  · simp [List.take_of_length_le, hL, hM]
  · rw [hs]
    exact he d (by omega) _ _ (by rw [List.length_take, List.length_drop]; have := mul1 a; omega) (by rw [List.length_take, List.length_drop]; have := mul1 a; omega) w
theorem eqA_one {t e c D k e' : Nat} {f : Field} (hu : Try.prog.underlying t = some (.struct #[f])) (hf : f.name ≠ "_") (hft : f.type = e) (hfo : f.offset = 0) (hs : (tys e).size = c) (hk : (tys e).k = .arr k e') (hp : Try.prog.stoodInHeld t = false) (he : EqA D e c) : EqA (D + 1) t c := by
  intro d hd L M hL hM w
  obtain ⟨d, rfl⟩ : ∃ d', d = d' + 1 := ⟨d - 1, by omega⟩
  have hfs : Try.prog.fieldsOf t = #[f] := by simp [Program.fieldsOf, hu]
  rw [run_equalIn_struct w d t (ints L) (ints M) (by rw [hfs]; exact hu) hp, hfs]
  have p1 := runPart_arr hk L 0 (by omega) w
  have p2 := runPart_arr hk M 0 (by omega) w
  rw [hs, List.drop_zero, List.take_of_length_le (by omega)] at p1 p2
  have h3 := he d (by omega) L M hL hM w
  simp only [Op.eqFields, if_pos hf, hft, hfo, Sem.run_bind, p1, p2, h3, Result.andThen_ok]
  by_cases hx : L = M
  · simp [hx]
  · simp [hx]
theorem eqI_of {t s D : Nat} (hD : D ≤ 10000) (h : EqA D t s) (hg : Try.prog.eqGuardType Try.prog.depth t = false) : EqI Try.prog t s := by
  intro L M hL hM w
  refine ⟨fun x y => ?_, fun x y => ?_, h 10000 hD L M hL hM w⟩
  · simp [eqGuard, hg]
  · simp [eqGuard, hg]
theorem eqA_A4 : EqA 2 24 4 := eqA_ints (i := (Try.prog.info? 3).getD default) Try.underlying24 (by kernel_rfl) (by kernel_rfl) rfl Try.underlying3
theorem eqA_A64 : EqA 3 25 24 := eqA_arr (c := 4) (i := (Try.prog.info? 24).getD default) Try.underlying25 (by kernel_rfl) (by kernel_rfl) rfl rfl eqA_A4
theorem eqI_rack : EqI Try.prog 27 24 := eqI_of (by omega) (eqA_one Try.underlying27 (by decide) rfl rfl rfl rfl (by kernel_rfl) eqA_A64) (by kernel_rfl)
/-! Keys of maps. -/
end Go.Proofs.Ytopfnkmlgcjpbaa
set_option maxRecDepth 100000
set_option linter.unusedSimpArgs false
set_option linter.unusedVariables false
namespace Go.Proofs.Ytopfnkmlgcjpbaa
open Go Go.RowKit
theorem eqI_p2 : EqI Try.prog 44 2 := eqI_of (D := 2) (by omega) (eqA_ints (i := (Try.prog.info? 3).getD default) Try.underlying44 (by kernel_rfl) (by kernel_rfl) rfl Try.underlying3) (by kernel_rfl)
--@tbl rPairs = laws.rPairs
--@tbl rIn = laws.rIn
--@tbl rPart = laws.rPart
theorem rPairs_ok (L1 L2 : List Int) (e1 e2 c1 c2 m : Nat) (h1 : m * 2 ≤ L1.length) (h2 : m * 2 ≤ L2.length) (h : L1.take (m * 2) = L2.take (m * 2)) (hm : m ≤ 4611686018427387903) :
    PureH Try.prog 12 [.slice 0 0 m c1, .slice 1 0 m c2] [(0, .ints L1 e1), (1, .ints L2 e2)] (.bool true) := by
  refine pure_of_vc (X := ⟨Try.prog, tys, [], [], true, true, 2, [], []⟩) fn_12 ⟨tys_ok, .nil, .nil, mixed⟩ (n0 := 2) (Nat.le_of_ble_eq_true rfl) (by simp [wfL, SV.wf]) (wfH_spec (by simp [wfH, SObj.wf])) (Nat.le_refl _) (fun _ => by simp [SV.wf, wfL]) ?_
  simp -implicitDefEqProofs only [Try.f12, Option.getD_some, argS, ZB, Int.reduceToNat, Nat.reduceLT, Nat.reduceLeDiff, Int.reduceLE, Int.reduceLT, Nat.reduceEqDiff, Nat.reduceSub, SB, SV.known, packR, ne_eq, reduceCtorEq, Nat.reduceEqDiff, ↓reduceIte, if_true, if_false, eq_self, Nat.reduceAdd, Nat.reduceMul, Nat.reduceSub, forall_const, oneCellS, litOne, flat1, Kd.isSca, flat, TYB]
  refine loop_intro (fun i : Nat => [(5, .int i), (0, .slice 0 0 m c1), (1, .slice 1 0 m c2)]) (fun _ => [(0, .ints L1 e1), (1, .ints L2 e2)]) 2 (fun i => i ≤ m) (fun i => m - i) ?_ ?_
  · refine ⟨0, ?_, Sub.mk_id ?_ ?_ ?_ ?_ ?_⟩
    all_goals (try (simp only [LB, subS, subH, wfS, wfH, SV.ren, renL, SObj.ren, SV.wf, SObj.wf, wfL, SV.known, Nat.reduceEqDiff, ↓reduceIte, if_true, if_false, eq_self, Nat.reduceAdd, Nat.reduceLT, Nat.reduceLeDiff, implies_true, reduceCtorEq, forall_const]; done))
    all_goals (try (simp only [LB, subS, subH, wfS, wfH, SV.ren, renL, SObj.ren, SV.wf, SObj.wf, wfL, SV.known, Nat.reduceEqDiff, ↓reduceIte, if_true, if_false, eq_self, Nat.reduceAdd, Nat.reduceLT, Nat.reduceLeDiff, implies_true, reduceCtorEq, forall_const]; simp; done))
    all_goals (try (simp only [LB, subS, subH, wfS, wfH, SV.ren, renL, SObj.ren, SV.wf, SObj.wf, wfL, SV.known, Nat.reduceEqDiff, ↓reduceIte, if_true, if_false, eq_self, Nat.reduceAdd, Nat.reduceLT, Nat.reduceLeDiff, implies_true, reduceCtorEq, forall_const]; (and_intros <;> (first | omega | rfl | (simp; done) | (simp; omega))); done))
    all_goals (try dsimp only)
    all_goals (and_intros <;> try (first | omega | (unfold In64; omega) | trivial | assumption))
  · intro i hi
    by_cases hlt : i < m
    · have hil : (i : Int) < m := by omega
      have ee : (L1.drop (i * 2)).take 2 = (L2.drop (i * 2)).take 2 := by
        have := congrArg (fun l => (List.drop (i * 2) l).take 2) h
        simp only [List.drop_take, List.take_take] at this
        rw [Nat.min_eq_left (by omega)] at this
        exact this
      have l2 : ((L2.drop (i * 2)).take 2).length = 2 := by rw [List.length_take, List.length_drop]; omega
      simp -implicitDefEqProofs only [lk_normal, hil, ee, l2, eqI_p2, ZB, Int.reduceToNat, Nat.reduceLT, Nat.reduceLeDiff, Int.reduceLE, Int.reduceLT, Nat.reduceEqDiff, Nat.reduceSub, SB, SV.known, packR, ne_eq, reduceCtorEq, Nat.reduceEqDiff, ↓reduceIte, if_true, if_false, eq_self, Nat.reduceAdd, Nat.reduceMul, Nat.reduceSub, forall_const, oneCellS, litOne, flat1, Kd.isSca, flat, TYB]
      (try (and_intros <;> try (first | omega | (unfold In64; omega) | trivial | assumption)))
      refine ⟨i + 1, ?_, ?_, Sub.mk_id ?_ ?_ ?_ ?_ ?_⟩
      all_goals (try (simp only [LB, subS, subH, wfS, wfH, SV.ren, renL, SObj.ren, SV.wf, SObj.wf, wfL, SV.known, Nat.reduceEqDiff, ↓reduceIte, if_true, if_false, eq_self, Nat.reduceAdd, Nat.reduceLT, Nat.reduceLeDiff, implies_true, reduceCtorEq, forall_const]; done))
      all_goals (try (simp only [LB, subS, subH, wfS, wfH, SV.ren, renL, SObj.ren, SV.wf, SObj.wf, wfL, SV.known, Nat.reduceEqDiff, ↓reduceIte, if_true, if_false, eq_self, Nat.reduceAdd, Nat.reduceLT, Nat.reduceLeDiff, implies_true, reduceCtorEq, forall_const]; simp; done))
      all_goals (try (simp only [LB, subS, subH, wfS, wfH, SV.ren, renL, SObj.ren, SV.wf, SObj.wf, wfL, SV.known, Nat.reduceEqDiff, ↓reduceIte, if_true, if_false, eq_self, Nat.reduceAdd, Nat.reduceLT, Nat.reduceLeDiff, implies_true, reduceCtorEq, forall_const]; (and_intros <;> (first | omega | rfl | (simp; done) | (simp; omega))); done))
      all_goals (try dsimp only)
      all_goals (and_intros <;> try (first | omega | (unfold In64; omega) | trivial | assumption))
    · have hil : ¬ (i : Int) < m := by omega
      simp -implicitDefEqProofs only [lk_normal, hil, ZB, Int.reduceToNat, Nat.reduceLT, Nat.reduceLeDiff, Int.reduceLE, Int.reduceLT, Nat.reduceEqDiff, Nat.reduceSub, SB, SV.known, packR, ne_eq, reduceCtorEq, Nat.reduceEqDiff, ↓reduceIte, if_true, if_false, eq_self, Nat.reduceAdd, Nat.reduceMul, Nat.reduceSub, forall_const, oneCellS, litOne, flat1, Kd.isSca, flat, TYB]
theorem rIn_ok (L p : List Int) (e c m : Nat) (h1 : m * 2 ≤ L.length) (hp : p.length = 2) (hm : m ≤ 4611686018427387903) :
    PureH Try.prog 113 [.slice 0 0 m c, .arr p] [(0, .ints L e)] (.bool (inP L m p)) := by
  have tkp : p.take 2 = p := List.take_of_length_le (by omega)
  refine pure_of_vc (X := ⟨Try.prog, tys, [], [], true, true, 1, [], []⟩) fn_113 ⟨tys_ok, .nil, .nil, mixed⟩ (n0 := 1) (Nat.le_of_ble_eq_true rfl) (by simp [wfL, SV.wf]) (wfH_spec (by simp [wfH, SObj.wf])) (Nat.le_refl _) (fun _ => by simp [SV.wf, wfL]) ?_
  simp -implicitDefEqProofs only [Try.f113, Option.getD_some, argS, hp, tkp, ZB, Int.reduceToNat, Nat.reduceLT, Nat.reduceLeDiff, Int.reduceLE, Int.reduceLT, Nat.reduceEqDiff, Nat.reduceSub, SB, SV.known, packR, ne_eq, reduceCtorEq, Nat.reduceEqDiff, ↓reduceIte, if_true, if_false, eq_self, Nat.reduceAdd, Nat.reduceMul, Nat.reduceSub, forall_const, oneCellS, litOne, flat1, Kd.isSca, flat, TYB]
  refine loop_intro (fun i : Nat => [(5, .int i), (3, .ptr 1 0), (0, .slice 0 0 m c)]) (fun _ => [(1, .ints p 44), (0, .ints L e)]) 2 (fun i => i ≤ m ∧ ∀ j, j < i → (L.drop (j * 2)).take 2 ≠ p) (fun i => m - i) ?_ ?_
  · refine ⟨0, ⟨Nat.zero_le _, fun j hj => absurd hj (by omega)⟩, ?_⟩
    refine Sub.mk_id ?_ ?_ ?_ ?_ ?_
    all_goals ((try simp only [LB, subS, subH, wfS, wfH, SV.ren, renL, SObj.ren, SV.wf, SObj.wf, wfL, SV.known, Nat.reduceEqDiff, ↓reduceIte, if_true, if_false, eq_self, Nat.reduceAdd, Nat.reduceLT, Nat.reduceLeDiff, implies_true, reduceCtorEq, forall_const]) <;> simp)
  · rintro i ⟨hi, hno⟩
    by_cases hlt : i < m
    · have hil : (i : Int) < m := by omega
      have l2 : ((L.drop (i * 2)).take 2).length = 2 := by rw [List.length_take, List.length_drop]; omega
      have hL : i * 2 + 2 ≤ L.length := by omega
      have tkx : ((L.drop (i * 2)).take 2).take 2 = (L.drop (i * 2)).take 2 := List.take_of_length_le (by omega)
      have hyes := inP_of (L := L) (p := p) hlt
      have hnx : (L.drop (i * 2)).take 2 ≠ p → ∀ j, j < i + 1 → (L.drop (j * 2)).take 2 ≠ p := fun h j hj => by
        by_cases hji : j = i
        · subst hji; exact h
        · exact hno j (by omega)
      simp -implicitDefEqProofs only [lk_normal, hil, l2, hp, tkp, hL, eqI_p2, ZB, Int.reduceToNat, Nat.reduceLT, Nat.reduceLeDiff, Int.reduceLE, Int.reduceLT, Nat.reduceEqDiff, Nat.reduceSub, SB, SV.known, packR, ne_eq, reduceCtorEq, Nat.reduceEqDiff, ↓reduceIte, if_true, if_false, eq_self, Nat.reduceAdd, Nat.reduceMul, Nat.reduceSub, forall_const, oneCellS, litOne, flat1, Kd.isSca, flat, TYB]
      refine ⟨by omega, fun h => (hyes h).symm, fun h => ⟨by unfold In64; omega, i + 1, ⟨by omega, hnx h⟩, by omega, Sub.mk_id ?_ ?_ ?_ ?_ ?_⟩⟩
      all_goals ((try simp only [LB, subS, subH, wfS, wfH, SV.ren, renL, SObj.ren, SV.wf, SObj.wf, wfL, SV.known, Nat.reduceEqDiff, ↓reduceIte, if_true, if_false, eq_self, Nat.reduceAdd, Nat.reduceLT, Nat.reduceLeDiff, implies_true, reduceCtorEq, forall_const]) <;> simp)
    · have hil : ¬ (i : Int) < m := by omega
      obtain rfl : i = m := by omega
      simp -implicitDefEqProofs only [lk_normal, hil, inP_not hno, ZB, Int.reduceToNat, Nat.reduceLT, Nat.reduceLeDiff, Int.reduceLE, Int.reduceLT, Nat.reduceEqDiff, Nat.reduceSub, SB, SV.known, packR, ne_eq, reduceCtorEq, Nat.reduceEqDiff, ↓reduceIte, if_true, if_false, eq_self, Nat.reduceAdd, Nat.reduceMul, Nat.reduceSub, forall_const, oneCellS, litOne, flat1, Kd.isSca, flat, TYB]
theorem rIn_nil (p : List Int) (H : Heap) (hp : p.length = 2) : PureH Try.prog 113 [.nils, .arr p] H (.bool false) := by
  refine PureH.any ?_ H
  have tkp : p.take 2 = p := List.take_of_length_le (by omega)
  refine pure_of_vc (X := ⟨Try.prog, tys, [], [], true, true, 0, [], []⟩) fn_113 ⟨tys_ok, .nil, .nil, mixed⟩ (n0 := 0) (Nat.le_of_ble_eq_true rfl) (by simp [wfL, SV.wf]) (wfH_spec (by simp [wfH, SObj.wf])) (Nat.le_refl _) (fun _ => by simp [SV.wf, wfL]) ?_
  simp -implicitDefEqProofs only [Try.f113, Option.getD_some, argS, hp, tkp, ZB, Int.reduceToNat, Nat.reduceLT, Nat.reduceLeDiff, Int.reduceLE, Int.reduceLT, Nat.reduceEqDiff, Nat.reduceSub, SB, SV.known, packR, ne_eq, reduceCtorEq, Nat.reduceEqDiff, ↓reduceIte, if_true, if_false, eq_self, Nat.reduceAdd, Nat.reduceMul, Nat.reduceSub, forall_const, oneCellS, litOne, flat1, Kd.isSca, flat, TYB]
  refine loop_intro (fun i : Nat => [(5, .int 0), (3, .ptr 0 0), (0, .nils)]) (fun _ => [(0, .ints p 44)]) 1 (fun i => True) (fun i => 0) ?_ ?_
  · refine ⟨0, trivial, Sub.mk_id ?_ ?_ ?_ ?_ ?_⟩
    all_goals ((try simp only [LB, subS, subH, wfS, wfH, SV.ren, renL, SObj.ren, SV.wf, SObj.wf, wfL, SV.known, Nat.reduceEqDiff, ↓reduceIte, if_true, if_false, eq_self, Nat.reduceAdd, Nat.reduceLT, Nat.reduceLeDiff, implies_true, reduceCtorEq, forall_const]) <;> simp)
  · intro i hi
    simp -implicitDefEqProofs only [lk_normal, ZB, Int.reduceToNat, Nat.reduceLT, Nat.reduceLeDiff, Int.reduceLE, Int.reduceLT, Nat.reduceEqDiff, Nat.reduceSub, SB, SV.known, packR, ne_eq, reduceCtorEq, Nat.reduceEqDiff, ↓reduceIte, if_true, if_false, eq_self, Nat.reduceAdd, Nat.reduceMul, Nat.reduceSub, forall_const, oneCellS, litOne, flat1, Kd.isSca, flat, TYB]
def rIn_F : List SV → Heap → Option (Prop × SV)
  | [.slice a 0 m _, .arr p], H => match hget H a with
    | some (.ints L _) => some (m * 2 ≤ L.length ∧ p.length = 2 ∧ m ≤ 4611686018427387903, .bool (inP L m p))
    | _ => none
  | [.nils, .arr p], _ => some (p.length = 2, .bool false)
  | _, _ => none
theorem rIn_T : ∀ args H p v, rIn_F args H = some (p, v) → p → PureH Try.prog 113 args H v := by
  intro args H p v h hp
  unfold rIn_F at h
  split at h
  · rename_i a m c q
    split at h
    · rename_i L e g
      cases h
      exact one_block (rIn_ok L q e c m hp.1 hp.2.1 hp.2.2) g rfl (fun _ => trivial)
    · cases h
  · cases h
    exact rIn_nil _ H hp
  · cases h
theorem rPairs_ns (L2 : List Int) (e2 c2 : Nat) : PureH Try.prog 12 [.nils, .slice 0 0 0 c2] [(0, .ints L2 e2)] (.bool true) := by
  refine pure_of_vc (X := ⟨Try.prog, tys, [], [], true, true, 1, [], []⟩) fn_12 ⟨tys_ok, .nil, .nil, mixed⟩ (n0 := 1) (Nat.le_of_ble_eq_true rfl) (by simp [wfL, SV.wf]) (wfH_spec (by simp [wfH, SObj.wf])) (Nat.le_refl _) (fun _ => by simp [SV.wf, wfL]) ?_
  simp -implicitDefEqProofs only [Try.f12, Option.getD_some, argS, ZB, Int.reduceToNat, Nat.reduceLT, Nat.reduceLeDiff, Int.reduceLE, Int.reduceLT, Nat.reduceEqDiff, Nat.reduceSub, SB, SV.known, packR, ne_eq, reduceCtorEq, Nat.reduceEqDiff, ↓reduceIte, if_true, if_false, eq_self, Nat.reduceAdd, Nat.reduceMul, Nat.reduceSub, forall_const, oneCellS, litOne, flat1, Kd.isSca, flat, TYB]
  refine loop_intro (fun i : Nat => [(5, .int 0), (0, .nils), (1, .slice 0 0 0 c2)]) (fun _ => [(0, .ints L2 e2)]) 1 (fun i => True) (fun i => 0) ?_ ?_
  · refine ⟨0, ?_, Sub.mk_id ?_ ?_ ?_ ?_ ?_⟩
    all_goals (try (simp only [LB, subS, subH, wfS, wfH, SV.ren, renL, SObj.ren, SV.wf, SObj.wf, wfL, SV.known, Nat.reduceEqDiff, ↓reduceIte, if_true, if_false, eq_self, Nat.reduceAdd, Nat.reduceLT, Nat.reduceLeDiff, implies_true, reduceCtorEq, forall_const]; done))
    all_goals (try (simp only [LB, subS, subH, wfS, wfH, SV.ren, renL, SObj.ren, SV.wf, SObj.wf, wfL, SV.known, Nat.reduceEqDiff, ↓reduceIte, if_true, if_false, eq_self, Nat.reduceAdd, Nat.reduceLT, Nat.reduceLeDiff, implies_true, reduceCtorEq, forall_const]; simp; done))
    all_goals (try (simp only [LB, subS, subH, wfS, wfH, SV.ren, renL, SObj.ren, SV.wf, SObj.wf, wfL, SV.known, Nat.reduceEqDiff, ↓reduceIte, if_true, if_false, eq_self, Nat.reduceAdd, Nat.reduceLT, Nat.reduceLeDiff, implies_true, reduceCtorEq, forall_const]; (and_intros <;> (first | omega | rfl | (simp; done) | (simp; omega))); done))
    all_goals (try dsimp only)
    all_goals (and_intros <;> try (first | omega | (unfold In64; omega) | trivial | assumption))
  · intro i hi
    simp -implicitDefEqProofs only [lk_normal, ZB, Int.reduceToNat, Nat.reduceLT, Nat.reduceLeDiff, Int.reduceLE, Int.reduceLT, Nat.reduceEqDiff, Nat.reduceSub, SB, SV.known, packR, ne_eq, reduceCtorEq, Nat.reduceEqDiff, ↓reduceIte, if_true, if_false, eq_self, Nat.reduceAdd, Nat.reduceMul, Nat.reduceSub, forall_const, oneCellS, litOne, flat1, Kd.isSca, flat, TYB]
def rPairs_F : List SV → Heap → Option (Prop × SV)
  | [.slice a 0 l1 _, .slice b 0 l2 _], H => match hget H a, hget H b with
    | some (.ints L1 _), some (.ints L2 _) => some (a ≠ b ∧ l1 = l2 ∧ l1 * 2 ≤ L1.length ∧ l2 * 2 ≤ L2.length ∧ L1.take (l1 * 2) = L2.take (l2 * 2) ∧ l1 ≤ 4611686018427387903, .bool true)
    | _, _ => none
  | [.nils, .slice b 0 l2 _], H => match hget H b with
    | some (.ints _ _) => some (l2 = 0, .bool true)
    | _ => none
  | _, _ => none
theorem rPairs_T : ∀ args H p v, rPairs_F args H = some (p, v) → p → PureH Try.prog 12 args H v := by
  intro args H p v h hp
  unfold rPairs_F at h
  split at h
  · rename_i a l1 c1 b l2 c2
    split at h
    · rename_i L1 e1 L2 e2 g1 g2
      cases h
      obtain ⟨hab, rfl, q1, q2, q3, q4⟩ := hp
      have := (rPairs_ok L1 L2 e1 e2 c1 c2 l1 q1 q2 q3 q4).sub (H := H) (fun j => if j = 0 then a else b) (fun j o hj => by
        simp only [hget_cons] at hj
        split at hj
        · rename_i hj0; cases hj; refine ⟨?_, fun _ => by omega, by simp [hj0]⟩; show hget H (if j = 0 then a else b) = _; rw [if_pos hj0]; exact g1
        · rename_i hj0
          split at hj
          · rename_i hj1; cases hj; refine ⟨?_, fun _ => by omega, by simp [hj1]⟩; show hget H (if j = 0 then a else b) = _; rw [if_neg hj0]; exact g2
          · cases hj) (fun x hx y hy he => by
        simp at hx hy
        rcases hx with rfl | rfl <;> rcases hy with rfl | rfl <;> simp at he <;> omega) (fun _ => trivial)
      simpa [renL, SV.ren] using this
    · cases h
  · rename_i b l2 c2
    split at h
    · rename_i L2 e2 g2
      cases h
      subst hp
      exact one_block (rPairs_ns L2 e2 c2) g2 rfl (fun _ => trivial)
    · cases h
  · cases h
theorem rPart_ok (L1 L2 : List Int) (e1 e2 c1 c2 m1 m2 : Nat) (h1 : m1 * 2 ≤ L1.length) (h2 : m2 * 2 ≤ L2.length) (h : ∀ i, i < m1 → inP L2 m2 ((L1.drop (i * 2)).take 2) = true) (hm : m1 ≤ 4611686018427387903 ∧ m2 ≤ 4611686018427387903) :
    PureH Try.prog 42 [.slice 0 0 m1 c1, .slice 1 0 m2 c2] [(0, .ints L1 e1), (1, .ints L2 e2)] (.bool true) := by
  refine pure_of_vc (X := ⟨Try.prog, tys, [(113, rIn_F)], [], true, true, 2, [], []⟩) fn_42 ⟨tys_ok, (.cons rIn_T .nil), .nil, mixed⟩ (n0 := 2) (Nat.le_of_ble_eq_true rfl) (by simp [wfL, SV.wf]) (wfH_spec (by simp [wfH, SObj.wf])) (Nat.le_refl _) (fun _ => by simp [SV.wf, wfL]) ?_
  simp -implicitDefEqProofs only [Try.f42, Option.getD_some, argS, rIn_F, ZB, Int.reduceToNat, Nat.reduceLT, Nat.reduceLeDiff, Int.reduceLE, Int.reduceLT, Nat.reduceEqDiff, Nat.reduceSub, SB, SV.known, packR, ne_eq, reduceCtorEq, Nat.reduceEqDiff, ↓reduceIte, if_true, if_false, eq_self, Nat.reduceAdd, Nat.reduceMul, Nat.reduceSub, forall_const, oneCellS, litOne, flat1, Kd.isSca, flat, TYB]
  refine loop_intro (fun i : Nat => [(5, .int i), (0, .slice 0 0 m1 c1), (1, .slice 1 0 m2 c2)]) (fun _ => [(0, .ints L1 e1), (1, .ints L2 e2)]) 2 (fun i => i ≤ m1) (fun i => m1 - i) ?_ ?_
  · refine ⟨0, ?_, Sub.mk_id ?_ ?_ ?_ ?_ ?_⟩
    all_goals (try (simp only [LB, subS, subH, wfS, wfH, SV.ren, renL, SObj.ren, SV.wf, SObj.wf, wfL, SV.known, Nat.reduceEqDiff, ↓reduceIte, if_true, if_false, eq_self, Nat.reduceAdd, Nat.reduceLT, Nat.reduceLeDiff, implies_true, reduceCtorEq, forall_const]; done))
    all_goals (try (simp only [LB, subS, subH, wfS, wfH, SV.ren, renL, SObj.ren, SV.wf, SObj.wf, wfL, SV.known, Nat.reduceEqDiff, ↓reduceIte, if_true, if_false, eq_self, Nat.reduceAdd, Nat.reduceLT, Nat.reduceLeDiff, implies_true, reduceCtorEq, forall_const]; simp; done))
    all_goals (try (simp only [LB, subS, subH, wfS, wfH, SV.ren, renL, SObj.ren, SV.wf, SObj.wf, wfL, SV.known, Nat.reduceEqDiff, ↓reduceIte, if_true, if_false, eq_self, Nat.reduceAdd, Nat.reduceLT, Nat.reduceLeDiff, implies_true, reduceCtorEq, forall_const]; (and_intros <;> (first | omega | rfl | (simp; done) | (simp; omega))); done))
    all_goals (try dsimp only)
    all_goals (and_intros <;> try (first | omega | (unfold In64; omega) | trivial | assumption))
  · intro i hi
    by_cases hlt : i < m1
    · have hil : (i : Int) < m1 := by omega
      have l2 : ((L1.drop (i * 2)).take 2).length = 2 := by rw [List.length_take, List.length_drop]; omega
      have hin := h i hlt
      simp -implicitDefEqProofs only [lk_normal, rIn_F, hil, l2, hin, ZB, Int.reduceToNat, Nat.reduceLT, Nat.reduceLeDiff, Int.reduceLE, Int.reduceLT, Nat.reduceEqDiff, Nat.reduceSub, SB, SV.known, packR, ne_eq, reduceCtorEq, Nat.reduceEqDiff, ↓reduceIte, if_true, if_false, eq_self, Nat.reduceAdd, Nat.reduceMul, Nat.reduceSub, forall_const, oneCellS, litOne, flat1, Kd.isSca, flat, TYB]
      (try (and_intros <;> try (first | omega | (unfold In64; omega) | trivial | assumption)))
      refine ⟨i + 1, ?_, ?_, Sub.mk_id ?_ ?_ ?_ ?_ ?_⟩
      all_goals (try (simp only [LB, subS, subH, wfS, wfH, SV.ren, renL, SObj.ren, SV.wf, SObj.wf, wfL, SV.known, Nat.reduceEqDiff, ↓reduceIte, if_true, if_false, eq_self, Nat.reduceAdd, Nat.reduceLT, Nat.reduceLeDiff, implies_true, reduceCtorEq, forall_const]; done))
      all_goals (try (simp only [LB, subS, subH, wfS, wfH, SV.ren, renL, SObj.ren, SV.wf, SObj.wf, wfL, SV.known, Nat.reduceEqDiff, ↓reduceIte, if_true, if_false, eq_self, Nat.reduceAdd, Nat.reduceLT, Nat.reduceLeDiff, implies_true, reduceCtorEq, forall_const]; simp; done))
      all_goals (try (simp only [LB, subS, subH, wfS, wfH, SV.ren, renL, SObj.ren, SV.wf, SObj.wf, wfL, SV.known, Nat.reduceEqDiff, ↓reduceIte, if_true, if_false, eq_self, Nat.reduceAdd, Nat.reduceLT, Nat.reduceLeDiff, implies_true, reduceCtorEq, forall_const]; (and_intros <;> (first | omega | rfl | (simp; done) | (simp; omega))); done))
      all_goals (try dsimp only)
      all_goals (and_intros <;> try (first | omega | (unfold In64; omega) | trivial | assumption))
    · have hil : ¬ (i : Int) < m1 := by omega
      simp -implicitDefEqProofs only [lk_normal, hil, ZB, Int.reduceToNat, Nat.reduceLT, Nat.reduceLeDiff, Int.reduceLE, Int.reduceLT, Nat.reduceEqDiff, Nat.reduceSub, SB, SV.known, packR, ne_eq, reduceCtorEq, Nat.reduceEqDiff, ↓reduceIte, if_true, if_false, eq_self, Nat.reduceAdd, Nat.reduceMul, Nat.reduceSub, forall_const, oneCellS, litOne, flat1, Kd.isSca, flat, TYB]
theorem rPart_nn (H : Heap) : PureH Try.prog 42 [.nils, .nils] H (.bool true) := by
  refine PureH.any ?_ H
  refine pure_of_vc (X := ⟨Try.prog, tys, [(113, rIn_F)], [], true, true, 0, [], []⟩) fn_42 ⟨tys_ok, (.cons rIn_T .nil), .nil, mixed⟩ (n0 := 0) (Nat.le_of_ble_eq_true rfl) (by simp [wfL, SV.wf]) (wfH_spec (by simp [wfH, SObj.wf])) (Nat.le_refl _) (fun _ => by simp [SV.wf, wfL]) ?_
  simp -implicitDefEqProofs only [Try.f42, Option.getD_some, argS, rIn_F, ZB, Int.reduceToNat, Nat.reduceLT, Nat.reduceLeDiff, Int.reduceLE, Int.reduceLT, Nat.reduceEqDiff, Nat.reduceSub, SB, SV.known, packR, ne_eq, reduceCtorEq, Nat.reduceEqDiff, ↓reduceIte, if_true, if_false, eq_self, Nat.reduceAdd, Nat.reduceMul, Nat.reduceSub, forall_const, oneCellS, litOne, flat1, Kd.isSca, flat, TYB]
  refine loop_intro (fun i : Nat => [(5, .int 0), (0, .nils), (1, .nils)]) (fun _ => []) 0 (fun i => True) (fun i => 0) ?_ ?_
  · refine ⟨0, ?_, Sub.mk_id ?_ ?_ ?_ ?_ ?_⟩
    all_goals (try (simp only [LB, subS, subH, wfS, wfH, SV.ren, renL, SObj.ren, SV.wf, SObj.wf, wfL, SV.known, Nat.reduceEqDiff, ↓reduceIte, if_true, if_false, eq_self, Nat.reduceAdd, Nat.reduceLT, Nat.reduceLeDiff, implies_true, reduceCtorEq, forall_const]; done))
    all_goals (try (simp only [LB, subS, subH, wfS, wfH, SV.ren, renL, SObj.ren, SV.wf, SObj.wf, wfL, SV.known, Nat.reduceEqDiff, ↓reduceIte, if_true, if_false, eq_self, Nat.reduceAdd, Nat.reduceLT, Nat.reduceLeDiff, implies_true, reduceCtorEq, forall_const]; simp; done))
    all_goals (try (simp only [LB, subS, subH, wfS, wfH, SV.ren, renL, SObj.ren, SV.wf, SObj.wf, wfL, SV.known, Nat.reduceEqDiff, ↓reduceIte, if_true, if_false, eq_self, Nat.reduceAdd, Nat.reduceLT, Nat.reduceLeDiff, implies_true, reduceCtorEq, forall_const]; (and_intros <;> (first | omega | rfl | (simp; done) | (simp; omega))); done))
    all_goals (try dsimp only)
    all_goals (and_intros <;> try (first | omega | (unfold In64; omega) | trivial | assumption))
  · intro i hi
    simp -implicitDefEqProofs only [lk_normal, ZB, Int.reduceToNat, Nat.reduceLT, Nat.reduceLeDiff, Int.reduceLE, Int.reduceLT, Nat.reduceEqDiff, Nat.reduceSub, SB, SV.known, packR, ne_eq, reduceCtorEq, Nat.reduceEqDiff, ↓reduceIte, if_true, if_false, eq_self, Nat.reduceAdd, Nat.reduceMul, Nat.reduceSub, forall_const, oneCellS, litOne, flat1, Kd.isSca, flat, TYB]
def rPart_F : List SV → Heap → Option (Prop × SV)
  | [.slice a 0 l1 _, .slice b 0 l2 _], H => match hget H a, hget H b with
    | some (.ints L1 _), some (.ints L2 _) => some (a ≠ b ∧ l1 * 2 ≤ L1.length ∧ l2 * 2 ≤ L2.length ∧ (∀ i, i < l1 → inP L2 l2 ((L1.drop (i * 2)).take 2) = true) ∧ l1 ≤ 4611686018427387903 ∧ l2 ≤ 4611686018427387903, .bool true)
    | _, _ => none
  | [.nils, .nils], _ => some (True, .bool true)
  | _, _ => none
theorem rPart_T : ∀ args H p v, rPart_F args H = some (p, v) → p → PureH Try.prog 42 args H v := by
  intro args H p v h hp
  unfold rPart_F at h
  split at h
  · rename_i a l1 c1 b l2 c2
    split at h
    · rename_i L1 e1 L2 e2 g1 g2
      cases h
      obtain ⟨hab, q1, q2, q3, q4, q5⟩ := hp
      have := (rPart_ok L1 L2 e1 e2 c1 c2 l1 l2 q1 q2 q3 ⟨q4, q5⟩).sub (H := H) (fun j => if j = 0 then a else b) (fun j o hj => by
        simp only [hget_cons] at hj
        split at hj
        · rename_i hj0; cases hj; refine ⟨?_, fun _ => by omega, by simp [hj0]⟩; show hget H (if j = 0 then a else b) = _; rw [if_pos hj0]; exact g1
        · rename_i hj0
          split at hj
          · rename_i hj1; cases hj; refine ⟨?_, fun _ => by omega, by simp [hj1]⟩; show hget H (if j = 0 then a else b) = _; rw [if_neg hj0]; exact g2
          · cases hj) (fun x hx y hy he => by
        simp at hx hy
        rcases hx with rfl | rfl <;> rcases hy with rfl | rfl <;> simp at he <;> omega) (fun _ => trivial)
      simpa [renL, SV.ren] using this
    · cases h
  · cases h
    exact rPart_nn H
  · cases h
end Go.Proofs.Ytopfnkmlgcjpbaa
set_option maxRecDepth 100000
set_option linter.unusedSimpArgs false
set_option linter.unusedVariables false
namespace Go.Proofs.Ytopfnkmlgcjpbaa
open Go Go.RowKit
theorem freshK_nil (wr : Wrap) (len es e : Nat) (H : Heap) (n : Nat) (κ : K1) : freshK wr [] len es e true H n κ = κ (wr.ap .nils) H n := by
  unfold freshK
  refine propext ⟨fun h => h.1 rfl rfl, fun h => ⟨fun _ _ => h, fun h2 => absurd rfl (h2 rfl)⟩⟩
theorem freshK_ne (wr : Wrap) (L : List Int) (len es e : Nat) (H : Heap) (n : Nat) (κ : K1) (hL : (L = []) = False) : freshK wr L len es e true H n κ = ∀ (cap : Nat) (junk : List Int), junk.length + L.length = cap * es → κ (wr.ap (.slice n 0 len cap)) ((n, .ints (L ++ junk) e) :: H) (n + 1) := by
  unfold freshK
  refine propext ⟨fun h => h.2 fun _ h2 => by rw [hL] at h2; exact h2, fun h => ⟨fun _ h2 => by rw [hL] at h2; exact h2.elim, fun _ => h⟩⟩
theorem freshK_f (wr : Wrap) (L : List Int) (len es e : Nat) (H : Heap) (n : Nat) (κ : K1) : freshK wr L len es e false H n κ = ∀ (cap : Nat) (junk : List Int), junk.length + L.length = cap * es → κ (wr.ap (.slice n 0 len cap)) ((n, .ints (L ++ junk) e) :: H) (n + 1) := by
  unfold freshK
  refine propext ⟨fun h => h.2 (fun h2 => by cases h2), fun h => ⟨(fun h2 => by cases h2), fun _ => h⟩⟩
--@tbl rPairs3 = laws.rPairs
--@tbl rPart3 = laws.rPart
theorem rPairs_sn (L1 : List Int) (e1 c1 : Nat) : PureH Try.prog 12 [.slice 0 0 0 c1, .nils] [(0, .ints L1 e1)] (.bool true) := by
  refine pure_of_vc (X := ⟨Try.prog, tys, [], [], true, true, 1, [], []⟩) fn_12 ⟨tys_ok, .nil, .nil, mixed⟩ (n0 := 1) (Nat.le_of_ble_eq_true rfl) (by simp [wfL, SV.wf]) (wfH_spec (by simp [wfH, SObj.wf])) (Nat.le_refl _) (fun _ => by simp [SV.wf, wfL]) ?_
  simp -implicitDefEqProofs only [Try.f12, Option.getD_some, argS, ZB, Int.reduceToNat, Nat.reduceLT, Nat.reduceLeDiff, Int.reduceLE, Int.reduceLT, Nat.reduceEqDiff, Nat.reduceSub, SB, SV.known, packR, ne_eq, reduceCtorEq, Nat.reduceEqDiff, ↓reduceIte, if_true, if_false, eq_self, Nat.reduceAdd, Nat.reduceMul, Nat.reduceSub, forall_const, oneCellS, litOne, flat1, Kd.isSca, flat, TYB]
  refine loop_intro (fun i : Nat => [(5, .int 0), (0, .slice 0 0 0 c1), (1, .nils)]) (fun _ => [(0, .ints L1 e1)]) 1 (fun i => True) (fun i => 0) ?_ ?_
  · refine ⟨0, ?_, Sub.mk_id ?_ ?_ ?_ ?_ ?_⟩
    all_goals (try (simp only [LB, subS, subH, wfS, wfH, SV.ren, renL, SObj.ren, SV.wf, SObj.wf, wfL, SV.known, Nat.reduceEqDiff, ↓reduceIte, if_true, if_false, eq_self, Nat.reduceAdd, Nat.reduceLT, Nat.reduceLeDiff, implies_true, reduceCtorEq, forall_const]; done))
    all_goals (try (simp only [LB, subS, subH, wfS, wfH, SV.ren, renL, SObj.ren, SV.wf, SObj.wf, wfL, SV.known, Nat.reduceEqDiff, ↓reduceIte, if_true, if_false, eq_self, Nat.reduceAdd, Nat.reduceLT, Nat.reduceLeDiff, implies_true, reduceCtorEq, forall_const]; simp; done))
    all_goals (try (simp only [LB, subS, subH, wfS, wfH, SV.ren, renL, SObj.ren, SV.wf, SObj.wf, wfL, SV.known, Nat.reduceEqDiff, ↓reduceIte, if_true, if_false, eq_self, Nat.reduceAdd, Nat.reduceLT, Nat.reduceLeDiff, implies_true, reduceCtorEq, forall_const]; (and_intros <;> (first | omega | rfl | (simp; done) | (simp; omega))); done))
    all_goals (try dsimp only)
    all_goals (and_intros <;> try (first | omega | (unfold In64; omega) | trivial | assumption))
  · intro i hi
    simp -implicitDefEqProofs only [lk_normal, ZB, Int.reduceToNat, Nat.reduceLT, Nat.reduceLeDiff, Int.reduceLE, Int.reduceLT, Nat.reduceEqDiff, Nat.reduceSub, SB, SV.known, packR, ne_eq, reduceCtorEq, Nat.reduceEqDiff, ↓reduceIte, if_true, if_false, eq_self, Nat.reduceAdd, Nat.reduceMul, Nat.reduceSub, forall_const, oneCellS, litOne, flat1, Kd.isSca, flat, TYB]
theorem rPairs_nn (H : Heap) : PureH Try.prog 12 [.nils, .nils] H (.bool true) := by
  refine PureH.any ?_ H
  refine pure_of_vc (X := ⟨Try.prog, tys, [], [], true, true, 0, [], []⟩) fn_12 ⟨tys_ok, .nil, .nil, mixed⟩ (n0 := 0) (Nat.le_of_ble_eq_true rfl) (by simp [wfL, SV.wf]) (wfH_spec (by simp [wfH, SObj.wf])) (Nat.le_refl _) (fun _ => by simp [SV.wf, wfL]) ?_
  simp -implicitDefEqProofs only [Try.f12, Option.getD_some, argS, ZB, Int.reduceToNat, Nat.reduceLT, Nat.reduceLeDiff, Int.reduceLE, Int.reduceLT, Nat.reduceEqDiff, Nat.reduceSub, SB, SV.known, packR, ne_eq, reduceCtorEq, Nat.reduceEqDiff, ↓reduceIte, if_true, if_false, eq_self, Nat.reduceAdd, Nat.reduceMul, Nat.reduceSub, forall_const, oneCellS, litOne, flat1, Kd.isSca, flat, TYB]
  refine loop_intro (fun i : Nat => [(5, .int 0), (0, .nils), (1, .nils)]) (fun _ => []) 0 (fun i => True) (fun i => 0) ?_ ?_
  · refine ⟨0, ?_, Sub.mk_id ?_ ?_ ?_ ?_ ?_⟩
    all_goals (try (simp only [LB, subS, subH, wfS, wfH, SV.ren, renL, SObj.ren, SV.wf, SObj.wf, wfL, SV.known, Nat.reduceEqDiff, ↓reduceIte, if_true, if_false, eq_self, Nat.reduceAdd, Nat.reduceLT, Nat.reduceLeDiff, implies_true, reduceCtorEq, forall_const]; done))
    all_goals (try (simp only [LB, subS, subH, wfS, wfH, SV.ren, renL, SObj.ren, SV.wf, SObj.wf, wfL, SV.known, Nat.reduceEqDiff, ↓reduceIte, if_true, if_false, eq_self, Nat.reduceAdd, Nat.reduceLT, Nat.reduceLeDiff, implies_true, reduceCtorEq, forall_const]; simp; done))
    all_goals (try (simp only [LB, subS, subH, wfS, wfH, SV.ren, renL, SObj.ren, SV.wf, SObj.wf, wfL, SV.known, Nat.reduceEqDiff, ↓reduceIte, if_true, if_false, eq_self, Nat.reduceAdd, Nat.reduceLT, Nat.reduceLeDiff, implies_true, reduceCtorEq, forall_const]; (and_intros <;> (first | omega | rfl | (simp; done) | (simp; omega))); done))
    all_goals (try dsimp only)
    all_goals (and_intros <;> try (first | omega | (unfold In64; omega) | trivial | assumption))
  · intro i hi
    simp -implicitDefEqProofs only [lk_normal, ZB, Int.reduceToNat, Nat.reduceLT, Nat.reduceLeDiff, Int.reduceLE, Int.reduceLT, Nat.reduceEqDiff, Nat.reduceSub, SB, SV.known, packR, ne_eq, reduceCtorEq, Nat.reduceEqDiff, ↓reduceIte, if_true, if_false, eq_self, Nat.reduceAdd, Nat.reduceMul, Nat.reduceSub, forall_const, oneCellS, litOne, flat1, Kd.isSca, flat, TYB]
def rPairs3_F : List SV → Heap → Option (Prop × SV)
  | [.slice a 0 l1 _, .slice b 0 l2 _], H => match hget H a, hget H b with
    | some (.ints L1 _), some (.ints L2 _) => some (a ≠ b ∧ l1 = l2 ∧ l1 * 2 ≤ L1.length ∧ l2 * 2 ≤ L2.length ∧ L1.take (l1 * 2) = L2.take (l2 * 2) ∧ l1 ≤ 4611686018427387903, .bool true)
    | _, _ => none
  | [.nils, .slice b 0 l2 _], H => match hget H b with
    | some (.ints _ _) => some (l2 = 0, .bool true)
    | _ => none
  | [.slice a 0 l1 _, .nils], H => match hget H a with
    | some (.ints _ _) => some (l1 = 0, .bool true)
    | _ => none
  | [.nils, .nils], _ => some (True, .bool true)
  | _, _ => none
theorem rPairs3_T : ∀ args H p v, rPairs3_F args H = some (p, v) → p → PureH Try.prog 12 args H v := by
  intro args H p v h hp
  unfold rPairs3_F at h
  split at h
  · rename_i a l1 c1 b l2 c2
    split at h
    · rename_i L1 e1 L2 e2 g1 g2
      cases h
      exact rPairs_T [.slice a 0 l1 c1, .slice b 0 l2 c2] H _ _ (by simp only [rPairs_F, g1, g2]) hp
    · cases h
  · rename_i b l2 c2
    split at h
    · rename_i L2 e2 g2
      cases h
      subst hp
      exact one_block (rPairs_ns L2 e2 c2) g2 rfl (fun _ => trivial)
    · cases h
  · rename_i a l1 c1
    split at h
    · rename_i L1 e1 g1
      cases h
      subst hp
      exact one_block (rPairs_sn L1 e1 c1) g1 rfl (fun _ => trivial)
    · cases h
  · cases h
    exact rPairs_nn H
  · cases h
theorem rPart_ns (L2 : List Int) (e2 c2 m2 : Nat) : PureH Try.prog 42 [.nils, .slice 0 0 m2 c2] [(0, .ints L2 e2)] (.bool true) := by
  refine pure_of_vc (X := ⟨Try.prog, tys, [(113, rIn_F)], [], true, true, 1, [], []⟩) fn_42 ⟨tys_ok, (.cons rIn_T .nil), .nil, mixed⟩ (n0 := 1) (Nat.le_of_ble_eq_true rfl) (by simp [wfL, SV.wf]) (wfH_spec (by simp [wfH, SObj.wf])) (Nat.le_refl _) (fun _ => by simp [SV.wf, wfL]) ?_
  simp -implicitDefEqProofs only [Try.f42, Option.getD_some, argS, rIn_F, ZB, Int.reduceToNat, Nat.reduceLT, Nat.reduceLeDiff, Int.reduceLE, Int.reduceLT, Nat.reduceEqDiff, Nat.reduceSub, SB, SV.known, packR, ne_eq, reduceCtorEq, Nat.reduceEqDiff, ↓reduceIte, if_true, if_false, eq_self, Nat.reduceAdd, Nat.reduceMul, Nat.reduceSub, forall_const, oneCellS, litOne, flat1, Kd.isSca, flat, TYB]
  refine loop_intro (fun i : Nat => [(5, .int 0), (0, .nils), (1, .slice 0 0 m2 c2)]) (fun _ => [(0, .ints L2 e2)]) 1 (fun i => True) (fun i => 0) ?_ ?_
  · refine ⟨0, ?_, Sub.mk_id ?_ ?_ ?_ ?_ ?_⟩
    all_goals (try (simp only [LB, subS, subH, wfS, wfH, SV.ren, renL, SObj.ren, SV.wf, SObj.wf, wfL, SV.known, Nat.reduceEqDiff, ↓reduceIte, if_true, if_false, eq_self, Nat.reduceAdd, Nat.reduceLT, Nat.reduceLeDiff, implies_true, reduceCtorEq, forall_const]; done))
    all_goals (try (simp only [LB, subS, subH, wfS, wfH, SV.ren, renL, SObj.ren, SV.wf, SObj.wf, wfL, SV.known, Nat.reduceEqDiff, ↓reduceIte, if_true, if_false, eq_self, Nat.reduceAdd, Nat.reduceLT, Nat.reduceLeDiff, implies_true, reduceCtorEq, forall_const]; simp; done))
    all_goals (try (simp only [LB, subS, subH, wfS, wfH, SV.ren, renL, SObj.ren, SV.wf, SObj.wf, wfL, SV.known, Nat.reduceEqDiff, ↓reduceIte, if_true, if_false, eq_self, Nat.reduceAdd, Nat.reduceLT, Nat.reduceLeDiff, implies_true, reduceCtorEq, forall_const]; (and_intros <;> (first | omega | rfl | (simp; done) | (simp; omega))); done))
    all_goals (try dsimp only)
    all_goals (and_intros <;> try (first | omega | (unfold In64; omega) | trivial | assumption))
  · intro i hi
    simp -implicitDefEqProofs only [lk_normal, ZB, Int.reduceToNat, Nat.reduceLT, Nat.reduceLeDiff, Int.reduceLE, Int.reduceLT, Nat.reduceEqDiff, Nat.reduceSub, SB, SV.known, packR, ne_eq, reduceCtorEq, Nat.reduceEqDiff, ↓reduceIte, if_true, if_false, eq_self, Nat.reduceAdd, Nat.reduceMul, Nat.reduceSub, forall_const, oneCellS, litOne, flat1, Kd.isSca, flat, TYB]
theorem rPart_sn (L1 : List Int) (e1 c1 : Nat) : PureH Try.prog 42 [.slice 0 0 0 c1, .nils] [(0, .ints L1 e1)] (.bool true) := by
  refine pure_of_vc (X := ⟨Try.prog, tys, [(113, rIn_F)], [], true, true, 1, [], []⟩) fn_42 ⟨tys_ok, (.cons rIn_T .nil), .nil, mixed⟩ (n0 := 1) (Nat.le_of_ble_eq_true rfl) (by simp [wfL, SV.wf]) (wfH_spec (by simp [wfH, SObj.wf])) (Nat.le_refl _) (fun _ => by simp [SV.wf, wfL]) ?_
  simp -implicitDefEqProofs only [Try.f42, Option.getD_some, argS, rIn_F, ZB, Int.reduceToNat, Nat.reduceLT, Nat.reduceLeDiff, Int.reduceLE, Int.reduceLT, Nat.reduceEqDiff, Nat.reduceSub, SB, SV.known, packR, ne_eq, reduceCtorEq, Nat.reduceEqDiff, ↓reduceIte, if_true, if_false, eq_self, Nat.reduceAdd, Nat.reduceMul, Nat.reduceSub, forall_const, oneCellS, litOne, flat1, Kd.isSca, flat, TYB]
  refine loop_intro (fun i : Nat => [(5, .int 0), (0, .slice 0 0 0 c1), (1, .nils)]) (fun _ => [(0, .ints L1 e1)]) 1 (fun i => True) (fun i => 0) ?_ ?_
  · refine ⟨0, ?_, Sub.mk_id ?_ ?_ ?_ ?_ ?_⟩
    all_goals (try (simp only [LB, subS, subH, wfS, wfH, SV.ren, renL, SObj.ren, SV.wf, SObj.wf, wfL, SV.known, Nat.reduceEqDiff, ↓reduceIte, if_true, if_false, eq_self, Nat.reduceAdd, Nat.reduceLT, Nat.reduceLeDiff, implies_true, reduceCtorEq, forall_const]; done))
    all_goals (try (simp only [LB, subS, subH, wfS, wfH, SV.ren, renL, SObj.ren, SV.wf, SObj.wf, wfL, SV.known, Nat.reduceEqDiff, ↓reduceIte, if_true, if_false, eq_self, Nat.reduceAdd, Nat.reduceLT, Nat.reduceLeDiff, implies_true, reduceCtorEq, forall_const]; simp; done))
    all_goals (try (simp only [LB, subS, subH, wfS, wfH, SV.ren, renL, SObj.ren, SV.wf, SObj.wf, wfL, SV.known, Nat.reduceEqDiff, ↓reduceIte, if_true, if_false, eq_self, Nat.reduceAdd, Nat.reduceLT, Nat.reduceLeDiff, implies_true, reduceCtorEq, forall_const]; (and_intros <;> (first | omega | rfl | (simp; done) | (simp; omega))); done))
    all_goals (try dsimp only)
    all_goals (and_intros <;> try (first | omega | (unfold In64; omega) | trivial | assumption))
  · intro i hi
    simp -implicitDefEqProofs only [lk_normal, ZB, Int.reduceToNat, Nat.reduceLT, Nat.reduceLeDiff, Int.reduceLE, Int.reduceLT, Nat.reduceEqDiff, Nat.reduceSub, SB, SV.known, packR, ne_eq, reduceCtorEq, Nat.reduceEqDiff, ↓reduceIte, if_true, if_false, eq_self, Nat.reduceAdd, Nat.reduceMul, Nat.reduceSub, forall_const, oneCellS, litOne, flat1, Kd.isSca, flat, TYB]
def rPart3_F : List SV → Heap → Option (Prop × SV)
  | [.slice a 0 l1 _, .slice b 0 l2 _], H => match hget H a, hget H b with
    | some (.ints L1 _), some (.ints L2 _) => some (a ≠ b ∧ l1 * 2 ≤ L1.length ∧ l2 * 2 ≤ L2.length ∧ (∀ i, i < l1 → inP L2 l2 ((L1.drop (i * 2)).take 2) = true) ∧ l1 ≤ 4611686018427387903 ∧ l2 ≤ 4611686018427387903, .bool true)
    | _, _ => none
  | [.nils, .slice b 0 _ _], H => match hget H b with
    | some (.ints _ _) => some (True, .bool true)
    | _ => none
  | [.slice a 0 l1 _, .nils], H => match hget H a with
    | some (.ints _ _) => some (l1 = 0, .bool true)
    | _ => none
  | [.nils, .nils], _ => some (True, .bool true)
  | _, _ => none
theorem rPart3_T : ∀ args H p v, rPart3_F args H = some (p, v) → p → PureH Try.prog 42 args H v := by
  intro args H p v h hp
  unfold rPart3_F at h
  split at h
  · rename_i a l1 c1 b l2 c2
    split at h
    · rename_i L1 e1 L2 e2 g1 g2
      cases h
      exact rPart_T [.slice a 0 l1 c1, .slice b 0 l2 c2] H _ _ (by simp only [rPart_F, g1, g2]) hp
    · cases h
  · rename_i b l2 c2
    split at h
    · rename_i L2 e2 g2
      cases h
      exact one_block (rPart_ns L2 e2 c2 l2) g2 rfl (fun _ => trivial)
    · cases h
  · rename_i a l1 c1
    split at h
    · rename_i L1 e1 g1
      cases h
      subst hp
      exact one_block (rPart_sn L1 e1 c1) g1 rfl (fun _ => trivial)
    · cases h
  · cases h
    exact rPart_nn H
  · cases h
end Go.Proofs.Ytopfnkmlgcjpbaa
set_option maxRecDepth 100000
set_option linter.unusedSimpArgs false
set_option linter.unusedVariables false
namespace Go.Proofs.Ytopfnkmlgcjpbaa
open Go Go.RowKit
/-- A code of bytes: nil, or a window of a block. -/
def BytV (kc : Nat) (v : SV) (H : Heap) : Prop := (v = .nils ∧ ∃ o, hget H kc = some o) ∨ ∃ (off len cap : Nat) (L : List Int), v = .slice kc off len cap ∧ hget H kc = some (.winU off L) ∧ L.length = len ∧ len ≤ 1000000000 ∧ ∀ x ∈ L, 0 ≤ x ∧ x ≤ 255
theorem BytV.wf {kc n : Nat} {v : SV} {H : Heap} (h : BytV kc v H) (hw : hwf n H) : v.wf n ∧ kc < n := by
  rcases h with ⟨rfl, o, h⟩ | ⟨off, len, cap, L, rfl, h, _⟩
  · exact ⟨trivial, (hw _ _ h).1⟩
  · exact ⟨(hw _ _ h).1, (hw _ _ h).1⟩
theorem BytV.one {kc : Nat} {v : SV} {H : Heap} (h : BytV kc v H) : oneCellS v = true := by
  rcases h with ⟨rfl, o, h⟩ | ⟨off, len, cap, L, rfl, h, _⟩ <;> rfl
theorem BytV.at {kc : Nat} {v : SV} {H H' : Heap} (h : BytV kc v H) (hf : ∀ o, hget H kc = some o → hget H' kc = some o) : BytV kc v H' := by
  rcases h with ⟨rfl, o, h⟩ | ⟨off, len, cap, L, rfl, h, h2⟩
  · exact .inl ⟨rfl, o, hf _ h⟩
  · exact .inr ⟨off, len, cap, L, rfl, hf _ h, h2⟩
/-- A cursor, its bytes, and the number of draws. -/
def CurH (c kc a : Nat) (H : Heap) : Prop := ∃ (v : SV) (s : Int), hget H c = some (.cells [v, .int a, .lit (.int .u64 s)] 88) ∧ BytV kc v H ∧ kc ≠ c
/-- What draws leave. -/
structure Drawn (c kc a k n : Nat) (H H' : Heap) (n' : Nat) : Prop where
  le : n ≤ n'
  wf : hwf n' H'
  cur : ∃ a', a ≤ a' ∧ a' ≤ a + k ∧ CurH c kc a' H'
  fr : ∀ i o, i < n → i ≠ c → hget H i = some o → hget H' i = some o
theorem u8_in {x : Int} (h : 0 ≤ x ∧ x ≤ 255) : In64 x := by unfold In64; omega
theorem and_255 (x : Int) : 0 ≤ IntKind.u64.wrap ((BitVec.ofInt IntKind.u64.bits x &&& BitVec.ofInt IntKind.u64.bits 255).toNat : Int) ∧ IntKind.u64.wrap ((BitVec.ofInt IntKind.u64.bits x &&& BitVec.ofInt IntKind.u64.bits 255).toNat : Int) ≤ 255 := by
  have h : (BitVec.ofInt IntKind.u64.bits x &&& BitVec.ofInt IntKind.u64.bits 255).toNat ≤ 255 := by
    rw [BitVec.toNat_and]
    exact Nat.le_trans Nat.and_le_right (by decide)
  generalize (BitVec.ofInt IntKind.u64.bits x &&& BitVec.ofInt IntKind.u64.bits 255).toNat = y at h ⊢
  have e : IntKind.u64.wrap (y : Int) = y := by
    unfold IntKind.wrap
    have h2 : ((y : Int) % (2 ^ IntKind.u64.bits : Int)) = y := Int.emod_eq_of_lt (by omega) (by show (y : Int) < 18446744073709551616; omega)
    simp only [h2]
    rfl
  rw [e]; omega
def next_F : List SV → Heap → Nat → Nat → K1 → Prop
  | [.ptr c 0], H, n, m, κ => ∃ kc a, CurH c kc a H ∧ m ≤ c ∧ a ≤ 1000000 ∧ ∀ x H', 0 ≤ x → x ≤ 255 → Drawn c kc a 1 n H H' n → κ (.int x) H' n
  | _, _, _, _, _ => False
theorem next_vc (c kc a m n : Nat) (H : Heap) (hC : CurH c kc a H) (hm : m ≤ c) (ha : a ≤ 1000000) (hwH : hwf n H) :
    codeVC (⟨Try.prog, tys, [], [], true, true, m, [], []⟩ : Cx) n (Try.f147.body.getD .skip) (argS 0 [.ptr c 0]) H n
      (retK tys Try.f147.results.toList fun v H' n' => ∃ x : Int, v = .int x ∧ 0 ≤ x ∧ x ≤ 255 ∧ Drawn c kc a 1 n H H' n ∧ n' = n) := by
  obtain ⟨v, s, h1, h2, h6⟩ := hC
  have hc := (hwH _ _ h1).1
  obtain ⟨hvw, hk⟩ := h2.wf hwH
  have fin : ∀ s', Drawn c kc a 1 n H ((c, .cells [v, .int ((a : Int) + 1), .lit (.int .u64 s')] 88) :: (c, .cells [v, .int ((a : Int) + 1), .lit (.int .u64 s)] 88) :: H) n := fun s' =>
    ⟨Nat.le_refl _, hwf_cons (hwf_cons hwH hc (by simp [SObj.wf, wfL, SV.wf]; exact hvw)) hc (by simp [SObj.wf, wfL, SV.wf]; exact hvw),
      ⟨a + 1, by omega, by omega, v, s', by simp [hget_cons], h2.at (fun o ho => by rw [hget_cons, if_neg h6, hget_cons, if_neg h6]; exact ho), h6⟩,
      fun i o _ hi ho => by rw [hget_cons, if_neg hi, hget_cons, if_neg hi]; exact ho⟩
  rcases h2 with ⟨rfl, o, h2⟩ | ⟨off, len, cap, L, rfl, h2, h3, h4, h5⟩
  · have hil : ¬ (a : Int) < 0 := by omega
    have hil2 : ¬ (a : Int) + 1 ≤ 0 := by omega
    simp -implicitDefEqProofs only [Try.f147, Option.getD_some, argS, h1, hil, hil2, ZB, Int.reduceToNat, Nat.reduceLT, Nat.reduceLeDiff, Int.reduceLE, Int.reduceLT, Nat.reduceEqDiff, Nat.reduceSub, SB, SV.known, packR, ne_eq, reduceCtorEq, Nat.reduceEqDiff, ↓reduceIte, if_true, if_false, eq_self, Nat.reduceAdd, Nat.reduceMul, Nat.reduceSub, forall_const, oneCellS, litOne, flat1, Kd.isSca, flat, TYB]
    exact ⟨by unfold In64; omega, hm, hm, u8_in (and_255 _), _, rfl, (and_255 _).1, (and_255 _).2, fin _⟩
  by_cases hal : a < len
  · have hil : (a : Int) < len := by omega
    have hil2 : (a : Int) + 1 ≤ len := by omega
    have gL : off ≤ off + a ∧ off + a < off + L.length := by omega
    have ga : off + a - off = a := by omega
    have bL : 0 ≤ L.getD a 0 ∧ L.getD a 0 ≤ 255 := by
      rw [List.getD_eq_getElem?_getD, List.getElem?_eq_getElem (by omega)]
      exact h5 _ (List.getElem_mem _)
    have iL := u8_in bL
    simp -implicitDefEqProofs only [Try.f147, Option.getD_some, argS, h1, h2, hil, hil2, gL, ga, iL, ZB, Int.reduceToNat, Nat.reduceLT, Nat.reduceLeDiff, Int.reduceLE, Int.reduceLT, Nat.reduceEqDiff, Nat.reduceSub, SB, SV.known, packR, ne_eq, reduceCtorEq, Nat.reduceEqDiff, ↓reduceIte, if_true, if_false, eq_self, Nat.reduceAdd, Nat.reduceMul, Nat.reduceSub, forall_const, oneCellS, litOne, flat1, Kd.isSca, flat, TYB]
    exact ⟨by omega, by unfold In64; omega, hm, hm, _, rfl, bL.1, bL.2, fin _⟩
  · have hil : ¬ (a : Int) < len := by omega
    have hil2 : ¬ (a : Int) + 1 ≤ len := by omega
    simp -implicitDefEqProofs only [Try.f147, Option.getD_some, argS, h1, h2, hil, hil2, ZB, Int.reduceToNat, Nat.reduceLT, Nat.reduceLeDiff, Int.reduceLE, Int.reduceLT, Nat.reduceEqDiff, Nat.reduceSub, SB, SV.known, packR, ne_eq, reduceCtorEq, Nat.reduceEqDiff, ↓reduceIte, if_true, if_false, eq_self, Nat.reduceAdd, Nat.reduceMul, Nat.reduceSub, forall_const, oneCellS, litOne, flat1, Kd.isSca, flat, TYB]
    exact ⟨by unfold In64; omega, hm, hm, u8_in (and_255 _), _, rfl, (and_255 _).1, (and_255 _).2, fin _⟩
theorem fnx_next : FnOK Try.prog 147 Try.f147 (Try.f147.body.getD .skip) [] [] := ⟨Try.func147, rfl, by kernel_rfl, by kernel_rfl⟩
theorem next_T : ∀ args H n m κ, next_F args H n m κ → GenOK Try.prog 147 args H n m κ := by
  intro args H n m κ h
  unfold next_F at h
  split at h
  · rename_i c
    obtain ⟨kc, a, hC, hm, ha, h1⟩ := h
    exact gen_direct (X := ⟨Try.prog, tys, [], [], true, true, m, [], []⟩) fnx_next ⟨tys_ok, .nil, .nil, mixed⟩ rfl (Nat.le_of_ble_eq_true rfl) (fun hwH hwa => next_vc c kc a m n H hC hm ha hwH) fun hwH v H' n' hψ h3 h4 h5 => by
      obtain ⟨x, rfl, g1, g2, g3, rfl⟩ := hψ
      exact h1 x H' g1 g2 g3
  · exact h.elim
theorem Drawn.trans {c kc a k a' k' n n1 n2 : Nat} {H H1 H2 : Heap} (h1 : Drawn c kc a k n H H1 n1) (h2 : Drawn c kc a' k' n1 H1 H2 n2) (h : a' ≤ a + k) (h' : a ≤ a') : Drawn c kc a (k + k') n H H2 n2 :=
  ⟨Nat.le_trans h1.le h2.le, h2.wf, by
    obtain ⟨b, g1, g2, g3⟩ := h2.cur
    exact ⟨b, by omega, by omega, g3⟩, fun i o hi hc ho => h2.fr i o (Nat.lt_of_lt_of_le hi h1.le) hc (h1.fr i o hi hc ho)⟩
theorem Drawn.more {c kc a k k' n n1 : Nat} {H H1 : Heap} (h1 : Drawn c kc a k n H H1 n1) (h : k ≤ k') : Drawn c kc a k' n H H1 n1 :=
  ⟨h1.le, h1.wf, by
    obtain ⟨b, g1, g2, g3⟩ := h1.cur
    exact ⟨b, g1, by omega, g3⟩, h1.fr⟩
/-- A number below another one. -/
def pick_F : List SV → Heap → Nat → Nat → K1 → Prop
  | [.ptr c 0, .int k], H, n, m, κ => ∃ kc a, CurH c kc a H ∧ m ≤ c ∧ a ≤ 999990 ∧ ∀ (x : Int) H', 0 ≤ x → (x < k ∨ x = 0) → Drawn c kc a 2 n H H' n → κ (.int x) H' n
  | _, _, _, _, _ => False
theorem pick_vc (c kc a m n : Nat) (k : Int) (H : Heap) (hC : CurH c kc a H) (hm : m ≤ c) (ha : a ≤ 999990) (hwH : hwf n H) :
    codeVC (⟨Try.prog, tys, [], [(147, next_F)], true, true, m, [147], []⟩ : Cx) n (Try.f94.body.getD .skip) (argS 0 [.ptr c 0, .int k]) H n
      (retK tys Try.f94.results.toList fun v H' n' => ∃ x : Int, v = .int x ∧ 0 ≤ x ∧ (x < k ∨ x = 0) ∧ Drawn c kc a 2 n H H' n ∧ n' = n) := by
  have d0 : Drawn c kc a 2 n H H n := ⟨Nat.le_refl _, hwH, ⟨a, Nat.le_refl _, by omega, hC⟩, fun i o _ _ h => h⟩
  by_cases hk : k ≤ 1
  · simp -implicitDefEqProofs only [Try.f94, Option.getD_some, argS, hk, ZB, Int.reduceToNat, Nat.reduceLT, Nat.reduceLeDiff, Int.reduceLE, Int.reduceLT, Nat.reduceEqDiff, Nat.reduceSub, SB, SV.known, packR, ne_eq, reduceCtorEq, Nat.reduceEqDiff, ↓reduceIte, if_true, if_false, eq_self, Nat.reduceAdd, Nat.reduceMul, Nat.reduceSub, forall_const, oneCellS, litOne, flat1, Kd.isSca, flat, TYB]
    exact ⟨0, rfl, Int.le_refl _, .inr rfl, d0⟩
  · simp -implicitDefEqProofs only [Try.f94, Option.getD_some, argS, next_F, hk, ZB, Int.reduceToNat, Nat.reduceLT, Nat.reduceLeDiff, Int.reduceLE, Int.reduceLT, Nat.reduceEqDiff, Nat.reduceSub, SB, SV.known, packR, ne_eq, reduceCtorEq, Nat.reduceEqDiff, ↓reduceIte, if_true, if_false, eq_self, Nat.reduceAdd, Nat.reduceMul, Nat.reduceSub, forall_const, oneCellS, litOne, flat1, Kd.isSca, flat, TYB]
    refine ⟨kc, a, hC, hm, by omega, fun x H1 hx0 hx1 hd1 => ?_⟩
    obtain ⟨a1, ha1, ha1', hC1⟩ := hd1.cur
    by_cases hk2 : 200 < k
    · simp -implicitDefEqProofs only [next_F, hk2, ZB, Int.reduceToNat, Nat.reduceLT, Nat.reduceLeDiff, Int.reduceLE, Int.reduceLT, Nat.reduceEqDiff, Nat.reduceSub, SB, SV.known, packR, ne_eq, reduceCtorEq, Nat.reduceEqDiff, ↓reduceIte, if_true, if_false, eq_self, Nat.reduceAdd, Nat.reduceMul, Nat.reduceSub, forall_const, oneCellS, litOne, flat1, Kd.isSca, flat, TYB]
      refine ⟨⟨by unfold In64; omega, kc, a1, hC1, hm, by omega, fun y H2 hy0 hy1 hd2 => ?_⟩, fun h => absurd trivial h⟩
      have hr := Int.tmod_lt_of_pos (x * 256 + y) (show 0 < k by omega)
      have hr0 := Int.tmod_nonneg k (show 0 ≤ x * 256 + y by omega)
      exact ⟨by unfold In64; omega, by omega, _, rfl, hr0, .inl hr, hd1.trans hd2 ha1' ha1⟩
    · simp -implicitDefEqProofs only [next_F, hk2, ZB, Int.reduceToNat, Nat.reduceLT, Nat.reduceLeDiff, Int.reduceLE, Int.reduceLT, Nat.reduceEqDiff, Nat.reduceSub, SB, SV.known, packR, ne_eq, reduceCtorEq, Nat.reduceEqDiff, ↓reduceIte, if_true, if_false, eq_self, Nat.reduceAdd, Nat.reduceMul, Nat.reduceSub, forall_const, oneCellS, litOne, flat1, Kd.isSca, flat, TYB]
      exact ⟨by omega, _, rfl, Int.tmod_nonneg k hx0, .inl (Int.tmod_lt_of_pos x (show 0 < k by omega)), hd1.more (by omega)⟩
theorem fnx_pick : FnOK Try.prog 94 Try.f94 (Try.f94.body.getD .skip) [147] [] := ⟨Try.func94, rfl, by kernel_rfl, by kernel_rfl⟩
theorem pick_T : ∀ args H n m κ, pick_F args H n m κ → GenOK Try.prog 94 args H n m κ := by
  intro args H n m κ h
  unfold pick_F at h
  split at h
  · rename_i c k
    obtain ⟨kc, a, hC, hm, ha, h1⟩ := h
    exact gen_direct (X := ⟨Try.prog, tys, [], [(147, next_F)], true, true, m, [147], []⟩) fnx_pick ⟨tys_ok, .nil, .cons next_T .nil, mixed⟩ rfl (Nat.le_of_ble_eq_true rfl) (fun hwH hwa => pick_vc c kc a m n k H hC hm ha hwH) fun hwH v H' n' hψ h3 h4 h5 => by
      obtain ⟨x, rfl, g1, g2, g3, rfl⟩ := hψ
      exact h1 x H' g1 g2 g3
  · exact h.elim
def one_F : List SV → Heap → Nat → Nat → K1 → Prop
  | [.ptr c 0, .int _], H, n, m, κ => ∃ kc a, CurH c kc a H ∧ m ≤ c ∧ a ≤ 999990 ∧ ∀ (b : Bool) H', Drawn c kc a 2 n H H' n → κ (.bool b) H' n
  | _, _, _, _, _ => False
theorem one_vc (c kc a m n : Nat) (k : Int) (H : Heap) (hC : CurH c kc a H) (hm : m ≤ c) (ha : a ≤ 999990) (hwH : hwf n H) :
    codeVC (⟨Try.prog, tys, [], [(94, pick_F)], true, true, m, [94], []⟩ : Cx) n (Try.f92.body.getD .skip) (argS 0 [.ptr c 0, .int k]) H n
      (retK tys Try.f92.results.toList fun v H' n' => ∃ b : Bool, v = .bool b ∧ Drawn c kc a 2 n H H' n ∧ n' = n) := by
  simp -implicitDefEqProofs only [Try.f92, Option.getD_some, argS, pick_F, ZB, Int.reduceToNat, Nat.reduceLT, Nat.reduceLeDiff, Int.reduceLE, Int.reduceLT, Nat.reduceEqDiff, Nat.reduceSub, SB, SV.known, packR, ne_eq, reduceCtorEq, Nat.reduceEqDiff, ↓reduceIte, if_true, if_false, eq_self, Nat.reduceAdd, Nat.reduceMul, Nat.reduceSub, forall_const, oneCellS, litOne, flat1, Kd.isSca, flat, TYB]
  exact ⟨kc, a, hC, hm, ha, fun x H1 _ _ hd1 => ⟨_, rfl, hd1⟩⟩
theorem fnx_one : FnOK Try.prog 92 Try.f92 (Try.f92.body.getD .skip) [94] [] := ⟨Try.func92, rfl, by kernel_rfl, by kernel_rfl⟩
theorem one_T : ∀ args H n m κ, one_F args H n m κ → GenOK Try.prog 92 args H n m κ := by
  intro args H n m κ h
  unfold one_F at h
  split at h
  · rename_i c k
    obtain ⟨kc, a, hC, hm, ha, h1⟩ := h
    exact gen_direct (X := ⟨Try.prog, tys, [], [(94, pick_F)], true, true, m, [94], []⟩) fnx_one ⟨tys_ok, .nil, .cons pick_T .nil, mixed⟩ rfl (Nat.le_of_ble_eq_true rfl) (fun hwH hwa => one_vc c kc a m n k H hC hm ha hwH) fun hwH v H' n' hψ h3 h4 h5 => by
      obtain ⟨b, rfl, g3, rfl⟩ := hψ
      exact h1 b H' g3
  · exact h.elim
/-- One of some numbers. -/
def among_F : List SV → Heap → Nat → Nat → K1 → Prop
  | [.ptr c 0, .slice b 0 len _], H, n, m, κ => match hget H b with
    | some (.ints L _) => 0 < len ∧ len ≤ L.length ∧ len ≤ 1000 ∧ b < n ∧ b ≠ c ∧ ∃ kc a, CurH c kc a H ∧ m ≤ c ∧ a ≤ 999990 ∧ ∀ (i : Nat) H', i < len → Drawn c kc a 2 n H H' n → κ (.int (L.getD i 0)) H' n
    | _ => False
  | _, _, _, _, _ => False
theorem among_vc (c kc a m n b len cap e : Nat) (L : List Int) (H : Heap) (hb : hget H b = some (.ints L e)) (hl : 0 < len ∧ len ≤ L.length) (hl2 : len ≤ 1000) (hbn : b < n) (hbc : b ≠ c) (hC : CurH c kc a H) (hm : m ≤ c) (ha : a ≤ 999990) (hwH : hwf n H) :
    codeVC (⟨Try.prog, tys, [], [(94, pick_F)], true, true, m, [94], []⟩ : Cx) n (Try.f119.body.getD .skip) (argS 0 [.ptr c 0, .slice b 0 len cap]) H n
      (retK tys Try.f119.results.toList fun v H' n' => ∃ i : Nat, v = .int (L.getD i 0) ∧ i < len ∧ Drawn c kc a 2 n H H' n ∧ n' = n) := by
  simp -implicitDefEqProofs only [Try.f119, Option.getD_some, argS, pick_F, hb, ZB, Int.reduceToNat, Nat.reduceLT, Nat.reduceLeDiff, Int.reduceLE, Int.reduceLT, Nat.reduceEqDiff, Nat.reduceSub, SB, SV.known, packR, ne_eq, reduceCtorEq, Nat.reduceEqDiff, ↓reduceIte, if_true, if_false, eq_self, Nat.reduceAdd, Nat.reduceMul, Nat.reduceSub, forall_const, oneCellS, litOne, flat1, Kd.isSca, flat, TYB]
  refine ⟨kc, a, hC, hm, ha, fun x H1 hx0 hx1 hd1 => ?_⟩
  obtain ⟨i, rfl⟩ : ∃ i : Nat, x = i := ⟨x.toNat, by omega⟩
  have hi : i < len := by omega
  have hil : (i : Int) < len := by omega
  have hb1 := hd1.fr b _ hbn hbc hb
  simp -implicitDefEqProofs only [hb1, hil, ZB, Int.reduceToNat, Nat.reduceLT, Nat.reduceLeDiff, Int.reduceLE, Int.reduceLT, Nat.reduceEqDiff, Nat.reduceSub, SB, SV.known, packR, ne_eq, reduceCtorEq, Nat.reduceEqDiff, ↓reduceIte, if_true, if_false, eq_self, Nat.reduceAdd, Nat.reduceMul, Nat.reduceSub, forall_const, oneCellS, litOne, flat1, Kd.isSca, flat, TYB]
  exact ⟨by omega, by omega, i, rfl, hi, hd1⟩
theorem fnx_among : FnOK Try.prog 119 Try.f119 (Try.f119.body.getD .skip) [94] [] := ⟨Try.func119, rfl, by kernel_rfl, by kernel_rfl⟩
theorem among_T : ∀ args H n m κ, among_F args H n m κ → GenOK Try.prog 119 args H n m κ := by
  intro args H n m κ h
  unfold among_F at h
  split at h
  · rename_i c b len cap
    split at h
    · rename_i L e hb
      obtain ⟨g1, g2, g3, g4, g5, kc, a, hC, hm, ha, h1⟩ := h
      exact gen_direct (X := ⟨Try.prog, tys, [], [(94, pick_F)], true, true, m, [94], []⟩) fnx_among ⟨tys_ok, .nil, .cons pick_T .nil, mixed⟩ rfl (Nat.le_of_ble_eq_true rfl) (fun hwH hwa => among_vc c kc a m n b len cap e L H hb ⟨g1, g2⟩ g3 g4 g5 hC hm ha hwH) fun hwH v H' n' hψ h3 h4 h5 => by
        obtain ⟨i, rfl, hi, g6, rfl⟩ := hψ
        exact h1 i H' hi g6
    · exact h.elim
  · exact h.elim
theorem CurH.lt {c kc a n : Nat} {H : Heap} (h : CurH c kc a H) (hw : hwf n H) : c < n ∧ kc < n ∧ kc ≠ c := by
  obtain ⟨v, s, h1, h2, h6⟩ := h
  exact ⟨(hw _ _ h1).1, (h2.wf hw).2, h6⟩
theorem CurH.cons {c kc a k : Nat} {H : Heap} (h : CurH c kc a H) (o : SObj) (h1 : k ≠ c) (h2 : k ≠ kc) : CurH c kc a ((k, o) :: H) := by
  obtain ⟨v, s, g1, g2, g6⟩ := h
  exact ⟨v, s, by rw [hget_cons, if_neg (fun e => h1 e.symm)]; exact g1, g2.at (fun o ho => by rw [hget_cons, if_neg (fun e => h2 e.symm)]; exact ho), g6⟩
/-- A block put beside. -/
theorem Drawn.put {c kc a k n0 n n' k0 : Nat} {H0 H : Heap} (h : Drawn c kc a k n0 H0 H n) (hc : c < n0 ∧ kc < n0 ∧ kc ≠ c) (o : SObj) (h0 : n0 ≤ k0) (hk : k0 < n') (hn : n ≤ n') (ho : o.wf n') : Drawn c kc a k n0 H0 ((k0, o) :: H) n' := by
  obtain ⟨b, g1, g2, g3⟩ := h.cur
  exact ⟨Nat.le_trans h.le hn, hwf_cons (hwf_mono hn h.wf) hk ho, ⟨b, g1, g2, g3.cons o (by omega) (by omega)⟩, fun i o' hi hic ho' => by
    rw [hget_cons, if_neg (by omega)]
    exact h.fr i o' hi hic ho'⟩
theorem Drawn.start {c kc a n : Nat} {H : Heap} (h : CurH c kc a H) (hw : hwf n H) : Drawn c kc a 0 n H H n := ⟨Nat.le_refl _, hw, ⟨a, Nat.le_refl _, Nat.le_refl _, h⟩, fun _ _ _ _ h => h⟩
/-- One of a few numbers, drawn from a list just made. -/
theorem among_new {c kc a k n0 n m : Nat} {H0 H : Heap} {κ : K1} (h : Drawn c kc a k n0 H0 H n) (hC : CurH c kc a H0) (hw0 : hwf n0 H0) (hm : m ≤ c) (ha : a + k ≤ 999980) (L : List Int) (e len cap : Nat) (hl : 0 < len ∧ len ≤ L.length) (hl2 : len ≤ 1000)
    (hκ : ∀ (i : Nat) H', i < len → Drawn c kc a (k + 2) n0 H0 H' (n + 1) → κ (.int (L.getD i 0)) H' (n + 1)) : among_F [.ptr c 0, .slice n 0 len cap] ((n, .ints L e) :: H) (n + 1) m κ := by
  obtain ⟨q1, q2, q3⟩ := hC.lt hw0
  have h2 := h.put (hC.lt hw0) (k0 := n) (n' := n + 1) (.ints L e) h.le (by omega) (by omega) trivial
  obtain ⟨b, g1, g2, g3⟩ := h2.cur
  have hle := h.le
  simp only [among_F, hget_cons, if_true]
  exact ⟨hl.1, hl.2, hl2, by omega, by omega, kc, b, g3, hm, by omega, fun i H' hi hd => hκ i H' hi (h2.trans hd g2 g1)⟩
def place_F : List SV → Heap → Nat → Nat → K1 → Prop
  | [.ptr c 0], H, n, m, κ => ∃ kc a, CurH c kc a H ∧ m ≤ c ∧ a ≤ 999900 ∧ ∀ (x : Int) H' n', In64 x → Drawn c kc a 4 n H H' n' → κ (.int x) H' n'
  | _, _, _, _, _ => False
theorem place_vc (c kc a m n : Nat) (H : Heap) (hC : CurH c kc a H) (hm : m ≤ c) (ha : a ≤ 999900) (hwH : hwf n H) :
    codeVC (⟨Try.prog, tys, [], [(94, pick_F), (92, one_F), (119, among_F)], true, true, m, [94, 92, 119], []⟩ : Cx) n (Try.f146.body.getD .skip) (argS 0 [.ptr c 0]) H n
      (retK tys Try.f146.results.toList fun v H' n' => ∃ x : Int, v = .int x ∧ In64 x ∧ Drawn c kc a 4 n H H' n') := by
  simp -implicitDefEqProofs only [Try.f146, Option.getD_some, argS, one_F, ZB, Int.reduceToNat, Nat.reduceLT, Nat.reduceLeDiff, Int.reduceLE, Int.reduceLT, Nat.reduceEqDiff, Nat.reduceSub, SB, SV.known, packR, ne_eq, reduceCtorEq, Nat.reduceEqDiff, ↓reduceIte, if_true, if_false, eq_self, Nat.reduceAdd, Nat.reduceMul, Nat.reduceSub, forall_const, oneCellS, litOne, flat1, Kd.isSca, flat, TYB]
  refine ⟨kc, a, hC, hm, by omega, fun b H1 hd1 => ?_⟩
  obtain ⟨a1, ha1, ha1', hC1⟩ := hd1.cur
  cases b
  · simp -implicitDefEqProofs only [pick_F, ZB, Int.reduceToNat, Nat.reduceLT, Nat.reduceLeDiff, Int.reduceLE, Int.reduceLT, Nat.reduceEqDiff, Nat.reduceSub, SB, SV.known, packR, ne_eq, reduceCtorEq, Nat.reduceEqDiff, ↓reduceIte, if_true, if_false, eq_self, Nat.reduceAdd, Nat.reduceMul, Nat.reduceSub, forall_const, oneCellS, litOne, flat1, Kd.isSca, flat, TYB]
    exact ⟨kc, a1, hC1, hm, by omega, fun x H2 hx0 hx1 hd2 => ⟨x, rfl, by unfold In64; omega, hd1.trans hd2 ha1' ha1⟩⟩
  · simp -implicitDefEqProofs only [ZB, Int.reduceToNat, Nat.reduceLT, Nat.reduceLeDiff, Int.reduceLE, Int.reduceLT, Nat.reduceEqDiff, Nat.reduceSub, SB, SV.known, packR, ne_eq, reduceCtorEq, Nat.reduceEqDiff, ↓reduceIte, if_true, if_false, eq_self, Nat.reduceAdd, Nat.reduceMul, Nat.reduceSub, forall_const, oneCellS, litOne, flat1, Kd.isSca, flat, TYB]
    refine among_new hd1 hC hwH hm (by omega) _ _ _ _ (by simp) (by omega) fun i H' hi hd => ?_
    have hI : In64 (([-1, 6, 4611686018427387904] : List Int).getD i 0) := by
      match i, hi with
      | 0, _ => simp [In64]
      | 1, _ => simp [In64]
      | 2, _ => simp [In64]
    simp -implicitDefEqProofs only [ZB, Int.reduceToNat, Nat.reduceLT, Nat.reduceLeDiff, Int.reduceLE, Int.reduceLT, Nat.reduceEqDiff, Nat.reduceSub, SB, SV.known, packR, ne_eq, reduceCtorEq, Nat.reduceEqDiff, ↓reduceIte, if_true, if_false, eq_self, Nat.reduceAdd, Nat.reduceMul, Nat.reduceSub, forall_const, oneCellS, litOne, flat1, Kd.isSca, flat, TYB]
    exact ⟨_, rfl, hI, hd⟩
theorem fnx_place : FnOK Try.prog 146 Try.f146 (Try.f146.body.getD .skip) [94, 92, 119] [] := ⟨Try.func146, rfl, by kernel_rfl, by kernel_rfl⟩
theorem place_T : ∀ args H n m κ, place_F args H n m κ → GenOK Try.prog 146 args H n m κ := by
  intro args H n m κ h
  unfold place_F at h
  split at h
  · rename_i c
    obtain ⟨kc, a, hC, hm, ha, h1⟩ := h
    exact gen_direct (X := ⟨Try.prog, tys, [], [(94, pick_F), (92, one_F), (119, among_F)], true, true, m, [94, 92, 119], []⟩) fnx_place ⟨tys_ok, .nil, .cons pick_T (.cons one_T (.cons among_T .nil)), mixed⟩ rfl (Nat.le_of_ble_eq_true rfl) (fun hwH hwa => place_vc c kc a m n H hC hm ha hwH) fun hwH v H' n' hψ h3 h4 h5 => by
      obtain ⟨x, rfl, hI, g3⟩ := hψ
      exact h1 x H' n' hI g3
  · exact h.elim
theorem Drawn.push {c kc a k n0 n : Nat} {H0 H : Heap} (h : Drawn c kc a k n0 H0 H n) (hc : c < n0 ∧ kc < n0 ∧ kc ≠ c) (o : SObj) (ho : o.wf (n + 1)) : Drawn c kc a k n0 H0 ((n, o) :: H) (n + 1) := h.put hc o h.le (by omega) (by omega) ho
theorem Drawn.pushI {c kc a k n0 n : Nat} {H0 H : Heap} (h : Drawn c kc a k n0 H0 H n) (hc : c < n0 ∧ kc < n0 ∧ kc ≠ c) {L : List Int} {e : Nat} : Drawn c kc a k n0 H0 ((n, .ints L e) :: H) (n + 1) := h.push hc _ trivial
theorem Drawn.putI {c kc a k n0 n k0 : Nat} {H0 H : Heap} (h : Drawn c kc a k n0 H0 H n) (hc : c < n0 ∧ kc < n0 ∧ kc ≠ c) {L : List Int} {e : Nat} (h0 : n0 ≤ k0) (hk : k0 < n) : Drawn c kc a k n0 H0 ((k0, .ints L e) :: H) n := h.put hc _ h0 hk (Nat.le_refl _) trivial
/-- What is kept of one's own blocks. -/
def Fr (n0 n : Nat) (H H' : Heap) : Prop := ∀ j o, n0 ≤ j → j < n → hget H j = some o → hget H' j = some o
theorem Fr.use {n0 n j : Nat} {H H' : Heap} {o : SObj} (h : Fr n0 n H H') (h1 : n0 ≤ j) (h2 : j < n) (h3 : hget H j = some o) : hget H' j = some o := h j o h1 h2 h3
theorem Drawn.own {c kc a k n0 n n' : Nat} {H H' : Heap} (h : Drawn c kc a k n H H' n') (hc : c < n0) : Fr n0 n H H' := fun j o h1 h2 h3 => h.fr j o h2 (by omega) h3
theorem among_use {c kc a k n0 n m b len cap e : Nat} {H0 H : Heap} {κ : K1} {L : List Int} (h : Drawn c kc a k n0 H0 H n) (hc : c < n0 ∧ kc < n0 ∧ kc ≠ c) (hm : m ≤ c) (ha : a + k ≤ 999980) (hb : hget H b = some (.ints L e)) (h0 : n0 ≤ b) (hl : 0 < len ∧ len ≤ L.length ∧ len ≤ 1000)
    (hκ : ∀ (x : Int) H', x ∈ L → Drawn c kc a (k + 2) n0 H0 H' n → Fr n0 n H H' → κ (.int x) H' n) : among_F [.ptr c 0, .slice b 0 len cap] H n m κ := by
  obtain ⟨b', g1, g2, g3⟩ := h.cur
  have hbn := (h.wf _ _ hb).1
  simp only [among_F, hb]
  refine ⟨hl.1, hl.2.1, hl.2.2, hbn, by omega, kc, b', g3, hm, by omega, fun i H' hi hd => hκ _ H' ?_ (h.trans hd g2 g1) (hd.own hc.1)⟩
  rw [List.getD_eq_getElem?_getD, List.getElem?_eq_getElem (by omega)]
  exact List.getElem_mem _
theorem pick_use {c kc a k n0 n m : Nat} {H0 H : Heap} {κ : K1} (h : Drawn c kc a k n0 H0 H n) (hc : c < n0 ∧ kc < n0 ∧ kc ≠ c) (hm : m ≤ c) (ha : a + k ≤ 999980) {z : Int}
    (hκ : ∀ (x : Int) H', 0 ≤ x → (x < z ∨ x = 0) → Drawn c kc a (k + 2) n0 H0 H' n → Fr n0 n H H' → κ (.int x) H' n) : pick_F [.ptr c 0, .int z] H n m κ := by
  obtain ⟨b', g1, g2, g3⟩ := h.cur
  exact ⟨kc, b', g3, hm, by omega, fun x H' h1 h2 hd => hκ x H' h1 h2 (h.trans hd g2 g1) (hd.own hc.1)⟩
theorem one_use {c kc a k n0 n m : Nat} {H0 H : Heap} {κ : K1} (h : Drawn c kc a k n0 H0 H n) (hc : c < n0 ∧ kc < n0 ∧ kc ≠ c) (hm : m ≤ c) (ha : a + k ≤ 999980) {z : Int}
    (hκ : ∀ (x : Bool) H', Drawn c kc a (k + 2) n0 H0 H' n → Fr n0 n H H' → κ (.bool x) H' n) : one_F [.ptr c 0, .int z] H n m κ := by
  obtain ⟨b', g1, g2, g3⟩ := h.cur
  exact ⟨kc, b', g3, hm, by omega, fun x H' hd => hκ x H' (h.trans hd g2 g1) (hd.own hc.1)⟩
theorem place_use {c kc a k n0 n m : Nat} {H0 H : Heap} {κ : K1} (h : Drawn c kc a k n0 H0 H n) (hc : c < n0 ∧ kc < n0 ∧ kc ≠ c) (hm : m ≤ c) (ha : a + k ≤ 999900)
    (hκ : ∀ (x : Int) H' n', In64 x → Drawn c kc a (k + 4) n0 H0 H' n' → n ≤ n' → Fr n0 n H H' → κ (.int x) H' n') : place_F [.ptr c 0] H n m κ := by
  obtain ⟨b', g1, g2, g3⟩ := h.cur
  exact ⟨kc, b', g3, hm, by omega, fun x H' n' hI hd => hκ x H' n' hI (h.trans hd g2 g1) hd.le (hd.own hc.1)⟩
end Go.Proofs.Ytopfnkmlgcjpbaa
