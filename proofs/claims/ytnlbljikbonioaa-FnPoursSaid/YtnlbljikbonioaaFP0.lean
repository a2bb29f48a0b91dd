/- Plain: what a pour keeps. -/
import Derived.Test.YtnlbljikbonioaaFP1
import Derived.Test.YtnlbljikbonioaaGL
set_option maxRecDepth 100000
set_option linter.unusedSimpArgs false
set_option linter.unusedVariables false
namespace Go.Proofs.Ytnlbljikbonioaa
open Go Go.RowKit
/-- Is a pair among these? -/
def inP (L : List Int) (m : Nat) (p : List Int) : Bool := (List.range m).any fun i => decide ((L.drop (i * 2)).take 2 = p)
theorem inP_zero (L p : List Int) : inP L 0 p = false := rfl
theorem inP_of {L p : List Int} {m i : Nat} (hi : i < m) (h : (L.drop (i * 2)).take 2 = p) : inP L m p = true := List.any_eq_true.2 ⟨i, List.mem_range.2 hi, by simp [h]⟩
theorem inP_not {L p : List Int} {m : Nat} (h : ∀ i, i < m → (L.drop (i * 2)).take 2 ≠ p) : inP L m p = false := List.any_eq_false.2 fun i hi => by simpa using h i (List.mem_range.1 hi)
theorem ulF_nil {R : List Int} (h : PL R 36 = []) : ulF R = [] := by
  unfold ulF
  rw [h]; rfl
theorem part_ok {R : List Int} (_ : rackB R = true) {np nu : Nat} (hnp : (PL R 36).length = np * 2) (hnu : (ulF R).length = nu * 2) (j1 j3 : List Int) : ∀ i, i < nu → inP (PL R 36 ++ j1) np (((ulF R ++ j3).drop (i * 2)).take 2) = true := by
  intro i hi
  have e : (PL R 36).length / 2 = np := by omega
  obtain ⟨j, g1, g2, _⟩ := kept_pair (np := fun p => !idleF R p) (L := PL R 36) np (by omega) i (by
    have : (kept (fun p => !idleF R p) (PL R 36) np).length = nu * 2 := by rw [← hnu]; unfold ulF; rw [e]
    omega)
  have g2' : ((ulF R).drop (i * 2)).take 2 = ((PL R 36).drop (j * 2)).take 2 := by unfold ulF; rw [e]; exact g2
  refine inP_of g1 ?_
  rw [List.drop_append_of_le_length (by omega), List.take_append_of_le_length (by rw [List.length_drop]; omega), List.drop_append_of_le_length (by omega), List.take_append_of_le_length (by rw [List.length_drop]; omega), g2']
theorem PL_pre (R : List Int) (m : Nat) : ∀ k, ∃ r, PL R (m + k) = PL R m ++ r
  | 0 => ⟨[], by simp⟩
  | k + 1 => by
    obtain ⟨r, h⟩ := PL_pre R m k
    exact ⟨r ++ prK R (m + k), by rw [show m + (k + 1) = m + k + 1 by omega, PL_succ, h, List.append_assoc]⟩
theorem pl_of {R : List Int} {x y : Int} (h : cpO R x y = true) : rackB R = true ∧ (0 ≤ x ∧ x ≤ 5) ∧ (0 ≤ y ∧ y ≤ 5) ∧ x ≠ y := by
  unfold cpO at h
  simp only [Bool.and_eq_true, Bool.not_eq_true', decide_eq_false_iff_not] at h
  exact ⟨h.1.1.1, pl_bd h.1.1.2, pl_bd h.1.2, h.2⟩
theorem in_ok {R : List Int} {x y : Int} (h : cpO R x y = true) {np : Nat} (hnp : (PL R 36).length = np * 2) : ∀ j : List Int, inP (PL R 36 ++ j) np [x, y] = canF R x y := by
  intro j
  obtain ⟨_, hx, hy, hxy⟩ := pl_of h
  obtain ⟨a, rfl⟩ : ∃ a : Nat, x = a := ⟨x.toNat, by omega⟩
  obtain ⟨b, rfl⟩ : ∃ b : Nat, y = b := ⟨y.toNat, by omega⟩
  have cut : ∀ i, i < np → ((PL R 36 ++ j).drop (i * 2)).take 2 = ((PL R 36).drop (i * 2)).take 2 := fun i hi => by
    rw [List.drop_append_of_le_length (by omega), List.take_append_of_le_length (by rw [List.length_drop]; omega)]
  cases hc : canF R a b
  · refine inP_not fun i hi he => ?_
    rw [cut i hi] at he
    obtain ⟨p, q, h1, h2, h3, h4⟩ := GL_pair (fun i j => canF R i j) 36 (Nat.le_refl _) i (by rw [← PL_GL]; omega)
    rw [← PL_GL, he] at h4
    simp only [List.cons.injEq, and_true] at h4
    have : canF R a b = true := by rw [h4.1, h4.2]; exact h3
    rw [hc] at this; cases this
  · obtain ⟨n, hn, _⟩ := PL_even R (a * 6 + b)
    have e1 := PL_at R a b (by omega)
    rw [if_pos hc] at e1
    obtain ⟨r, hr⟩ := PL_pre R (a * 6 + b + 1) (36 - (a * 6 + b + 1))
    rw [show a * 6 + b + 1 + (36 - (a * 6 + b + 1)) = 36 by omega, e1] at hr
    have hl : n < np := by
      have := congrArg List.length hr
      rw [List.length_append, List.length_append, hn, hnp] at this
      simp at this; omega
    refine inP_of hl ?_
    rw [cut n hl, hr, List.append_assoc, List.drop_left' hn]; rfl
theorem can_top {R : List Int} (hR : R.length = 24) {x y : Int} (ho : cpO R x y = true) (hc : canF R x y = true) : tpO R x = true := by
  obtain ⟨hr, hx, hy, _⟩ := pl_of ho
  have := (can_facts hR hr hx hy hc).2.1
  unfold cpO at ho
  simp only [Bool.and_eq_true] at ho
  unfold tpO
  rw [ho.1.1.1, ho.1.1.2]
  have e : decide (layN (tubeAt R x.toNat) = 0) = false := decide_eq_false (by omega)
  rw [e]; rfl
/-! A pour exchanges cells. -/
theorem cnt_swap (L : List Int) (p q : Nat) (hp : p < L.length) (hq : q < L.length) (hpq : p ≠ q) (c : Int) (h1 : L.getD p 0 = c) (h2 : L.getD q 0 = 0) : ((L.set p 0).set q c).Perm L := by
  rw [List.perm_iff_count]
  intro a
  rw [List.getD_eq_getElem?_getD, List.getElem?_eq_getElem hp] at h1
  rw [List.getD_eq_getElem?_getD, List.getElem?_eq_getElem hq] at h2
  simp only [Option.getD_some] at h1 h2
  have hq' : q < (L.set p 0).length := by rw [List.length_set]; exact hq
  rw [List.count_set hq', List.count_set hp, List.getElem_set_ne hpq, h1, h2]
  have g1 : 0 < L.count c := List.count_pos_iff.2 (h1 ▸ List.getElem_mem hp)
  have g2 : 0 < L.count 0 := List.count_pos_iff.2 (h2 ▸ List.getElem_mem hq)
  by_cases ha : c = a
  · subst ha
    by_cases h0 : (0 : Int) = c
    · subst h0; simp; omega
    · simp [h0]; omega
  · by_cases h0 : (0 : Int) = a
    · subst h0; simp [ha]
    · simp [ha, h0]
theorem incr_comm (L : List Int) (a b : Nat) : incr (incr L a) b = incr (incr L b) a := by
  apply List.ext_getElem (by simp [incr])
  intro k h1 h2
  simp only [incr, List.length_set] at h1
  simp only [incr, List.getElem_set, List.getD_eq_getElem?_getD, List.getElem?_set]
  by_cases hab : a = b
  · subst hab; rfl
  · by_cases hak : a = k
    · subst hak
      by_cases hbk : b = a
      · exact absurd hbk.symm hab
      · simp [hbk, Ne.symm hbk, h1]
    · by_cases hbk : b = k
      · subst hbk; simp [hab, h1]
      · simp [hak, hbk]
theorem cntL_perm {L M : List Int} (h : L.Perm M) : cntL L = cntL M := by
  unfold cntL
  refine List.Perm.foldl_eq' h (fun x _ y _ z => incr_comm _ _ _) _
theorem pm_perm {R : List Int} (hR : R.length = 24) (hr : rackB R = true) {i j : Nat} (hi : i < 6) (hj : j < 6) (hij : i ≠ j) {r : Nat} (hrun : isRun (tubeAt R i) (layN (tubeAt R i)) r) (ht : (topF (tubeAt R i)).1 = (tubeAt R i).getD (layN (tubeAt R i) - 1) 0) :
    ∀ m, m ≤ r → m + layN (tubeAt R j) ≤ 4 → (pmR R i j m).Perm R
  | 0, _, _ => List.Perm.refl _
  | m + 1, hm, hm2 => by
    have ih := pm_perm hR hr hi hj hij hrun ht m (by omega) (by omega)
    have li := lay_le _ (tubeAt_len hR hi)
    have hr1 := hrun.2.1
    have cell := pmR_cell hR hi hj hij m (by omega) (by omega)
    have hP : (pmR R i j m).length = 24 := by rw [pmR_len, hR]
    have cj := tube_cells (tubeAt_len hR hj) (tubeAt_ok hr hj)
    refine List.Perm.trans (cnt_swap (pmR R i j m) _ _ (by omega) (by omega) (by omega) _ ?_ ?_) ih
    · rw [cell i _ hi (by omega), if_neg (by omega), if_neg (by omega), ← tubeAt_getD _ _ _ (by omega), show layN (tubeAt R i) - 1 - m = layN (tubeAt R i) - 1 - m by rfl, hrun.2.2.1 m (by omega), ht]
    · rw [cell j _ hj (by omega), if_neg (by omega), if_neg (by omega), ← tubeAt_getD _ _ _ (by omega)]
      exact cj.2 _ (by omega)
theorem pour_facts {R : List Int} (hR : R.length = 24) (hr : rackB R = true) {x y : Int} (ho : cpO R x y = true) (hc : canF R x y = true) : rackB (pourT R x y) = true ∧ cntL (pourT R x y) = cntL R ∧ 1 ≤ pourM R x y ∧ pourM R x y ≤ (topF (tubeAt R x.toNat)).2 ∧ (¬ pourM R x y < (topF (tubeAt R x.toNat)).2 → canF (pourT R x y) y x = decide (loF (pourT R x y) x = 0)) := by
  obtain ⟨_, hx, hy, hxy⟩ := pl_of ho
  obtain ⟨g1, g2, g3, g4, g5, g6, g7⟩ := can_facts hR hr hx hy hc
  have hi : x.toNat < 6 := by omega
  have hj : y.toNat < 6 := by omega
  have hij : x.toNat ≠ y.toNat := by omega
  have ho' := ho
  unfold cpO at ho'
  simp only [Bool.and_eq_true] at ho'
  have hp : pourB R x y = true := by unfold pourB; rw [ho'.1.1.1, ho'.1.1.2, ho'.1.2, hc]; rfl
  have eT : pourT R x y = pourF R x.toNat y.toNat := by unfold pourT; rw [if_pos hp]
  have eM : pourM R x y = pmN R x.toNat y.toNat := by unfold pourM; rw [if_pos hp]
  have li := tubeAt_len hR hi
  have lj := tubeAt_len hR hj
  obtain ⟨r, e1, e2⟩ := topF_run _ li g2
  have hrN := pour_rack hR hr hx hy hc
  have et1 : (topF (tubeAt R x.toNat)).1 = (tubeAt R x.toNat).getD (layN (tubeAt R x.toNat) - 1) 0 := by rw [e1]
  have et2 : (topF (tubeAt R x.toNat)).2 = (r : Int) := by rw [e1]
  have hmr : pmN R x.toNat y.toNat ≤ (r : Int) := by unfold pmN; rw [et2]; omega
  obtain ⟨M, hM⟩ : ∃ M : Nat, pmN R x.toNat y.toNat = M := ⟨(pmN R x.toNat y.toNat).toNat, by omega⟩
  have eM' : (pmN R x.toNat y.toNat).toNat = M := by omega
  rw [eT, eM, et2]
  refine ⟨hrN, cntL_perm ?_, by omega, hmr, fun hnlt => ?_⟩
  · unfold pourF
    rw [eM']
    exact pm_perm hR hr hi hj hij e2 et1 M (by omega) (by omega)
  · have hMr : M = r := by omega
    have hMi : M ≤ layN (tubeAt R x.toNat) := by omega
    have hMj : M + layN (tubeAt R y.toNat) ≤ 4 := by omega
    obtain ⟨⟨p1, p2⟩, ⟨p3, p4⟩, _⟩ := pm_facts hR hr hi hj hij hMi hMj
    have cell := pmR_cell hR hi hj hij M hMi hMj
    have eN : pourF R x.toNat y.toNat = pmR R x.toNat y.toNat M := by unfold pourF; rw [eM']
    rw [eN] at hrN ⊢
    have hN : (pmR R x.toNat y.toNat M).length = 24 := by rw [pmR_len, hR]
    have nli := tubeAt_len hN hi
    have nlj := tubeAt_len hN hj
    have lo : loF (pmR R x.toNat y.toNat M) x = (layN (tubeAt (pmR R x.toNat y.toNat M) x.toNat) : Int) := by
      unfold loF
      rw [hrN, ho'.1.1.2]; rfl
    have hlayi := lay_le _ li
    obtain ⟨s, f1, f2⟩ := topF_run _ nlj (by omega)
    have tc : (topF (tubeAt (pmR R x.toNat y.toNat M) y.toNat)).1 = (topF (tubeAt R x.toNat)).1 := by
      rw [f1, p4, tubeAt_getD _ _ _ (by omega), cell y.toNat _ hj (by omega), if_neg (by omega), if_pos (by omega)]
    have tpos := (top_co li (tubeAt_ok hr hi) g2).1
    unfold canF
    rw [tc, lo, p2]
    have d1 : decide (y = x) = false := decide_eq_false (fun e => hxy e.symm)
    have d2 : decide (0 < (topF (tubeAt R x.toNat)).1) = true := decide_eq_true (by omega)
    have d3 : decide (((layN (tubeAt R x.toNat) - M : Nat) : Int) < 4) = true := decide_eq_true (by omega)
    rw [d1, d2, d3]
    by_cases h0 : layN (tubeAt R x.toNat) - M = 0
    · have t0 : (topF (tubeAt (pmR R x.toNat y.toNat M) x.toNat)).1 = 0 := by
        have hl0 : layN (tubeAt (pmR R x.toNat y.toNat M) x.toNat) = 0 := by rw [p2]; exact h0
        have : topF (tubeAt (pmR R x.toNat y.toNat M) x.toNat) = (0, 0) := by simp [topF, runsL, hl0]
        rw [this]
      rw [t0, h0]; simp
    · obtain ⟨s2, k1, k2⟩ := topF_run _ nli (by omega)
      have tx : (topF (tubeAt (pmR R x.toNat y.toNat M) x.toNat)).1 = (tubeAt R x.toNat).getD (layN (tubeAt R x.toNat) - M - 1) 0 := by
        rw [k1, p2, tubeAt_getD _ _ _ (by omega), cell x.toNat _ hi (by omega), if_neg (by omega), if_neg (by omega), ← tubeAt_getD _ _ _ (by omega)]
      have hne : ¬ (tubeAt R x.toNat).getD (layN (tubeAt R x.toNat) - M - 1) 0 = (topF (tubeAt R x.toNat)).1 := by
        rw [et1]
        rcases e2.2.2.2 with h | h
        · omega
        · rw [← hMr, show layN (tubeAt R x.toNat) - 1 - M = layN (tubeAt R x.toNat) - M - 1 by omega] at h
          exact h
      have hpos := ((tube_cells li (tubeAt_ok hr hi)).1 (layN (tubeAt R x.toNat) - M - 1) (by omega)).1
      rw [tx]
      have d4 : decide ((tubeAt R x.toNat).getD (layN (tubeAt R x.toNat) - M - 1) 0 = 0) = false := decide_eq_false (by omega)
      have d5 : decide ((tubeAt R x.toNat).getD (layN (tubeAt R x.toNat) - M - 1) 0 = (topF (tubeAt R x.toNat)).1) = false := decide_eq_false hne
      have d6 : decide (((layN (tubeAt R x.toNat) - M : Nat) : Int) = 0) = false := decide_eq_false (by omega)
      rw [d4, d5, d6]; rfl
/-! Sorted racks. -/
theorem srt_facts {R : List Int} : ∀ (k : Nat) (s : List Int), srtF R k = some s → (∀ i, i < k → rcN R i = 0 ∨ (rcN R i = 1 ∧ rcC R i ∈ s)) ∧ (∀ i j, i < j → j < k → rcN R i = 1 → rcN R j = 1 → rcC R i ≠ rcC R j)
  | 0, s, h => ⟨fun i hi => absurd hi (by omega), fun i j _ hj => absurd hj (by omega)⟩
  | k + 1, s, h => by
    cases hk : srtF R k with
    | none => simp [srtF, hk] at h
    | some s' =>
      obtain ⟨h1, h2⟩ := srt_facts k s' hk
      rw [srt_step hk] at h
      by_cases h0 : rcN R k = 0
      · rw [if_pos h0] at h
        cases h
        refine ⟨fun i hi => ?_, fun i j hij hj hi1 hj1 => ?_⟩
        · by_cases hik : i = k
          · subst hik; exact .inl h0
          · exact h1 i (by omega)
        · by_cases hjk : j = k
          · subst hjk; omega
          · exact h2 i j hij (by omega) hi1 hj1
      · rw [if_neg h0] at h
        by_cases h3 : 1 < rcN R k ∨ rcC R k ∈ s'
        · rw [if_pos h3] at h; cases h
        · rw [if_neg h3] at h
          cases h
          have h4 : ¬ 1 < rcN R k := fun h => h3 (.inl h)
          have h5 : rcC R k ∉ s' := fun h => h3 (.inr h)
          refine ⟨fun i hi => ?_, fun i j hij hj hi1 hj1 => ?_⟩
          · by_cases hik : i = k
            · subst hik
              exact .inr ⟨by omega, List.mem_append_right _ (List.mem_singleton.2 rfl)⟩
            · rcases h1 i (by omega) with h | h
              · exact .inl h
              · exact .inr ⟨h.1, List.mem_append_left _ h.2⟩
          · by_cases hjk : j = k
            · subst hjk
              intro he
              rcases h1 i hij with h | h
              · omega
              · exact h5 (he ▸ h.2)
            · exact h2 i j hij (by omega) hi1 hj1
theorem kept_none {np : List Int → Bool} {L : List Int} : ∀ k, (∀ i, i < k → np ((L.drop (i * 2)).take 2) = false) → kept np L k = []
  | 0, _ => rfl
  | k + 1, h => by
    rw [kept_succ, kept_none k fun i hi => h i (by omega), if_neg (by rw [h k (by omega)]; simp)]; rfl
theorem sort_ul {R : List Int} (hR : R.length = 24) (hr : rackB R = true) (h : sortB R = true) : ulF R = [] := by
  unfold sortB at h
  obtain ⟨s, hs⟩ := Option.isSome_iff_exists.1 h
  obtain ⟨h1, h2⟩ := srt_facts 6 s hs
  obtain ⟨np, hnp, _⟩ := PL_even R 36
  unfold ulF
  rw [show (PL R 36).length / 2 = np by omega]
  refine kept_none np fun i hi => ?_
  obtain ⟨a, b, ha, hb, hc, he⟩ := GL_pair (fun i j => canF R i j) 36 (Nat.le_refl _) i (by rw [← PL_GL]; omega)
  rw [← PL_GL] at he
  rw [he]
  have hc : canF R (a : Int) (b : Int) = true := hc
  have la := tubeAt_len hR ha
  have lb := tubeAt_len hR hb
  simp only [canF, Int.toNat_natCast, Bool.and_eq_true, Bool.not_eq_true', decide_eq_false_iff_not, decide_eq_true_eq, Bool.or_eq_true] at hc
  obtain ⟨⟨⟨c1, c2⟩, c3⟩, c4⟩ := hc
  have hlay : ∀ k, k < 6 → 0 < layN (tubeAt R k) → rcN R k = 1 ∧ (topF (tubeAt R k)).1 = rcC R k := fun k hk h0 => by
    obtain ⟨n, g1, _, g2⟩ := runsL_even _ (tubeAt_len hR hk)
    have g3 := g2 h0
    have e1 : rcN R k = n := by unfold rcN; omega
    have e2 : rcN R k = 1 := by
      rcases h1 k hk with h | h
      · omega
      · exact h.1
    refine ⟨e2, ?_⟩
    have g4 : (runsL (tubeAt R k)).length = 2 := by omega
    have g5 : runsL (tubeAt R k) ≠ [] := fun h => by rw [h] at g4; simp at g4
    unfold topF rcC
    rw [if_neg g5, g4]
  have la0 : 0 < layN (tubeAt R a) := (top_pos _ la (tubeAt_ok hr ha)).1.1 c2
  obtain ⟨a1, a2⟩ := hlay a ha la0
  have lb0 : layN (tubeAt R b) = 0 := by
    rcases Nat.eq_zero_or_pos (layN (tubeAt R b)) with h | h
    · exact h
    · obtain ⟨b1, b2⟩ := hlay b hb h
      have bp := (top_co lb (tubeAt_ok hr hb) h).1
      have hab : a ≠ b := fun e => c1 (by rw [e])
      have heq : rcC R a = rcC R b := by
        rcases c4 with c4 | c4
        · omega
        · rw [← a2, ← b2, c4]
      rcases Nat.lt_or_gt_of_ne hab with hlt | hlt
      · exact absurd heq (h2 a b hlt hb a1 b1)
      · exact absurd heq.symm (h2 b a hlt ha b1 a1)
  have ia : (runsL (tubeAt R a)).length / 2 = 1 := a1
  simp [idleF, ia, lb0]
end Go.Proofs.Ytnlbljikbonioaa
