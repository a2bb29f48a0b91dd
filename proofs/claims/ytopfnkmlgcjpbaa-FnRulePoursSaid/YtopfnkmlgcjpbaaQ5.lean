/- Texts of this claim, joined (Rule, RulC, Turn, Sl, PBy, Com, UPours, Sort, View, FP1, FP0). -/
import Derived.Test.YtopfnkmlgcjpbaaQ1
import Derived.Test.YtopfnkmlgcjpbaaQ2
import Derived.Test.YtopfnkmlgcjpbaaQ3
import Derived.Test.YtopfnkmlgcjpbaaQ4
set_option maxRecDepth 100000
set_option linter.unusedSimpArgs false
set_option linter.unusedVariables false
namespace Go.Proofs.Ytopfnkmlgcjpbaa
open Go Go.RowKit
def roomF (R D : List Int) (j : Nat) : Int := D.getD j 0 - (layN (tubeAt R j) : Int)
def movF (R D : List Int) (u i j : Int) : Int :=
  if i = j ∨ (topF (tubeAt R i.toNat)).1 = 0 ∨ roomF R D j.toNat = 0 then 0 else if u = 4 then 1
  else if (topF (tubeAt R j.toNat)).1 ≠ 0 ∧ (topF (tubeAt R j.toNat)).1 ≠ (topF (tubeAt R i.toNat)).1 then 0
  else if u = 2 then 1 else if u = 3 ∧ roomF R D j.toNat < (topF (tubeAt R i.toNat)).2 then 0 else min (topF (tubeAt R i.toNat)).2 (roomF R D j.toNat)
def ruF (u : Int) : Bool := decide (1 ≤ u ∧ u ≤ 4)
--@tbl isRule = impl.isRule
theorem isRule_ok (u : Int) : PureH Try.prog 96 [.int u] [] (.bool (ruF u)) := by
  refine pure_of_vc (X := ⟨Try.prog, tys, [(108, within_F)], [], true, true, 0, [], []⟩) fn_96 ⟨tys_ok, (.cons within_T .nil), .nil, mixed⟩ (n0 := 0) (Nat.le_of_ble_eq_true rfl) (by simp [wfL, SV.wf]) (wfH_spec (by simp [wfH, SObj.wf])) (Nat.le_refl _) (fun _ => by simp [SV.wf, wfL]) ?_
  simp -implicitDefEqProofs only [Try.f96, Option.getD_some, argS, within_F, SB, SV.known, packR, ne_eq, reduceCtorEq, Nat.reduceEqDiff, ↓reduceIte, if_true, if_false, eq_self, Nat.reduceAdd, Nat.reduceMul, Nat.reduceSub, forall_const, oneCellS, litOne, flat1, Kd.isSca, flat, TYB]
  trivial
def isRule_F : List SV → Heap → Option (Prop × SV)
  | [.int u], _ => some (True, .bool (ruF u))
  | _, _ => none
theorem isRule_T : ∀ args H p v, isRule_F args H = some (p, v) → p → PureH Try.prog 96 args H v := by
  intro args H p v h hp
  unfold isRule_F at h
  split at h
  · cases h; exact (isRule_ok _).any _
  · cases h
--@tbl l8Rule = spec.l8Rule
theorem l8Rule_ok (u : Int) : PureH Try.prog 100 [.int u] [] (.bool (ruF u)) := by
  refine pure_of_vc (X := ⟨Try.prog, tys, [(120, l1In_F)], [], true, true, 0, [], []⟩) fn_100 ⟨tys_ok, (.cons l1In_T .nil), .nil, mixed⟩ (n0 := 0) (Nat.le_of_ble_eq_true rfl) (by simp [wfL, SV.wf]) (wfH_spec (by simp [wfH, SObj.wf])) (Nat.le_refl _) (fun _ => by simp [SV.wf, wfL]) ?_
  simp -implicitDefEqProofs only [Try.f100, Option.getD_some, argS, l1In_F, SB, SV.known, packR, ne_eq, reduceCtorEq, Nat.reduceEqDiff, ↓reduceIte, if_true, if_false, eq_self, Nat.reduceAdd, Nat.reduceMul, Nat.reduceSub, forall_const, oneCellS, litOne, flat1, Kd.isSca, flat, TYB]
  trivial
def l8Rule_F : List SV → Heap → Option (Prop × SV)
  | [.int u], _ => some (True, .bool (ruF u))
  | _, _ => none
theorem l8Rule_T : ∀ args H p v, l8Rule_F args H = some (p, v) → p → PureH Try.prog 100 args H v := by
  intro args H p v h hp
  unfold l8Rule_F at h
  split at h
  · cases h; exact (l8Rule_ok _).any _
  · cases h
/-- Depths that a rack fits. -/
def forB (R D : List Int) : Bool := rackB R && D.all isDep && fitF R D
theorem forB_facts {R D : List Int} (hD : D.length = 6) (h : forB R D = true) : rackB R = true ∧ D.all isDep = true ∧ fitF R D = true ∧ ∀ j, j < 6 → 1 ≤ D.getD j 0 ∧ D.getD j 0 ≤ 4 ∧ 0 ≤ roomF R D j ∧ roomF R D j ≤ 4 - (layN (tubeAt R j) : Int) := by
  simp only [forB, Bool.and_eq_true] at h
  refine ⟨h.1.1, h.1.2, h.2, fun j hj => ?_⟩
  have h1 := List.all_eq_true.1 h.1.2 (D.getD j 0) (by
    simp only [List.getD, List.getElem?_eq_getElem (show j < D.length by omega), Option.getD_some]
    exact List.getElem_mem _)
  have h2 : 1 ≤ D.getD j 0 ∧ D.getD j 0 ≤ 4 := by simpa [isDep] using h1
  have h3 := h.2
  unfold fitF at h3
  have h4 := List.all_eq_true.1 h3 j (List.mem_range.2 hj)
  have h5 : (layN (tubeAt R j) : Int) ≤ D.getD j 0 := by simpa using h4
  unfold roomF
  omega
--@tbl isFor = impl.isFor
theorem isFor_ok (R D : List Int) (hR : R.length = 24) (hD : D.length = 6) : PureH Try.prog 95 [.arr R, .arr D] [] (.bool (forB R D)) := by
  have tkR : R.take 24 = R := List.take_of_length_le (by omega)
  have tkD : D.take 6 = D := List.take_of_length_le (by omega)
  unfold forB
  cases h1 : rackB R <;> cases h2 : D.all isDep
  all_goals
    refine pure_of_vc (X := ⟨Try.prog, tys, [(11, IsRack_F), (30, isDepths_F), (104, fits_F)], [], true, true, 0, [], []⟩) fn_95 ⟨tys_ok, (.cons IsRack_T (.cons isDepths_T (.cons fits_T .nil))), .nil, mixed⟩ (n0 := 0) (Nat.le_of_ble_eq_true rfl) (by simp [wfL, SV.wf]) (wfH_spec (by simp [wfH, SObj.wf])) (Nat.le_refl _) (fun _ => by simp [SV.wf, wfL]) ?_
    simp -implicitDefEqProofs only [Try.f95, Option.getD_some, argS, IsRack_F, isDepths_F, fits_F, hR, hD, h1, h2, tkR, tkD, ZB, Int.reduceToNat, Nat.reduceLT, Nat.reduceLeDiff, Int.reduceLE, Int.reduceLT, Nat.reduceEqDiff, Nat.reduceSub, SB, SV.known, packR, ne_eq, reduceCtorEq, Nat.reduceEqDiff, ↓reduceIte, if_true, if_false, eq_self, Nat.reduceAdd, Nat.reduceMul, Nat.reduceSub, forall_const, oneCellS, litOne, flat1, Kd.isSca, flat, TYB]
def isFor_F : List SV → Heap → Option (Prop × SV)
  | [.arr R, .arr D], _ => some (R.length = 24 ∧ D.length = 6, .bool (forB R D))
  | _, _ => none
theorem isFor_T : ∀ args H p v, isFor_F args H = some (p, v) → p → PureH Try.prog 95 args H v := by
  intro args H p v h hp
  unfold isFor_F at h
  split at h
  · cases h; exact (isFor_ok _ _ hp.1 hp.2).any _
  · cases h
--@tbl movedBy = impl.movedBy
theorem movedBy_ok (R D : List Int) (u i j : Int) (hR : R.length = 24) (hD : D.length = 6) (hf : forB R D = true) (hi : 0 ≤ i ∧ i ≤ 5) (hj : 0 ≤ j ∧ j ≤ 5) : PureH Try.prog 98 [.arr R, .arr D, .int u, .int i, .int j] [] (.int (movF R D u i j)) := by
  have tkR : R.take 24 = R := List.take_of_length_le (by omega)
  have tkD : D.take 6 = D := List.take_of_length_le (by omega)
  have ei : List.take 4 (List.drop (i.toNat * 4) R) = tubeAt R i.toNat := rfl
  have ej : List.take 4 (List.drop (j.toNat * 4) R) = tubeAt R j.toNat := rfl
  have li := tubeAt_len hR (i := i.toNat) (by omega)
  have lj := tubeAt_len hR (i := j.toNat) (by omega)
  have er : D.getD j.toNat 0 - (layN (tubeAt R j.toNat) : Int) = roomF R D j.toNat := rfl
  have ff := (forB_facts hD hf).2.2.2 j.toNat (by omega)
  have tl := topF_le _ li
  refine pure_of_vc (X := ⟨Try.prog, tys, [(137, top_F), (133, layers_F)], [], true, true, 0, [], []⟩) fn_98 ⟨tys_ok, (.cons top_T (.cons layers_T .nil)), .nil, mixed⟩ (n0 := 0) (Nat.le_of_ble_eq_true rfl) (by simp [wfL, SV.wf]) (wfH_spec (by simp [wfH, SObj.wf])) (Nat.le_refl _) (fun _ => by simp [SV.wf, wfL]) ?_
  simp -implicitDefEqProofs only [Try.f98, Option.getD_some, argS, top_F, layers_F, hR, hD, tkR, tkD, ei, ej, li, lj, er, ZB, Int.reduceToNat, Nat.reduceLT, Nat.reduceLeDiff, Int.reduceLE, Int.reduceLT, Nat.reduceEqDiff, Nat.reduceSub, SB, SV.known, packR, ne_eq, reduceCtorEq, Nat.reduceEqDiff, ↓reduceIte, if_true, if_false, eq_self, Nat.reduceAdd, Nat.reduceMul, Nat.reduceSub, forall_const, oneCellS, litOne, flat1, Kd.isSca, flat, TYB]
  unfold movF
  (try (and_intros <;> try (first | omega | (unfold In64; omega) | trivial | assumption)))
  all_goals (repeat' (first | intro _ | apply And.intro))
  all_goals (repeat' split)
  all_goals omega
def movedBy_F : List SV → Heap → Option (Prop × SV)
  | [.arr R, .arr D, .int u, .int i, .int j], _ => some (R.length = 24 ∧ D.length = 6 ∧ forB R D = true ∧ (0 ≤ i ∧ i ≤ 5) ∧ (0 ≤ j ∧ j ≤ 5), .int (movF R D u i j))
  | _, _ => none
theorem movedBy_T : ∀ args H p v, movedBy_F args H = some (p, v) → p → PureH Try.prog 98 args H v := by
  intro args H p v h hp
  unfold movedBy_F at h
  split at h
  · cases h; exact (movedBy_ok _ _ _ _ _ hp.1 hp.2.1 hp.2.2.1 hp.2.2.2.1 hp.2.2.2.2).any _
  · cases h
theorem top_zero (t : List Int) (ht : t.length = 4) (hb : tubeB t = true) : ((topF t).1 = 0 ↔ layN t = 0) ∧ ((topF t).2 = 0 ↔ layN t = 0) := by
  rcases Nat.eq_zero_or_pos (layN t) with h0 | h0
  · have : topF t = (0, 0) := by simp [topF, runsL, h0]
    simp [this, h0]
  · have tp := top_pos t ht hb
    have := tp.1.2 h0
    have := tp.2.2 h0
    omega
--@tbl l8Moves = spec.l8Moves
theorem l8Moves_ok (R D : List Int) (u i j : Int) (hR : R.length = 24) (hD : D.length = 6) (hf : forB R D = true) (hu : ruF u = true) (hi : 0 ≤ i ∧ i ≤ 5) (hj : 0 ≤ j ∧ j ≤ 5) : PureH Try.prog 102 [.arr R, .arr D, .int u, .int i, .int j] [] (.int (movF R D u i j)) := by
  have tkR : R.take 24 = R := List.take_of_length_le (by omega)
  have tkD : D.take 6 = D := List.take_of_length_le (by omega)
  have ei : List.take 4 (List.drop (i.toNat * 4) R) = tubeAt R i.toNat := rfl
  have ej : List.take 4 (List.drop (j.toNat * 4) R) = tubeAt R j.toNat := rfl
  have li := tubeAt_len hR (i := i.toNat) (by omega)
  have lj := tubeAt_len hR (i := j.toNat) (by omega)
  have ff := forB_facts hD hf
  have bi := tubeAt_ok ff.1 (i := i.toNat) (by omega)
  have bj := tubeAt_ok ff.1 (i := j.toNat) (by omega)
  have pj := posC_lay _ lj bj
  have er : D.getD j.toNat 0 - (layN (tubeAt R j.toNat) : Int) = roomF R D j.toNat := rfl
  have f2 := ff.2.2.2 j.toNat (by omega)
  have tl := topF_le _ li
  have tz := top_zero _ li bi
  have u14 : 1 ≤ u ∧ u ≤ 4 := by simpa [ruF] using hu
  refine pure_of_vc (X := ⟨Try.prog, tys, [(138, l2Top_F), (135, l2Many_F), (139, l1Least_F)], [], true, true, 0, [], []⟩) fn_102 ⟨tys_ok, (.cons l2Top_T (.cons l2Many_T (.cons l1Least_T .nil))), .nil, mixed⟩ (n0 := 0) (Nat.le_of_ble_eq_true rfl) (by simp [wfL, SV.wf]) (wfH_spec (by simp [wfH, SObj.wf])) (Nat.le_refl _) (fun _ => by simp [SV.wf, wfL]) ?_
  simp -implicitDefEqProofs only [Try.f102, Option.getD_some, argS, l2Top_F, l2Many_F, l1Least_F, hR, hD, tkR, tkD, ei, ej, li, lj, bi, bj, pj, er, ZB, Int.reduceToNat, Nat.reduceLT, Nat.reduceLeDiff, Int.reduceLE, Int.reduceLT, Nat.reduceEqDiff, Nat.reduceSub, SB, SV.known, packR, ne_eq, reduceCtorEq, Nat.reduceEqDiff, ↓reduceIte, if_true, if_false, eq_self, Nat.reduceAdd, Nat.reduceMul, Nat.reduceSub, forall_const, oneCellS, litOne, flat1, Kd.isSca, flat, TYB]
  unfold movF
  (try (and_intros <;> try (first | omega | (unfold In64; omega) | trivial | assumption)))
  all_goals (repeat' (first | intro _ | apply And.intro))
  all_goals (repeat' split)
  all_goals omega
def l8Moves_F : List SV → Heap → Option (Prop × SV)
  | [.arr R, .arr D, .int u, .int i, .int j], _ => some (R.length = 24 ∧ D.length = 6 ∧ forB R D = true ∧ ruF u = true ∧ (0 ≤ i ∧ i ≤ 5) ∧ (0 ≤ j ∧ j ≤ 5), .int (movF R D u i j))
  | _, _ => none
theorem l8Moves_T : ∀ args H p v, l8Moves_F args H = some (p, v) → p → PureH Try.prog 102 args H v := by
  intro args H p v h hp
  unfold l8Moves_F at h
  split at h
  · cases h; exact (l8Moves_ok _ _ _ _ _ hp.1 hp.2.1 hp.2.2.1 hp.2.2.2.1 hp.2.2.2.2.1 hp.2.2.2.2.2).any _
  · cases h
/-! Moved layers. -/
def mvR (R : List Int) (i j : Nat) : Nat → List Int
  | 0 => R
  | k + 1 => ((mvR R i j k).set (j * 4 + (layN (tubeAt R j) + k)) ((mvR R i j k).getD (i * 4 + (layN (tubeAt R i) - 1 - k)) 0)).set (i * 4 + (layN (tubeAt R i) - 1 - k)) 0
theorem mvR_len (R : List Int) (i j : Nat) : ∀ k, (mvR R i j k).length = R.length
  | 0 => rfl
  | k + 1 => by simp [mvR, mvR_len R i j k]
theorem mvR_cell {R : List Int} (hR : R.length = 24) {i j : Nat} (hi : i < 6) (hj : j < 6) (hij : i ≠ j) : ∀ m, m ≤ layN (tubeAt R i) → m + layN (tubeAt R j) ≤ 4 → ∀ a b, a < 6 → b < 4 →
    (mvR R i j m).getD (a * 4 + b) 0 = if a = i ∧ layN (tubeAt R i) - m ≤ b ∧ b < layN (tubeAt R i) then 0 else if a = j ∧ layN (tubeAt R j) ≤ b ∧ b < layN (tubeAt R j) + m then R.getD (i * 4 + (layN (tubeAt R i) - 1 - (b - layN (tubeAt R j)))) 0 else R.getD (a * 4 + b) 0
  | 0, _, _, a, b, _, _ => by
    simp only [mvR]
    rw [if_neg (by omega), if_neg (by omega)]
  | m + 1, hm, hm2, a, b, ha, hb => by
    have hli := lay_le _ (tubeAt_len hR hi)
    have hlj := lay_le _ (tubeAt_len hR hj)
    have ih := mvR_cell hR hi hj hij m (by omega) (by omega)
    have it := ih i (layN (tubeAt R i) - 1 - m) hi (by omega)
    rw [if_neg (by omega), if_neg (by omega)] at it
    simp only [mvR]
    rw [getD_set' _ _ _ _ (by rw [List.length_set, mvR_len]; omega), getD_set' _ _ _ _ (by rw [mvR_len]; omega), it, ih a b ha hb]
    by_cases h1 : i * 4 + (layN (tubeAt R i) - 1 - m) = a * 4 + b
    · have hai : a = i := by omega
      subst hai
      rw [if_pos h1, if_pos (by omega)]
    · rw [if_neg h1]
      by_cases h2 : j * 4 + (layN (tubeAt R j) + m) = a * 4 + b
      · have haj : a = j := by omega
        subst haj
        rw [if_pos h2, if_neg (by omega), if_pos (by omega)]
        have : b = layN (tubeAt R a) + m := by omega
        subst this
        congr 2; omega
      · rw [if_neg h2]
        by_cases h3 : a = i ∧ layN (tubeAt R i) - m ≤ b ∧ b < layN (tubeAt R i)
        · rw [if_pos h3, if_pos (by omega)]
        · rw [if_neg h3]
          by_cases h4 : a = i ∧ layN (tubeAt R i) - (m + 1) ≤ b ∧ b < layN (tubeAt R i)
          · omega
          · rw [if_neg h4]
            by_cases h5 : a = j ∧ layN (tubeAt R j) ≤ b ∧ b < layN (tubeAt R j) + m
            · rw [if_pos h5, if_pos (by omega)]
            · rw [if_neg h5, if_neg (by omega)]
theorem mv_facts {R : List Int} (hR : R.length = 24) (hr : rackB R = true) {i j : Nat} (hi : i < 6) (hj : j < 6) (hij : i ≠ j) {m : Nat} (hm : m ≤ layN (tubeAt R i)) (hm2 : m + layN (tubeAt R j) ≤ 4) :
    (tubeB (tubeAt (mvR R i j m) i) = true ∧ layN (tubeAt (mvR R i j m) i) = layN (tubeAt R i) - m) ∧ (tubeB (tubeAt (mvR R i j m) j) = true ∧ layN (tubeAt (mvR R i j m) j) = layN (tubeAt R j) + m) ∧
    (∀ k, k < 6 → k ≠ i → k ≠ j → tubeAt (mvR R i j m) k = tubeAt R k) := by
  have hP : (mvR R i j m).length = 24 := by rw [mvR_len, hR]
  have hc := mvR_cell hR hi hj hij m hm hm2
  have hli := tubeAt_len hR hi
  have hlj := tubeAt_len hR hj
  have ci := tube_cells hli (tubeAt_ok hr hi)
  have cj := tube_cells hlj (tubeAt_ok hr hj)
  have li := lay_le _ hli
  refine ⟨tube_of (tubeAt_len hP hi) (by omega) (fun b hb => ?_) (fun b hb hb4 => ?_), tube_of (tubeAt_len hP hj) (by omega) (fun b hb => ?_) (fun b hb hb4 => ?_), fun k hk h1 h2 => ?_⟩
  · rw [tubeAt_getD _ _ _ (by omega), hc i b hi (by omega), if_neg (by omega), if_neg (by omega), ← tubeAt_getD _ _ _ (by omega)]
    exact ci.1 b (by omega)
  · rw [tubeAt_getD _ _ _ hb4, hc i b hi hb4]
    by_cases h3 : b < layN (tubeAt R i)
    · rw [if_pos ⟨rfl, hb, h3⟩]
    · rw [if_neg (by omega), if_neg (by omega), ← tubeAt_getD _ _ _ hb4]
      exact ci.2 b (by omega)
  · rw [tubeAt_getD _ _ _ (by omega), hc j b hj (by omega), if_neg (by omega)]
    by_cases h3 : layN (tubeAt R j) ≤ b
    · rw [if_pos (by omega), ← tubeAt_getD _ _ _ (by omega)]
      exact ci.1 _ (by omega)
    · rw [if_neg (by omega), ← tubeAt_getD _ _ _ (by omega)]
      exact cj.1 b (by omega)
  · rw [tubeAt_getD _ _ _ hb4, hc j b hj hb4, if_neg (by omega), if_neg (by omega), ← tubeAt_getD _ _ _ hb4]
    exact cj.2 b (by omega)
  · refine tubeAt_ext (tubeAt_len hP hk) (tubeAt_len hR hk) fun b hb => ?_
    rw [hc k b hk hb, if_neg (by omega), if_neg (by omega)]
theorem mv_rack {R : List Int} (hR : R.length = 24) (hr : rackB R = true) {i j : Nat} (hi : i < 6) (hj : j < 6) (hij : i ≠ j) {m : Nat} (hm : m ≤ layN (tubeAt R i)) (hm2 : m + layN (tubeAt R j) ≤ 4) : rackB (mvR R i j m) = true := by
  obtain ⟨h1, h2, h3⟩ := mv_facts hR hr hi hj hij hm hm2
  rw [rack_tubes]
  intro k hk
  by_cases hki : k = i
  · rw [hki]; exact h1.1
  · by_cases hkj : k = j
    · rw [hkj]; exact h2.1
    · rw [h3 k hk hki hkj]; exact tubeAt_ok hr hk
theorem movF_bd {R D : List Int} {u i j : Int} (hR : R.length = 24) (hD : D.length = 6) (hf : forB R D = true) (hi : 0 ≤ i ∧ i ≤ 5) (hj : 0 ≤ j ∧ j ≤ 5) : 0 ≤ movF R D u i j ∧ (movF R D u i j = 0 ∨ (i ≠ j ∧ (movF R D u i j).toNat ≤ layN (tubeAt R i.toNat) ∧ (movF R D u i j).toNat + layN (tubeAt R j.toNat) ≤ 4)) := by
  have ff := forB_facts hD hf
  have f2 := ff.2.2.2 j.toNat (by omega)
  have li := tubeAt_len hR (i := i.toNat) (by omega)
  have bi := tubeAt_ok ff.1 (i := i.toNat) (by omega)
  have tl := topF_le _ li
  have tp := top_pos _ li bi
  have lle := lay_le _ li
  have tc : (topF (tubeAt R i.toNat)).1 = 0 ∨ 0 < layN (tubeAt R i.toNat) := by
    rcases Nat.eq_zero_or_pos (layN (tubeAt R i.toNat)) with h0 | h0
    · left; simp [topF, runsL, h0]
    · exact .inr h0
  unfold movF
  repeat' split
  all_goals omega
--@tbl move = impl.move
theorem move_ok (R : List Int) (i j : Int) (n : Int) (hR : R.length = 24) (hr : rackB R = true) (hi : 0 ≤ i ∧ i ≤ 5) (hj : 0 ≤ j ∧ j ≤ 5) (hij : i ≠ j) (hn : 0 ≤ n) (h1 : n.toNat ≤ layN (tubeAt R i.toNat)) (h2 : n.toNat + layN (tubeAt R j.toNat) ≤ 4) : PureH Try.prog 99 [.arr R, .int i, .int j, .int n] [] (.arr (mvR R i.toNat j.toNat n.toNat)) := by
  obtain ⟨a, rfl⟩ : ∃ a : Nat, i = a := ⟨i.toNat, by omega⟩
  obtain ⟨b, rfl⟩ : ∃ b : Nat, j = b := ⟨j.toNat, by omega⟩
  obtain ⟨m, rfl⟩ : ∃ m : Nat, n = m := ⟨n.toNat, by omega⟩
  simp only [Int.toNat_natCast] at h1 h2 ⊢
  have tkR : R.take 24 = R := List.take_of_length_le (by omega)
  refine pure_of_vc (X := ⟨Try.prog, tys, [(133, layers_F)], [], true, true, 0, [], []⟩) fn_99 ⟨tys_ok, (.cons layers_T .nil), .nil, mixed⟩ (n0 := 0) (Nat.le_of_ble_eq_true rfl) (by simp [wfL, SV.wf]) (wfH_spec (by simp [wfH, SObj.wf])) (Nat.le_refl _) (fun _ => by simp [SV.wf, wfL]) ?_
  simp -implicitDefEqProofs only [Try.f99, Option.getD_some, argS, layers_F, hR, tkR, ZB, Int.reduceToNat, Nat.reduceLT, Nat.reduceLeDiff, Int.reduceLE, Int.reduceLT, Nat.reduceEqDiff, Nat.reduceSub, SB, SV.known, packR, ne_eq, reduceCtorEq, Nat.reduceEqDiff, ↓reduceIte, if_true, if_false, eq_self, Nat.reduceAdd, Nat.reduceMul, Nat.reduceSub, forall_const, oneCellS, litOne, flat1, Kd.isSca, flat, TYB]
  have c0 : rackB (mvR R a b 0) = true := hr
  have mf := fun k (hk : k ≤ m) => mv_facts hR hr (i := a) (j := b) (by omega) (by omega) (by omega) (m := k) (by omega) (by omega)
  have ml := fun k => (mvR_len R a b k).trans hR
  have la := lay_le _ (tubeAt_len hR (i := a) (by omega))
  have lb := lay_le _ (tubeAt_len hR (i := b) (by omega))
  refine loop_intro (fun k : Nat => [(12, .int k), (11, .int m), (8, .ptr 1 0), (4, .ptr 0 0), (1, .int a), (2, .int b)]) (fun k => [(1, .ints (List.replicate 24 0) 27), (0, .ints (mvR R a b k) 27)]) 2 (fun k => k ≤ m) (fun k => m - k) ?_ ?_
  · refine ⟨0, ?_, Sub.mk_id ?_ ?_ ?_ ?_ ?_⟩
    all_goals (try (simp only [mvR, LB, subS, subH, wfS, wfH, SV.ren, renL, SObj.ren, SV.wf, SObj.wf, wfL, SV.known, Nat.reduceEqDiff, ↓reduceIte, if_true, if_false, eq_self, Nat.reduceAdd, Nat.reduceLT, Nat.reduceLeDiff, implies_true, reduceCtorEq, forall_const]; done))
    all_goals (try (simp only [mvR, LB, subS, subH, wfS, wfH, SV.ren, renL, SObj.ren, SV.wf, SObj.wf, wfL, SV.known, Nat.reduceEqDiff, ↓reduceIte, if_true, if_false, eq_self, Nat.reduceAdd, Nat.reduceLT, Nat.reduceLeDiff, implies_true, reduceCtorEq, forall_const]; simp; done))
    all_goals (try (simp only [mvR, LB, subS, subH, wfS, wfH, SV.ren, renL, SObj.ren, SV.wf, SObj.wf, wfL, SV.known, Nat.reduceEqDiff, ↓reduceIte, if_true, if_false, eq_self, Nat.reduceAdd, Nat.reduceLT, Nat.reduceLeDiff, implies_true, reduceCtorEq, forall_const]; (and_intros <;> (first | omega | rfl | (simp; done) | (simp; omega))); done))
    all_goals (try dsimp only)
    all_goals (and_intros <;> try (first | omega | (unfold In64; omega) | trivial | assumption))
  · intro k hk
    have mk := ml k
    have tkM : (mvR R a b k).take 24 = mvR R a b k := List.take_of_length_le (by omega)
    by_cases hlt : k < m
    · have hkl : (k : Int) < m := by omega
      have fa := (mf k hk).1.2
      have fb := (mf k hk).2.1.2
      have ta := tubeAt_len mk (i := a) (by omega)
      have tb := tubeAt_len mk (i := b) (by omega)
      have ea : List.take 4 (List.drop (a * 4) (mvR R a b k)) = tubeAt (mvR R a b k) a := rfl
      have eb : List.take 4 (List.drop (b * 4) (mvR R a b k)) = tubeAt (mvR R a b k) b := rfl
      have e1 : (((layN (tubeAt R a) - k : Nat) : Int) - 1).toNat = layN (tubeAt R a) - 1 - k := by omega
      have es : mvR R a b (k + 1) = ((mvR R a b k).set (b * 4 + (layN (tubeAt R b) + k)) ((mvR R a b k).getD (a * 4 + (layN (tubeAt R a) - 1 - k)) 0)).set (a * 4 + (layN (tubeAt R a) - 1 - k)) 0 := rfl
      simp -implicitDefEqProofs only [lk_normal, layers_F, hkl, ea, eb, ta, tb, fa, fb, mk, e1, ZB, Int.reduceToNat, Nat.reduceLT, Nat.reduceLeDiff, Int.reduceLE, Int.reduceLT, Nat.reduceEqDiff, Nat.reduceSub, SB, SV.known, packR, ne_eq, reduceCtorEq, Nat.reduceEqDiff, ↓reduceIte, if_true, if_false, eq_self, Nat.reduceAdd, Nat.reduceMul, Nat.reduceSub, forall_const, oneCellS, litOne, flat1, Kd.isSca, flat, TYB]
      (try (and_intros <;> try (first | omega | (unfold In64; omega) | trivial | assumption)))
      refine ⟨k + 1, ?_, ?_, Sub.mk_id ?_ ?_ ?_ ?_ ?_⟩
      all_goals (try (simp only [es, LB, subS, subH, wfS, wfH, SV.ren, renL, SObj.ren, SV.wf, SObj.wf, wfL, SV.known, Nat.reduceEqDiff, ↓reduceIte, if_true, if_false, eq_self, Nat.reduceAdd, Nat.reduceLT, Nat.reduceLeDiff, implies_true, reduceCtorEq, forall_const]; done))
      all_goals (try (simp only [es, LB, subS, subH, wfS, wfH, SV.ren, renL, SObj.ren, SV.wf, SObj.wf, wfL, SV.known, Nat.reduceEqDiff, ↓reduceIte, if_true, if_false, eq_self, Nat.reduceAdd, Nat.reduceLT, Nat.reduceLeDiff, implies_true, reduceCtorEq, forall_const]; simp; done))
      all_goals (try (simp only [es, LB, subS, subH, wfS, wfH, SV.ren, renL, SObj.ren, SV.wf, SObj.wf, wfL, SV.known, Nat.reduceEqDiff, ↓reduceIte, if_true, if_false, eq_self, Nat.reduceAdd, Nat.reduceLT, Nat.reduceLeDiff, implies_true, reduceCtorEq, forall_const]; (and_intros <;> (first | omega | rfl | (simp; done) | (simp; omega))); done))
      all_goals (try dsimp only)
      all_goals (and_intros <;> try (first | omega | (unfold In64; omega) | trivial | assumption))
    · have hkl : ¬ (k : Int) < m := by omega
      obtain rfl : k = m := by omega
      simp -implicitDefEqProofs only [lk_normal, hkl, mk, tkM, ZB, Int.reduceToNat, Nat.reduceLT, Nat.reduceLeDiff, Int.reduceLE, Int.reduceLT, Nat.reduceEqDiff, Nat.reduceSub, SB, SV.known, packR, ne_eq, reduceCtorEq, Nat.reduceEqDiff, ↓reduceIte, if_true, if_false, eq_self, Nat.reduceAdd, Nat.reduceMul, Nat.reduceSub, forall_const, oneCellS, litOne, flat1, Kd.isSca, flat, TYB]
      (try (and_intros <;> try (first | omega | (unfold In64; omega) | trivial | assumption)))
def move_F : List SV → Heap → Option (Prop × SV)
  | [.arr R, .int i, .int j, .int n], _ => some (R.length = 24 ∧ rackB R = true ∧ (0 ≤ i ∧ i ≤ 5) ∧ (0 ≤ j ∧ j ≤ 5) ∧ i ≠ j ∧ 0 ≤ n ∧ n.toNat ≤ layN (tubeAt R i.toNat) ∧ n.toNat + layN (tubeAt R j.toNat) ≤ 4, .arr (mvR R i.toNat j.toNat n.toNat))
  | _, _ => none
theorem move_T : ∀ args H p v, move_F args H = some (p, v) → p → PureH Try.prog 99 args H v := by
  intro args H p v h hp
  unfold move_F at h
  split at h
  · cases h; exact (move_ok _ _ _ _ hp.1 hp.2.1 hp.2.2.1 hp.2.2.2.1 hp.2.2.2.2.1 hp.2.2.2.2.2.1 hp.2.2.2.2.2.2.1 hp.2.2.2.2.2.2.2).any _
  · cases h
--@tbl l8Move = spec.l8Move
theorem l8Move_ok (R : List Int) (i j : Int) (n : Int) (hR : R.length = 24) (hr : rackB R = true) (hi : 0 ≤ i ∧ i ≤ 5) (hj : 0 ≤ j ∧ j ≤ 5) (hij : i ≠ j) (hn : 0 ≤ n) (h1 : n.toNat ≤ layN (tubeAt R i.toNat)) (h2 : n.toNat + layN (tubeAt R j.toNat) ≤ 4) : PureH Try.prog 103 [.arr R, .int i, .int j, .int n] [] (.arr (mvR R i.toNat j.toNat n.toNat)) := by
  obtain ⟨a, rfl⟩ : ∃ a : Nat, i = a := ⟨i.toNat, by omega⟩
  obtain ⟨b, rfl⟩ : ∃ b : Nat, j = b := ⟨j.toNat, by omega⟩
  obtain ⟨m, rfl⟩ : ∃ m : Nat, n = m := ⟨n.toNat, by omega⟩
  simp only [Int.toNat_natCast] at h1 h2 ⊢
  have tkR : R.take 24 = R := List.take_of_length_le (by omega)
  refine pure_of_vc (X := ⟨Try.prog, tys, [(135, l2Many_F)], [], true, true, 0, [], []⟩) fn_103 ⟨tys_ok, (.cons l2Many_T .nil), .nil, mixed⟩ (n0 := 0) (Nat.le_of_ble_eq_true rfl) (by simp [wfL, SV.wf]) (wfH_spec (by simp [wfH, SObj.wf])) (Nat.le_refl _) (fun _ => by simp [SV.wf, wfL]) ?_
  simp -implicitDefEqProofs only [Try.f103, Option.getD_some, argS, l2Many_F, hR, tkR, ZB, Int.reduceToNat, Nat.reduceLT, Nat.reduceLeDiff, Int.reduceLE, Int.reduceLT, Nat.reduceEqDiff, Nat.reduceSub, SB, SV.known, packR, ne_eq, reduceCtorEq, Nat.reduceEqDiff, ↓reduceIte, if_true, if_false, eq_self, Nat.reduceAdd, Nat.reduceMul, Nat.reduceSub, forall_const, oneCellS, litOne, flat1, Kd.isSca, flat, TYB]
  have c0 : rackB (mvR R a b 0) = true := hr
  have mf := fun k (hk : k ≤ m) => mv_facts hR hr (i := a) (j := b) (by omega) (by omega) (by omega) (m := k) (by omega) (by omega)
  have ml := fun k => (mvR_len R a b k).trans hR
  have la := lay_le _ (tubeAt_len hR (i := a) (by omega))
  have lb := lay_le _ (tubeAt_len hR (i := b) (by omega))
  refine loop_intro (fun k : Nat => [(3, .int (m - k : Nat)), (8, .ptr 1 0), (4, .ptr 0 0), (1, .int a), (2, .int b)]) (fun k => [(1, .ints (List.replicate 24 0) 27), (0, .ints (mvR R a b k) 27)]) 2 (fun k => k ≤ m) (fun k => m - k) ?_ ?_
  · refine ⟨0, ?_, Sub.mk_id ?_ ?_ ?_ ?_ ?_⟩
    all_goals (try (simp only [mvR, LB, subS, subH, wfS, wfH, SV.ren, renL, SObj.ren, SV.wf, SObj.wf, wfL, SV.known, Nat.reduceEqDiff, ↓reduceIte, if_true, if_false, eq_self, Nat.reduceAdd, Nat.reduceLT, Nat.reduceLeDiff, implies_true, reduceCtorEq, forall_const]; done))
    all_goals (try (simp only [mvR, LB, subS, subH, wfS, wfH, SV.ren, renL, SObj.ren, SV.wf, SObj.wf, wfL, SV.known, Nat.reduceEqDiff, ↓reduceIte, if_true, if_false, eq_self, Nat.reduceAdd, Nat.reduceLT, Nat.reduceLeDiff, implies_true, reduceCtorEq, forall_const]; simp; done))
    all_goals (try (simp only [mvR, LB, subS, subH, wfS, wfH, SV.ren, renL, SObj.ren, SV.wf, SObj.wf, wfL, SV.known, Nat.reduceEqDiff, ↓reduceIte, if_true, if_false, eq_self, Nat.reduceAdd, Nat.reduceLT, Nat.reduceLeDiff, implies_true, reduceCtorEq, forall_const]; (and_intros <;> (first | omega | rfl | (simp; done) | (simp; omega))); done))
    all_goals (try dsimp only)
    all_goals (and_intros <;> try (first | omega | (unfold In64; omega) | trivial | assumption))
  · intro k hk
    have mk := ml k
    have tkM : (mvR R a b k).take 24 = mvR R a b k := List.take_of_length_le (by omega)
    by_cases hlt : k < m
    · have hkl : (0 : Int) < (m - k : Nat) := by omega
      have ba := (mf k hk).1.1
      have bb := (mf k hk).2.1.1
      have fa := (mf k hk).1.2
      have fb := (mf k hk).2.1.2
      have ta := tubeAt_len mk (i := a) (by omega)
      have tb := tubeAt_len mk (i := b) (by omega)
      have ea : List.take 4 (List.drop (a * 4) (mvR R a b k)) = tubeAt (mvR R a b k) a := rfl
      have eb : List.take 4 (List.drop (b * 4) (mvR R a b k)) = tubeAt (mvR R a b k) b := rfl
      have pa := (posC_lay _ ta ba).trans (congrArg _ fa)
      have pb := (posC_lay _ tb bb).trans (congrArg _ fb)
      have eb2 : List.take 4 (List.drop (b * 4) ((mvR R a b k).set (a * 4 + (layN (tubeAt R a) - 1 - k)) 0)) = tubeAt (mvR R a b k) b := by
        refine tubeAt_ext (R := (mvR R a b k).set (a * 4 + (layN (tubeAt R a) - 1 - k)) 0) (tubeAt_len (by rw [List.length_set, mk]) (by omega)) tb fun c hc => ?_
        rw [getD_set' _ _ _ _ (by omega), if_neg (by omega)]
      have e1 : (((layN (tubeAt R a) - k : Nat) : Int) - 1).toNat = layN (tubeAt R a) - 1 - k := by omega
      have es : mvR R a b (k + 1) = ((mvR R a b k).set (b * 4 + (layN (tubeAt R b) + k)) ((mvR R a b k).getD (a * 4 + (layN (tubeAt R a) - 1 - k)) 0)).set (a * 4 + (layN (tubeAt R a) - 1 - k)) 0 := rfl
      have es8 : mvR R a b (k + 1) = ((mvR R a b k).set (a * 4 + (layN (tubeAt R a) - 1 - k)) 0).set (b * 4 + (layN (tubeAt R b) + k)) ((mvR R a b k).getD (a * 4 + (layN (tubeAt R a) - 1 - k)) 0) := by
        rw [es, List.set_comm _ _ (by omega)]
      simp -implicitDefEqProofs only [lk_normal, l2Many_F, hkl, ea, eb2, ta, tb, pa, pb, mk, e1, ZB, Int.reduceToNat, Nat.reduceLT, Nat.reduceLeDiff, Int.reduceLE, Int.reduceLT, Nat.reduceEqDiff, Nat.reduceSub, SB, SV.known, packR, ne_eq, reduceCtorEq, Nat.reduceEqDiff, ↓reduceIte, if_true, if_false, eq_self, Nat.reduceAdd, Nat.reduceMul, Nat.reduceSub, forall_const, oneCellS, litOne, flat1, Kd.isSca, flat, TYB]
      (try (and_intros <;> try (first | omega | (unfold In64; omega) | trivial | assumption)))
      refine ⟨k + 1, ?_, ?_, Sub.mk_id ?_ ?_ ?_ ?_ ?_⟩
      all_goals (try (simp only [es8, LB, subS, subH, wfS, wfH, SV.ren, renL, SObj.ren, SV.wf, SObj.wf, wfL, SV.known, Nat.reduceEqDiff, ↓reduceIte, if_true, if_false, eq_self, Nat.reduceAdd, Nat.reduceLT, Nat.reduceLeDiff, implies_true, reduceCtorEq, forall_const]; done))
      all_goals (try (simp only [es8, LB, subS, subH, wfS, wfH, SV.ren, renL, SObj.ren, SV.wf, SObj.wf, wfL, SV.known, Nat.reduceEqDiff, ↓reduceIte, if_true, if_false, eq_self, Nat.reduceAdd, Nat.reduceLT, Nat.reduceLeDiff, implies_true, reduceCtorEq, forall_const]; simp; done))
      all_goals (try (simp only [es8, LB, subS, subH, wfS, wfH, SV.ren, renL, SObj.ren, SV.wf, SObj.wf, wfL, SV.known, Nat.reduceEqDiff, ↓reduceIte, if_true, if_false, eq_self, Nat.reduceAdd, Nat.reduceLT, Nat.reduceLeDiff, implies_true, reduceCtorEq, forall_const]; (and_intros <;> (first | omega | rfl | (simp; done) | (simp; omega))); done))
      all_goals (try dsimp only)
      all_goals (and_intros <;> try (first | omega | (unfold In64; omega) | trivial | assumption))
    · have hkl : ¬ (0 : Int) < (m - k : Nat) := by omega
      obtain rfl : k = m := by omega
      simp -implicitDefEqProofs only [lk_normal, hkl, mk, tkM, ZB, Int.reduceToNat, Nat.reduceLT, Nat.reduceLeDiff, Int.reduceLE, Int.reduceLT, Nat.reduceEqDiff, Nat.reduceSub, SB, SV.known, packR, ne_eq, reduceCtorEq, Nat.reduceEqDiff, ↓reduceIte, if_true, if_false, eq_self, Nat.reduceAdd, Nat.reduceMul, Nat.reduceSub, forall_const, oneCellS, litOne, flat1, Kd.isSca, flat, TYB]
      (try (and_intros <;> try (first | omega | (unfold In64; omega) | trivial | assumption)))
def l8Move_F : List SV → Heap → Option (Prop × SV)
  | [.arr R, .int i, .int j, .int n], _ => some (R.length = 24 ∧ rackB R = true ∧ (0 ≤ i ∧ i ≤ 5) ∧ (0 ≤ j ∧ j ≤ 5) ∧ i ≠ j ∧ 0 ≤ n ∧ n.toNat ≤ layN (tubeAt R i.toNat) ∧ n.toNat + layN (tubeAt R j.toNat) ≤ 4, .arr (mvR R i.toNat j.toNat n.toNat))
  | _, _ => none
theorem l8Move_T : ∀ args H p v, l8Move_F args H = some (p, v) → p → PureH Try.prog 103 args H v := by
  intro args H p v h hp
  unfold l8Move_F at h
  split at h
  · cases h; exact (l8Move_ok _ _ _ _ hp.1 hp.2.1 hp.2.2.1 hp.2.2.2.1 hp.2.2.2.2.1 hp.2.2.2.2.2.1 hp.2.2.2.2.2.2.1 hp.2.2.2.2.2.2.2).any _
  · cases h
--@tbl l8Fits2 = spec.l8Fits
/-- The model's fits, for all racks: it answers whether rack and depths are valid and fit. -/
theorem l8Fits2_ok (R D : List Int) (hR : R.length = 24) (hD : D.length = 6) : PureH Try.prog 91 [.arr R, .arr D] [] (.bool (forB R D)) := by
  have tkR : R.take 24 = R := List.take_of_length_le (by omega)
  have tkD : D.take 6 = D := List.take_of_length_le (by omega)
  refine pure_of_vc (X := ⟨Try.prog, tys, [(135, l2Many_F), (72, l2Rack_F), (105, l8Depths_F)], [], true, true, 0, [], []⟩) fn_91 ⟨tys_ok, (.cons l2Many_T (.cons l2Rack_T (.cons l8Depths_T .nil))), .nil, mixed⟩ (n0 := 0) (Nat.le_of_ble_eq_true rfl) (by simp [wfL, SV.wf]) (wfH_spec (by simp [wfH, SObj.wf])) (Nat.le_refl _) (fun _ => by simp [SV.wf, wfL]) ?_
  simp -implicitDefEqProofs only [Try.f91, Option.getD_some, argS, l2Many_F, l2Rack_F, l8Depths_F, hR, hD, tkR, tkD, ZB, Int.reduceToNat, Nat.reduceLT, Nat.reduceLeDiff, Int.reduceLE, Int.reduceLT, Nat.reduceEqDiff, Nat.reduceSub, SB, SV.known, packR, ne_eq, reduceCtorEq, Nat.reduceEqDiff, ↓reduceIte, if_true, if_false, eq_self, Nat.reduceAdd, Nat.reduceMul, Nat.reduceSub, forall_const, oneCellS, litOne, flat1, Kd.isSca, flat, TYB]
  refine loop_intro (fun i : Nat => [(5, .int i), (2, .ptr 0 0), (3, .ptr 1 0)]) (fun _ => [(0, .ints R 27), (1, .ints D 51)]) 2 (fun i => i ≤ 6 ∧ ∀ k, k < i → posC (tubeAt R k) ≤ D.getD k 0) (fun i => 6 - i) ?_ ?_
  · refine ⟨0, ?_, Sub.mk_id ?_ ?_ ?_ ?_ ?_⟩
    all_goals (try (simp only [LB, subS, subH, wfS, wfH, SV.ren, renL, SObj.ren, SV.wf, SObj.wf, wfL, SV.known, Nat.reduceEqDiff, ↓reduceIte, if_true, if_false, eq_self, Nat.reduceAdd, Nat.reduceLT, Nat.reduceLeDiff, implies_true, reduceCtorEq, forall_const]; done))
    all_goals (try (simp only [LB, subS, subH, wfS, wfH, SV.ren, renL, SObj.ren, SV.wf, SObj.wf, wfL, SV.known, Nat.reduceEqDiff, ↓reduceIte, if_true, if_false, eq_self, Nat.reduceAdd, Nat.reduceLT, Nat.reduceLeDiff, implies_true, reduceCtorEq, forall_const]; simp; done))
    all_goals (try (simp only [LB, subS, subH, wfS, wfH, SV.ren, renL, SObj.ren, SV.wf, SObj.wf, wfL, SV.known, Nat.reduceEqDiff, ↓reduceIte, if_true, if_false, eq_self, Nat.reduceAdd, Nat.reduceLT, Nat.reduceLeDiff, implies_true, reduceCtorEq, forall_const]; (and_intros <;> (first | omega | rfl | (simp; done) | (simp; omega))); done))
    all_goals (try dsimp only)
    all_goals (and_intros <;> try (first | omega | (unfold In64; omega) | trivial | assumption))
  · rintro i ⟨hi, hall⟩
    have eT : List.take 4 (List.drop (i * 4) R) = tubeAt R i := rfl
    by_cases hlt : i < 6
    · have hil : (i : Int) < 6 := by omega
      have hl := tubeAt_len hR hlt
      simp -implicitDefEqProofs only [lk_normal, l2Many_F, hil, hR, hD, eT, hl, ZB, Int.reduceToNat, Nat.reduceLT, Nat.reduceLeDiff, Int.reduceLE, Int.reduceLT, Nat.reduceEqDiff, Nat.reduceSub, SB, SV.known, packR, ne_eq, reduceCtorEq, Nat.reduceEqDiff, ↓reduceIte, if_true, if_false, eq_self, Nat.reduceAdd, Nat.reduceMul, Nat.reduceSub, forall_const, oneCellS, litOne, flat1, Kd.isSca, flat, TYB]
      (try (and_intros <;> try (first | omega | (unfold In64; omega) | trivial | assumption)))
      · intro hx
        have : forB R D = false := by
          cases hf : forB R D with
          | false => rfl
          | true =>
            have ff := forB_facts hD hf
            have f2 := ff.2.2.2 i hlt
            have := posC_lay _ hl (tubeAt_ok ff.1 hlt)
            unfold roomF at f2
            omega
        rw [this]
      · intro hx
        (try (and_intros <;> try (first | omega | (unfold In64; omega) | trivial | assumption)))
        refine ⟨i + 1, ?_, ?_, Sub.mk_id ?_ ?_ ?_ ?_ ?_⟩
        all_goals (try (simp only [LB, subS, subH, wfS, wfH, SV.ren, renL, SObj.ren, SV.wf, SObj.wf, wfL, SV.known, Nat.reduceEqDiff, ↓reduceIte, if_true, if_false, eq_self, Nat.reduceAdd, Nat.reduceLT, Nat.reduceLeDiff, implies_true, reduceCtorEq, forall_const]; done))
        all_goals (try (simp only [LB, subS, subH, wfS, wfH, SV.ren, renL, SObj.ren, SV.wf, SObj.wf, wfL, SV.known, Nat.reduceEqDiff, ↓reduceIte, if_true, if_false, eq_self, Nat.reduceAdd, Nat.reduceLT, Nat.reduceLeDiff, implies_true, reduceCtorEq, forall_const]; simp; done))
        all_goals (try (simp only [LB, subS, subH, wfS, wfH, SV.ren, renL, SObj.ren, SV.wf, SObj.wf, wfL, SV.known, Nat.reduceEqDiff, ↓reduceIte, if_true, if_false, eq_self, Nat.reduceAdd, Nat.reduceLT, Nat.reduceLeDiff, implies_true, reduceCtorEq, forall_const]; (and_intros <;> (first | omega | rfl | (simp; done) | (simp; omega))); done))
        all_goals (try dsimp only)
        all_goals (and_intros <;> try (first | omega | (unfold In64; omega) | trivial | assumption))
        intro k hk
        by_cases hki : k = i
        · subst hki; omega
        · exact hall k (by omega)
    · have hil : ¬ (i : Int) < 6 := by omega
      obtain rfl : i = 6 := by omega
      have key : rackB R = true → fitF R D = true := fun hr => fit_none fun k hk => by
        have := posC_lay _ (tubeAt_len hR hk) (tubeAt_ok hr hk)
        have := hall k hk
        omega
      cases hr : rackB R with
      | false =>
        simp -implicitDefEqProofs only [lk_normal, l2Rack_F, l8Depths_F, hil, hR, hD, hr, tkR, tkD, ZB, Int.reduceToNat, Nat.reduceLT, Nat.reduceLeDiff, Int.reduceLE, Int.reduceLT, Nat.reduceEqDiff, Nat.reduceSub, SB, SV.known, packR, ne_eq, reduceCtorEq, Nat.reduceEqDiff, ↓reduceIte, if_true, if_false, eq_self, Nat.reduceAdd, Nat.reduceMul, Nat.reduceSub, forall_const, oneCellS, litOne, flat1, Kd.isSca, flat, TYB]
        simp [forB, hr]
      | true =>
        have hk := key hr
        simp -implicitDefEqProofs only [lk_normal, l2Rack_F, l8Depths_F, hil, hR, hD, hr, tkR, tkD, ZB, Int.reduceToNat, Nat.reduceLT, Nat.reduceLeDiff, Int.reduceLE, Int.reduceLT, Nat.reduceEqDiff, Nat.reduceSub, SB, SV.known, packR, ne_eq, reduceCtorEq, Nat.reduceEqDiff, ↓reduceIte, if_true, if_false, eq_self, Nat.reduceAdd, Nat.reduceMul, Nat.reduceSub, forall_const, oneCellS, litOne, flat1, Kd.isSca, flat, TYB]
        simp [forB, hr, hk]
def l8Fits2_F : List SV → Heap → Option (Prop × SV)
  | [.arr R, .arr D], _ => some (R.length = 24 ∧ D.length = 6, .bool (forB R D))
  | _, _ => none
theorem l8Fits2_T : ∀ args H p v, l8Fits2_F args H = some (p, v) → p → PureH Try.prog 91 args H v := by
  intro args H p v h hp
  unfold l8Fits2_F at h
  split at h
  · cases h; exact (l8Fits2_ok _ _ hp.1 hp.2).any _
  · cases h
def pbB (R D : List Int) (u : Int) (i j : Nat) : Bool := decide (0 < movF R D u i j)
theorem poursBy_ok (R D : List Int) (u : Int) (hR : R.length = 24) (hD : D.length = 6) (hf : forB R D = true) : FreshP Try.prog 109 [.arr R, .arr D, .int u] [] (GL (pbB R D u) 36) ((GL (pbB R D u) 36).length / 2) 2 44 true .one := by
  have tkR : R.take 24 = R := List.take_of_length_le (by omega)
  have tkD : D.take 6 = D := List.take_of_length_le (by omega)
  refine fresh_of_vc (X := ⟨Try.prog, tys, [(98, movedBy_F)], [], true, true, 0, [], []⟩) fn_109 ⟨tys_ok, (.cons movedBy_T .nil), .nil, mixed⟩ (n0 := 0) rfl (Nat.le_of_ble_eq_true rfl) (by simp [wfL, SV.wf]) (wfH_spec (by simp [wfH, SObj.wf])) (Nat.le_refl _) ?_
  simp -implicitDefEqProofs only [Try.f109, Option.getD_some, argS, movedBy_F, hR, hD, tkR, tkD, hf, ZB, Int.reduceToNat, Nat.reduceLT, Nat.reduceLeDiff, Int.reduceLE, Int.reduceLT, Nat.reduceEqDiff, Nat.reduceSub, SB, SV.known, packR, ne_eq, reduceCtorEq, Nat.reduceEqDiff, ↓reduceIte, if_true, if_false, eq_self, Nat.reduceAdd, Nat.reduceMul, Nat.reduceSub, forall_const, oneCellS, litOne, flat1, Kd.isSca, flat, TYB]
  refine loop_intro (fun s : Nat × Nat × Nat × List Int => [(3, .ptr 0 0), (4, .ptr 1 0), (2, .int u), (7, outVn 2 s.2.1 s.2.1 s.2.2.1), (10, .int s.1)]) (fun s => outHn 2 s.2.1 (GL (pbB R D u) (s.1 * 6) ++ s.2.2.2) 44 [(0, .ints R 27), (1, .ints D 51)]) 3
    (fun s => s.1 ≤ 6 ∧ (GL (pbB R D u) (s.1 * 6)).length = s.2.1 * 2 ∧ s.2.1 ≤ 37 ∧ s.2.1 ≤ s.1 * 6 ∧ s.2.2.2.length + s.2.1 * 2 = s.2.2.1 * 2) (fun s => 6 - s.1) ?_ ?_
  · refine ⟨(0, 0, 0, []), ⟨by omega, by simp [GL_zero], by simp, by simp, by simp⟩, Sub.mk_id ?_ ?_ ?_ ?_ ?_⟩
    all_goals simp only [outVn_zero, outHn_zero, LB, subS, subH, wfS, wfH, SV.ren, renL, SObj.ren, SV.wf, SObj.wf, wfL, SV.known, Nat.reduceEqDiff, ↓reduceIte, if_true, if_false, eq_self, Nat.reduceAdd, Nat.reduceLT, Nat.reduceLeDiff, implies_true, reduceCtorEq, forall_const]
    all_goals (try simp)
  · rintro ⟨i, n, cap, junk⟩ ⟨hi, hL, hn, hni, hj⟩
    simp only at hi hL hn hni hj
    simp -implicitDefEqProofs only [lk_normal, hR, hD, ZB, Int.reduceToNat, Nat.reduceLT, Nat.reduceLeDiff, Int.reduceLE, Int.reduceLT, Nat.reduceEqDiff, Nat.reduceSub, SB, SV.known, packR, ne_eq, reduceCtorEq, Nat.reduceEqDiff, ↓reduceIte, if_true, if_false, eq_self, Nat.reduceAdd, Nat.reduceMul, Nat.reduceSub, forall_const, oneCellS, litOne, flat1, Kd.isSca, flat, TYB]
    refine ⟨fun h => ?_, fun h => ?_⟩
    · have hi6 : i < 6 := by omega
      refine loop_intro (fun s : Nat × Nat × Nat × List Int => [(3, .ptr 0 0), (4, .ptr 1 0), (2, .int u), (7, outVn 2 s.2.1 s.2.1 s.2.2.1), (8, .int i), (10, .int i), (13, .int s.1)]) (fun s => outHn 2 s.2.1 (GL (pbB R D u) (i * 6 + s.1) ++ s.2.2.2) 44 [(0, .ints R 27), (1, .ints D 51)]) 3
        (fun s => s.1 ≤ 6 ∧ (GL (pbB R D u) (i * 6 + s.1)).length = s.2.1 * 2 ∧ s.2.1 ≤ 37 ∧ s.2.1 ≤ i * 6 + s.1 ∧ s.2.2.2.length + s.2.1 * 2 = s.2.2.1 * 2) (fun s => 6 - s.1) ?_ ?_
      · refine ⟨(0, n, cap, junk), ⟨by simp, by simpa using hL, by simpa using hn, by simpa using hni, by simpa using hj⟩, ?_⟩
        cases n with
        | zero =>
          refine Sub.mk_id ?_ ?_ ?_ ?_ ?_
          all_goals simp only [outVn_zero, outHn_zero, LB, subS, subH, wfS, wfH, SV.ren, renL, SObj.ren, SV.wf, SObj.wf, wfL, SV.known, Nat.reduceEqDiff, ↓reduceIte, if_true, if_false, eq_self, Nat.reduceAdd, Nat.reduceLT, Nat.reduceLeDiff, implies_true, reduceCtorEq, forall_const]
          all_goals (try simp)
        | succ n =>
          refine Sub.mk_id ?_ ?_ ?_ ?_ ?_
          all_goals simp only [outVn_succ, outHn_succ, LB, subS, subH, wfS, wfH, SV.ren, renL, SObj.ren, SV.wf, SObj.wf, wfL, SV.known, Nat.reduceEqDiff, ↓reduceIte, if_true, if_false, eq_self, Nat.reduceAdd, Nat.reduceLT, Nat.reduceLeDiff, implies_true, reduceCtorEq, forall_const]
          all_goals (try simp)
      · rintro ⟨j, n, cap, junk⟩ ⟨gj, gL, gn, gni, gk⟩
        simp only at gj gL gn gni gk
        have es := fun hj => GL_at (pbB R D u) i j hj
        have e6 : (i + 1) * 6 = i * 6 + 6 := by omega
        cases hc : pbB R D u i j with
        | false =>
         have hc2 : ¬ 0 < movF R D u i j := of_decide_eq_false hc
         cases n with
         | zero =>
          simp -implicitDefEqProofs only [lk_normal, movedBy_F, outVn_zero, outHn_zero, hR, hD, tkR, tkD, hf, hc2, ZB, Int.reduceToNat, Nat.reduceLT, Nat.reduceLeDiff, Int.reduceLE, Int.reduceLT, Nat.reduceEqDiff, Nat.reduceSub, SB, SV.known, packR, ne_eq, reduceCtorEq, Nat.reduceEqDiff, ↓reduceIte, if_true, if_false, eq_self, Nat.reduceAdd, Nat.reduceMul, Nat.reduceSub, forall_const, oneCellS, litOne, flat1, Kd.isSca, flat, TYB]
          refine ⟨fun hx => ?_, fun hx => ?_⟩
          · have e1 := es (by omega)
            rw [hc] at e1
            simp only [Bool.false_eq_true, if_false, List.append_nil] at e1
            (try (and_intros <;> try (first | omega | (unfold In64; omega) | trivial | assumption)))
            refine ⟨(j + 1, 0, cap, junk), ⟨by simp only; omega, by simp only [← Nat.add_assoc]; rw [e1]; exact gL, by simp only; omega, by simp only; omega, by simp only; omega⟩, by simp only; omega, Sub.mk_id ?_ ?_ ?_ ?_ ?_⟩
            all_goals simp only [outVn_zero, outHn_zero, ← Nat.add_assoc, e1, LB, subS, subH, wfS, wfH, SV.ren, renL, SObj.ren, SV.wf, SObj.wf, wfL, SV.known, Nat.reduceEqDiff, ↓reduceIte, if_true, if_false, eq_self, Nat.reduceAdd, Nat.reduceLT, Nat.reduceLeDiff, implies_true, reduceCtorEq, forall_const]
            all_goals (try simp)
          · have hj6 : j = 6 := by omega
            subst hj6
            (try (and_intros <;> try (first | omega | (unfold In64; omega) | trivial | assumption)))
            refine ⟨(i + 1, 0, cap, junk), ⟨by simp only; omega, by simp only; rw [e6]; exact gL, by simp only; omega, by simp only; omega, by simp only; omega⟩, by simp only; omega, Sub.mk_id ?_ ?_ ?_ ?_ ?_⟩
            all_goals simp only [outVn_zero, outHn_zero, e6, LB, subS, subH, wfS, wfH, SV.ren, renL, SObj.ren, SV.wf, SObj.wf, wfL, SV.known, Nat.reduceEqDiff, ↓reduceIte, if_true, if_false, eq_self, Nat.reduceAdd, Nat.reduceLT, Nat.reduceLeDiff, implies_true, reduceCtorEq, forall_const]
            all_goals (try simp)
         | succ n =>
          simp -implicitDefEqProofs only [lk_normal, movedBy_F, outVn_succ, outHn_succ, hR, hD, tkR, tkD, hf, hc2, ZB, Int.reduceToNat, Nat.reduceLT, Nat.reduceLeDiff, Int.reduceLE, Int.reduceLT, Nat.reduceEqDiff, Nat.reduceSub, SB, SV.known, packR, ne_eq, reduceCtorEq, Nat.reduceEqDiff, ↓reduceIte, if_true, if_false, eq_self, Nat.reduceAdd, Nat.reduceMul, Nat.reduceSub, forall_const, oneCellS, litOne, flat1, Kd.isSca, flat, TYB]
          refine ⟨fun hx => ?_, fun hx => ?_⟩
          · have e1 := es (by omega)
            rw [hc] at e1
            simp only [Bool.false_eq_true, if_false, List.append_nil] at e1
            (try (and_intros <;> try (first | omega | (unfold In64; omega) | trivial | assumption)))
            refine ⟨(j + 1, n + 1, cap, junk), ⟨by simp only; omega, by simp only [← Nat.add_assoc]; rw [e1]; exact gL, by simp only; omega, by simp only; omega, by simp only; omega⟩, by simp only; omega, Sub.mk_id ?_ ?_ ?_ ?_ ?_⟩
            all_goals simp only [outVn_succ, outHn_succ, ← Nat.add_assoc, e1, LB, subS, subH, wfS, wfH, SV.ren, renL, SObj.ren, SV.wf, SObj.wf, wfL, SV.known, Nat.reduceEqDiff, ↓reduceIte, if_true, if_false, eq_self, Nat.reduceAdd, Nat.reduceLT, Nat.reduceLeDiff, implies_true, reduceCtorEq, forall_const]
            all_goals (try simp)
          · have hj6 : j = 6 := by omega
            subst hj6
            (try (and_intros <;> try (first | omega | (unfold In64; omega) | trivial | assumption)))
            refine ⟨(i + 1, n + 1, cap, junk), ⟨by simp only; omega, by simp only; rw [e6]; exact gL, by simp only; omega, by simp only; omega, by simp only; omega⟩, by simp only; omega, Sub.mk_id ?_ ?_ ?_ ?_ ?_⟩
            all_goals simp only [outVn_succ, outHn_succ, e6, LB, subS, subH, wfS, wfH, SV.ren, renL, SObj.ren, SV.wf, SObj.wf, wfL, SV.known, Nat.reduceEqDiff, ↓reduceIte, if_true, if_false, eq_self, Nat.reduceAdd, Nat.reduceLT, Nat.reduceLeDiff, implies_true, reduceCtorEq, forall_const]
            all_goals (try simp)
        | true =>
         have hc2 : 0 < movF R D u i j := of_decide_eq_true hc
         cases n with
         | zero =>
          simp -implicitDefEqProofs only [lk_normal, movedBy_F, outVn_zero, outHn_zero, hR, hD, tkR, tkD, hf, hc2, ZB, Int.reduceToNat, Nat.reduceLT, Nat.reduceLeDiff, Int.reduceLE, Int.reduceLT, Nat.reduceEqDiff, Nat.reduceSub, SB, SV.known, packR, ne_eq, reduceCtorEq, Nat.reduceEqDiff, ↓reduceIte, if_true, if_false, eq_self, Nat.reduceAdd, Nat.reduceMul, Nat.reduceSub, forall_const, oneCellS, litOne, flat1, Kd.isSca, flat, TYB]
          refine ⟨fun hx => ?_, fun hx => ?_⟩
          · have e1 := es (by omega)
            have e0 : GL (pbB R D u) (i * 6 + j) = [] := List.length_eq_zero_iff.1 (by simpa using gL)
            rw [hc, e0] at e1
            simp only [if_true, List.nil_append] at e1
            (try (and_intros <;> try (first | omega | (unfold In64; omega) | trivial | assumption)))
            intro junk' cap' hj'
            (try (and_intros <;> try (first | omega | (unfold In64; omega) | trivial | assumption)))
            refine ⟨(j + 1, 1, cap', junk'), ⟨by simp only; omega, by simp only [← Nat.add_assoc]; rw [e1]; rfl, by simp only; omega, by simp only; omega, by simp only; omega⟩, by simp only; omega, Sub.mk_to 2 4 ?_ ?_ ?_ ?_ ?_ ?_ ?_⟩
            all_goals simp only [outVn_succ, outHn_succ, ← Nat.add_assoc, e1, LB, subS, subH, wfS, wfH, SV.ren, renL, SObj.ren, SV.wf, SObj.wf, wfL, SV.known, Nat.reduceEqDiff, ↓reduceIte, if_true, if_false, eq_self, Nat.reduceAdd, Nat.reduceLT, Nat.reduceLeDiff, implies_true, reduceCtorEq, forall_const]
            all_goals (try simp)
          · have hj6 : j = 6 := by omega
            subst hj6
            (try (and_intros <;> try (first | omega | (unfold In64; omega) | trivial | assumption)))
            refine ⟨(i + 1, 0, cap, junk), ⟨by simp only; omega, by simp only; rw [e6]; exact gL, by simp only; omega, by simp only; omega, by simp only; omega⟩, by simp only; omega, Sub.mk_id ?_ ?_ ?_ ?_ ?_⟩
            all_goals simp only [outVn_zero, outHn_zero, e6, LB, subS, subH, wfS, wfH, SV.ren, renL, SObj.ren, SV.wf, SObj.wf, wfL, SV.known, Nat.reduceEqDiff, ↓reduceIte, if_true, if_false, eq_self, Nat.reduceAdd, Nat.reduceLT, Nat.reduceLeDiff, implies_true, reduceCtorEq, forall_const]
            all_goals (try simp)
         | succ n =>
          have tkL : (GL (pbB R D u) (i * 6 + j) ++ junk).take ((n + 1) * 2) = GL (pbB R D u) (i * 6 + j) := List.take_left' gL
          have lenL : (GL (pbB R D u) (i * 6 + j) ++ junk).length = cap * 2 := by rw [List.length_append]; omega
          simp -implicitDefEqProofs only [lk_normal, movedBy_F, outVn_succ, outHn_succ, hR, hD, tkR, tkD, hf, hc2, tkL, lenL, ZB, Int.reduceToNat, Nat.reduceLT, Nat.reduceLeDiff, Int.reduceLE, Int.reduceLT, Nat.reduceEqDiff, Nat.reduceSub, SB, SV.known, packR, ne_eq, reduceCtorEq, Nat.reduceEqDiff, ↓reduceIte, if_true, if_false, eq_self, Nat.reduceAdd, Nat.reduceMul, Nat.reduceSub, forall_const, oneCellS, litOne, flat1, Kd.isSca, flat, TYB]
          refine ⟨fun hx => ?_, fun hx => ?_⟩
          · have e1 := es (by omega)
            rw [hc] at e1
            simp only [if_true] at e1
            (try (and_intros <;> try (first | omega | (unfold In64; omega) | trivial | assumption)))
            intro junk' cap' hj'
            (try (and_intros <;> try (first | omega | (unfold In64; omega) | trivial | assumption)))
            refine ⟨(j + 1, n + 1 + 1, cap', junk'), ⟨by simp only; omega, by simp only [← Nat.add_assoc]; rw [e1, List.length_append, gL]; simp; omega, by simp only; omega, by simp only; omega, by simp only; omega⟩, by simp only; omega, Sub.mk_to 2 4 ?_ ?_ ?_ ?_ ?_ ?_ ?_⟩
            all_goals simp only [outVn_succ, outHn_succ, ← Nat.add_assoc, e1, LB, subS, subH, wfS, wfH, SV.ren, renL, SObj.ren, SV.wf, SObj.wf, wfL, SV.known, Nat.reduceEqDiff, ↓reduceIte, if_true, if_false, eq_self, Nat.reduceAdd, Nat.reduceLT, Nat.reduceLeDiff, implies_true, reduceCtorEq, forall_const]
            all_goals (try simp)
          · have hj6 : j = 6 := by omega
            subst hj6
            (try (and_intros <;> try (first | omega | (unfold In64; omega) | trivial | assumption)))
            refine ⟨(i + 1, n + 1, cap, junk), ⟨by simp only; omega, by simp only; rw [e6]; exact gL, by simp only; omega, by simp only; omega, by simp only; omega⟩, by simp only; omega, Sub.mk_id ?_ ?_ ?_ ?_ ?_⟩
            all_goals simp only [outVn_succ, outHn_succ, e6, LB, subS, subH, wfS, wfH, SV.ren, renL, SObj.ren, SV.wf, SObj.wf, wfL, SV.known, Nat.reduceEqDiff, ↓reduceIte, if_true, if_false, eq_self, Nat.reduceAdd, Nat.reduceLT, Nat.reduceLeDiff, implies_true, reduceCtorEq, forall_const]
            all_goals (try simp)
    · obtain rfl : i = 6 := by omega
      have kn : ∀ a b c, (outVn 2 a b c).known = true := fun a b c => by cases a <;> rfl
      refine ⟨kn _ _ _, ?_⟩
      cases n with
      | zero => 
        refine .inl ⟨rfl, List.length_eq_zero_iff.1 (by simpa using hL), ?_⟩
        simp [outVn_zero, Wrap.ap]
      | succ n =>
        refine .inr ⟨2, cap, junk, ?_, ?_, by omega, ?_, ?_⟩
        · rw [show (GL (pbB R D u) 36).length = (n + 1) * 2 from hL]; simp [Wrap.ap, outVn_succ]
        · simp [hget_cons, outHn_succ]
        · have : (GL (pbB R D u) 36).length = (n + 1) * 2 := hL
          omega
        · intro _ h0
          have : (GL (pbB R D u) 36).length = (n + 1) * 2 := hL
          rw [h0] at this
          simp at this
theorem l8Pours_ok (R D : List Int) (u : Int) (hR : R.length = 24) (hD : D.length = 6) (hf : forB R D = true) (hu : ruF u = true) : FreshP Try.prog 93 [.arr R, .arr D, .int u] [] (GL (pbB R D u) 36) ((GL (pbB R D u) 36).length / 2) 2 44 false .one := by
  have tkR : R.take 24 = R := List.take_of_length_le (by omega)
  have tkD : D.take 6 = D := List.take_of_length_le (by omega)
  refine fresh_of_vc (X := ⟨Try.prog, tys, [(102, l8Moves_F)], [], true, true, 0, [], []⟩) fn_93 ⟨tys_ok, (.cons l8Moves_T .nil), .nil, mixed⟩ (n0 := 0) rfl (Nat.le_of_ble_eq_true rfl) (by simp [wfL, SV.wf]) (wfH_spec (by simp [wfH, SObj.wf])) (Nat.le_refl _) ?_
  simp -implicitDefEqProofs only [Try.f93, Option.getD_some, argS, l8Moves_F, hR, hD, tkR, tkD, hf, hu, ZB, Int.reduceToNat, Nat.reduceLT, Nat.reduceLeDiff, Int.reduceLE, Int.reduceLT, Nat.reduceEqDiff, Nat.reduceSub, SB, SV.known, packR, ne_eq, reduceCtorEq, Nat.reduceEqDiff, ↓reduceIte, if_true, if_false, eq_self, Nat.reduceAdd, Nat.reduceMul, Nat.reduceSub, forall_const, oneCellS, litOne, flat1, Kd.isSca, flat, TYB]
  refine loop_intro (fun s : Nat × Nat × Nat × List Int => [(3, .ptr 0 0), (4, .ptr 1 0), (2, .int u), (7, .slice 2 0 s.2.1 s.2.2.1), (8, .int s.1)]) (fun s => [(2, .ints (GL (pbB R D u) (s.1 * 6) ++ s.2.2.2) 44), (0, .ints R 27), (1, .ints D 51)]) 3
    (fun s => s.1 ≤ 6 ∧ (GL (pbB R D u) (s.1 * 6)).length = s.2.1 * 2 ∧ s.2.1 ≤ 37 ∧ s.2.1 ≤ s.1 * 6 ∧ s.2.2.2.length + s.2.1 * 2 = s.2.2.1 * 2) (fun s => 6 - s.1) ?_ ?_
  · refine ⟨(0, 0, 0, []), ⟨by omega, by simp [GL_zero], by simp, by simp, by simp⟩, Sub.mk_id ?_ ?_ ?_ ?_ ?_⟩
    all_goals simp only [Nat.zero_mul, GL_zero, List.append_nil, LB, subS, subH, wfS, wfH, SV.ren, renL, SObj.ren, SV.wf, SObj.wf, wfL, SV.known, Nat.reduceEqDiff, ↓reduceIte, if_true, if_false, eq_self, Nat.reduceAdd, Nat.reduceLT, Nat.reduceLeDiff, implies_true, reduceCtorEq, forall_const]
    all_goals (try simp)
  · rintro ⟨i, n, cap, junk⟩ ⟨hi, hL, hn, hni, hj⟩
    simp only at hi hL hn hni hj
    simp -implicitDefEqProofs only [lk_normal, l8Moves_F, hR, hD, hf, hu, ZB, Int.reduceToNat, Nat.reduceLT, Nat.reduceLeDiff, Int.reduceLE, Int.reduceLT, Nat.reduceEqDiff, Nat.reduceSub, SB, SV.known, packR, ne_eq, reduceCtorEq, Nat.reduceEqDiff, ↓reduceIte, if_true, if_false, eq_self, Nat.reduceAdd, Nat.reduceMul, Nat.reduceSub, forall_const, oneCellS, litOne, flat1, Kd.isSca, flat, TYB]
    refine ⟨fun h => ?_, fun h => ?_⟩
    · have hi6 : i < 6 := by omega
      refine loop_intro (fun s : Nat × Nat × Nat × List Int => [(3, .ptr 0 0), (4, .ptr 1 0), (2, .int u), (7, .slice 2 0 s.2.1 s.2.2.1), (8, .int i), (9, .int s.1)]) (fun s => [(2, .ints (GL (pbB R D u) (i * 6 + s.1) ++ s.2.2.2) 44), (0, .ints R 27), (1, .ints D 51)]) 3
        (fun s => s.1 ≤ 6 ∧ (GL (pbB R D u) (i * 6 + s.1)).length = s.2.1 * 2 ∧ s.2.1 ≤ 37 ∧ s.2.1 ≤ i * 6 + s.1 ∧ s.2.2.2.length + s.2.1 * 2 = s.2.2.1 * 2) (fun s => 6 - s.1) ?_ ?_
      · refine ⟨(0, n, cap, junk), ⟨by simp, by simpa using hL, by simpa using hn, by simpa using hni, by simpa using hj⟩, Sub.mk_id ?_ ?_ ?_ ?_ ?_⟩
        all_goals simp only [Nat.add_zero, LB, subS, subH, wfS, wfH, SV.ren, renL, SObj.ren, SV.wf, SObj.wf, wfL, SV.known, Nat.reduceEqDiff, ↓reduceIte, if_true, if_false, eq_self, Nat.reduceAdd, Nat.reduceLT, Nat.reduceLeDiff, implies_true, reduceCtorEq, forall_const]
        all_goals (try simp)
      · rintro ⟨j, n, cap, junk⟩ ⟨gj, gL, gn, gni, gk⟩
        simp only at gj gL gn gni gk
        have es := fun hj => GL_at (pbB R D u) i j hj
        have e6 : (i + 1) * 6 = i * 6 + 6 := by omega
        have tkL : (GL (pbB R D u) (i * 6 + j) ++ junk).take (n * 2) = GL (pbB R D u) (i * 6 + j) := List.take_left' gL
        have lenL : (GL (pbB R D u) (i * 6 + j) ++ junk).length = cap * 2 := by rw [List.length_append]; omega
        cases hc : pbB R D u i j with
        | false =>
          have hc2 : ¬ 0 < movF R D u i j := of_decide_eq_false hc
          simp -implicitDefEqProofs only [lk_normal, l8Moves_F, hR, hD, tkR, tkD, hf, hu, hc2, ZB, Int.reduceToNat, Nat.reduceLT, Nat.reduceLeDiff, Int.reduceLE, Int.reduceLT, Nat.reduceEqDiff, Nat.reduceSub, SB, SV.known, packR, ne_eq, reduceCtorEq, Nat.reduceEqDiff, ↓reduceIte, if_true, if_false, eq_self, Nat.reduceAdd, Nat.reduceMul, Nat.reduceSub, forall_const, oneCellS, litOne, flat1, Kd.isSca, flat, TYB]
          refine ⟨fun hx => ?_, fun hx => ?_⟩
          · have e1 := es (by omega)
            rw [hc] at e1
            simp only [Bool.false_eq_true, if_false, List.append_nil] at e1
            (try (and_intros <;> try (first | omega | (unfold In64; omega) | trivial | assumption)))
            refine ⟨(j + 1, n, cap, junk), ⟨by simp only; omega, by simp only [← Nat.add_assoc]; rw [e1]; exact gL, by simp only; omega, by simp only; omega, by simp only; omega⟩, by simp only; omega, Sub.mk_id ?_ ?_ ?_ ?_ ?_⟩
            all_goals simp only [← Nat.add_assoc, e1, LB, subS, subH, wfS, wfH, SV.ren, renL, SObj.ren, SV.wf, SObj.wf, wfL, SV.known, Nat.reduceEqDiff, ↓reduceIte, if_true, if_false, eq_self, Nat.reduceAdd, Nat.reduceLT, Nat.reduceLeDiff, implies_true, reduceCtorEq, forall_const]
            all_goals (try simp)
          · have hj6 : j = 6 := by omega
            subst hj6
            (try (and_intros <;> try (first | omega | (unfold In64; omega) | trivial | assumption)))
            refine ⟨(i + 1, n, cap, junk), ⟨by simp only; omega, by simp only; rw [e6]; exact gL, by simp only; omega, by simp only; omega, by simp only; omega⟩, by simp only; omega, Sub.mk_id ?_ ?_ ?_ ?_ ?_⟩
            all_goals simp only [e6, LB, subS, subH, wfS, wfH, SV.ren, renL, SObj.ren, SV.wf, SObj.wf, wfL, SV.known, Nat.reduceEqDiff, ↓reduceIte, if_true, if_false, eq_self, Nat.reduceAdd, Nat.reduceLT, Nat.reduceLeDiff, implies_true, reduceCtorEq, forall_const]
            all_goals (try simp)
        | true =>
          have hc2 : 0 < movF R D u i j := of_decide_eq_true hc
          simp -implicitDefEqProofs only [lk_normal, l8Moves_F, hR, hD, tkR, tkD, hf, hu, hc2, tkL, lenL, ZB, Int.reduceToNat, Nat.reduceLT, Nat.reduceLeDiff, Int.reduceLE, Int.reduceLT, Nat.reduceEqDiff, Nat.reduceSub, SB, SV.known, packR, ne_eq, reduceCtorEq, Nat.reduceEqDiff, ↓reduceIte, if_true, if_false, eq_self, Nat.reduceAdd, Nat.reduceMul, Nat.reduceSub, forall_const, oneCellS, litOne, flat1, Kd.isSca, flat, TYB]
          refine ⟨fun hx => ?_, fun hx => ?_⟩
          · have e1 := es (by omega)
            rw [hc] at e1
            simp only [if_true] at e1
            (try (and_intros <;> try (first | omega | (unfold In64; omega) | trivial | assumption)))
            intro junk' cap' hj'
            (try (and_intros <;> try (first | omega | (unfold In64; omega) | trivial | assumption)))
            refine ⟨(j + 1, n + 1, cap', junk'), ⟨by simp only; omega, by simp only [← Nat.add_assoc]; rw [e1, List.length_append, gL]; simp; omega, by simp only; omega, by simp only; omega, by simp only; omega⟩, by simp only; omega, Sub.mk_to 2 4 ?_ ?_ ?_ ?_ ?_ ?_ ?_⟩
            all_goals simp only [← Nat.add_assoc, e1, LB, subS, subH, wfS, wfH, SV.ren, renL, SObj.ren, SV.wf, SObj.wf, wfL, SV.known, Nat.reduceEqDiff, ↓reduceIte, if_true, if_false, eq_self, Nat.reduceAdd, Nat.reduceLT, Nat.reduceLeDiff, implies_true, reduceCtorEq, forall_const]
            all_goals (try simp)
          · have hj6 : j = 6 := by omega
            subst hj6
            (try (and_intros <;> try (first | omega | (unfold In64; omega) | trivial | assumption)))
            refine ⟨(i + 1, n, cap, junk), ⟨by simp only; omega, by simp only; rw [e6]; exact gL, by simp only; omega, by simp only; omega, by simp only; omega⟩, by simp only; omega, Sub.mk_id ?_ ?_ ?_ ?_ ?_⟩
            all_goals simp only [e6, LB, subS, subH, wfS, wfH, SV.ren, renL, SObj.ren, SV.wf, SObj.wf, wfL, SV.known, Nat.reduceEqDiff, ↓reduceIte, if_true, if_false, eq_self, Nat.reduceAdd, Nat.reduceLT, Nat.reduceLeDiff, implies_true, reduceCtorEq, forall_const]
            all_goals (try simp)
    · obtain rfl : i = 6 := by omega
      have hL' : (GL (pbB R D u) 36).length = n * 2 := hL
      refine .inr ⟨2, cap, junk, ?_, ?_, by omega, ?_, ?_⟩
      · rw [hL']; simp [Wrap.ap]
      · simp [hget_cons]
      · omega
      · intro h0; cases h0
end Go.Proofs.Ytopfnkmlgcjpbaa
set_option maxRecDepth 100000
set_option linter.unusedSimpArgs false
set_option linter.unusedVariables false
namespace Go.Proofs.Ytopfnkmlgcjpbaa
open Go Go.RowKit
def poursBy_F : List SV → Heap → Nat → Nat → K1 → Prop
  | [.arr R, .arr D, .int u], H, n, _, κ => (R.length = 24 ∧ D.length = 6 ∧ forB R D = true) ∧ freshK .one (GL (pbB R D u) 36) ((GL (pbB R D u) 36).length / 2) 2 44 true H n κ
  | _, _, _, _, _ => False
--@tbl poursBy = impl.poursBy
theorem poursBy_T : ∀ args H n m κ, poursBy_F args H n m κ → GenOK Try.prog 109 args H n m κ := by
  intro args H n m κ h
  unfold poursBy_F at h
  split at h
  · exact gen_of_fresh (poursBy_ok _ _ _ h.1.1 h.1.2.1 h.1.2.2) (fun k o hk => by cases hk) h.2
  · exact h.elim
def l8Pours_F : List SV → Heap → Nat → Nat → K1 → Prop
  | [.arr R, .arr D, .int u], H, n, _, κ => (R.length = 24 ∧ D.length = 6 ∧ forB R D = true ∧ ruF u = true) ∧ freshK .one (GL (pbB R D u) 36) ((GL (pbB R D u) 36).length / 2) 2 44 false H n κ
  | _, _, _, _, _ => False
--@tbl l8Pours = spec.l8Pours
theorem l8Pours_T : ∀ args H n m κ, l8Pours_F args H n m κ → GenOK Try.prog 93 args H n m κ := by
  intro args H n m κ h
  unfold l8Pours_F at h
  split at h
  · exact gen_of_fresh (l8Pours_ok _ _ _ h.1.1 h.1.2.1 h.1.2.2.1 h.1.2.2.2) (fun k o hk => by cases hk) h.2
  · exact h.elim
def pbyB (R D : List Int) (u i j : Int) : Bool := forB R D && ruF u && plF i && plF j && !decide (movF R D u i j = 0)
def pbyT (R D : List Int) (u i j : Int) : List Int := if pbyB R D u i j = true then mvR R i.toNat j.toNat (movF R D u i j).toNat else List.replicate 24 0
def pbyN (R D : List Int) (u i j : Int) : Int := if pbyB R D u i j = true then movF R D u i j else 0
theorem pbyT_len {R : List Int} (hR : R.length = 24) (D : List Int) (u i j : Int) : (pbyT R D u i j).length = 24 := by
  unfold pbyT
  split
  · rw [mvR_len, hR]
  · rfl
--@tbl PourBy = impl.PourBy
--@tbl sPourBy = spec.PourBy
theorem PourBy_ok (R D : List Int) (u i j : Int) (hR : R.length = 24) (hD : D.length = 6) : PureH Try.prog 26 [.arr R, .arr D, .int u, .int i, .int j] [] (.tup [.arr (pbyT R D u i j), .int (pbyN R D u i j), .bool (pbyB R D u i j)]) := by
  have tkR : R.take 24 = R := List.take_of_length_le (by omega)
  have tkD : D.take 6 = D := List.take_of_length_le (by omega)
  have r24 : List.take 24 (List.replicate 24 (0 : Int)) = List.replicate 24 0 := rfl
  unfold pbyT pbyN pbyB
  cases hf : forB R D <;> cases hu : ruF u <;> cases hi : plF i <;> cases hj : plF j
  case true.true.true.true =>
    have bi := pl_bd hi
    have bj := pl_bd hj
    have mb := movF_bd (u := u) hR hD hf bi bj
    have hr := (forB_facts hD hf).1
    by_cases hm : movF R D u i j = 0
    · refine pure_of_vc (X := ⟨Try.prog, tys, [(95, isFor_F), (96, isRule_F), (97, isPlace_F), (98, movedBy_F), (99, move_F)], [], true, true, 0, [], []⟩) fn_26 ⟨tys_ok, (.cons isFor_T (.cons isRule_T (.cons isPlace_T (.cons movedBy_T (.cons move_T .nil))))), .nil, mixed⟩ (n0 := 0) (Nat.le_of_ble_eq_true rfl) (by simp [wfL, SV.wf]) (wfH_spec (by simp [wfH, SObj.wf])) (Nat.le_refl _) (fun _ => by simp [SV.wf, wfL]) ?_
      simp -implicitDefEqProofs only [Try.f26, Option.getD_some, argS, isFor_F, isRule_F, isPlace_F, movedBy_F, move_F, hR, hD, tkR, tkD, r24, hf, hu, hi, hj, hm, ZB, Int.reduceToNat, Nat.reduceLT, Nat.reduceLeDiff, Int.reduceLE, Int.reduceLT, Nat.reduceEqDiff, Nat.reduceSub, SB, SV.known, packR, ne_eq, reduceCtorEq, Nat.reduceEqDiff, ↓reduceIte, if_true, if_false, eq_self, Nat.reduceAdd, Nat.reduceMul, Nat.reduceSub, forall_const, oneCellS, litOne, flat1, Kd.isSca, flat, TYB]
      (try (and_intros <;> try (first | omega | (unfold In64; omega) | trivial | assumption)))
    · have ml := (mvR_len R i.toNat j.toNat (movF R D u i j).toNat).trans hR
      have tkM : (mvR R i.toNat j.toNat (movF R D u i j).toNat).take 24 = mvR R i.toNat j.toNat (movF R D u i j).toNat := List.take_of_length_le (by omega)
      have m2 := mb.2.resolve_left hm
      refine pure_of_vc (X := ⟨Try.prog, tys, [(95, isFor_F), (96, isRule_F), (97, isPlace_F), (98, movedBy_F), (99, move_F)], [], true, true, 0, [], []⟩) fn_26 ⟨tys_ok, (.cons isFor_T (.cons isRule_T (.cons isPlace_T (.cons movedBy_T (.cons move_T .nil))))), .nil, mixed⟩ (n0 := 0) (Nat.le_of_ble_eq_true rfl) (by simp [wfL, SV.wf]) (wfH_spec (by simp [wfH, SObj.wf])) (Nat.le_refl _) (fun _ => by simp [SV.wf, wfL]) ?_
      simp -implicitDefEqProofs only [Try.f26, Option.getD_some, argS, isFor_F, isRule_F, isPlace_F, movedBy_F, move_F, hR, hD, tkR, tkD, r24, hf, hu, hi, hj, hm, hr, ml, tkM, ZB, Int.reduceToNat, Nat.reduceLT, Nat.reduceLeDiff, Int.reduceLE, Int.reduceLT, Nat.reduceEqDiff, Nat.reduceSub, SB, SV.known, packR, ne_eq, reduceCtorEq, Nat.reduceEqDiff, ↓reduceIte, if_true, if_false, eq_self, Nat.reduceAdd, Nat.reduceMul, Nat.reduceSub, forall_const, oneCellS, litOne, flat1, Kd.isSca, flat, TYB]
      (try (and_intros <;> try (first | omega | (unfold In64; omega) | trivial | assumption)))
      all_goals (first | exact m2.1 | skip)
  all_goals
    refine pure_of_vc (X := ⟨Try.prog, tys, [(95, isFor_F), (96, isRule_F), (97, isPlace_F)], [], true, true, 0, [], []⟩) fn_26 ⟨tys_ok, (.cons isFor_T (.cons isRule_T (.cons isPlace_T .nil))), .nil, mixed⟩ (n0 := 0) (Nat.le_of_ble_eq_true rfl) (by simp [wfL, SV.wf]) (wfH_spec (by simp [wfH, SObj.wf])) (Nat.le_refl _) (fun _ => by simp [SV.wf, wfL]) ?_
    simp -implicitDefEqProofs only [Try.f26, Option.getD_some, argS, isFor_F, isRule_F, isPlace_F, hR, hD, tkR, tkD, r24, hf, hu, hi, hj, ZB, Int.reduceToNat, Nat.reduceLT, Nat.reduceLeDiff, Int.reduceLE, Int.reduceLT, Nat.reduceEqDiff, Nat.reduceSub, SB, SV.known, packR, ne_eq, reduceCtorEq, Nat.reduceEqDiff, ↓reduceIte, if_true, if_false, eq_self, Nat.reduceAdd, Nat.reduceMul, Nat.reduceSub, forall_const, oneCellS, litOne, flat1, Kd.isSca, flat, TYB]
theorem sPourBy_ok (R D : List Int) (u i j : Int) (hR : R.length = 24) (hD : D.length = 6) : PureH Try.prog 27 [.arr R, .arr D, .int u, .int i, .int j] [] (.tup [.arr (pbyT R D u i j), .int (pbyN R D u i j), .bool (pbyB R D u i j)]) := by
  have tkR : R.take 24 = R := List.take_of_length_le (by omega)
  have tkD : D.take 6 = D := List.take_of_length_le (by omega)
  have r24 : List.take 24 (List.replicate 24 (0 : Int)) = List.replicate 24 0 := rfl
  unfold pbyT pbyN pbyB
  cases hf : forB R D <;> cases hu : ruF u <;> cases hi : plF i <;> cases hj : plF j
  case true.true.true.true =>
    have bi := pl_bd hi
    have bj := pl_bd hj
    have mb := movF_bd (u := u) hR hD hf bi bj
    have hr := (forB_facts hD hf).1
    by_cases hm : movF R D u i j = 0
    · refine pure_of_vc (X := ⟨Try.prog, tys, [(91, l8Fits2_F), (100, l8Rule_F), (101, l2Place_F), (102, l8Moves_F), (103, l8Move_F)], [], true, true, 0, [], []⟩) fn_27 ⟨tys_ok, (.cons l8Fits2_T (.cons l8Rule_T (.cons l2Place_T (.cons l8Moves_T (.cons l8Move_T .nil))))), .nil, mixed⟩ (n0 := 0) (Nat.le_of_ble_eq_true rfl) (by simp [wfL, SV.wf]) (wfH_spec (by simp [wfH, SObj.wf])) (Nat.le_refl _) (fun _ => by simp [SV.wf, wfL]) ?_
      simp -implicitDefEqProofs only [Try.f27, Option.getD_some, argS, l8Fits2_F, l8Rule_F, l2Place_F, l8Moves_F, l8Move_F, hR, hD, tkR, tkD, r24, hf, hu, hi, hj, hm, ZB, Int.reduceToNat, Nat.reduceLT, Nat.reduceLeDiff, Int.reduceLE, Int.reduceLT, Nat.reduceEqDiff, Nat.reduceSub, SB, SV.known, packR, ne_eq, reduceCtorEq, Nat.reduceEqDiff, ↓reduceIte, if_true, if_false, eq_self, Nat.reduceAdd, Nat.reduceMul, Nat.reduceSub, forall_const, oneCellS, litOne, flat1, Kd.isSca, flat, TYB]
      (try (and_intros <;> try (first | omega | (unfold In64; omega) | trivial | assumption)))
    · have ml := (mvR_len R i.toNat j.toNat (movF R D u i j).toNat).trans hR
      have tkM : (mvR R i.toNat j.toNat (movF R D u i j).toNat).take 24 = mvR R i.toNat j.toNat (movF R D u i j).toNat := List.take_of_length_le (by omega)
      have m2 := mb.2.resolve_left hm
      refine pure_of_vc (X := ⟨Try.prog, tys, [(91, l8Fits2_F), (100, l8Rule_F), (101, l2Place_F), (102, l8Moves_F), (103, l8Move_F)], [], true, true, 0, [], []⟩) fn_27 ⟨tys_ok, (.cons l8Fits2_T (.cons l8Rule_T (.cons l2Place_T (.cons l8Moves_T (.cons l8Move_T .nil))))), .nil, mixed⟩ (n0 := 0) (Nat.le_of_ble_eq_true rfl) (by simp [wfL, SV.wf]) (wfH_spec (by simp [wfH, SObj.wf])) (Nat.le_refl _) (fun _ => by simp [SV.wf, wfL]) ?_
      simp -implicitDefEqProofs only [Try.f27, Option.getD_some, argS, l8Fits2_F, l8Rule_F, l2Place_F, l8Moves_F, l8Move_F, hR, hD, tkR, tkD, r24, hf, hu, hi, hj, hm, hr, ml, tkM, ZB, Int.reduceToNat, Nat.reduceLT, Nat.reduceLeDiff, Int.reduceLE, Int.reduceLT, Nat.reduceEqDiff, Nat.reduceSub, SB, SV.known, packR, ne_eq, reduceCtorEq, Nat.reduceEqDiff, ↓reduceIte, if_true, if_false, eq_self, Nat.reduceAdd, Nat.reduceMul, Nat.reduceSub, forall_const, oneCellS, litOne, flat1, Kd.isSca, flat, TYB]
      (try (and_intros <;> try (first | omega | (unfold In64; omega) | trivial | assumption)))
      all_goals (first | exact m2.1 | skip)
  all_goals
    refine pure_of_vc (X := ⟨Try.prog, tys, [(91, l8Fits2_F), (100, l8Rule_F), (101, l2Place_F)], [], true, true, 0, [], []⟩) fn_27 ⟨tys_ok, (.cons l8Fits2_T (.cons l8Rule_T (.cons l2Place_T .nil))), .nil, mixed⟩ (n0 := 0) (Nat.le_of_ble_eq_true rfl) (by simp [wfL, SV.wf]) (wfH_spec (by simp [wfH, SObj.wf])) (Nat.le_refl _) (fun _ => by simp [SV.wf, wfL]) ?_
    simp -implicitDefEqProofs only [Try.f27, Option.getD_some, argS, l8Fits2_F, l8Rule_F, l2Place_F, hR, hD, tkR, tkD, r24, hf, hu, hi, hj, ZB, Int.reduceToNat, Nat.reduceLT, Nat.reduceLeDiff, Int.reduceLE, Int.reduceLT, Nat.reduceEqDiff, Nat.reduceSub, SB, SV.known, packR, ne_eq, reduceCtorEq, Nat.reduceEqDiff, ↓reduceIte, if_true, if_false, eq_self, Nat.reduceAdd, Nat.reduceMul, Nat.reduceSub, forall_const, oneCellS, litOne, flat1, Kd.isSca, flat, TYB]
def PourBy_F : List SV → Heap → Option (Prop × SV)
  | [.arr R, .arr D, .int u, .int i, .int j], _ => some (R.length = 24 ∧ D.length = 6, .tup [.arr (pbyT R D u i j), .int (pbyN R D u i j), .bool (pbyB R D u i j)])
  | _, _ => none
theorem PourBy_T : ∀ args H p v, PourBy_F args H = some (p, v) → p → PureH Try.prog 26 args H v := by
  intro args H p v h hp
  unfold PourBy_F at h
  split at h
  · cases h; exact (PourBy_ok _ _ _ _ _ hp.1 hp.2).any _
  · cases h
def sPourBy_F : List SV → Heap → Option (Prop × SV)
  | [.arr R, .arr D, .int u, .int i, .int j], _ => some (R.length = 24 ∧ D.length = 6, .tup [.arr (pbyT R D u i j), .int (pbyN R D u i j), .bool (pbyB R D u i j)])
  | _, _ => none
theorem sPourBy_T : ∀ args H p v, sPourBy_F args H = some (p, v) → p → PureH Try.prog 27 args H v := by
  intro args H p v h hp
  unfold sPourBy_F at h
  split at h
  · cases h; exact (sPourBy_ok _ _ _ _ _ hp.1 hp.2).any _
  · cases h
--@tbl DropsFor = impl.DropsFor
--@tbl sDropsFor = spec.DropsFor
theorem DropsFor_ok (R D : List Int) (i j : Int) (hR : R.length = 24) (hD : D.length = 6) : PureH Try.prog 37 [.arr R, .arr D, .int i, .int j] [] (.tup [.int (pbyN R D 1 i j), .bool (pbyB R D 1 i j)]) := by
  have tkR : R.take 24 = R := List.take_of_length_le (by omega)
  have tkD : D.take 6 = D := List.take_of_length_le (by omega)
  have hl := pbyT_len hR D 1 i j
  refine pure_of_vc (X := ⟨Try.prog, tys, [(26, PourBy_F)], [], true, true, 0, [], []⟩) fn_37 ⟨tys_ok, (.cons PourBy_T .nil), .nil, mixed⟩ (n0 := 0) (Nat.le_of_ble_eq_true rfl) (by simp [wfL, SV.wf]) (wfH_spec (by simp [wfH, SObj.wf])) (Nat.le_refl _) (fun _ => by simp [SV.wf, wfL]) ?_
  simp -implicitDefEqProofs only [Try.f37, Option.getD_some, argS, PourBy_F, hR, hD, tkR, tkD, hl, ZB, Int.reduceToNat, Nat.reduceLT, Nat.reduceLeDiff, Int.reduceLE, Int.reduceLT, Nat.reduceEqDiff, Nat.reduceSub, SB, SV.known, packR, ne_eq, reduceCtorEq, Nat.reduceEqDiff, ↓reduceIte, if_true, if_false, eq_self, Nat.reduceAdd, Nat.reduceMul, Nat.reduceSub, forall_const, oneCellS, litOne, flat1, Kd.isSca, flat, TYB]
theorem sDropsFor_ok (R D : List Int) (i j : Int) (hR : R.length = 24) (hD : D.length = 6) : PureH Try.prog 38 [.arr R, .arr D, .int i, .int j] [] (.tup [.int (pbyN R D 1 i j), .bool (pbyB R D 1 i j)]) := by
  have tkR : R.take 24 = R := List.take_of_length_le (by omega)
  have tkD : D.take 6 = D := List.take_of_length_le (by omega)
  have hl := pbyT_len hR D 1 i j
  refine pure_of_vc (X := ⟨Try.prog, tys, [(27, sPourBy_F)], [], true, true, 0, [], []⟩) fn_38 ⟨tys_ok, (.cons sPourBy_T .nil), .nil, mixed⟩ (n0 := 0) (Nat.le_of_ble_eq_true rfl) (by simp [wfL, SV.wf]) (wfH_spec (by simp [wfH, SObj.wf])) (Nat.le_refl _) (fun _ => by simp [SV.wf, wfL]) ?_
  simp -implicitDefEqProofs only [Try.f38, Option.getD_some, argS, sPourBy_F, hR, hD, tkR, tkD, hl, ZB, Int.reduceToNat, Nat.reduceLT, Nat.reduceLeDiff, Int.reduceLE, Int.reduceLT, Nat.reduceEqDiff, Nat.reduceSub, SB, SV.known, packR, ne_eq, reduceCtorEq, Nat.reduceEqDiff, ↓reduceIte, if_true, if_false, eq_self, Nat.reduceAdd, Nat.reduceMul, Nat.reduceSub, forall_const, oneCellS, litOne, flat1, Kd.isSca, flat, TYB]
def DropsFor_F : List SV → Heap → Option (Prop × SV)
  | [.arr R, .arr D, .int i, .int j], _ => some (R.length = 24 ∧ D.length = 6, .tup [.int (pbyN R D 1 i j), .bool (pbyB R D 1 i j)])
  | _, _ => none
theorem DropsFor_T : ∀ args H p v, DropsFor_F args H = some (p, v) → p → PureH Try.prog 37 args H v := by
  intro args H p v h hp
  unfold DropsFor_F at h
  split at h
  · cases h; exact (DropsFor_ok _ _ _ _ hp.1 hp.2).any _
  · cases h
def sDropsFor_F : List SV → Heap → Option (Prop × SV)
  | [.arr R, .arr D, .int i, .int j], _ => some (R.length = 24 ∧ D.length = 6, .tup [.int (pbyN R D 1 i j), .bool (pbyB R D 1 i j)])
  | _, _ => none
theorem sDropsFor_T : ∀ args H p v, sDropsFor_F args H = some (p, v) → p → PureH Try.prog 38 args H v := by
  intro args H p v h hp
  unfold sDropsFor_F at h
  split at h
  · cases h; exact (sDropsFor_ok _ _ _ _ hp.1 hp.2).any _
  · cases h
/-! CountRules. -/
def crlK (R D : List Int) (k : Nat) : List Int := (List.range 5).map fun c => if 1 ≤ c ∧ c ≤ k then (((GL (pbB R D c) 36).length / 2 : Nat) : Int) else 0
theorem crlK_len (R D : List Int) (k : Nat) : (crlK R D k).length = 5 := by simp [crlK]
theorem crlK_zero (R D : List Int) : crlK R D 0 = List.replicate 5 0 := by
  simp only [crlK]
  apply List.ext_getElem (by simp)
  intro k h1 h2
  simp only [List.getElem_map, List.getElem_range, List.getElem_replicate]
  rw [if_neg (by omega)]
theorem crlK_step (R D : List Int) (k : Nat) (hk : k < 4) : (crlK R D k).set (k + 1) (((GL (pbB R D ((k + 1 : Nat) : Int)) 36).length / 2 : Nat) : Int) = crlK R D (k + 1) := by
  apply List.ext_getElem (by simp [crlK])
  intro c h1 h2
  simp only [crlK, List.getElem_set, List.getElem_map, List.getElem_range]
  by_cases hc : k + 1 = c
  · subst hc; rw [if_pos rfl, if_pos (by omega)]
  · rw [if_neg hc]
    by_cases h3 : 1 ≤ c ∧ c ≤ k
    · rw [if_pos h3, if_pos (by omega)]
    · rw [if_neg h3, if_neg (by omega)]
def crlF (R D : List Int) : List Int := if forB R D = true then crlK R D 4 else List.replicate 5 0
theorem crlF_len (R D : List Int) : (crlF R D).length = 5 := by
  unfold crlF
  split
  · exact crlK_len _ _ _
  · rfl
--@tbl CountRules = impl.CountRules
--@tbl sCountRules = spec.CountRules
theorem CountRules_ok (R D : List Int) (hR : R.length = 24) (hD : D.length = 6) : PureH Try.prog 31 [.arr R, .arr D] [] (.tup [.arr (crlF R D), .bool (forB R D)]) := by
  have tkR : R.take 24 = R := List.take_of_length_le (by omega)
  have tkD : D.take 6 = D := List.take_of_length_le (by omega)
  have r5 : List.take 5 (List.replicate 5 (0 : Int)) = List.replicate 5 0 := rfl
  unfold crlF
  cases hf : forB R D
  · refine pure_of_vc (X := ⟨Try.prog, tys, [(95, isFor_F)], [(109, poursBy_F)], true, true, 0, [], []⟩) fn_31 ⟨tys_ok, (.cons isFor_T .nil), (.cons poursBy_T .nil), mixed⟩ (n0 := 0) (Nat.le_of_ble_eq_true rfl) (by simp [wfL, SV.wf]) (wfH_spec (by simp [wfH, SObj.wf])) (Nat.le_refl _) (fun _ => by simp [SV.wf, wfL]) ?_
    simp -implicitDefEqProofs only [Try.f31, Option.getD_some, argS, isFor_F, poursBy_F, hR, hD, tkR, tkD, r5, hf, ZB, Int.reduceToNat, Nat.reduceLT, Nat.reduceLeDiff, Int.reduceLE, Int.reduceLT, Nat.reduceEqDiff, Nat.reduceSub, SB, SV.known, packR, ne_eq, reduceCtorEq, Nat.reduceEqDiff, ↓reduceIte, if_true, if_false, eq_self, Nat.reduceAdd, Nat.reduceMul, Nat.reduceSub, forall_const, oneCellS, litOne, flat1, Kd.isSca, flat, TYB]
  · refine pure_of_vc (X := ⟨Try.prog, tys, [(95, isFor_F)], [(109, poursBy_F)], true, true, 0, [], []⟩) fn_31 ⟨tys_ok, (.cons isFor_T .nil), (.cons poursBy_T .nil), mixed⟩ (n0 := 0) (Nat.le_of_ble_eq_true rfl) (by simp [wfL, SV.wf]) (wfH_spec (by simp [wfH, SObj.wf])) (Nat.le_refl _) (fun _ => by simp [SV.wf, wfL]) ?_
    simp -implicitDefEqProofs only [Try.f31, Option.getD_some, argS, isFor_F, poursBy_F, hR, hD, tkR, tkD, r5, hf, ZB, Int.reduceToNat, Nat.reduceLT, Nat.reduceLeDiff, Int.reduceLE, Int.reduceLT, Nat.reduceEqDiff, Nat.reduceSub, SB, SV.known, packR, ne_eq, reduceCtorEq, Nat.reduceEqDiff, ↓reduceIte, if_true, if_false, eq_self, Nat.reduceAdd, Nat.reduceMul, Nat.reduceSub, forall_const, oneCellS, litOne, flat1, Kd.isSca, flat, TYB]
    refine loop_intro (fun k : Nat => [(7, .int ((k + 1 : Nat) : Int)), (6, .ptr 3 0), (4, .ptr 2 0), (2, .ptr 0 0), (3, .ptr 1 0)]) (fun k => [(3, .ints (crlK R D k) 57), (2, .ints (List.replicate 5 0) 57), (1, .ints D 51), (0, .ints R 27)]) 4 (fun k => k ≤ 4) (fun k => 4 - k) ?_ ?_
    · refine ⟨0, ?_, Sub.mk_id ?_ ?_ ?_ ?_ ?_⟩
      all_goals (try (simp only [crlK_zero, LB, subS, subH, wfS, wfH, SV.ren, renL, SObj.ren, SV.wf, SObj.wf, wfL, SV.known, Nat.reduceEqDiff, ↓reduceIte, if_true, if_false, eq_self, Nat.reduceAdd, Nat.reduceLT, Nat.reduceLeDiff, implies_true, reduceCtorEq, forall_const]; done))
      all_goals (try (simp only [crlK_zero, LB, subS, subH, wfS, wfH, SV.ren, renL, SObj.ren, SV.wf, SObj.wf, wfL, SV.known, Nat.reduceEqDiff, ↓reduceIte, if_true, if_false, eq_self, Nat.reduceAdd, Nat.reduceLT, Nat.reduceLeDiff, implies_true, reduceCtorEq, forall_const]; simp; done))
      all_goals (try (simp only [crlK_zero, LB, subS, subH, wfS, wfH, SV.ren, renL, SObj.ren, SV.wf, SObj.wf, wfL, SV.known, Nat.reduceEqDiff, ↓reduceIte, if_true, if_false, eq_self, Nat.reduceAdd, Nat.reduceLT, Nat.reduceLeDiff, implies_true, reduceCtorEq, forall_const]; (and_intros <;> (first | omega | rfl | (simp; done) | (simp; omega))); done))
      all_goals (try dsimp only)
      all_goals (and_intros <;> try (first | omega | (unfold In64; omega) | trivial | assumption))
    · intro k hk
      have cl := crlK_len R D k
      by_cases hlt : k < 4
      · have hkl : ((k + 1 : Nat) : Int) ≤ 4 := by omega
        have es := crlK_step R D k hlt
        obtain ⟨n, hn, hn36⟩ := GL_even (pbB R D ((k + 1 : Nat) : Int)) 36
        skip
        simp -implicitDefEqProofs only [lk_normal, poursBy_F, freshK, Wrap.ap, hkl, hR, hD, tkR, tkD, hf, cl, es, ZB, Int.reduceToNat, Nat.reduceLT, Nat.reduceLeDiff, Int.reduceLE, Int.reduceLT, Nat.reduceEqDiff, Nat.reduceSub, SB, SV.known, packR, ne_eq, reduceCtorEq, Nat.reduceEqDiff, ↓reduceIte, if_true, if_false, eq_self, Nat.reduceAdd, Nat.reduceMul, Nat.reduceSub, forall_const, oneCellS, litOne, flat1, Kd.isSca, flat, TYB]
        refine ⟨fun h0 => ?_, fun h0 cap junk hj => ?_⟩
        · have es0 : (crlK R D k).set (k + 1) 0 = crlK R D (k + 1) := by rw [← es, h0]; rfl
          (try (and_intros <;> try (first | omega | (unfold In64; omega) | trivial | assumption)))
          refine ⟨k + 1, ?_, ?_, Sub.mk_id ?_ ?_ ?_ ?_ ?_⟩
          all_goals (try (simp only [es0, LB, subS, subH, wfS, wfH, SV.ren, renL, SObj.ren, SV.wf, SObj.wf, wfL, SV.known, Nat.reduceEqDiff, ↓reduceIte, if_true, if_false, eq_self, Nat.reduceAdd, Nat.reduceLT, Nat.reduceLeDiff, implies_true, reduceCtorEq, forall_const]; done))
          all_goals (try (simp only [es0, LB, subS, subH, wfS, wfH, SV.ren, renL, SObj.ren, SV.wf, SObj.wf, wfL, SV.known, Nat.reduceEqDiff, ↓reduceIte, if_true, if_false, eq_self, Nat.reduceAdd, Nat.reduceLT, Nat.reduceLeDiff, implies_true, reduceCtorEq, forall_const]; simp; done))
          all_goals (try (simp only [es0, LB, subS, subH, wfS, wfH, SV.ren, renL, SObj.ren, SV.wf, SObj.wf, wfL, SV.known, Nat.reduceEqDiff, ↓reduceIte, if_true, if_false, eq_self, Nat.reduceAdd, Nat.reduceLT, Nat.reduceLeDiff, implies_true, reduceCtorEq, forall_const]; (and_intros <;> (first | omega | rfl | (simp; done) | (simp; omega))); done))
          all_goals (try dsimp only)
          all_goals (and_intros <;> try (first | omega | (unfold In64; omega) | trivial | assumption))
        · (try (and_intros <;> try (first | omega | (unfold In64; omega) | trivial | assumption)))
          refine ⟨k + 1, ?_, ?_, Sub.mk_id ?_ ?_ ?_ ?_ ?_⟩
          all_goals (try (simp only [es, LB, subS, subH, wfS, wfH, SV.ren, renL, SObj.ren, SV.wf, SObj.wf, wfL, SV.known, Nat.reduceEqDiff, ↓reduceIte, if_true, if_false, eq_self, Nat.reduceAdd, Nat.reduceLT, Nat.reduceLeDiff, implies_true, reduceCtorEq, forall_const]; done))
          all_goals (try (simp only [es, LB, subS, subH, wfS, wfH, SV.ren, renL, SObj.ren, SV.wf, SObj.wf, wfL, SV.known, Nat.reduceEqDiff, ↓reduceIte, if_true, if_false, eq_self, Nat.reduceAdd, Nat.reduceLT, Nat.reduceLeDiff, implies_true, reduceCtorEq, forall_const]; simp; done))
          all_goals (try (simp only [es, LB, subS, subH, wfS, wfH, SV.ren, renL, SObj.ren, SV.wf, SObj.wf, wfL, SV.known, Nat.reduceEqDiff, ↓reduceIte, if_true, if_false, eq_self, Nat.reduceAdd, Nat.reduceLT, Nat.reduceLeDiff, implies_true, reduceCtorEq, forall_const]; (and_intros <;> (first | omega | rfl | (simp; done) | (simp; omega))); done))
          all_goals (try dsimp only)
          all_goals (and_intros <;> try (first | omega | (unfold In64; omega) | trivial | assumption))
      · have hkl : ¬ ((k + 1 : Nat) : Int) ≤ 4 := by omega
        obtain rfl : k = 4 := by omega
        have tk5 : (crlK R D 4).take 5 = crlK R D 4 := List.take_of_length_le (by omega)
        simp -implicitDefEqProofs only [lk_normal, hkl, cl, tk5, ZB, Int.reduceToNat, Nat.reduceLT, Nat.reduceLeDiff, Int.reduceLE, Int.reduceLT, Nat.reduceEqDiff, Nat.reduceSub, SB, SV.known, packR, ne_eq, reduceCtorEq, Nat.reduceEqDiff, ↓reduceIte, if_true, if_false, eq_self, Nat.reduceAdd, Nat.reduceMul, Nat.reduceSub, forall_const, oneCellS, litOne, flat1, Kd.isSca, flat, TYB]
        (try (and_intros <;> try (first | omega | (unfold In64; omega) | trivial | assumption)))
theorem sCountRules_ok (R D : List Int) (hR : R.length = 24) (hD : D.length = 6) : PureH Try.prog 32 [.arr R, .arr D] [] (.tup [.arr (crlF R D), .bool (forB R D)]) := by
  have tkR : R.take 24 = R := List.take_of_length_le (by omega)
  have tkD : D.take 6 = D := List.take_of_length_le (by omega)
  have r5 : List.take 5 (List.replicate 5 (0 : Int)) = List.replicate 5 0 := rfl
  unfold crlF
  cases hf : forB R D
  · refine pure_of_vc (X := ⟨Try.prog, tys, [(91, l8Fits2_F)], [(93, l8Pours_F)], true, true, 0, [], []⟩) fn_32 ⟨tys_ok, (.cons l8Fits2_T .nil), (.cons l8Pours_T .nil), mixed⟩ (n0 := 0) (Nat.le_of_ble_eq_true rfl) (by simp [wfL, SV.wf]) (wfH_spec (by simp [wfH, SObj.wf])) (Nat.le_refl _) (fun _ => by simp [SV.wf, wfL]) ?_
    simp -implicitDefEqProofs only [Try.f32, Option.getD_some, argS, l8Fits2_F, l8Pours_F, hR, hD, tkR, tkD, r5, hf, ZB, Int.reduceToNat, Nat.reduceLT, Nat.reduceLeDiff, Int.reduceLE, Int.reduceLT, Nat.reduceEqDiff, Nat.reduceSub, SB, SV.known, packR, ne_eq, reduceCtorEq, Nat.reduceEqDiff, ↓reduceIte, if_true, if_false, eq_self, Nat.reduceAdd, Nat.reduceMul, Nat.reduceSub, forall_const, oneCellS, litOne, flat1, Kd.isSca, flat, TYB]
  · refine pure_of_vc (X := ⟨Try.prog, tys, [(91, l8Fits2_F)], [(93, l8Pours_F)], true, true, 0, [], []⟩) fn_32 ⟨tys_ok, (.cons l8Fits2_T .nil), (.cons l8Pours_T .nil), mixed⟩ (n0 := 0) (Nat.le_of_ble_eq_true rfl) (by simp [wfL, SV.wf]) (wfH_spec (by simp [wfH, SObj.wf])) (Nat.le_refl _) (fun _ => by simp [SV.wf, wfL]) ?_
    simp -implicitDefEqProofs only [Try.f32, Option.getD_some, argS, l8Fits2_F, l8Pours_F, hR, hD, tkR, tkD, r5, hf, ZB, Int.reduceToNat, Nat.reduceLT, Nat.reduceLeDiff, Int.reduceLE, Int.reduceLT, Nat.reduceEqDiff, Nat.reduceSub, SB, SV.known, packR, ne_eq, reduceCtorEq, Nat.reduceEqDiff, ↓reduceIte, if_true, if_false, eq_self, Nat.reduceAdd, Nat.reduceMul, Nat.reduceSub, forall_const, oneCellS, litOne, flat1, Kd.isSca, flat, TYB]
    refine loop_intro (fun k : Nat => [(7, .int ((k + 1 : Nat) : Int)), (6, .ptr 3 0), (4, .ptr 2 0), (2, .ptr 0 0), (3, .ptr 1 0)]) (fun k => [(3, .ints (crlK R D k) 57), (2, .ints (List.replicate 5 0) 57), (1, .ints D 51), (0, .ints R 27)]) 4 (fun k => k ≤ 4) (fun k => 4 - k) ?_ ?_
    · refine ⟨0, ?_, Sub.mk_id ?_ ?_ ?_ ?_ ?_⟩
      all_goals (try (simp only [crlK_zero, LB, subS, subH, wfS, wfH, SV.ren, renL, SObj.ren, SV.wf, SObj.wf, wfL, SV.known, Nat.reduceEqDiff, ↓reduceIte, if_true, if_false, eq_self, Nat.reduceAdd, Nat.reduceLT, Nat.reduceLeDiff, implies_true, reduceCtorEq, forall_const]; done))
      all_goals (try (simp only [crlK_zero, LB, subS, subH, wfS, wfH, SV.ren, renL, SObj.ren, SV.wf, SObj.wf, wfL, SV.known, Nat.reduceEqDiff, ↓reduceIte, if_true, if_false, eq_self, Nat.reduceAdd, Nat.reduceLT, Nat.reduceLeDiff, implies_true, reduceCtorEq, forall_const]; simp; done))
      all_goals (try (simp only [crlK_zero, LB, subS, subH, wfS, wfH, SV.ren, renL, SObj.ren, SV.wf, SObj.wf, wfL, SV.known, Nat.reduceEqDiff, ↓reduceIte, if_true, if_false, eq_self, Nat.reduceAdd, Nat.reduceLT, Nat.reduceLeDiff, implies_true, reduceCtorEq, forall_const]; (and_intros <;> (first | omega | rfl | (simp; done) | (simp; omega))); done))
      all_goals (try dsimp only)
      all_goals (and_intros <;> try (first | omega | (unfold In64; omega) | trivial | assumption))
    · intro k hk
      have cl := crlK_len R D k
      by_cases hlt : k < 4
      · have hkl : ((k + 1 : Nat) : Int) ≤ 4 := by omega
        have es := crlK_step R D k hlt
        obtain ⟨n, hn, hn36⟩ := GL_even (pbB R D ((k + 1 : Nat) : Int)) 36
        have hu : ruF ((k + 1 : Nat) : Int) = true := by simp only [ruF, decide_eq_true_eq]; omega
        simp -implicitDefEqProofs only [lk_normal, l8Pours_F, freshK, Wrap.ap, hkl, hR, hD, tkR, tkD, hf, cl, es, hu, ZB, Int.reduceToNat, Nat.reduceLT, Nat.reduceLeDiff, Int.reduceLE, Int.reduceLT, Nat.reduceEqDiff, Nat.reduceSub, SB, SV.known, packR, ne_eq, reduceCtorEq, Nat.reduceEqDiff, ↓reduceIte, if_true, if_false, eq_self, Nat.reduceAdd, Nat.reduceMul, Nat.reduceSub, forall_const, oneCellS, litOne, flat1, Kd.isSca, flat, TYB]
        intro cap junk hj
        (try (and_intros <;> try (first | omega | (unfold In64; omega) | trivial | assumption)))
        refine ⟨k + 1, ?_, ?_, Sub.mk_id ?_ ?_ ?_ ?_ ?_⟩
        all_goals (try (simp only [es, LB, subS, subH, wfS, wfH, SV.ren, renL, SObj.ren, SV.wf, SObj.wf, wfL, SV.known, Nat.reduceEqDiff, ↓reduceIte, if_true, if_false, eq_self, Nat.reduceAdd, Nat.reduceLT, Nat.reduceLeDiff, implies_true, reduceCtorEq, forall_const]; done))
        all_goals (try (simp only [es, LB, subS, subH, wfS, wfH, SV.ren, renL, SObj.ren, SV.wf, SObj.wf, wfL, SV.known, Nat.reduceEqDiff, ↓reduceIte, if_true, if_false, eq_self, Nat.reduceAdd, Nat.reduceLT, Nat.reduceLeDiff, implies_true, reduceCtorEq, forall_const]; simp; done))
        all_goals (try (simp only [es, LB, subS, subH, wfS, wfH, SV.ren, renL, SObj.ren, SV.wf, SObj.wf, wfL, SV.known, Nat.reduceEqDiff, ↓reduceIte, if_true, if_false, eq_self, Nat.reduceAdd, Nat.reduceLT, Nat.reduceLeDiff, implies_true, reduceCtorEq, forall_const]; (and_intros <;> (first | omega | rfl | (simp; done) | (simp; omega))); done))
        all_goals (try dsimp only)
        all_goals (and_intros <;> try (first | omega | (unfold In64; omega) | trivial | assumption))
      · have hkl : ¬ ((k + 1 : Nat) : Int) ≤ 4 := by omega
        obtain rfl : k = 4 := by omega
        have tk5 : (crlK R D 4).take 5 = crlK R D 4 := List.take_of_length_le (by omega)
        simp -implicitDefEqProofs only [lk_normal, hkl, cl, tk5, ZB, Int.reduceToNat, Nat.reduceLT, Nat.reduceLeDiff, Int.reduceLE, Int.reduceLT, Nat.reduceEqDiff, Nat.reduceSub, SB, SV.known, packR, ne_eq, reduceCtorEq, Nat.reduceEqDiff, ↓reduceIte, if_true, if_false, eq_self, Nat.reduceAdd, Nat.reduceMul, Nat.reduceSub, forall_const, oneCellS, litOne, flat1, Kd.isSca, flat, TYB]
        (try (and_intros <;> try (first | omega | (unfold In64; omega) | trivial | assumption)))
def CountRules_F : List SV → Heap → Option (Prop × SV)
  | [.arr R, .arr D], _ => some (R.length = 24 ∧ D.length = 6, .tup [.arr (crlF R D), .bool (forB R D)])
  | _, _ => none
theorem CountRules_T : ∀ args H p v, CountRules_F args H = some (p, v) → p → PureH Try.prog 31 args H v := by
  intro args H p v h hp
  unfold CountRules_F at h
  split at h
  · cases h; exact (CountRules_ok _ _ hp.1 hp.2).any _
  · cases h
def sCountRules_F : List SV → Heap → Option (Prop × SV)
  | [.arr R, .arr D], _ => some (R.length = 24 ∧ D.length = 6, .tup [.arr (crlF R D), .bool (forB R D)])
  | _, _ => none
theorem sCountRules_T : ∀ args H p v, sCountRules_F args H = some (p, v) → p → PureH Try.prog 32 args H v := by
  intro args H p v h hp
  unfold sCountRules_F at h
  split at h
  · cases h; exact (sCountRules_ok _ _ hp.1 hp.2).any _
  · cases h
end Go.Proofs.Ytopfnkmlgcjpbaa
set_option maxRecDepth 100000
set_option linter.unusedSimpArgs false
set_option linter.unusedVariables false
namespace Go.Proofs.Ytopfnkmlgcjpbaa
open Go Go.RowKit
theorem mov4 {R D : List Int} {i j : Int} (hR : R.length = 24) (hD : D.length = 6) (hf : forB R D = true) (hi : 0 ≤ i ∧ i ≤ 5) (hj : 0 ≤ j ∧ j ≤ 5) (h : ¬ movF R D 4 i j = 0) : movF R D 4 i j = 1 ∧ i ≠ j ∧ 0 < layN (tubeAt R i.toNat) ∧ 1 ≤ roomF R D j.toNat := by
  have ff := forB_facts hD hf
  have f2 := ff.2.2.2 j.toNat (by omega)
  have li := tubeAt_len hR (i := i.toNat) (by omega)
  have tz := top_zero _ li (tubeAt_ok ff.1 (by omega))
  unfold movF at h ⊢
  by_cases h1 : i = j ∨ (topF (tubeAt R i.toNat)).1 = 0 ∨ roomF R D j.toNat = 0
  · rw [if_pos h1] at h; exact absurd rfl h
  · rw [if_neg h1, if_pos rfl]
    refine ⟨rfl, by omega, by omega, by omega⟩
theorem turn_facts {R D : List Int} {i j : Int} (hR : R.length = 24) (hD : D.length = 6) (hf : forB R D = true) (hi : 0 ≤ i ∧ i ≤ 5) (hj : 0 ≤ j ∧ j ≤ 5) (h : ¬ movF R D 4 i j = 0) :
    forB (mvR R i.toNat j.toNat 1) D = true ∧ movF (mvR R i.toNat j.toNat 1) D 4 j i = 1 ∧ mvR (mvR R i.toNat j.toNat 1) j.toNat i.toNat 1 = R := by
  obtain ⟨h1, hij, h0, hroom⟩ := mov4 hR hD hf hi hj h
  have ff := forB_facts hD hf
  have hr := ff.1
  have f2 := ff.2.2.2 j.toNat (by omega)
  have f3 := ff.2.2.2 i.toNat (by omega)
  have hne : i.toNat ≠ j.toNat := by omega
  have hm2 : 1 + layN (tubeAt R j.toNat) ≤ 4 := by unfold roomF at hroom; omega
  obtain ⟨m1, m2, m3⟩ := mv_facts hR hr (i := i.toNat) (j := j.toNat) (by omega) (by omega) hne (m := 1) (by omega) hm2
  have ml : (mvR R i.toNat j.toNat 1).length = 24 := by rw [mvR_len, hR]
  have mr := mv_rack hR hr (i := i.toNat) (j := j.toNat) (by omega) (by omega) hne (m := 1) (by omega) hm2
  have hf' : forB (mvR R i.toNat j.toNat 1) D = true := by
    simp only [forB, Bool.and_eq_true]
    refine ⟨⟨mr, ff.2.1⟩, fit_none fun k hk => ?_⟩
    have f4 := ff.2.2.2 k hk
    by_cases hki : k = i.toNat
    · subst hki
      rw [m1.2]
      unfold roomF at f3
      omega
    · by_cases hkj : k = j.toNat
      · subst hkj
        rw [m2.2]
        unfold roomF at hroom
        omega
      · rw [m3 k hk hki hkj]
        unfold roomF at f4
        omega
  refine ⟨hf', ?_, ?_⟩
  · have tz := top_zero _ (tubeAt_len ml (i := j.toNat) (by omega)) m2.1
    have hn : ¬ (j = i ∨ (topF (tubeAt (mvR R i.toNat j.toNat 1) j.toNat)).1 = 0 ∨ roomF (mvR R i.toNat j.toNat 1) D i.toNat = 0) := by
      unfold roomF
      unfold roomF at f3
      rw [m1.2]
      rw [tz.1, m2.2]
      omega
    unfold movF
    rw [if_neg hn, if_pos rfl]
  · have c1 := mvR_cell hR (i := i.toNat) (j := j.toNat) (by omega) (by omega) hne 1 (by omega) hm2
    have c2 := mvR_cell ml (i := j.toNat) (j := i.toNat) (by omega) (by omega) (Ne.symm hne) 1 (by rw [m2.2]; omega) (by rw [m1.2]; have := lay_le _ (tubeAt_len hR (i := i.toNat) (by omega)); omega)
    have la := lay_le _ (tubeAt_len hR (i := i.toNat) (by omega))
    apply List.ext_getElem (by rw [mvR_len, ml, hR])
    intro q q1 q2
    have e1 : (mvR (mvR R i.toNat j.toNat 1) j.toNat i.toNat 1).getD q 0 = R.getD q 0 := by
      have hq : q = q / 4 * 4 + q % 4 := by omega
      rw [hq, c2 (q / 4) (q % 4) (by omega) (by omega), m2.2, m1.2]
      have cj := (tube_cells (tubeAt_len hR (i := j.toNat) (by omega)) (tubeAt_ok hr (by omega))).2
      by_cases hA : q / 4 = j.toNat ∧ layN (tubeAt R j.toNat) + 1 - 1 ≤ q % 4 ∧ q % 4 < layN (tubeAt R j.toNat) + 1
      · rw [if_pos hA]
        have := cj (q % 4) (by omega)
        rw [tubeAt_getD _ _ _ (by omega)] at this
        rw [hA.1, this]
      · rw [if_neg hA]
        by_cases hB : q / 4 = i.toNat ∧ layN (tubeAt R i.toNat) - 1 ≤ q % 4 ∧ q % 4 < layN (tubeAt R i.toNat) - 1 + 1
        · rw [if_pos hB]
          have hb : q % 4 = layN (tubeAt R i.toNat) - 1 := by omega
          rw [hb, Nat.sub_self, Nat.sub_zero, Nat.add_sub_cancel, c1 j.toNat (layN (tubeAt R j.toNat)) (by omega) (by omega), if_neg (by omega), if_pos (by omega), Nat.sub_self, Nat.sub_zero, hB.1]
        · rw [if_neg hB, c1 (q / 4) (q % 4) (by omega) (by omega), if_neg (by omega), if_neg (by omega)]
    simpa [List.getD, List.getElem?_eq_getElem q1, List.getElem?_eq_getElem q2] using e1
def tbT (R D : List Int) (i j : Int) : List Int := if pbyB R D 4 i j = true then R else List.replicate 24 0
theorem tbT_len {R : List Int} (hR : R.length = 24) (D : List Int) (i j : Int) : (tbT R D i j).length = 24 := by
  unfold tbT
  split
  · exact hR
  · rfl
--@tbl TurnBack = impl.TurnBack
--@tbl sTurnBack = spec.TurnBack
theorem TurnBack_ok (R D : List Int) (i j : Int) (hR : R.length = 24) (hD : D.length = 6) : PureH Try.prog 39 [.arr R, .arr D, .int i, .int j] [] (.tup [.arr (tbT R D i j), .bool (pbyB R D 4 i j)]) := by
  have tkR : R.take 24 = R := List.take_of_length_le (by omega)
  have tkD : D.take 6 = D := List.take_of_length_le (by omega)
  have r24 : List.take 24 (List.replicate 24 (0 : Int)) = List.replicate 24 0 := rfl
  have hl := pbyT_len hR D 4 i j
  unfold tbT
  cases hb : pbyB R D 4 i j
  all_goals
    refine pure_of_vc (X := ⟨Try.prog, tys, [(26, PourBy_F)], [], true, true, 0, [], []⟩) fn_39 ⟨tys_ok, (.cons PourBy_T .nil), .nil, mixed⟩ (n0 := 0) (Nat.le_of_ble_eq_true rfl) (by simp [wfL, SV.wf]) (wfH_spec (by simp [wfH, SObj.wf])) (Nat.le_refl _) (fun _ => by simp [SV.wf, wfL]) ?_
    simp -implicitDefEqProofs only [Try.f39, Option.getD_some, argS, PourBy_F, hR, hD, tkR, tkD, r24, hl, hb, ZB, Int.reduceToNat, Nat.reduceLT, Nat.reduceLeDiff, Int.reduceLE, Int.reduceLT, Nat.reduceEqDiff, Nat.reduceSub, SB, SV.known, packR, ne_eq, reduceCtorEq, Nat.reduceEqDiff, ↓reduceIte, if_true, if_false, eq_self, Nat.reduceAdd, Nat.reduceMul, Nat.reduceSub, forall_const, oneCellS, litOne, flat1, Kd.isSca, flat, TYB]
theorem sTurnBack_ok (R D : List Int) (i j : Int) (hR : R.length = 24) (hD : D.length = 6) : PureH Try.prog 40 [.arr R, .arr D, .int i, .int j] [] (.tup [.arr (tbT R D i j), .bool (pbyB R D 4 i j)]) := by
  have tkR : R.take 24 = R := List.take_of_length_le (by omega)
  have tkD : D.take 6 = D := List.take_of_length_le (by omega)
  have r24 : List.take 24 (List.replicate 24 (0 : Int)) = List.replicate 24 0 := rfl
  have hl := pbyT_len hR D 4 i j
  have tkT : (pbyT R D 4 i j).take 24 = pbyT R D 4 i j := List.take_of_length_le (by omega)
  unfold tbT
  cases hb : pbyB R D 4 i j
  · refine pure_of_vc (X := ⟨Try.prog, tys, [(27, sPourBy_F)], [], true, true, 0, [], []⟩) fn_40 ⟨tys_ok, (.cons sPourBy_T .nil), .nil, mixed⟩ (n0 := 0) (Nat.le_of_ble_eq_true rfl) (by simp [wfL, SV.wf]) (wfH_spec (by simp [wfH, SObj.wf])) (Nat.le_refl _) (fun _ => by simp [SV.wf, wfL]) ?_
    simp -implicitDefEqProofs only [Try.f40, Option.getD_some, argS, sPourBy_F, hR, hD, tkR, tkD, r24, hl, tkT, hb, ZB, Int.reduceToNat, Nat.reduceLT, Nat.reduceLeDiff, Int.reduceLE, Int.reduceLT, Nat.reduceEqDiff, Nat.reduceSub, SB, SV.known, packR, ne_eq, reduceCtorEq, Nat.reduceEqDiff, ↓reduceIte, if_true, if_false, eq_self, Nat.reduceAdd, Nat.reduceMul, Nat.reduceSub, forall_const, oneCellS, litOne, flat1, Kd.isSca, flat, TYB]
  · have hb2 := hb
    simp only [pbyB, Bool.and_eq_true, Bool.not_eq_true', decide_eq_false_iff_not] at hb2
    have bi := pl_bd hb2.1.1.2
    have bj := pl_bd hb2.1.2
    have m4 := mov4 hR hD hb2.1.1.1.1 bi bj hb2.2
    obtain ⟨t1, t2, t3⟩ := turn_facts hR hD hb2.1.1.1.1 bi bj hb2.2
    have e1 : pbyT R D 4 i j = mvR R i.toNat j.toNat 1 := by rw [pbyT, if_pos hb, m4.1]; rfl
    have ml : (mvR R i.toNat j.toNat 1).length = 24 := by rw [mvR_len, hR]
    have b2 : pbyB (mvR R i.toNat j.toNat 1) D 4 j i = true := by
      simp only [pbyB, Bool.and_eq_true, Bool.not_eq_true', decide_eq_false_iff_not]
      exact ⟨⟨⟨⟨t1, rfl⟩, hb2.1.2⟩, hb2.1.1.2⟩, by omega⟩
    have e2 : pbyT (mvR R i.toNat j.toNat 1) D 4 j i = R := by rw [pbyT, if_pos b2, t2]; exact t3
    rw [e1] at hl tkT
    refine pure_of_vc (X := ⟨Try.prog, tys, [(27, sPourBy_F)], [], true, true, 0, [], []⟩) fn_40 ⟨tys_ok, (.cons sPourBy_T .nil), .nil, mixed⟩ (n0 := 0) (Nat.le_of_ble_eq_true rfl) (by simp [wfL, SV.wf]) (wfH_spec (by simp [wfH, SObj.wf])) (Nat.le_refl _) (fun _ => by simp [SV.wf, wfL]) ?_
    simp -implicitDefEqProofs only [Try.f40, Option.getD_some, argS, sPourBy_F, hR, hD, tkR, tkD, r24, hl, tkT, hb, e1, b2, e2, ZB, Int.reduceToNat, Nat.reduceLT, Nat.reduceLeDiff, Int.reduceLE, Int.reduceLT, Nat.reduceEqDiff, Nat.reduceSub, SB, SV.known, packR, ne_eq, reduceCtorEq, Nat.reduceEqDiff, ↓reduceIte, if_true, if_false, eq_self, Nat.reduceAdd, Nat.reduceMul, Nat.reduceSub, forall_const, oneCellS, litOne, flat1, Kd.isSca, flat, TYB]
def TurnBack_F : List SV → Heap → Option (Prop × SV)
  | [.arr R, .arr D, .int i, .int j], _ => some (R.length = 24 ∧ D.length = 6, .tup [.arr (tbT R D i j), .bool (pbyB R D 4 i j)])
  | _, _ => none
theorem TurnBack_T : ∀ args H p v, TurnBack_F args H = some (p, v) → p → PureH Try.prog 39 args H v := by
  intro args H p v h hp
  unfold TurnBack_F at h
  split at h
  · cases h; exact (TurnBack_ok _ _ _ _ hp.1 hp.2).any _
  · cases h
def sTurnBack_F : List SV → Heap → Option (Prop × SV)
  | [.arr R, .arr D, .int i, .int j], _ => some (R.length = 24 ∧ D.length = 6, .tup [.arr (tbT R D i j), .bool (pbyB R D 4 i j)])
  | _, _ => none
theorem sTurnBack_T : ∀ args H p v, sTurnBack_F args H = some (p, v) → p → PureH Try.prog 40 args H v := by
  intro args H p v h hp
  unfold sTurnBack_F at h
  split at h
  · cases h; exact (sTurnBack_ok _ _ _ _ hp.1 hp.2).any _
  · cases h
end Go.Proofs.Ytopfnkmlgcjpbaa
set_option maxRecDepth 100000
set_option linter.unusedSimpArgs false
set_option linter.unusedVariables false
namespace Go.Proofs.Ytopfnkmlgcjpbaa
open Go Go.RowKit
--@tbl eqS2 = laws.eqIntA2S
/-! Marks. -/
end Go.Proofs.Ytopfnkmlgcjpbaa
set_option maxRecDepth 100000
set_option linter.unusedSimpArgs false
set_option linter.unusedVariables false
namespace Go.Proofs.Ytopfnkmlgcjpbaa
open Go Go.RowKit
def pbL (R D : List Int) (u : Int) : List Int := if forB R D = true ∧ ruF u = true then GL (pbB R D u) 36 else []
theorem PoursBy_ok (R D : List Int) (u : Int) (hR : R.length = 24) (hD : D.length = 6) : FreshP Try.prog 41 [.arr R, .arr D, .int u] [] (pbL R D u) ((pbL R D u).length / 2) 2 44 true (.more [.bool (forB R D && ruF u)]) := by
  have tkR : R.take 24 = R := List.take_of_length_le (by omega)
  have tkD : D.take 6 = D := List.take_of_length_le (by omega)
  unfold pbL
  cases hf : forB R D <;> cases hu : ruF u
  case true.true =>
    refine fresh_of_vc (X := ⟨Try.prog, tys, [(95, isFor_F), (96, isRule_F)], [(109, poursBy_F)], true, true, 0, [], []⟩) fn_41 ⟨tys_ok, (.cons isFor_T (.cons isRule_T .nil)), (.cons poursBy_T .nil), mixed⟩ (n0 := 0) rfl (Nat.le_of_ble_eq_true rfl) (by simp [wfL, SV.wf]) (wfH_spec (by simp [wfH, SObj.wf])) (Nat.le_refl _) ?_
    simp -implicitDefEqProofs only [Try.f41, Option.getD_some, argS, isFor_F, isRule_F, poursBy_F, hR, hD, tkR, tkD, hf, hu, freshK, Wrap.ap, ZB, Int.reduceToNat, Nat.reduceLT, Nat.reduceLeDiff, Int.reduceLE, Int.reduceLT, Nat.reduceEqDiff, Nat.reduceSub, SB, SV.known, packR, ne_eq, reduceCtorEq, Nat.reduceEqDiff, ↓reduceIte, if_true, if_false, eq_self, Nat.reduceAdd, Nat.reduceMul, Nat.reduceSub, forall_const, oneCellS, litOne, flat1, Kd.isSca, flat, TYB]
    exact ⟨fun h => .inl ⟨rfl, h, rfl⟩, fun h cap junk hj => .inr ⟨2, cap, junk, rfl, by simp [hget_cons], by omega, hj, by simpa using h⟩⟩
  all_goals
    refine fresh_of_vc (X := ⟨Try.prog, tys, [(95, isFor_F), (96, isRule_F)], [(109, poursBy_F)], true, true, 0, [], []⟩) fn_41 ⟨tys_ok, (.cons isFor_T (.cons isRule_T .nil)), (.cons poursBy_T .nil), mixed⟩ (n0 := 0) rfl (Nat.le_of_ble_eq_true rfl) (by simp [wfL, SV.wf]) (wfH_spec (by simp [wfH, SObj.wf])) (Nat.le_refl _) ?_
    simp -implicitDefEqProofs only [Try.f41, Option.getD_some, argS, isFor_F, isRule_F, poursBy_F, hR, hD, tkR, tkD, hf, hu, freshK, Wrap.ap, ZB, Int.reduceToNat, Nat.reduceLT, Nat.reduceLeDiff, Int.reduceLE, Int.reduceLT, Nat.reduceEqDiff, Nat.reduceSub, SB, SV.known, packR, ne_eq, reduceCtorEq, Nat.reduceEqDiff, ↓reduceIte, if_true, if_false, eq_self, Nat.reduceAdd, Nat.reduceMul, Nat.reduceSub, forall_const, oneCellS, litOne, flat1, Kd.isSca, flat, TYB]
    exact .inl ⟨rfl, rfl, rfl⟩
def PoursBy_F : List SV → Heap → Nat → Nat → K1 → Prop
  | [.arr R, .arr D, .int u], H, n, _, κ => (R.length = 24 ∧ D.length = 6) ∧ freshK (.more [.bool (forB R D && ruF u)]) (pbL R D u) ((pbL R D u).length / 2) 2 44 (true) H n κ
  | _, _, _, _, _ => False
--@tbl PoursBy = impl.PoursBy
theorem PoursBy_T : ∀ args H n m κ, PoursBy_F args H n m κ → GenOK Try.prog 41 args H n m κ := by
  intro args H n m κ h
  unfold PoursBy_F at h
  split at h
  · exact gen_of_fresh (PoursBy_ok _ _ _ h.1.1 h.1.2) (fun k o hk => by cases hk) h.2
  · exact h.elim
end Go.Proofs.Ytopfnkmlgcjpbaa
set_option maxRecDepth 100000
set_option linter.unusedSimpArgs false
set_option linter.unusedVariables false
namespace Go.Proofs.Ytopfnkmlgcjpbaa
open Go Go.RowKit
/-! DeleteFunc with a closure over a rack and depths. -/
def delRD_F (g : Nat) (pr : List Int → List Int → List Int → Bool) (Q : List Int → List Int → List Int → Prop) : List SV → Heap → Nat → Nat → K1 → Prop
  | [.slice b 0 len cap, .fn f [.ptr k 0, .ptr k2 0]], H, n, m, κ => match hget H b, hget H k, hget H k2 with
    | some (.ints L e), some (.ints R _), some (.ints D _) => f = g ∧ (R.length = 24 ∧ D.length = 6) ∧ L.length = cap * 2 ∧ len ≤ cap ∧ len ≤ 4611686018427387903 ∧ (b ≠ k ∧ b ≠ k2 ∧ k ≠ k2) ∧ m ≤ b ∧ (∀ i, i < len → Q R D ((L.drop (i * 2)).take 2)) ∧
        κ (.slice b 0 ((kept (fun x => !pr R D x) L len).length / 2) cap) ((b, .ints (kept (fun x => !pr R D x) L len ++ List.replicate (len * 2 - (kept (fun x => !pr R D x) L len).length) 0 ++ L.drop (len * 2)) e) :: H) n
    | _, _, _ => False
  | [.nils, .fn _ [.ptr k 0, .ptr k2 0]], H, n, _, κ => match hget H k, hget H k2 with
    | some (.ints _ _), some (.ints _ _) => κ .nils H n
    | _, _ => False
  | _, _, _, _, _ => False
--@tbl delRD = slices.DeleteFunc[[][2]int,[2]int]
theorem delRD_T (g : Nat) (pr : List Int → List Int → List Int → Bool) (Q : List Int → List Int → List Int → Prop) (hg : g ≠ 150) (hc : ∀ (R D : List Int) (e e' : Nat) (p : List Int), R.length = 24 → D.length = 6 → Q R D p → PureH Try.prog g [.arr p, .ptr 0 0, .ptr 1 0] [(0, .ints R e), (1, .ints D e')] (.bool (pr R D p))) :
    ∀ args H n m κ, delRD_F g pr Q args H n m κ → GenOK Try.prog 110 args H n m κ := by
  intro args H n m κ h
  unfold delRD_F at h
  split at h
  · rename_i b len cap f k k2
    split at h
    · rename_i L e R e2 D e3 h1 h2 h3
      obtain ⟨rfl, ⟨hR, hD⟩, hL, hlc, hm, ⟨hb1, hb2, hb3⟩, hmb, hQ, h⟩ := h
      have hu := deleteFunc_ok f hg [.ptr 0 0, .ptr 1 0] [(0, .ints R e2), (1, .ints D e3)] (pr R D) 2 L e len cap hL hlc hm (Q R D) hQ (fun x hx => hc R D e2 e3 x hR hD hx) (by simp [wfL, SV.wf]) (wfH_spec (by simp [wfH, SObj.wf]))
      have := gen_of_upd (H := H) (n := n) (m := m) (κ := κ) hu (fun j => if j = 2 then b else if j = 1 then k2 else k) (fun j o1 hj => by
        simp only [hget_cons] at hj
        split at hj
        · rename_i hj1; cases hj; rw [if_pos hj1]; exact h1
        · rename_i hj1
          rw [if_neg hj1]
          split at hj
          · rename_i hj0; cases hj; rw [if_neg (by omega)]; exact h2
          · split at hj
            · rename_i hj2; cases hj; rw [if_pos hj2]; exact h3
            · cases hj) (fun j1 o1 j2 o2 g1 g2 he => by
        have dom : ∀ j o, hget [(2, SObj.ints L e), (0, .ints R e2), (1, .ints D e3)] j = some o → j = 2 ∨ j = 0 ∨ j = 1 := fun j o hj => by
          simp only [hget_cons] at hj
          split at hj
          · omega
          · split at hj
            · omega
            · split at hj
              · omega
              · cases hj
        rcases dom j1 o1 g1 with rfl | rfl | rfl <;> rcases dom j2 o2 g2 with rfl | rfl | rfl <;> simp at he <;> omega) (by simpa using hmb) rfl (fun n hn => by simpa [SV.wf, SV.ren] using hn) (by simpa [SV.ren] using h)
      simpa [renL, SV.ren] using this
    · exact h.elim
  · rename_i f k k2
    split at h
    · have hp := deleteFunc_nil f [.ptr k 0, .ptr k2 0] [] (k + k2 + 1) (by simp [wfL, SV.wf]; omega) (hwf_nil _)
      refine ⟨hp.ent, fun B M w hH hwH hwa hown hM => ?_⟩
      refine (hp.call B w (HR.nil B w)).mono fun e w' hh => ?_
      exact ⟨.nils, H, n, B, hh.1, h, Nat.le_refl _, trivial, hwH, fun _ _ => rfl, hH.of_below hh.2, hown, Kept.of_below hh.2⟩
    · exact h.elim
  · exact h.elim
/-! The lists. -/
def comD (R D : List Int) (i j : Nat) : Bool := decide (0 < movF R D 1 i j) && (decide (0 < movF R D 2 i j) && decide (0 < movF R D 3 i j) && decide (0 < movF R D 4 i j))
def samD (R D : List Int) (i j : Nat) : Bool := decide (movF R D 3 i j = 1)
def comP (R D p : List Int) : Bool := !(decide (0 < movF R D 2 (p.getD 0 0) (p.getD 1 0)) && decide (0 < movF R D 3 (p.getD 0 0) (p.getD 1 0)) && decide (0 < movF R D 4 (p.getD 0 0) (p.getD 1 0)))
def samP (R D p : List Int) : Bool := !decide (movF R D 3 (p.getD 0 0) (p.getD 1 0) = 1)
def qRD (R D p : List Int) : Prop := forB R D = true ∧ okP p
theorem com1_ok (R D : List Int) (e e' : Nat) (p : List Int) (hR : R.length = 24) (hD : D.length = 6) (hq : qRD R D p) : PureH Try.prog 111 [.arr p, .ptr 0 0, .ptr 1 0] [(0, .ints R e), (1, .ints D e')] (.bool (comP R D p)) := by
  obtain ⟨hf, hp⟩ := hq
  have tkR : R.take 24 = R := List.take_of_length_le (by omega)
  have tkD : D.take 6 = D := List.take_of_length_le (by omega)
  have tkp := okP_take hp
  obtain ⟨pl, b0, b1⟩ := hp
  refine pure_of_vc (X := ⟨Try.prog, tys, [(98, movedBy_F)], [], true, true, 2, [], []⟩) fn_111 ⟨tys_ok, (.cons movedBy_T .nil), .nil, mixed⟩ (n0 := 2) (Nat.le_of_ble_eq_true rfl) (by simp [wfL, SV.wf]) (wfH_spec (by simp [wfH, SObj.wf])) (Nat.le_refl _) (fun _ => by simp [SV.wf, wfL]) ?_
  simp -implicitDefEqProofs only [Try.f111, Option.getD_some, argS, movedBy_F, hR, hD, tkR, tkD, pl, tkp, hf, ZB, Int.reduceToNat, Nat.reduceLT, Nat.reduceLeDiff, Int.reduceLE, Int.reduceLT, Nat.reduceEqDiff, Nat.reduceSub, SB, SV.known, packR, ne_eq, reduceCtorEq, Nat.reduceEqDiff, ↓reduceIte, if_true, if_false, eq_self, Nat.reduceAdd, Nat.reduceMul, Nat.reduceSub, forall_const, oneCellS, litOne, flat1, Kd.isSca, flat, TYB]
  refine loop_intro (fun k : Nat => [(5, .int ((k + 2 : Nat) : Int)), (4, .bool false), (3, .ptr 2 0), (1, .ptr 0 0), (2, .ptr 1 0)]) (fun _ => [(2, .ints p 44), (0, .ints R e), (1, .ints D e')]) 3 (fun k => k ≤ 3 ∧ ∀ q, q < k → 0 < movF R D ((q + 2 : Nat) : Int) (p.getD 0 0) (p.getD 1 0)) (fun k => 3 - k) ?_ ?_
  · refine ⟨0, ?_, Sub.mk_id ?_ ?_ ?_ ?_ ?_⟩
    all_goals (try (simp only [LB, subS, subH, wfS, wfH, SV.ren, renL, SObj.ren, SV.wf, SObj.wf, wfL, SV.known, Nat.reduceEqDiff, ↓reduceIte, if_true, if_false, eq_self, Nat.reduceAdd, Nat.reduceLT, Nat.reduceLeDiff, implies_true, reduceCtorEq, forall_const]; done))
    all_goals (try (simp only [LB, subS, subH, wfS, wfH, SV.ren, renL, SObj.ren, SV.wf, SObj.wf, wfL, SV.known, Nat.reduceEqDiff, ↓reduceIte, if_true, if_false, eq_self, Nat.reduceAdd, Nat.reduceLT, Nat.reduceLeDiff, implies_true, reduceCtorEq, forall_const]; simp; done))
    all_goals (try (simp only [LB, subS, subH, wfS, wfH, SV.ren, renL, SObj.ren, SV.wf, SObj.wf, wfL, SV.known, Nat.reduceEqDiff, ↓reduceIte, if_true, if_false, eq_self, Nat.reduceAdd, Nat.reduceLT, Nat.reduceLeDiff, implies_true, reduceCtorEq, forall_const]; (and_intros <;> (first | omega | rfl | (simp; done) | (simp; omega))); done))
    all_goals (try dsimp only)
    all_goals (and_intros <;> try (first | omega | (unfold In64; omega) | trivial | assumption))
  · rintro k ⟨hk, hall⟩
    have mb := (movF_bd (u := ((k + 2 : Nat) : Int)) hR hD hf b0 b1).1
    by_cases hkt : k < 3
    · have hkl : ((k + 2 : Nat) : Int) ≤ 4 := by omega
      simp -implicitDefEqProofs only [lk_normal, movedBy_F, hkl, hR, hD, tkR, tkD, pl, tkp, hf, ZB, Int.reduceToNat, Nat.reduceLT, Nat.reduceLeDiff, Int.reduceLE, Int.reduceLT, Nat.reduceEqDiff, Nat.reduceSub, SB, SV.known, packR, ne_eq, reduceCtorEq, Nat.reduceEqDiff, ↓reduceIte, if_true, if_false, eq_self, Nat.reduceAdd, Nat.reduceMul, Nat.reduceSub, forall_const, oneCellS, litOne, flat1, Kd.isSca, flat, TYB]
      refine ⟨⟨b0, b1⟩, fun h0 => ?_, fun h0 => ?_⟩
      · have h3 : k = 0 ∨ k = 1 ∨ k = 2 := by omega
        rcases h3 with rfl | rfl | rfl <;> (simp at h0; simp [comP, h0])
      · refine ⟨by unfold In64; omega, ?_⟩
        refine ⟨k + 1, ?_, ?_, Sub.mk_id ?_ ?_ ?_ ?_ ?_⟩
        all_goals (try (simp only [Nat.add_right_comm k 1 2, LB, subS, subH, wfS, wfH, SV.ren, renL, SObj.ren, SV.wf, SObj.wf, wfL, SV.known, Nat.reduceEqDiff, ↓reduceIte, if_true, if_false, eq_self, Nat.reduceAdd, Nat.reduceLT, Nat.reduceLeDiff, implies_true, reduceCtorEq, forall_const]; done))
        all_goals (try (simp only [Nat.add_right_comm k 1 2, LB, subS, subH, wfS, wfH, SV.ren, renL, SObj.ren, SV.wf, SObj.wf, wfL, SV.known, Nat.reduceEqDiff, ↓reduceIte, if_true, if_false, eq_self, Nat.reduceAdd, Nat.reduceLT, Nat.reduceLeDiff, implies_true, reduceCtorEq, forall_const]; simp; done))
        all_goals (try (simp only [Nat.add_right_comm k 1 2, LB, subS, subH, wfS, wfH, SV.ren, renL, SObj.ren, SV.wf, SObj.wf, wfL, SV.known, Nat.reduceEqDiff, ↓reduceIte, if_true, if_false, eq_self, Nat.reduceAdd, Nat.reduceLT, Nat.reduceLeDiff, implies_true, reduceCtorEq, forall_const]; (and_intros <;> (first | omega | rfl | (simp; done) | (simp; omega))); done))
        all_goals (try dsimp only)
        all_goals (and_intros <;> try (first | omega | (unfold In64; omega) | trivial | assumption))
        all_goals (intro q hq; by_cases hqk : q = k)
        · subst hqk; omega
        · exact hall q (by omega)
    · have hkl : ¬ ((k + 2 : Nat) : Int) ≤ 4 := by omega
      obtain rfl : k = 3 := by omega
      have h0 := hall 0 (by omega)
      have h1 := hall 1 (by omega)
      have h2 := hall 2 (by omega)
      simp -implicitDefEqProofs only [lk_normal, hkl, ZB, Int.reduceToNat, Nat.reduceLT, Nat.reduceLeDiff, Int.reduceLE, Int.reduceLT, Nat.reduceEqDiff, Nat.reduceSub, SB, SV.known, packR, ne_eq, reduceCtorEq, Nat.reduceEqDiff, ↓reduceIte, if_true, if_false, eq_self, Nat.reduceAdd, Nat.reduceMul, Nat.reduceSub, forall_const, oneCellS, litOne, flat1, Kd.isSca, flat, TYB]
      simp at h0 h1 h2
      simp [comP, h0, h1, h2]
theorem sam1_ok (R D : List Int) (e e' : Nat) (p : List Int) (hR : R.length = 24) (hD : D.length = 6) (hq : qRD R D p) : PureH Try.prog 112 [.arr p, .ptr 0 0, .ptr 1 0] [(0, .ints R e), (1, .ints D e')] (.bool (samP R D p)) := by
  obtain ⟨hf, hp⟩ := hq
  have tkR : R.take 24 = R := List.take_of_length_le (by omega)
  have tkD : D.take 6 = D := List.take_of_length_le (by omega)
  have tkp := okP_take hp
  obtain ⟨pl, b0, b1⟩ := hp
  refine pure_of_vc (X := ⟨Try.prog, tys, [(98, movedBy_F)], [], true, true, 2, [], []⟩) fn_112 ⟨tys_ok, (.cons movedBy_T .nil), .nil, mixed⟩ (n0 := 2) (Nat.le_of_ble_eq_true rfl) (by simp [wfL, SV.wf]) (wfH_spec (by simp [wfH, SObj.wf])) (Nat.le_refl _) (fun _ => by simp [SV.wf, wfL]) ?_
  simp -implicitDefEqProofs only [Try.f112, Option.getD_some, argS, movedBy_F, hR, hD, tkR, tkD, pl, tkp, hf, ZB, Int.reduceToNat, Nat.reduceLT, Nat.reduceLeDiff, Int.reduceLE, Int.reduceLT, Nat.reduceEqDiff, Nat.reduceSub, SB, SV.known, packR, ne_eq, reduceCtorEq, Nat.reduceEqDiff, ↓reduceIte, if_true, if_false, eq_self, Nat.reduceAdd, Nat.reduceMul, Nat.reduceSub, forall_const, oneCellS, litOne, flat1, Kd.isSca, flat, TYB]
  exact ⟨⟨b0, b1⟩, rfl⟩
--@com
theorem mov3_1 {R D : List Int} {i j : Int} (h : movF R D 3 i j = 1) : movF R D 1 i j = 1 := by
  unfold movF at *
  split at h
  · omega
  · rename_i h1
    rw [if_neg h1]
    simp only [show ¬ ((3 : Int) = 4) by omega, show ¬ ((1 : Int) = 4) by omega, if_false, show ¬ ((3 : Int) = 2) by omega, show ¬ ((1 : Int) = 2) by omega, show ¬ ((1 : Int) = 3) by omega, true_and, false_and] at h ⊢
    split at h
    · omega
    · rename_i h2
      rw [if_neg h2]
      split at h
      · omega
      · exact h
def bothN (R D : List Int) (a b : Int) (r : Nat) : Bool := (List.range r).all fun q => decide (0 < movF R D ((q + 1 : Nat) : Int) a b)
theorem bothN_zero (R D : List Int) (a b : Int) : bothN R D a b 0 = true := rfl
theorem bothN_succ (R D : List Int) (a b : Int) (r : Nat) : bothN R D a b (r + 1) = (bothN R D a b r && decide (0 < movF R D ((r + 1 : Nat) : Int) a b)) := by simp [bothN, List.range_succ]
def comQ (R D p : List Int) : Bool := decide (0 < movF R D 1 (p.getD 0 0) (p.getD 1 0)) && decide (0 < movF R D 2 (p.getD 0 0) (p.getD 1 0)) && decide (0 < movF R D 3 (p.getD 0 0) (p.getD 1 0)) && decide (0 < movF R D 4 (p.getD 0 0) (p.getD 1 0))
def samQ (R D p : List Int) : Bool := decide (movF R D 1 (p.getD 0 0) (p.getD 1 0) = 1) && decide (movF R D 3 (p.getD 0 0) (p.getD 1 0) = 1)
def comL (R D : List Int) : List Int := if forB R D = true then GL (comD R D) 36 else []
theorem com_kept (R D : List Int) (m : Nat) (hm : (GL (pbB R D 1) 36).length = m * 2) : kept (fun p => !comP R D p) (GL (pbB R D 1) 36) m = GL (comD R D) 36 := by
  obtain ⟨n, h1, h2⟩ := kept_GL (pbB R D 1) (comD R D) (fun p => !comP R D p) (fun i j _ _ hc => by
    unfold pbB at hc
    simp [comP, comD, hc, Bool.and_assoc]) (fun i j _ _ hc => by
    unfold comD at hc
    unfold pbB
    simp only [Bool.and_eq_true] at hc; exact hc.1) 36 (by omega)
  obtain rfl : n = m := by omega
  exact h2
def comDel_F := delRD_F 111 comP qRD
--@tbl comDel = slices.DeleteFunc[[][2]int,[2]int]
theorem comDel_T : ∀ args H n m κ, comDel_F args H n m κ → GenOK Try.prog 110 args H n m κ := delRD_T _ _ _ (by decide) com1_ok
theorem CommonPours_ok (R D : List Int) (hR : R.length = 24) (hD : D.length = 6) : FreshP Try.prog 33 [.arr R, .arr D] [] (comL R D) ((comL R D).length / 2) 2 44 (decide (forB R D = false ∨ GL (pbB R D 1) 36 = [])) (.more [.bool (forB R D)]) := by
  have tkR : R.take 24 = R := List.take_of_length_le (by omega)
  have tkD : D.take 6 = D := List.take_of_length_le (by omega)
  unfold comL
  cases hf : forB R D
  · refine fresh_of_vc (X := ⟨Try.prog, tys, [(95, isFor_F)], [(109, poursBy_F), (110, comDel_F)], true, true, 0, [], []⟩) fn_33 ⟨tys_ok, (.cons isFor_T .nil), (.cons poursBy_T (.cons comDel_T .nil)), mixed⟩ (n0 := 0) rfl (Nat.le_of_ble_eq_true rfl) (by simp [wfL, SV.wf]) (wfH_spec (by simp [wfH, SObj.wf])) (Nat.le_refl _) ?_
    simp -implicitDefEqProofs only [Try.f33, Option.getD_some, argS, isFor_F, poursBy_F, comDel_F, hR, hD, tkR, tkD, hf, freshK, Wrap.ap, ZB, Int.reduceToNat, Nat.reduceLT, Nat.reduceLeDiff, Int.reduceLE, Int.reduceLT, Nat.reduceEqDiff, Nat.reduceSub, SB, SV.known, packR, ne_eq, reduceCtorEq, Nat.reduceEqDiff, ↓reduceIte, if_true, if_false, eq_self, Nat.reduceAdd, Nat.reduceMul, Nat.reduceSub, forall_const, oneCellS, litOne, flat1, Kd.isSca, flat, TYB]
    exact .inl ⟨by simp, rfl, rfl⟩
  · refine fresh_of_vc (X := ⟨Try.prog, tys, [(95, isFor_F)], [(109, poursBy_F), (110, comDel_F)], true, true, 0, [], []⟩) fn_33 ⟨tys_ok, (.cons isFor_T .nil), (.cons poursBy_T (.cons comDel_T .nil)), mixed⟩ (n0 := 0) rfl (Nat.le_of_ble_eq_true rfl) (by simp [wfL, SV.wf]) (wfH_spec (by simp [wfH, SObj.wf])) (Nat.le_refl _) ?_
    simp -implicitDefEqProofs only [Try.f33, Option.getD_some, argS, isFor_F, poursBy_F, comDel_F, hR, hD, tkR, tkD, hf, freshK, Wrap.ap, comDel_F, delRD_F, ZB, Int.reduceToNat, Nat.reduceLT, Nat.reduceLeDiff, Int.reduceLE, Int.reduceLT, Nat.reduceEqDiff, Nat.reduceSub, SB, SV.known, packR, ne_eq, reduceCtorEq, Nat.reduceEqDiff, ↓reduceIte, if_true, if_false, eq_self, Nat.reduceAdd, Nat.reduceMul, Nat.reduceSub, forall_const, oneCellS, litOne, flat1, Kd.isSca, flat, TYB]
    obtain ⟨m, hm, hm36⟩ := GL_even (pbB R D 1) 36
    have e2 : (GL (pbB R D 1) 36).length / 2 = m := by omega
    have ck := com_kept R D m hm
    refine ⟨fun h0 => ?_, fun h0 cap junk hj => ?_⟩
    · refine .inl ⟨by simp [h0], ?_, rfl⟩
      rw [← ck, show m = 0 by rw [h0] at hm; simp at hm; omega]; rfl
    · have ka := kept_app (fun p => !comP R D p) (GL (pbB R D 1) 36) junk m (by omega)
      obtain ⟨k, hk, hkm⟩ := kept_even (fun p => !comP R D p) (GL (pbB R D 1) 36) m (by omega)
      rw [e2, ka, ck]
      rw [ck] at hk
      refine ⟨by rw [List.length_append]; omega, by omega, by omega, fun i hi => ⟨hf, GL_okP _ i junk (by omega)⟩, .inr ⟨2, cap, List.replicate (m * 2 - (GL (comD R D) 36).length) 0 ++ List.drop (m * 2) (GL (pbB R D 1) 36 ++ junk), ?_, ?_, by omega, ?_, by simp [h0]⟩⟩
      · rfl
      · rw [hget_cons, if_pos rfl, List.append_assoc]
      · rw [List.length_append, List.length_replicate, List.length_drop, List.length_append]
        omega
theorem scom_kept (R D : List Int) (m : Nat) (hm : (GL (pbB R D 1) 36).length = m * 2) : kept (fun p => comQ R D p) (GL (pbB R D 1) 36) m = GL (comD R D) 36 := by
  obtain ⟨n, h1, h2⟩ := kept_GL (pbB R D 1) (comD R D) (fun p => comQ R D p) (fun i j _ _ hc => by
    unfold pbB at hc
    simp only [comQ, comD, List.getD_cons_zero, List.getD_cons_succ]
    simp [hc, Bool.and_assoc]) (fun i j _ _ hc => by
    unfold comD at hc
    unfold pbB
    simp only [Bool.and_eq_true] at hc; exact hc.1) 36 (by omega)
  obtain rfl : n = m := by omega
  exact h2
theorem sCommonPours_ok (R D : List Int) (hR : R.length = 24) (hD : D.length = 6) : FreshP Try.prog 34 [.arr R, .arr D] [] (comL R D) ((comL R D).length / 2) 2 44 false (.more [.bool (forB R D)]) := by
  have tkR : R.take 24 = R := List.take_of_length_le (by omega)
  have tkD : D.take 6 = D := List.take_of_length_le (by omega)
  unfold comL
  have hru : ruF 1 = true := by decide
  have hru3 : ruF 3 = true := by decide
  cases hf : forB R D
  · refine fresh_of_vc (X := ⟨Try.prog, tys, [(91, l8Fits2_F), (102, l8Moves_F)], [(93, l8Pours_F)], true, true, 0, [], []⟩) fn_34 ⟨tys_ok, (.cons l8Fits2_T (.cons l8Moves_T .nil)), (.cons l8Pours_T .nil), mixed⟩ (n0 := 0) rfl (Nat.le_of_ble_eq_true rfl) (by simp [wfL, SV.wf]) (wfH_spec (by simp [wfH, SObj.wf])) (Nat.le_refl _) ?_
    simp -implicitDefEqProofs only [Try.f34, Option.getD_some, argS, l8Fits2_F, l8Moves_F, l8Pours_F, hR, hD, tkR, tkD, hf, freshK, Wrap.ap, ZB, Int.reduceToNat, Nat.reduceLT, Nat.reduceLeDiff, Int.reduceLE, Int.reduceLT, Nat.reduceEqDiff, Nat.reduceSub, SB, SV.known, packR, ne_eq, reduceCtorEq, Nat.reduceEqDiff, ↓reduceIte, if_true, if_false, eq_self, Nat.reduceAdd, Nat.reduceMul, Nat.reduceSub, forall_const, oneCellS, litOne, flat1, Kd.isSca, flat, TYB]
    exact .inr ⟨2, 0, [], by simp [Wrap.ap], by simp [hget_cons], by omega, by simp, by simp⟩
  obtain ⟨m, hm, hm36⟩ := GL_even (pbB R D 1) 36
  have e2 : (GL (pbB R D 1) 36).length / 2 = m := by omega
  have ck := scom_kept R D m hm
  refine fresh_of_vc (X := ⟨Try.prog, tys, [(91, l8Fits2_F), (102, l8Moves_F)], [(93, l8Pours_F)], true, true, 0, [], []⟩) fn_34 ⟨tys_ok, (.cons l8Fits2_T (.cons l8Moves_T .nil)), (.cons l8Pours_T .nil), mixed⟩ (n0 := 0) rfl (Nat.le_of_ble_eq_true rfl) (by simp [wfL, SV.wf]) (wfH_spec (by simp [wfH, SObj.wf])) (Nat.le_refl _) ?_
  simp -implicitDefEqProofs only [Try.f34, Option.getD_some, argS, l8Fits2_F, l8Moves_F, l8Pours_F, hR, hD, tkR, tkD, hf, hru, e2, freshK, Wrap.ap, ZB, Int.reduceToNat, Nat.reduceLT, Nat.reduceLeDiff, Int.reduceLE, Int.reduceLT, Nat.reduceEqDiff, Nat.reduceSub, SB, SV.known, packR, ne_eq, reduceCtorEq, Nat.reduceEqDiff, ↓reduceIte, if_true, if_false, eq_self, Nat.reduceAdd, Nat.reduceMul, Nat.reduceSub, forall_const, oneCellS, litOne, flat1, Kd.isSca, flat, TYB]
  have hbd : Bd 0 5 (GL (pbB R D 1) 36) := GL_mem (by omega)
  rw [← ck]
  generalize GL (pbB R D 1) 36 = P at *
  intro cap junk hj
  refine loop_intro (fun s : Nat × Nat × Nat × List Int => [(8, .int s.1), (7, .slice 3 0 m cap), (6, .slice 2 0 s.2.1 s.2.2.1), (3, .ptr 1 0), (2, .ptr 0 0)]) (fun s => [(2, .ints (kept (fun p => comQ R D p) P s.1 ++ s.2.2.2) 44), (3, .ints (P ++ junk) 44), (1, .ints D 51), (0, .ints R 27)]) 4
    (fun s => s.1 ≤ m ∧ (kept (fun p => comQ R D p) P s.1).length = s.2.1 * 2 ∧ s.2.1 ≤ s.1 ∧ s.2.2.2.length + s.2.1 * 2 = s.2.2.1 * 2) (fun s => m - s.1) ?_ ?_
  · refine ⟨(0, 0, 0, []), ?_, Sub.mk_id ?_ ?_ ?_ ?_ ?_⟩
    all_goals (try (simp only [kept_zero, List.append_nil, LB, subS, subH, wfS, wfH, SV.ren, renL, SObj.ren, SV.wf, SObj.wf, wfL, SV.known, Nat.reduceEqDiff, ↓reduceIte, if_true, if_false, eq_self, Nat.reduceAdd, Nat.reduceLT, Nat.reduceLeDiff, implies_true, reduceCtorEq, forall_const]; done))
    all_goals (try (simp only [kept_zero, List.append_nil, LB, subS, subH, wfS, wfH, SV.ren, renL, SObj.ren, SV.wf, SObj.wf, wfL, SV.known, Nat.reduceEqDiff, ↓reduceIte, if_true, if_false, eq_self, Nat.reduceAdd, Nat.reduceLT, Nat.reduceLeDiff, implies_true, reduceCtorEq, forall_const]; simp; done))
    all_goals (try (simp only [kept_zero, List.append_nil, LB, subS, subH, wfS, wfH, SV.ren, renL, SObj.ren, SV.wf, SObj.wf, wfL, SV.known, Nat.reduceEqDiff, ↓reduceIte, if_true, if_false, eq_self, Nat.reduceAdd, Nat.reduceLT, Nat.reduceLeDiff, implies_true, reduceCtorEq, forall_const]; (and_intros <;> (first | omega | rfl | (simp; done) | (simp; omega))); done))
    all_goals (try dsimp only)
    all_goals (and_intros <;> try (first | omega | (unfold In64; omega) | trivial | assumption))
    all_goals simp [kept_zero]
  · rintro ⟨i, n, capo, jo⟩ ⟨hi, hL, hni, hjo⟩
    simp only at hi hL hni hjo
    have lenL : (kept (fun p => comQ R D p) P i ++ jo).length = capo * 2 := by rw [List.length_append]; omega
    have tkL : (kept (fun p => comQ R D p) P i ++ jo).take (n * 2) = kept (fun p => comQ R D p) P i := List.take_left' hL
    have lenP : (P ++ junk).length = cap * 2 := by rw [List.length_append]; omega
    by_cases hlt : i < m
    · have hil : (i : Int) < m := by omega
      have g0 := getD_app P junk (i * 2) (by omega)
      have g1 := getD_app P junk (i * 2 + 1) (by omega)
      have bA : 0 ≤ P.getD (i * 2) 0 ∧ P.getD (i * 2) 0 ≤ 5 := hbd.getD (by omega)
      have bB : 0 ≤ P.getD (i * 2 + 1) 0 ∧ P.getD (i * 2 + 1) 0 ≤ 5 := hbd.getD (by omega)
      have eP : List.take 2 (List.drop (i * 2) (P ++ junk)) = [P.getD (i * 2) 0, P.getD (i * 2 + 1) 0] := by
        rw [take2_drop _ _ (by rw [List.length_append]; omega), g0, g1]
      have eQ : List.take 2 (List.drop (i * 2) P) = [P.getD (i * 2) 0, P.getD (i * 2 + 1) 0] := take2_drop _ _ (by omega)
      have es := kept_succ (fun p => comQ R D p) P i
      rw [eQ] at es
      have hc0 : comQ R D [P.getD (i * 2) 0, P.getD (i * 2 + 1) 0] = bothN R D (P.getD (i * 2) 0) (P.getD (i * 2 + 1) 0) 4 := by
        simp [comQ, bothN, List.range_succ, Bool.and_assoc]
      rw [hc0] at es
      simp -implicitDefEqProofs only [lk_normal, hil, lenP, ZB, Int.reduceToNat, Nat.reduceLT, Nat.reduceLeDiff, Int.reduceLE, Int.reduceLT, Nat.reduceEqDiff, Nat.reduceSub, SB, SV.known, packR, ne_eq, reduceCtorEq, Nat.reduceEqDiff, ↓reduceIte, if_true, if_false, eq_self, Nat.reduceAdd, Nat.reduceMul, Nat.reduceSub, forall_const, oneCellS, litOne, flat1, Kd.isSca, flat, TYB]
      refine loop_intro (fun r : Nat => [(10, .int ((r + 1 : Nat) : Int)), (9, .bool (bothN R D (P.getD (i * 2) 0) (P.getD (i * 2 + 1) 0) r)), (8, .int i), (7, .slice 3 0 m cap), (6, .slice 2 0 n capo), (3, .ptr 1 0), (2, .ptr 0 0)]) (fun _ => [(2, .ints (kept (fun p => comQ R D p) P i ++ jo) 44), (3, .ints (P ++ junk) 44), (1, .ints D 51), (0, .ints R 27)]) 4 (fun r => r ≤ 4) (fun r => 4 - r) ?_ ?_
      · refine ⟨0, ?_, Sub.mk_id ?_ ?_ ?_ ?_ ?_⟩
        all_goals (try (simp only [bothN_zero, LB, subS, subH, wfS, wfH, SV.ren, renL, SObj.ren, SV.wf, SObj.wf, wfL, SV.known, Nat.reduceEqDiff, ↓reduceIte, if_true, if_false, eq_self, Nat.reduceAdd, Nat.reduceLT, Nat.reduceLeDiff, implies_true, reduceCtorEq, forall_const]; done))
        all_goals (try (simp only [bothN_zero, LB, subS, subH, wfS, wfH, SV.ren, renL, SObj.ren, SV.wf, SObj.wf, wfL, SV.known, Nat.reduceEqDiff, ↓reduceIte, if_true, if_false, eq_self, Nat.reduceAdd, Nat.reduceLT, Nat.reduceLeDiff, implies_true, reduceCtorEq, forall_const]; simp; done))
        all_goals (try (simp only [bothN_zero, LB, subS, subH, wfS, wfH, SV.ren, renL, SObj.ren, SV.wf, SObj.wf, wfL, SV.known, Nat.reduceEqDiff, ↓reduceIte, if_true, if_false, eq_self, Nat.reduceAdd, Nat.reduceLT, Nat.reduceLeDiff, implies_true, reduceCtorEq, forall_const]; (and_intros <;> (first | omega | rfl | (simp; done) | (simp; omega))); done))
        all_goals (try dsimp only)
        all_goals (and_intros <;> try (first | omega | (unfold In64; omega) | trivial | assumption))
      · intro r hr
        have hbs := bothN_succ R D (P.getD (i * 2) 0) (P.getD (i * 2 + 1) 0) r
        by_cases hrl : r < 4
        · have hrl' : ((r + 1 : Nat) : Int) ≤ 4 := by omega
          have hrr : ruF ((r + 1 : Nat) : Int) = true := by simp [ruF]; omega
          cases hb : bothN R D (P.getD (i * 2) 0) (P.getD (i * 2 + 1) 0) r with
          | false =>
            rw [hb] at hbs
            simp only [Bool.false_and] at hbs
            simp -implicitDefEqProofs only [lk_normal, hrl', hb, lenP, ZB, Int.reduceToNat, Nat.reduceLT, Nat.reduceLeDiff, Int.reduceLE, Int.reduceLT, Nat.reduceEqDiff, Nat.reduceSub, SB, SV.known, packR, ne_eq, reduceCtorEq, Nat.reduceEqDiff, ↓reduceIte, if_true, if_false, eq_self, Nat.reduceAdd, Nat.reduceMul, Nat.reduceSub, forall_const, oneCellS, litOne, flat1, Kd.isSca, flat, TYB]
            refine ⟨by unfold In64; omega, ?_⟩
            refine ⟨r + 1, ?_, ?_, Sub.mk_id ?_ ?_ ?_ ?_ ?_⟩
            all_goals (try (simp only [hbs, LB, subS, subH, wfS, wfH, SV.ren, renL, SObj.ren, SV.wf, SObj.wf, wfL, SV.known, Nat.reduceEqDiff, ↓reduceIte, if_true, if_false, eq_self, Nat.reduceAdd, Nat.reduceLT, Nat.reduceLeDiff, implies_true, reduceCtorEq, forall_const]; done))
            all_goals (try (simp only [hbs, LB, subS, subH, wfS, wfH, SV.ren, renL, SObj.ren, SV.wf, SObj.wf, wfL, SV.known, Nat.reduceEqDiff, ↓reduceIte, if_true, if_false, eq_self, Nat.reduceAdd, Nat.reduceLT, Nat.reduceLeDiff, implies_true, reduceCtorEq, forall_const]; simp; done))
            all_goals (try (simp only [hbs, LB, subS, subH, wfS, wfH, SV.ren, renL, SObj.ren, SV.wf, SObj.wf, wfL, SV.known, Nat.reduceEqDiff, ↓reduceIte, if_true, if_false, eq_self, Nat.reduceAdd, Nat.reduceLT, Nat.reduceLeDiff, implies_true, reduceCtorEq, forall_const]; (and_intros <;> (first | omega | rfl | (simp; done) | (simp; omega))); done))
            all_goals (try dsimp only)
            all_goals (and_intros <;> try (first | omega | (unfold In64; omega) | trivial | assumption))
          | true =>
            rw [hb] at hbs
            simp only [Bool.true_and] at hbs
            simp -implicitDefEqProofs only [lk_normal, l8Moves_F, hrl', hb, hR, hD, tkR, tkD, hf, hrr, g0, g1, eP, lenP, ZB, Int.reduceToNat, Nat.reduceLT, Nat.reduceLeDiff, Int.reduceLE, Int.reduceLT, Nat.reduceEqDiff, Nat.reduceSub, SB, SV.known, packR, ne_eq, reduceCtorEq, Nat.reduceEqDiff, ↓reduceIte, if_true, if_false, eq_self, Nat.reduceAdd, Nat.reduceMul, Nat.reduceSub, forall_const, oneCellS, litOne, flat1, Kd.isSca, flat, TYB]
            (try (and_intros <;> try (first | omega | (unfold In64; omega) | trivial | assumption)))
            refine ⟨r + 1, ?_, ?_, Sub.mk_id ?_ ?_ ?_ ?_ ?_⟩
            all_goals (try (simp only [hbs, LB, subS, subH, wfS, wfH, SV.ren, renL, SObj.ren, SV.wf, SObj.wf, wfL, SV.known, Nat.reduceEqDiff, ↓reduceIte, if_true, if_false, eq_self, Nat.reduceAdd, Nat.reduceLT, Nat.reduceLeDiff, implies_true, reduceCtorEq, forall_const]; done))
            all_goals (try (simp only [hbs, LB, subS, subH, wfS, wfH, SV.ren, renL, SObj.ren, SV.wf, SObj.wf, wfL, SV.known, Nat.reduceEqDiff, ↓reduceIte, if_true, if_false, eq_self, Nat.reduceAdd, Nat.reduceLT, Nat.reduceLeDiff, implies_true, reduceCtorEq, forall_const]; simp; done))
            all_goals (try (simp only [hbs, LB, subS, subH, wfS, wfH, SV.ren, renL, SObj.ren, SV.wf, SObj.wf, wfL, SV.known, Nat.reduceEqDiff, ↓reduceIte, if_true, if_false, eq_self, Nat.reduceAdd, Nat.reduceLT, Nat.reduceLeDiff, implies_true, reduceCtorEq, forall_const]; (and_intros <;> (first | omega | rfl | (simp; done) | (simp; omega))); done))
            all_goals (try dsimp only)
            all_goals (and_intros <;> try (first | omega | (unfold In64; omega) | trivial | assumption))
        · have hrl' : ¬ ((r + 1 : Nat) : Int) ≤ 4 := by omega
          obtain rfl : r = 4 := by omega
          cases hb : bothN R D (P.getD (i * 2) 0) (P.getD (i * 2 + 1) 0) 4 with
          | true =>
            rw [hb] at es
            simp only [if_true] at es
            simp -implicitDefEqProofs only [lk_normal, hrl', hb, g0, g1, eP, lenP, lenL, tkL, ZB, Int.reduceToNat, Nat.reduceLT, Nat.reduceLeDiff, Int.reduceLE, Int.reduceLT, Nat.reduceEqDiff, Nat.reduceSub, SB, SV.known, packR, ne_eq, reduceCtorEq, Nat.reduceEqDiff, ↓reduceIte, if_true, if_false, eq_self, Nat.reduceAdd, Nat.reduceMul, Nat.reduceSub, forall_const, oneCellS, litOne, flat1, Kd.isSca, flat, TYB]
            (try (and_intros <;> try (first | omega | (unfold In64; omega) | trivial | assumption)))
            intro junk' cap' hj'
            (try (and_intros <;> try (first | omega | (unfold In64; omega) | trivial | assumption)))
            refine ⟨(i + 1, n + 1, cap', junk'), ?_, ?_, Sub.mk_to 2 5 ?_ ?_ ?_ ?_ ?_ ?_ ?_⟩
            all_goals (try (simp only [es, LB, subS, subH, wfS, wfH, SV.ren, renL, SObj.ren, SV.wf, SObj.wf, wfL, SV.known, Nat.reduceEqDiff, ↓reduceIte, if_true, if_false, eq_self, Nat.reduceAdd, Nat.reduceLT, Nat.reduceLeDiff, implies_true, reduceCtorEq, forall_const]; done))
            all_goals (try (simp only [es, LB, subS, subH, wfS, wfH, SV.ren, renL, SObj.ren, SV.wf, SObj.wf, wfL, SV.known, Nat.reduceEqDiff, ↓reduceIte, if_true, if_false, eq_self, Nat.reduceAdd, Nat.reduceLT, Nat.reduceLeDiff, implies_true, reduceCtorEq, forall_const]; simp; done))
            all_goals (try (simp only [es, LB, subS, subH, wfS, wfH, SV.ren, renL, SObj.ren, SV.wf, SObj.wf, wfL, SV.known, Nat.reduceEqDiff, ↓reduceIte, if_true, if_false, eq_self, Nat.reduceAdd, Nat.reduceLT, Nat.reduceLeDiff, implies_true, reduceCtorEq, forall_const]; (and_intros <;> (first | omega | rfl | (simp; done) | (simp; omega))); done))
            all_goals (try dsimp only)
            all_goals (and_intros <;> try (first | omega | (unfold In64; omega) | trivial | assumption))
            all_goals (try (rw [es, List.length_append, hL]; simp; omega))
          | false =>
            rw [hb] at es
            simp only [Bool.false_eq_true, if_false, List.append_nil] at es
            simp -implicitDefEqProofs only [lk_normal, hrl', hb, g0, g1, eP, lenP, lenL, tkL, ZB, Int.reduceToNat, Nat.reduceLT, Nat.reduceLeDiff, Int.reduceLE, Int.reduceLT, Nat.reduceEqDiff, Nat.reduceSub, SB, SV.known, packR, ne_eq, reduceCtorEq, Nat.reduceEqDiff, ↓reduceIte, if_true, if_false, eq_self, Nat.reduceAdd, Nat.reduceMul, Nat.reduceSub, forall_const, oneCellS, litOne, flat1, Kd.isSca, flat, TYB]
            (try (and_intros <;> try (first | omega | (unfold In64; omega) | trivial | assumption)))
            refine ⟨(i + 1, n, capo, jo), ?_, ?_, Sub.mk_id ?_ ?_ ?_ ?_ ?_⟩
            all_goals (try (simp only [es, LB, subS, subH, wfS, wfH, SV.ren, renL, SObj.ren, SV.wf, SObj.wf, wfL, SV.known, Nat.reduceEqDiff, ↓reduceIte, if_true, if_false, eq_self, Nat.reduceAdd, Nat.reduceLT, Nat.reduceLeDiff, implies_true, reduceCtorEq, forall_const]; done))
            all_goals (try (simp only [es, LB, subS, subH, wfS, wfH, SV.ren, renL, SObj.ren, SV.wf, SObj.wf, wfL, SV.known, Nat.reduceEqDiff, ↓reduceIte, if_true, if_false, eq_self, Nat.reduceAdd, Nat.reduceLT, Nat.reduceLeDiff, implies_true, reduceCtorEq, forall_const]; simp; done))
            all_goals (try (simp only [es, LB, subS, subH, wfS, wfH, SV.ren, renL, SObj.ren, SV.wf, SObj.wf, wfL, SV.known, Nat.reduceEqDiff, ↓reduceIte, if_true, if_false, eq_self, Nat.reduceAdd, Nat.reduceLT, Nat.reduceLeDiff, implies_true, reduceCtorEq, forall_const]; (and_intros <;> (first | omega | rfl | (simp; done) | (simp; omega))); done))
            all_goals (try dsimp only)
            all_goals (and_intros <;> try (first | omega | (unfold In64; omega) | trivial | assumption))
            all_goals (try (rw [es]; exact hL))
    · have hil : ¬ (i : Int) < m := by omega
      obtain rfl : i = m := by omega
      simp -implicitDefEqProofs only [lk_normal, hil, lenP, lenL, tkL, ZB, Int.reduceToNat, Nat.reduceLT, Nat.reduceLeDiff, Int.reduceLE, Int.reduceLT, Nat.reduceEqDiff, Nat.reduceSub, SB, SV.known, packR, ne_eq, reduceCtorEq, Nat.reduceEqDiff, ↓reduceIte, if_true, if_false, eq_self, Nat.reduceAdd, Nat.reduceMul, Nat.reduceSub, forall_const, oneCellS, litOne, flat1, Kd.isSca, flat, TYB]
      refine .inr ⟨2, capo, jo, ?_, ?_, by omega, ?_, by simp⟩
      · rw [hL]; simp [Wrap.ap]
      · simp [hget_cons]
      · omega
def CommonPours_F : List SV → Heap → Nat → Nat → K1 → Prop
  | [.arr R, .arr D], H, n, _, κ => (R.length = 24 ∧ D.length = 6) ∧ freshK (.more [.bool (forB R D)]) (comL R D) ((comL R D).length / 2) 2 44 (decide (forB R D = false ∨ GL (pbB R D 1) 36 = [])) H n κ
  | _, _, _, _, _ => False
--@tbl CommonPours = impl.CommonPours
theorem CommonPours_T : ∀ args H n m κ, CommonPours_F args H n m κ → GenOK Try.prog 33 args H n m κ := by
  intro args H n m κ h
  unfold CommonPours_F at h
  split at h
  · exact gen_of_fresh (CommonPours_ok _ _ h.1.1 h.1.2) (fun k o hk => by cases hk) h.2
  · exact h.elim
def sCommonPours_F : List SV → Heap → Nat → Nat → K1 → Prop
  | [.arr R, .arr D], H, n, _, κ => (R.length = 24 ∧ D.length = 6) ∧ freshK (.more [.bool (forB R D)]) (comL R D) ((comL R D).length / 2) 2 44 (false) H n κ
  | _, _, _, _, _ => False
--@tbl sCommonPours = spec.CommonPours
theorem sCommonPours_T : ∀ args H n m κ, sCommonPours_F args H n m κ → GenOK Try.prog 34 args H n m κ := by
  intro args H n m κ h
  unfold sCommonPours_F at h
  split at h
  · exact gen_of_fresh (sCommonPours_ok _ _ h.1.1 h.1.2) (fun k o hk => by cases hk) h.2
  · exact h.elim
def samL (R D : List Int) : List Int := if forB R D = true then GL (samD R D) 36 else []
theorem sam_kept (R D : List Int) (m : Nat) (hm : (GL (pbB R D 3) 36).length = m * 2) : kept (fun p => !samP R D p) (GL (pbB R D 3) 36) m = GL (samD R D) 36 := by
  obtain ⟨n, h1, h2⟩ := kept_GL (pbB R D 3) (samD R D) (fun p => !samP R D p) (fun i j _ _ hc => by
    unfold pbB at hc
    simp [samP, samD, hc]) (fun i j _ _ hc => by
    unfold samD at hc
    unfold pbB
    simp only [decide_eq_true_eq] at hc ⊢; omega) 36 (by omega)
  obtain rfl : n = m := by omega
  exact h2
def samDel_F := delRD_F 112 samP qRD
--@tbl samDel = slices.DeleteFunc[[][2]int,[2]int]
theorem samDel_T : ∀ args H n m κ, samDel_F args H n m κ → GenOK Try.prog 110 args H n m κ := delRD_T _ _ _ (by decide) sam1_ok
theorem SamePours_ok (R D : List Int) (hR : R.length = 24) (hD : D.length = 6) : FreshP Try.prog 35 [.arr R, .arr D] [] (samL R D) ((samL R D).length / 2) 2 44 (decide (forB R D = false ∨ GL (pbB R D 3) 36 = [])) (.more [.bool (forB R D)]) := by
  have tkR : R.take 24 = R := List.take_of_length_le (by omega)
  have tkD : D.take 6 = D := List.take_of_length_le (by omega)
  unfold samL
  cases hf : forB R D
  · refine fresh_of_vc (X := ⟨Try.prog, tys, [(95, isFor_F)], [(109, poursBy_F), (110, samDel_F)], true, true, 0, [], []⟩) fn_35 ⟨tys_ok, (.cons isFor_T .nil), (.cons poursBy_T (.cons samDel_T .nil)), mixed⟩ (n0 := 0) rfl (Nat.le_of_ble_eq_true rfl) (by simp [wfL, SV.wf]) (wfH_spec (by simp [wfH, SObj.wf])) (Nat.le_refl _) ?_
    simp -implicitDefEqProofs only [Try.f35, Option.getD_some, argS, isFor_F, poursBy_F, samDel_F, hR, hD, tkR, tkD, hf, freshK, Wrap.ap, ZB, Int.reduceToNat, Nat.reduceLT, Nat.reduceLeDiff, Int.reduceLE, Int.reduceLT, Nat.reduceEqDiff, Nat.reduceSub, SB, SV.known, packR, ne_eq, reduceCtorEq, Nat.reduceEqDiff, ↓reduceIte, if_true, if_false, eq_self, Nat.reduceAdd, Nat.reduceMul, Nat.reduceSub, forall_const, oneCellS, litOne, flat1, Kd.isSca, flat, TYB]
    exact .inl ⟨by simp, rfl, rfl⟩
  · refine fresh_of_vc (X := ⟨Try.prog, tys, [(95, isFor_F)], [(109, poursBy_F), (110, samDel_F)], true, true, 0, [], []⟩) fn_35 ⟨tys_ok, (.cons isFor_T .nil), (.cons poursBy_T (.cons samDel_T .nil)), mixed⟩ (n0 := 0) rfl (Nat.le_of_ble_eq_true rfl) (by simp [wfL, SV.wf]) (wfH_spec (by simp [wfH, SObj.wf])) (Nat.le_refl _) ?_
    simp -implicitDefEqProofs only [Try.f35, Option.getD_some, argS, isFor_F, poursBy_F, samDel_F, hR, hD, tkR, tkD, hf, freshK, Wrap.ap, samDel_F, delRD_F, ZB, Int.reduceToNat, Nat.reduceLT, Nat.reduceLeDiff, Int.reduceLE, Int.reduceLT, Nat.reduceEqDiff, Nat.reduceSub, SB, SV.known, packR, ne_eq, reduceCtorEq, Nat.reduceEqDiff, ↓reduceIte, if_true, if_false, eq_self, Nat.reduceAdd, Nat.reduceMul, Nat.reduceSub, forall_const, oneCellS, litOne, flat1, Kd.isSca, flat, TYB]
    obtain ⟨m, hm, hm36⟩ := GL_even (pbB R D 3) 36
    have e2 : (GL (pbB R D 3) 36).length / 2 = m := by omega
    have ck := sam_kept R D m hm
    refine ⟨fun h0 => ?_, fun h0 cap junk hj => ?_⟩
    · refine .inl ⟨by simp [h0], ?_, rfl⟩
      rw [← ck, show m = 0 by rw [h0] at hm; simp at hm; omega]; rfl
    · have ka := kept_app (fun p => !samP R D p) (GL (pbB R D 3) 36) junk m (by omega)
      obtain ⟨k, hk, hkm⟩ := kept_even (fun p => !samP R D p) (GL (pbB R D 3) 36) m (by omega)
      rw [e2, ka, ck]
      rw [ck] at hk
      refine ⟨by rw [List.length_append]; omega, by omega, by omega, fun i hi => ⟨hf, GL_okP _ i junk (by omega)⟩, .inr ⟨2, cap, List.replicate (m * 2 - (GL (samD R D) 36).length) 0 ++ List.drop (m * 2) (GL (pbB R D 3) 36 ++ junk), ?_, ?_, by omega, ?_, by simp [h0]⟩⟩
      · rfl
      · rw [hget_cons, if_pos rfl, List.append_assoc]
      · rw [List.length_append, List.length_replicate, List.length_drop, List.length_append]
        omega
theorem ssam_kept (R D : List Int) (m : Nat) (hm : (GL (pbB R D 1) 36).length = m * 2) : kept (fun p => samQ R D p) (GL (pbB R D 1) 36) m = GL (samD R D) 36 := by
  obtain ⟨n, h1, h2⟩ := kept_GL (pbB R D 1) (samD R D) (fun p => samQ R D p) (fun i j _ _ hc => by
    unfold pbB at hc
    simp only [samQ, samD, List.getD_cons_zero, List.getD_cons_succ]
    rw [Bool.eq_iff_iff]; simp only [Bool.and_eq_true, decide_eq_true_eq]; exact ⟨fun h => h.2, fun h => ⟨mov3_1 h, h⟩⟩) (fun i j _ _ hc => by
    unfold samD at hc
    unfold pbB
    simp only [decide_eq_true_eq] at hc ⊢; have := mov3_1 hc; omega) 36 (by omega)
  obtain rfl : n = m := by omega
  exact h2
theorem sSamePours_ok (R D : List Int) (hR : R.length = 24) (hD : D.length = 6) : FreshP Try.prog 36 [.arr R, .arr D] [] (samL R D) ((samL R D).length / 2) 2 44 false (.more [.bool (forB R D)]) := by
  have tkR : R.take 24 = R := List.take_of_length_le (by omega)
  have tkD : D.take 6 = D := List.take_of_length_le (by omega)
  unfold samL
  have hru : ruF 1 = true := by decide
  have hru3 : ruF 3 = true := by decide
  cases hf : forB R D
  · refine fresh_of_vc (X := ⟨Try.prog, tys, [(91, l8Fits2_F), (102, l8Moves_F)], [(93, l8Pours_F)], true, true, 0, [], []⟩) fn_36 ⟨tys_ok, (.cons l8Fits2_T (.cons l8Moves_T .nil)), (.cons l8Pours_T .nil), mixed⟩ (n0 := 0) rfl (Nat.le_of_ble_eq_true rfl) (by simp [wfL, SV.wf]) (wfH_spec (by simp [wfH, SObj.wf])) (Nat.le_refl _) ?_
    simp -implicitDefEqProofs only [Try.f36, Option.getD_some, argS, l8Fits2_F, l8Moves_F, l8Pours_F, hR, hD, tkR, tkD, hf, freshK, Wrap.ap, ZB, Int.reduceToNat, Nat.reduceLT, Nat.reduceLeDiff, Int.reduceLE, Int.reduceLT, Nat.reduceEqDiff, Nat.reduceSub, SB, SV.known, packR, ne_eq, reduceCtorEq, Nat.reduceEqDiff, ↓reduceIte, if_true, if_false, eq_self, Nat.reduceAdd, Nat.reduceMul, Nat.reduceSub, forall_const, oneCellS, litOne, flat1, Kd.isSca, flat, TYB]
    exact .inr ⟨2, 0, [], by simp [Wrap.ap], by simp [hget_cons], by omega, by simp, by simp⟩
  obtain ⟨m, hm, hm36⟩ := GL_even (pbB R D 1) 36
  have e2 : (GL (pbB R D 1) 36).length / 2 = m := by omega
  have ck := ssam_kept R D m hm
  refine fresh_of_vc (X := ⟨Try.prog, tys, [(91, l8Fits2_F), (102, l8Moves_F)], [(93, l8Pours_F)], true, true, 0, [], []⟩) fn_36 ⟨tys_ok, (.cons l8Fits2_T (.cons l8Moves_T .nil)), (.cons l8Pours_T .nil), mixed⟩ (n0 := 0) rfl (Nat.le_of_ble_eq_true rfl) (by simp [wfL, SV.wf]) (wfH_spec (by simp [wfH, SObj.wf])) (Nat.le_refl _) ?_
  simp -implicitDefEqProofs only [Try.f36, Option.getD_some, argS, l8Fits2_F, l8Moves_F, l8Pours_F, hR, hD, tkR, tkD, hf, hru, e2, freshK, Wrap.ap, ZB, Int.reduceToNat, Nat.reduceLT, Nat.reduceLeDiff, Int.reduceLE, Int.reduceLT, Nat.reduceEqDiff, Nat.reduceSub, SB, SV.known, packR, ne_eq, reduceCtorEq, Nat.reduceEqDiff, ↓reduceIte, if_true, if_false, eq_self, Nat.reduceAdd, Nat.reduceMul, Nat.reduceSub, forall_const, oneCellS, litOne, flat1, Kd.isSca, flat, TYB]
  have hbd : Bd 0 5 (GL (pbB R D 1) 36) := GL_mem (by omega)
  rw [← ck]
  generalize GL (pbB R D 1) 36 = P at *
  intro cap junk hj
  refine loop_intro (fun s : Nat × Nat × Nat × List Int => [(8, .int s.1), (7, .slice 3 0 m cap), (6, .slice 2 0 s.2.1 s.2.2.1), (3, .ptr 1 0), (2, .ptr 0 0)]) (fun s => [(2, .ints (kept (fun p => samQ R D p) P s.1 ++ s.2.2.2) 44), (3, .ints (P ++ junk) 44), (1, .ints D 51), (0, .ints R 27)]) 4
    (fun s => s.1 ≤ m ∧ (kept (fun p => samQ R D p) P s.1).length = s.2.1 * 2 ∧ s.2.1 ≤ s.1 ∧ s.2.2.2.length + s.2.1 * 2 = s.2.2.1 * 2) (fun s => m - s.1) ?_ ?_
  · refine ⟨(0, 0, 0, []), ?_, Sub.mk_id ?_ ?_ ?_ ?_ ?_⟩
    all_goals (try (simp only [kept_zero, List.append_nil, LB, subS, subH, wfS, wfH, SV.ren, renL, SObj.ren, SV.wf, SObj.wf, wfL, SV.known, Nat.reduceEqDiff, ↓reduceIte, if_true, if_false, eq_self, Nat.reduceAdd, Nat.reduceLT, Nat.reduceLeDiff, implies_true, reduceCtorEq, forall_const]; done))
    all_goals (try (simp only [kept_zero, List.append_nil, LB, subS, subH, wfS, wfH, SV.ren, renL, SObj.ren, SV.wf, SObj.wf, wfL, SV.known, Nat.reduceEqDiff, ↓reduceIte, if_true, if_false, eq_self, Nat.reduceAdd, Nat.reduceLT, Nat.reduceLeDiff, implies_true, reduceCtorEq, forall_const]; simp; done))
    all_goals (try (simp only [kept_zero, List.append_nil, LB, subS, subH, wfS, wfH, SV.ren, renL, SObj.ren, SV.wf, SObj.wf, wfL, SV.known, Nat.reduceEqDiff, ↓reduceIte, if_true, if_false, eq_self, Nat.reduceAdd, Nat.reduceLT, Nat.reduceLeDiff, implies_true, reduceCtorEq, forall_const]; (and_intros <;> (first | omega | rfl | (simp; done) | (simp; omega))); done))
    all_goals (try dsimp only)
    all_goals (and_intros <;> try (first | omega | (unfold In64; omega) | trivial | assumption))
    all_goals simp [kept_zero]
  · rintro ⟨i, n, capo, jo⟩ ⟨hi, hL, hni, hjo⟩
    simp only at hi hL hni hjo
    have lenL : (kept (fun p => samQ R D p) P i ++ jo).length = capo * 2 := by rw [List.length_append]; omega
    have tkL : (kept (fun p => samQ R D p) P i ++ jo).take (n * 2) = kept (fun p => samQ R D p) P i := List.take_left' hL
    have lenP : (P ++ junk).length = cap * 2 := by rw [List.length_append]; omega
    by_cases hlt : i < m
    · have hil : (i : Int) < m := by omega
      have g0 := getD_app P junk (i * 2) (by omega)
      have g1 := getD_app P junk (i * 2 + 1) (by omega)
      have bA : 0 ≤ P.getD (i * 2) 0 ∧ P.getD (i * 2) 0 ≤ 5 := hbd.getD (by omega)
      have bB : 0 ≤ P.getD (i * 2 + 1) 0 ∧ P.getD (i * 2 + 1) 0 ≤ 5 := hbd.getD (by omega)
      have eP : List.take 2 (List.drop (i * 2) (P ++ junk)) = [P.getD (i * 2) 0, P.getD (i * 2 + 1) 0] := by
        rw [take2_drop _ _ (by rw [List.length_append]; omega), g0, g1]
      have eQ : List.take 2 (List.drop (i * 2) P) = [P.getD (i * 2) 0, P.getD (i * 2 + 1) 0] := take2_drop _ _ (by omega)
      have es := kept_succ (fun p => samQ R D p) P i
      rw [eQ] at es
      have hc0 : samQ R D [P.getD (i * 2) 0, P.getD (i * 2 + 1) 0] = (decide (movF R D 1 (P.getD (i * 2) 0) (P.getD (i * 2 + 1) 0) = 1) && decide (movF R D 3 (P.getD (i * 2) 0) (P.getD (i * 2 + 1) 0) = 1)) := rfl
      rw [hc0] at es
      by_cases h1 : movF R D 1 (P.getD (i * 2) 0) (P.getD (i * 2 + 1) 0) = 1
      · by_cases h3 : movF R D 3 (P.getD (i * 2) 0) (P.getD (i * 2 + 1) 0) = 1
        · simp only [h1, h3, decide_true, Bool.and_self, if_true] at es
          simp -implicitDefEqProofs only [lk_normal, l8Moves_F, hil, hR, hD, tkR, tkD, hf, hru, hru3, g0, g1, eP, h1, h3, lenP, lenL, tkL, ZB, Int.reduceToNat, Nat.reduceLT, Nat.reduceLeDiff, Int.reduceLE, Int.reduceLT, Nat.reduceEqDiff, Nat.reduceSub, SB, SV.known, packR, ne_eq, reduceCtorEq, Nat.reduceEqDiff, ↓reduceIte, if_true, if_false, eq_self, Nat.reduceAdd, Nat.reduceMul, Nat.reduceSub, forall_const, oneCellS, litOne, flat1, Kd.isSca, flat, TYB]
          (try (and_intros <;> try (first | omega | (unfold In64; omega) | trivial | assumption)))
          intro junk' cap' hj'
          (try (and_intros <;> try (first | omega | (unfold In64; omega) | trivial | assumption)))
          refine ⟨(i + 1, n + 1, cap', junk'), ?_, ?_, Sub.mk_to 2 5 ?_ ?_ ?_ ?_ ?_ ?_ ?_⟩
          all_goals (try (simp only [es, LB, subS, subH, wfS, wfH, SV.ren, renL, SObj.ren, SV.wf, SObj.wf, wfL, SV.known, Nat.reduceEqDiff, ↓reduceIte, if_true, if_false, eq_self, Nat.reduceAdd, Nat.reduceLT, Nat.reduceLeDiff, implies_true, reduceCtorEq, forall_const]; done))
          all_goals (try (simp only [es, LB, subS, subH, wfS, wfH, SV.ren, renL, SObj.ren, SV.wf, SObj.wf, wfL, SV.known, Nat.reduceEqDiff, ↓reduceIte, if_true, if_false, eq_self, Nat.reduceAdd, Nat.reduceLT, Nat.reduceLeDiff, implies_true, reduceCtorEq, forall_const]; simp; done))
          all_goals (try (simp only [es, LB, subS, subH, wfS, wfH, SV.ren, renL, SObj.ren, SV.wf, SObj.wf, wfL, SV.known, Nat.reduceEqDiff, ↓reduceIte, if_true, if_false, eq_self, Nat.reduceAdd, Nat.reduceLT, Nat.reduceLeDiff, implies_true, reduceCtorEq, forall_const]; (and_intros <;> (first | omega | rfl | (simp; done) | (simp; omega))); done))
          all_goals (try dsimp only)
          all_goals (and_intros <;> try (first | omega | (unfold In64; omega) | trivial | assumption))
          all_goals (try (rw [es, List.length_append, hL]; simp; omega))
        · simp only [h1, h3, decide_true, decide_false, Bool.and_false, Bool.false_eq_true, if_false, List.append_nil] at es
          simp -implicitDefEqProofs only [lk_normal, l8Moves_F, hil, hR, hD, tkR, tkD, hf, hru, hru3, g0, g1, eP, h1, h3, lenP, lenL, tkL, ZB, Int.reduceToNat, Nat.reduceLT, Nat.reduceLeDiff, Int.reduceLE, Int.reduceLT, Nat.reduceEqDiff, Nat.reduceSub, SB, SV.known, packR, ne_eq, reduceCtorEq, Nat.reduceEqDiff, ↓reduceIte, if_true, if_false, eq_self, Nat.reduceAdd, Nat.reduceMul, Nat.reduceSub, forall_const, oneCellS, litOne, flat1, Kd.isSca, flat, TYB]
          (try (and_intros <;> try (first | omega | (unfold In64; omega) | trivial | assumption)))
          refine ⟨(i + 1, n, capo, jo), ?_, ?_, Sub.mk_id ?_ ?_ ?_ ?_ ?_⟩
          all_goals (try (simp only [es, LB, subS, subH, wfS, wfH, SV.ren, renL, SObj.ren, SV.wf, SObj.wf, wfL, SV.known, Nat.reduceEqDiff, ↓reduceIte, if_true, if_false, eq_self, Nat.reduceAdd, Nat.reduceLT, Nat.reduceLeDiff, implies_true, reduceCtorEq, forall_const]; done))
          all_goals (try (simp only [es, LB, subS, subH, wfS, wfH, SV.ren, renL, SObj.ren, SV.wf, SObj.wf, wfL, SV.known, Nat.reduceEqDiff, ↓reduceIte, if_true, if_false, eq_self, Nat.reduceAdd, Nat.reduceLT, Nat.reduceLeDiff, implies_true, reduceCtorEq, forall_const]; simp; done))
          all_goals (try (simp only [es, LB, subS, subH, wfS, wfH, SV.ren, renL, SObj.ren, SV.wf, SObj.wf, wfL, SV.known, Nat.reduceEqDiff, ↓reduceIte, if_true, if_false, eq_self, Nat.reduceAdd, Nat.reduceLT, Nat.reduceLeDiff, implies_true, reduceCtorEq, forall_const]; (and_intros <;> (first | omega | rfl | (simp; done) | (simp; omega))); done))
          all_goals (try dsimp only)
          all_goals (and_intros <;> try (first | omega | (unfold In64; omega) | trivial | assumption))
          all_goals (try (rw [es]; exact hL))
      · simp only [h1, decide_false, Bool.false_and, Bool.false_eq_true, if_false, List.append_nil] at es
        simp -implicitDefEqProofs only [lk_normal, l8Moves_F, hil, hR, hD, tkR, tkD, hf, hru, hru3, g0, g1, eP, h1, lenP, lenL, tkL, ZB, Int.reduceToNat, Nat.reduceLT, Nat.reduceLeDiff, Int.reduceLE, Int.reduceLT, Nat.reduceEqDiff, Nat.reduceSub, SB, SV.known, packR, ne_eq, reduceCtorEq, Nat.reduceEqDiff, ↓reduceIte, if_true, if_false, eq_self, Nat.reduceAdd, Nat.reduceMul, Nat.reduceSub, forall_const, oneCellS, litOne, flat1, Kd.isSca, flat, TYB]
        (try (and_intros <;> try (first | omega | (unfold In64; omega) | trivial | assumption)))
        refine ⟨(i + 1, n, capo, jo), ?_, ?_, Sub.mk_id ?_ ?_ ?_ ?_ ?_⟩
        all_goals (try (simp only [es, LB, subS, subH, wfS, wfH, SV.ren, renL, SObj.ren, SV.wf, SObj.wf, wfL, SV.known, Nat.reduceEqDiff, ↓reduceIte, if_true, if_false, eq_self, Nat.reduceAdd, Nat.reduceLT, Nat.reduceLeDiff, implies_true, reduceCtorEq, forall_const]; done))
        all_goals (try (simp only [es, LB, subS, subH, wfS, wfH, SV.ren, renL, SObj.ren, SV.wf, SObj.wf, wfL, SV.known, Nat.reduceEqDiff, ↓reduceIte, if_true, if_false, eq_self, Nat.reduceAdd, Nat.reduceLT, Nat.reduceLeDiff, implies_true, reduceCtorEq, forall_const]; simp; done))
        all_goals (try (simp only [es, LB, subS, subH, wfS, wfH, SV.ren, renL, SObj.ren, SV.wf, SObj.wf, wfL, SV.known, Nat.reduceEqDiff, ↓reduceIte, if_true, if_false, eq_self, Nat.reduceAdd, Nat.reduceLT, Nat.reduceLeDiff, implies_true, reduceCtorEq, forall_const]; (and_intros <;> (first | omega | rfl | (simp; done) | (simp; omega))); done))
        all_goals (try dsimp only)
        all_goals (and_intros <;> try (first | omega | (unfold In64; omega) | trivial | assumption))
        all_goals (try (rw [es]; exact hL))
    · have hil : ¬ (i : Int) < m := by omega
      obtain rfl : i = m := by omega
      simp -implicitDefEqProofs only [lk_normal, hil, lenP, lenL, tkL, ZB, Int.reduceToNat, Nat.reduceLT, Nat.reduceLeDiff, Int.reduceLE, Int.reduceLT, Nat.reduceEqDiff, Nat.reduceSub, SB, SV.known, packR, ne_eq, reduceCtorEq, Nat.reduceEqDiff, ↓reduceIte, if_true, if_false, eq_self, Nat.reduceAdd, Nat.reduceMul, Nat.reduceSub, forall_const, oneCellS, litOne, flat1, Kd.isSca, flat, TYB]
      refine .inr ⟨2, capo, jo, ?_, ?_, by omega, ?_, by simp⟩
      · rw [hL]; simp [Wrap.ap]
      · simp [hget_cons]
      · omega
def SamePours_F : List SV → Heap → Nat → Nat → K1 → Prop
  | [.arr R, .arr D], H, n, _, κ => (R.length = 24 ∧ D.length = 6) ∧ freshK (.more [.bool (forB R D)]) (samL R D) ((samL R D).length / 2) 2 44 (decide (forB R D = false ∨ GL (pbB R D 3) 36 = [])) H n κ
  | _, _, _, _, _ => False
--@tbl SamePours = impl.SamePours
theorem SamePours_T : ∀ args H n m κ, SamePours_F args H n m κ → GenOK Try.prog 35 args H n m κ := by
  intro args H n m κ h
  unfold SamePours_F at h
  split at h
  · exact gen_of_fresh (SamePours_ok _ _ h.1.1 h.1.2) (fun k o hk => by cases hk) h.2
  · exact h.elim
def sSamePours_F : List SV → Heap → Nat → Nat → K1 → Prop
  | [.arr R, .arr D], H, n, _, κ => (R.length = 24 ∧ D.length = 6) ∧ freshK (.more [.bool (forB R D)]) (samL R D) ((samL R D).length / 2) 2 44 (false) H n κ
  | _, _, _, _, _ => False
--@tbl sSamePours = spec.SamePours
theorem sSamePours_T : ∀ args H n m κ, sSamePours_F args H n m κ → GenOK Try.prog 36 args H n m κ := by
  intro args H n m κ h
  unfold sSamePours_F at h
  split at h
  · exact gen_of_fresh (sSamePours_ok _ _ h.1.1 h.1.2) (fun k o hk => by cases hk) h.2
  · exact h.elim
end Go.Proofs.Ytopfnkmlgcjpbaa
set_option maxRecDepth 100000
set_option linter.unusedSimpArgs false
set_option linter.unusedVariables false
namespace Go.Proofs.Ytopfnkmlgcjpbaa
open Go Go.RowKit
end Go.Proofs.Ytopfnkmlgcjpbaa
set_option maxRecDepth 100000
set_option linter.unusedSimpArgs false
set_option linter.unusedVariables false
namespace Go.Proofs.Ytopfnkmlgcjpbaa
open Go Go.RowKit
/-! IsStuck. -/
end Go.Proofs.Ytopfnkmlgcjpbaa
set_option maxRecDepth 100000
set_option linter.unusedSimpArgs false
set_option linter.unusedVariables false
namespace Go.Proofs.Ytopfnkmlgcjpbaa
open Go Go.RowKit
/-! Colors counted. -/
--@tbl countColors = impl.countColors
--@tbl l2Counts = spec.l2Counts
/-! Views. -/
end Go.Proofs.Ytopfnkmlgcjpbaa
set_option maxRecDepth 100000
set_option linter.unusedSimpArgs false
set_option linter.unusedVariables false
namespace Go.Proofs.Ytopfnkmlgcjpbaa
open Go Go.RowKit
end Go.Proofs.Ytopfnkmlgcjpbaa
set_option maxRecDepth 100000
set_option linter.unusedSimpArgs false
set_option linter.unusedVariables false
namespace Go.Proofs.Ytopfnkmlgcjpbaa
open Go Go.RowKit
/-- Is a pair among these? -/
def inP (L : List Int) (m : Nat) (p : List Int) : Bool := (List.range m).any fun i => decide ((L.drop (i * 2)).take 2 = p)
theorem inP_zero (L p : List Int) : inP L 0 p = false := rfl
theorem inP_of {L p : List Int} {m i : Nat} (hi : i < m) (h : (L.drop (i * 2)).take 2 = p) : inP L m p = true := List.any_eq_true.2 ⟨i, List.mem_range.2 hi, by simp [h]⟩
theorem inP_not {L p : List Int} {m : Nat} (h : ∀ i, i < m → (L.drop (i * 2)).take 2 ≠ p) : inP L m p = false := List.any_eq_false.2 fun i hi => by simpa using h i (List.mem_range.1 hi)
/-! A pour exchanges cells. -/
/-! Sorted racks. -/
end Go.Proofs.Ytopfnkmlgcjpbaa
