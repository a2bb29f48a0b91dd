/- Walks: pours by rules. -/
import Derived.Test.YtfdpeenamkpcbaaBnd
import Derived.Test.YtfdpeenamkpcbaaGL
set_option maxRecDepth 100000
set_option linter.unusedSimpArgs false
set_option linter.unusedVariables false
namespace Go.Proofs.Ytfdpeenamkpcbaa
open Go Go.RowKit
def roomF (R D : List Int) (j : Nat) : Int := D.getD j 0 - (layN (tubeAt R j) : Int)
def movF (R D : List Int) (u i j : Int) : Int :=
  if i = j ∨ (topF (tubeAt R i.toNat)).1 = 0 ∨ roomF R D j.toNat = 0 then 0 else if u = 4 then 1
  else if (topF (tubeAt R j.toNat)).1 ≠ 0 ∧ (topF (tubeAt R j.toNat)).1 ≠ (topF (tubeAt R i.toNat)).1 then 0
  else if u = 2 then 1 else if u = 3 ∧ roomF R D j.toNat < (topF (tubeAt R i.toNat)).2 then 0 else min (topF (tubeAt R i.toNat)).2 (roomF R D j.toNat)
def ruF (u : Int) : Bool := decide (1 ≤ u ∧ u ≤ 4)
--@tbl isRule = impl.isRule
theorem isRule_ok (u : Int) : PureH Try.prog 71 [.int u] [] (.bool (ruF u)) := by
  refine pure_of_vc (X := ⟨Try.prog, tys, [(72, within_F)], [], true, true, 0, [], []⟩) fn_71 ⟨tys_ok, (.cons within_T .nil), .nil, mixed⟩ (n0 := 0) (Nat.le_of_ble_eq_true rfl) (by simp [wfL, SV.wf]) (wfH_spec (by simp [wfH, SObj.wf])) (Nat.le_refl _) (fun _ => by simp [SV.wf, wfL]) ?_
  simp -implicitDefEqProofs only [Try.f71, Option.getD_some, argS, within_F, SB, SV.known, packR, ne_eq, reduceCtorEq, Nat.reduceEqDiff, ↓reduceIte, if_true, if_false, eq_self, Nat.reduceAdd, Nat.reduceMul, Nat.reduceSub, forall_const, oneCellS, Kd.isSca, flat, TYB]
  trivial
def isRule_F : List SV → Heap → Option (Prop × SV)
  | [.int u], _ => some (True, .bool (ruF u))
  | _, _ => none
theorem isRule_T : ∀ args H p v, isRule_F args H = some (p, v) → p → PureH Try.prog 71 args H v := by
  intro args H p v h hp
  unfold isRule_F at h
  split at h
  · cases h; exact (isRule_ok _).any _
  · cases h
--@tbl l8Rule = spec.l8Rule
theorem l8Rule_ok (u : Int) : PureH Try.prog 67 [.int u] [] (.bool (ruF u)) := by
  refine pure_of_vc (X := ⟨Try.prog, tys, [(68, l1In_F)], [], true, true, 0, [], []⟩) fn_67 ⟨tys_ok, (.cons l1In_T .nil), .nil, mixed⟩ (n0 := 0) (Nat.le_of_ble_eq_true rfl) (by simp [wfL, SV.wf]) (wfH_spec (by simp [wfH, SObj.wf])) (Nat.le_refl _) (fun _ => by simp [SV.wf, wfL]) ?_
  simp -implicitDefEqProofs only [Try.f67, Option.getD_some, argS, l1In_F, SB, SV.known, packR, ne_eq, reduceCtorEq, Nat.reduceEqDiff, ↓reduceIte, if_true, if_false, eq_self, Nat.reduceAdd, Nat.reduceMul, Nat.reduceSub, forall_const, oneCellS, Kd.isSca, flat, TYB]
  trivial
def l8Rule_F : List SV → Heap → Option (Prop × SV)
  | [.int u], _ => some (True, .bool (ruF u))
  | _, _ => none
theorem l8Rule_T : ∀ args H p v, l8Rule_F args H = some (p, v) → p → PureH Try.prog 67 args H v := by
  intro args H p v h hp
  unfold l8Rule_F at h
  split at h
  · cases h; exact (l8Rule_ok _).any _
  · cases h
/-- Depths that a rack fits. -/
def forB (R D : List Int) : Bool := rackB R && D.all isDep && fitF R D
theorem forB_facts {R D : List Int} (hD : D.length = 6) (h : forB R D = true) : rackB R = true ∧ D.all isDep = true ∧ fitF R D = true ∧ ∀ j, j < 6 → 1 ≤ D.getD j 0 ∧ D.getD j 0 ≤ 4 ∧ 0 ≤ roomF R D j ∧ roomF R D j ≤ 4 - (layN (tubeAt R j) : Int) := by
  simp only [forB, Bool.and_eq_true] at h
  refine ⟨h.1.1, h.1.2, h.2, fun j hj => ?_⟩
  have h1 := List.all_eq_true.1 h.1.2 (D.getD j 0) (by
    simp only [List.getD, List.getElem?_eq_getElem (show j < D.length by omega), Option.getD_some]
    exact List.getElem_mem _)
  have h2 : 1 ≤ D.getD j 0 ∧ D.getD j 0 ≤ 4 := by simpa [isDep] using h1
  have h3 := h.2
  unfold fitF at h3
  have h4 := List.all_eq_true.1 h3 j (List.mem_range.2 hj)
  have h5 : (layN (tubeAt R j) : Int) ≤ D.getD j 0 := by simpa using h4
  unfold roomF
  omega
--@tbl isFor = impl.isFor
theorem isFor_ok (R D : List Int) (hR : R.length = 24) (hD : D.length = 6) : PureH Try.prog 70 [.arr R, .arr D] [] (.bool (forB R D)) := by
  have tkR : R.take 24 = R := List.take_of_length_le (by omega)
  have tkD : D.take 6 = D := List.take_of_length_le (by omega)
  unfold forB
  cases h1 : rackB R <;> cases h2 : D.all isDep
  all_goals
    refine pure_of_vc (X := ⟨Try.prog, tys, [(47, IsRack_F), (113, isDepths_F), (114, fits_F)], [], true, true, 0, [], []⟩) fn_70 ⟨tys_ok, (.cons IsRack_T (.cons isDepths_T (.cons fits_T .nil))), .nil, mixed⟩ (n0 := 0) (Nat.le_of_ble_eq_true rfl) (by simp [wfL, SV.wf]) (wfH_spec (by simp [wfH, SObj.wf])) (Nat.le_refl _) (fun _ => by simp [SV.wf, wfL]) ?_
    simp -implicitDefEqProofs only [Try.f70, Option.getD_some, argS, IsRack_F, isDepths_F, fits_F, hR, hD, h1, h2, tkR, tkD, ZB, Int.reduceToNat, Nat.reduceLT, Nat.reduceLeDiff, Int.reduceLE, Int.reduceLT, Nat.reduceEqDiff, Nat.reduceSub, SB, SV.known, packR, ne_eq, reduceCtorEq, Nat.reduceEqDiff, ↓reduceIte, if_true, if_false, eq_self, Nat.reduceAdd, Nat.reduceMul, Nat.reduceSub, forall_const, oneCellS, Kd.isSca, flat, TYB]
def isFor_F : List SV → Heap → Option (Prop × SV)
  | [.arr R, .arr D], _ => some (R.length = 24 ∧ D.length = 6, .bool (forB R D))
  | _, _ => none
theorem isFor_T : ∀ args H p v, isFor_F args H = some (p, v) → p → PureH Try.prog 70 args H v := by
  intro args H p v h hp
  unfold isFor_F at h
  split at h
  · cases h; exact (isFor_ok _ _ hp.1 hp.2).any _
  · cases h
--@tbl movedBy = impl.movedBy
theorem movedBy_ok (R D : List Int) (u i j : Int) (hR : R.length = 24) (hD : D.length = 6) (hf : forB R D = true) (hi : 0 ≤ i ∧ i ≤ 5) (hj : 0 ≤ j ∧ j ≤ 5) : PureH Try.prog 117 [.arr R, .arr D, .int u, .int i, .int j] [] (.int (movF R D u i j)) := by
  have tkR : R.take 24 = R := List.take_of_length_le (by omega)
  have tkD : D.take 6 = D := List.take_of_length_le (by omega)
  have ei : List.take 4 (List.drop (i.toNat * 4) R) = tubeAt R i.toNat := rfl
  have ej : List.take 4 (List.drop (j.toNat * 4) R) = tubeAt R j.toNat := rfl
  have li := tubeAt_len hR (i := i.toNat) (by omega)
  have lj := tubeAt_len hR (i := j.toNat) (by omega)
  have er : D.getD j.toNat 0 - (layN (tubeAt R j.toNat) : Int) = roomF R D j.toNat := rfl
  have ff := (forB_facts hD hf).2.2.2 j.toNat (by omega)
  have tl := topF_le _ li
  refine pure_of_vc (X := ⟨Try.prog, tys, [(102, top_F), (56, layers_F)], [], true, true, 0, [], []⟩) fn_117 ⟨tys_ok, (.cons top_T (.cons layers_T .nil)), .nil, mixed⟩ (n0 := 0) (Nat.le_of_ble_eq_true rfl) (by simp [wfL, SV.wf]) (wfH_spec (by simp [wfH, SObj.wf])) (Nat.le_refl _) (fun _ => by simp [SV.wf, wfL]) ?_
  simp -implicitDefEqProofs only [Try.f117, Option.getD_some, argS, top_F, layers_F, hR, hD, tkR, tkD, ei, ej, li, lj, er, ZB, Int.reduceToNat, Nat.reduceLT, Nat.reduceLeDiff, Int.reduceLE, Int.reduceLT, Nat.reduceEqDiff, Nat.reduceSub, SB, SV.known, packR, ne_eq, reduceCtorEq, Nat.reduceEqDiff, ↓reduceIte, if_true, if_false, eq_self, Nat.reduceAdd, Nat.reduceMul, Nat.reduceSub, forall_const, oneCellS, Kd.isSca, flat, TYB]
  unfold movF
  (try (and_intros <;> try (first | omega | (unfold In64; omega) | trivial | assumption)))
  all_goals (repeat' (first | intro _ | apply And.intro))
  all_goals (repeat' split)
  all_goals omega
def movedBy_F : List SV → Heap → Option (Prop × SV)
  | [.arr R, .arr D, .int u, .int i, .int j], _ => some (R.length = 24 ∧ D.length = 6 ∧ forB R D = true ∧ (0 ≤ i ∧ i ≤ 5) ∧ (0 ≤ j ∧ j ≤ 5), .int (movF R D u i j))
  | _, _ => none
theorem movedBy_T : ∀ args H p v, movedBy_F args H = some (p, v) → p → PureH Try.prog 117 args H v := by
  intro args H p v h hp
  unfold movedBy_F at h
  split at h
  · cases h; exact (movedBy_ok _ _ _ _ _ hp.1 hp.2.1 hp.2.2.1 hp.2.2.2.1 hp.2.2.2.2).any _
  · cases h
theorem top_zero (t : List Int) (ht : t.length = 4) (hb : tubeB t = true) : ((topF t).1 = 0 ↔ layN t = 0) ∧ ((topF t).2 = 0 ↔ layN t = 0) := by
  rcases Nat.eq_zero_or_pos (layN t) with h0 | h0
  · have : topF t = (0, 0) := by simp [topF, runsL, h0]
    simp [this, h0]
  · have tp := top_pos t ht hb
    have := tp.1.2 h0
    have := tp.2.2 h0
    omega
--@tbl l8Moves = spec.l8Moves
theorem l8Moves_ok (R D : List Int) (u i j : Int) (hR : R.length = 24) (hD : D.length = 6) (hf : forB R D = true) (hu : ruF u = true) (hi : 0 ≤ i ∧ i ≤ 5) (hj : 0 ≤ j ∧ j ≤ 5) : PureH Try.prog 112 [.arr R, .arr D, .int u, .int i, .int j] [] (.int (movF R D u i j)) := by
  have tkR : R.take 24 = R := List.take_of_length_le (by omega)
  have tkD : D.take 6 = D := List.take_of_length_le (by omega)
  have ei : List.take 4 (List.drop (i.toNat * 4) R) = tubeAt R i.toNat := rfl
  have ej : List.take 4 (List.drop (j.toNat * 4) R) = tubeAt R j.toNat := rfl
  have li := tubeAt_len hR (i := i.toNat) (by omega)
  have lj := tubeAt_len hR (i := j.toNat) (by omega)
  have ff := forB_facts hD hf
  have bi := tubeAt_ok ff.1 (i := i.toNat) (by omega)
  have bj := tubeAt_ok ff.1 (i := j.toNat) (by omega)
  have pj := posC_lay _ lj bj
  have er : D.getD j.toNat 0 - (layN (tubeAt R j.toNat) : Int) = roomF R D j.toNat := rfl
  have f2 := ff.2.2.2 j.toNat (by omega)
  have tl := topF_le _ li
  have tz := top_zero _ li bi
  have u14 : 1 ≤ u ∧ u ≤ 4 := by simpa [ruF] using hu
  refine pure_of_vc (X := ⟨Try.prog, tys, [(101, l2Top_F), (52, l2Many_F), (61, l1Least_F)], [], true, true, 0, [], []⟩) fn_112 ⟨tys_ok, (.cons l2Top_T (.cons l2Many_T (.cons l1Least_T .nil))), .nil, mixed⟩ (n0 := 0) (Nat.le_of_ble_eq_true rfl) (by simp [wfL, SV.wf]) (wfH_spec (by simp [wfH, SObj.wf])) (Nat.le_refl _) (fun _ => by simp [SV.wf, wfL]) ?_
  simp -implicitDefEqProofs only [Try.f112, Option.getD_some, argS, l2Top_F, l2Many_F, l1Least_F, hR, hD, tkR, tkD, ei, ej, li, lj, bi, bj, pj, er, ZB, Int.reduceToNat, Nat.reduceLT, Nat.reduceLeDiff, Int.reduceLE, Int.reduceLT, Nat.reduceEqDiff, Nat.reduceSub, SB, SV.known, packR, ne_eq, reduceCtorEq, Nat.reduceEqDiff, ↓reduceIte, if_true, if_false, eq_self, Nat.reduceAdd, Nat.reduceMul, Nat.reduceSub, forall_const, oneCellS, Kd.isSca, flat, TYB]
  unfold movF
  (try (and_intros <;> try (first | omega | (unfold In64; omega) | trivial | assumption)))
  all_goals (repeat' (first | intro _ | apply And.intro))
  all_goals (repeat' split)
  all_goals omega
def l8Moves_F : List SV → Heap → Option (Prop × SV)
  | [.arr R, .arr D, .int u, .int i, .int j], _ => some (R.length = 24 ∧ D.length = 6 ∧ forB R D = true ∧ ruF u = true ∧ (0 ≤ i ∧ i ≤ 5) ∧ (0 ≤ j ∧ j ≤ 5), .int (movF R D u i j))
  | _, _ => none
theorem l8Moves_T : ∀ args H p v, l8Moves_F args H = some (p, v) → p → PureH Try.prog 112 args H v := by
  intro args H p v h hp
  unfold l8Moves_F at h
  split at h
  · cases h; exact (l8Moves_ok _ _ _ _ _ hp.1 hp.2.1 hp.2.2.1 hp.2.2.2.1 hp.2.2.2.2.1 hp.2.2.2.2.2).any _
  · cases h
/-! Moved layers. -/
def mvR (R : List Int) (i j : Nat) : Nat → List Int
  | 0 => R
  | k + 1 => ((mvR R i j k).set (j * 4 + (layN (tubeAt R j) + k)) ((mvR R i j k).getD (i * 4 + (layN (tubeAt R i) - 1 - k)) 0)).set (i * 4 + (layN (tubeAt R i) - 1 - k)) 0
theorem mvR_len (R : List Int) (i j : Nat) : ∀ k, (mvR R i j k).length = R.length
  | 0 => rfl
  | k + 1 => by simp [mvR, mvR_len R i j k]
theorem mvR_cell {R : List Int} (hR : R.length = 24) {i j : Nat} (hi : i < 6) (hj : j < 6) (hij : i ≠ j) : ∀ m, m ≤ layN (tubeAt R i) → m + layN (tubeAt R j) ≤ 4 → ∀ a b, a < 6 → b < 4 →
    (mvR R i j m).getD (a * 4 + b) 0 = if a = i ∧ layN (tubeAt R i) - m ≤ b ∧ b < layN (tubeAt R i) then 0 else if a = j ∧ layN (tubeAt R j) ≤ b ∧ b < layN (tubeAt R j) + m then R.getD (i * 4 + (layN (tubeAt R i) - 1 - (b - layN (tubeAt R j)))) 0 else R.getD (a * 4 + b) 0
  | 0, _, _, a, b, _, _ => by
    simp only [mvR]
    rw [if_neg (by omega), if_neg (by omega)]
  | m + 1, hm, hm2, a, b, ha, hb => by
    have hli := lay_le _ (tubeAt_len hR hi)
    have hlj := lay_le _ (tubeAt_len hR hj)
    have ih := mvR_cell hR hi hj hij m (by omega) (by omega)
    have it := ih i (layN (tubeAt R i) - 1 - m) hi (by omega)
    rw [if_neg (by omega), if_neg (by omega)] at it
    simp only [mvR]
    rw [getD_set' _ _ _ _ (by rw [List.length_set, mvR_len]; omega), getD_set' _ _ _ _ (by rw [mvR_len]; omega), it, ih a b ha hb]
    by_cases h1 : i * 4 + (layN (tubeAt R i) - 1 - m) = a * 4 + b
    · have hai : a = i := by omega
      subst hai
      rw [if_pos h1, if_pos (by omega)]
    · rw [if_neg h1]
      by_cases h2 : j * 4 + (layN (tubeAt R j) + m) = a * 4 + b
      · have haj : a = j := by omega
        subst haj
        rw [if_pos h2, if_neg (by omega), if_pos (by omega)]
        have : b = layN (tubeAt R a) + m := by omega
        subst this
        congr 2; omega
      · rw [if_neg h2]
        by_cases h3 : a = i ∧ layN (tubeAt R i) - m ≤ b ∧ b < layN (tubeAt R i)
        · rw [if_pos h3, if_pos (by omega)]
        · rw [if_neg h3]
          by_cases h4 : a = i ∧ layN (tubeAt R i) - (m + 1) ≤ b ∧ b < layN (tubeAt R i)
          · omega
          · rw [if_neg h4]
            by_cases h5 : a = j ∧ layN (tubeAt R j) ≤ b ∧ b < layN (tubeAt R j) + m
            · rw [if_pos h5, if_pos (by omega)]
            · rw [if_neg h5, if_neg (by omega)]
theorem mv_facts {R : List Int} (hR : R.length = 24) (hr : rackB R = true) {i j : Nat} (hi : i < 6) (hj : j < 6) (hij : i ≠ j) {m : Nat} (hm : m ≤ layN (tubeAt R i)) (hm2 : m + layN (tubeAt R j) ≤ 4) :
    (tubeB (tubeAt (mvR R i j m) i) = true ∧ layN (tubeAt (mvR R i j m) i) = layN (tubeAt R i) - m) ∧ (tubeB (tubeAt (mvR R i j m) j) = true ∧ layN (tubeAt (mvR R i j m) j) = layN (tubeAt R j) + m) ∧
    (∀ k, k < 6 → k ≠ i → k ≠ j → tubeAt (mvR R i j m) k = tubeAt R k) := by
  have hP : (mvR R i j m).length = 24 := by rw [mvR_len, hR]
  have hc := mvR_cell hR hi hj hij m hm hm2
  have hli := tubeAt_len hR hi
  have hlj := tubeAt_len hR hj
  have ci := tube_cells hli (tubeAt_ok hr hi)
  have cj := tube_cells hlj (tubeAt_ok hr hj)
  have li := lay_le _ hli
  refine ⟨tube_of (tubeAt_len hP hi) (by omega) (fun b hb => ?_) (fun b hb hb4 => ?_), tube_of (tubeAt_len hP hj) (by omega) (fun b hb => ?_) (fun b hb hb4 => ?_), fun k hk h1 h2 => ?_⟩
  · rw [tubeAt_getD _ _ _ (by omega), hc i b hi (by omega), if_neg (by omega), if_neg (by omega), ← tubeAt_getD _ _ _ (by omega)]
    exact ci.1 b (by omega)
  · rw [tubeAt_getD _ _ _ hb4, hc i b hi hb4]
    by_cases h3 : b < layN (tubeAt R i)
    · rw [if_pos ⟨rfl, hb, h3⟩]
    · rw [if_neg (by omega), if_neg (by omega), ← tubeAt_getD _ _ _ hb4]
      exact ci.2 b (by omega)
  · rw [tubeAt_getD _ _ _ (by omega), hc j b hj (by omega), if_neg (by omega)]
    by_cases h3 : layN (tubeAt R j) ≤ b
    · rw [if_pos (by omega), ← tubeAt_getD _ _ _ (by omega)]
      exact ci.1 _ (by omega)
    · rw [if_neg (by omega), ← tubeAt_getD _ _ _ (by omega)]
      exact cj.1 b (by omega)
  · rw [tubeAt_getD _ _ _ hb4, hc j b hj hb4, if_neg (by omega), if_neg (by omega), ← tubeAt_getD _ _ _ hb4]
    exact cj.2 b (by omega)
  · refine tubeAt_ext (tubeAt_len hP hk) (tubeAt_len hR hk) fun b hb => ?_
    rw [hc k b hk hb, if_neg (by omega), if_neg (by omega)]
theorem mv_rack {R : List Int} (hR : R.length = 24) (hr : rackB R = true) {i j : Nat} (hi : i < 6) (hj : j < 6) (hij : i ≠ j) {m : Nat} (hm : m ≤ layN (tubeAt R i)) (hm2 : m + layN (tubeAt R j) ≤ 4) : rackB (mvR R i j m) = true := by
  obtain ⟨h1, h2, h3⟩ := mv_facts hR hr hi hj hij hm hm2
  rw [rack_tubes]
  intro k hk
  by_cases hki : k = i
  · rw [hki]; exact h1.1
  · by_cases hkj : k = j
    · rw [hkj]; exact h2.1
    · rw [h3 k hk hki hkj]; exact tubeAt_ok hr hk
theorem movF_bd {R D : List Int} {u i j : Int} (hR : R.length = 24) (hD : D.length = 6) (hf : forB R D = true) (hi : 0 ≤ i ∧ i ≤ 5) (hj : 0 ≤ j ∧ j ≤ 5) : 0 ≤ movF R D u i j ∧ (movF R D u i j = 0 ∨ (i ≠ j ∧ (movF R D u i j).toNat ≤ layN (tubeAt R i.toNat) ∧ (movF R D u i j).toNat + layN (tubeAt R j.toNat) ≤ 4)) := by
  have ff := forB_facts hD hf
  have f2 := ff.2.2.2 j.toNat (by omega)
  have li := tubeAt_len hR (i := i.toNat) (by omega)
  have bi := tubeAt_ok ff.1 (i := i.toNat) (by omega)
  have tl := topF_le _ li
  have tp := top_pos _ li bi
  have lle := lay_le _ li
  have tc : (topF (tubeAt R i.toNat)).1 = 0 ∨ 0 < layN (tubeAt R i.toNat) := by
    rcases Nat.eq_zero_or_pos (layN (tubeAt R i.toNat)) with h0 | h0
    · left; simp [topF, runsL, h0]
    · exact .inr h0
  unfold movF
  repeat' split
  all_goals omega
--@tbl move = impl.move
theorem move_ok (R : List Int) (i j : Int) (n : Int) (hR : R.length = 24) (hr : rackB R = true) (hi : 0 ≤ i ∧ i ≤ 5) (hj : 0 ≤ j ∧ j ≤ 5) (hij : i ≠ j) (hn : 0 ≤ n) (h1 : n.toNat ≤ layN (tubeAt R i.toNat)) (h2 : n.toNat + layN (tubeAt R j.toNat) ≤ 4) : PureH Try.prog 116 [.arr R, .int i, .int j, .int n] [] (.arr (mvR R i.toNat j.toNat n.toNat)) := by
  obtain ⟨a, rfl⟩ : ∃ a : Nat, i = a := ⟨i.toNat, by omega⟩
  obtain ⟨b, rfl⟩ : ∃ b : Nat, j = b := ⟨j.toNat, by omega⟩
  obtain ⟨m, rfl⟩ : ∃ m : Nat, n = m := ⟨n.toNat, by omega⟩
  simp only [Int.toNat_natCast] at h1 h2 ⊢
  have tkR : R.take 24 = R := List.take_of_length_le (by omega)
  refine pure_of_vc (X := ⟨Try.prog, tys, [(56, layers_F)], [], true, true, 0, [], []⟩) fn_116 ⟨tys_ok, (.cons layers_T .nil), .nil, mixed⟩ (n0 := 0) (Nat.le_of_ble_eq_true rfl) (by simp [wfL, SV.wf]) (wfH_spec (by simp [wfH, SObj.wf])) (Nat.le_refl _) (fun _ => by simp [SV.wf, wfL]) ?_
  simp -implicitDefEqProofs only [Try.f116, Option.getD_some, argS, layers_F, hR, tkR, ZB, Int.reduceToNat, Nat.reduceLT, Nat.reduceLeDiff, Int.reduceLE, Int.reduceLT, Nat.reduceEqDiff, Nat.reduceSub, SB, SV.known, packR, ne_eq, reduceCtorEq, Nat.reduceEqDiff, ↓reduceIte, if_true, if_false, eq_self, Nat.reduceAdd, Nat.reduceMul, Nat.reduceSub, forall_const, oneCellS, Kd.isSca, flat, TYB]
  have c0 : rackB (mvR R a b 0) = true := hr
  have mf := fun k (hk : k ≤ m) => mv_facts hR hr (i := a) (j := b) (by omega) (by omega) (by omega) (m := k) (by omega) (by omega)
  have ml := fun k => (mvR_len R a b k).trans hR
  have la := lay_le _ (tubeAt_len hR (i := a) (by omega))
  have lb := lay_le _ (tubeAt_len hR (i := b) (by omega))
  refine loop_intro (fun k : Nat => [(12, .int k), (11, .int m), (8, .ptr 1 0), (4, .ptr 0 0), (1, .int a), (2, .int b)]) (fun k => [(1, .ints (List.replicate 24 0) 28), (0, .ints (mvR R a b k) 28)]) 2 (fun k => k ≤ m) (fun k => m - k) ?_ ?_
  · refine ⟨0, ?_, Sub.mk_id ?_ ?_ ?_ ?_ ?_⟩
    all_goals (try (simp only [mvR, LB, subS, subH, wfS, wfH, SV.ren, renL, SObj.ren, SV.wf, SObj.wf, wfL, SV.known, Nat.reduceEqDiff, ↓reduceIte, if_true, if_false, eq_self, Nat.reduceAdd, Nat.reduceLT, Nat.reduceLeDiff, implies_true, reduceCtorEq, forall_const]; done))
    all_goals (try (simp only [mvR, LB, subS, subH, wfS, wfH, SV.ren, renL, SObj.ren, SV.wf, SObj.wf, wfL, SV.known, Nat.reduceEqDiff, ↓reduceIte, if_true, if_false, eq_self, Nat.reduceAdd, Nat.reduceLT, Nat.reduceLeDiff, implies_true, reduceCtorEq, forall_const]; simp; done))
    all_goals (try (simp only [mvR, LB, subS, subH, wfS, wfH, SV.ren, renL, SObj.ren, SV.wf, SObj.wf, wfL, SV.known, Nat.reduceEqDiff, ↓reduceIte, if_true, if_false, eq_self, Nat.reduceAdd, Nat.reduceLT, Nat.reduceLeDiff, implies_true, reduceCtorEq, forall_const]; (and_intros <;> (first | omega | rfl | (simp; done) | (simp; omega))); done))
    all_goals (try dsimp only)
    all_goals (and_intros <;> try (first | omega | (unfold In64; omega) | trivial | assumption))
  · intro k hk
    have mk := ml k
    have tkM : (mvR R a b k).take 24 = mvR R a b k := List.take_of_length_le (by omega)
    by_cases hlt : k < m
    · have hkl : (k : Int) < m := by omega
      have fa := (mf k hk).1.2
      have fb := (mf k hk).2.1.2
      have ta := tubeAt_len mk (i := a) (by omega)
      have tb := tubeAt_len mk (i := b) (by omega)
      have ea : List.take 4 (List.drop (a * 4) (mvR R a b k)) = tubeAt (mvR R a b k) a := rfl
      have eb : List.take 4 (List.drop (b * 4) (mvR R a b k)) = tubeAt (mvR R a b k) b := rfl
      have e1 : (((layN (tubeAt R a) - k : Nat) : Int) - 1).toNat = layN (tubeAt R a) - 1 - k := by omega
      have es : mvR R a b (k + 1) = ((mvR R a b k).set (b * 4 + (layN (tubeAt R b) + k)) ((mvR R a b k).getD (a * 4 + (layN (tubeAt R a) - 1 - k)) 0)).set (a * 4 + (layN (tubeAt R a) - 1 - k)) 0 := rfl
      simp -implicitDefEqProofs only [lk_normal, layers_F, hkl, ea, eb, ta, tb, fa, fb, mk, e1, ZB, Int.reduceToNat, Nat.reduceLT, Nat.reduceLeDiff, Int.reduceLE, Int.reduceLT, Nat.reduceEqDiff, Nat.reduceSub, SB, SV.known, packR, ne_eq, reduceCtorEq, Nat.reduceEqDiff, ↓reduceIte, if_true, if_false, eq_self, Nat.reduceAdd, Nat.reduceMul, Nat.reduceSub, forall_const, oneCellS, Kd.isSca, flat, TYB]
      (try (and_intros <;> try (first | omega | (unfold In64; omega) | trivial | assumption)))
      refine ⟨k + 1, ?_, ?_, Sub.mk_id ?_ ?_ ?_ ?_ ?_⟩
      all_goals (try (simp only [es, LB, subS, subH, wfS, wfH, SV.ren, renL, SObj.ren, SV.wf, SObj.wf, wfL, SV.known, Nat.reduceEqDiff, ↓reduceIte, if_true, if_false, eq_self, Nat.reduceAdd, Nat.reduceLT, Nat.reduceLeDiff, implies_true, reduceCtorEq, forall_const]; done))
      all_goals (try (simp only [es, LB, subS, subH, wfS, wfH, SV.ren, renL, SObj.ren, SV.wf, SObj.wf, wfL, SV.known, Nat.reduceEqDiff, ↓reduceIte, if_true, if_false, eq_self, Nat.reduceAdd, Nat.reduceLT, Nat.reduceLeDiff, implies_true, reduceCtorEq, forall_const]; simp; done))
      all_goals (try (simp only [es, LB, subS, subH, wfS, wfH, SV.ren, renL, SObj.ren, SV.wf, SObj.wf, wfL, SV.known, Nat.reduceEqDiff, ↓reduceIte, if_true, if_false, eq_self, Nat.reduceAdd, Nat.reduceLT, Nat.reduceLeDiff, implies_true, reduceCtorEq, forall_const]; (and_intros <;> (first | omega | rfl | (simp; done) | (simp; omega))); done))
      all_goals (try dsimp only)
      all_goals (and_intros <;> try (first | omega | (unfold In64; omega) | trivial | assumption))
    · have hkl : ¬ (k : Int) < m := by omega
      obtain rfl : k = m := by omega
      simp -implicitDefEqProofs only [lk_normal, hkl, mk, tkM, ZB, Int.reduceToNat, Nat.reduceLT, Nat.reduceLeDiff, Int.reduceLE, Int.reduceLT, Nat.reduceEqDiff, Nat.reduceSub, SB, SV.known, packR, ne_eq, reduceCtorEq, Nat.reduceEqDiff, ↓reduceIte, if_true, if_false, eq_self, Nat.reduceAdd, Nat.reduceMul, Nat.reduceSub, forall_const, oneCellS, Kd.isSca, flat, TYB]
      (try (and_intros <;> try (first | omega | (unfold In64; omega) | trivial | assumption)))
def move_F : List SV → Heap → Option (Prop × SV)
  | [.arr R, .int i, .int j, .int n], _ => some (R.length = 24 ∧ rackB R = true ∧ (0 ≤ i ∧ i ≤ 5) ∧ (0 ≤ j ∧ j ≤ 5) ∧ i ≠ j ∧ 0 ≤ n ∧ n.toNat ≤ layN (tubeAt R i.toNat) ∧ n.toNat + layN (tubeAt R j.toNat) ≤ 4, .arr (mvR R i.toNat j.toNat n.toNat))
  | _, _ => none
theorem move_T : ∀ args H p v, move_F args H = some (p, v) → p → PureH Try.prog 116 args H v := by
  intro args H p v h hp
  unfold move_F at h
  split at h
  · cases h; exact (move_ok _ _ _ _ hp.1 hp.2.1 hp.2.2.1 hp.2.2.2.1 hp.2.2.2.2.1 hp.2.2.2.2.2.1 hp.2.2.2.2.2.2.1 hp.2.2.2.2.2.2.2).any _
  · cases h
--@tbl l8Move = spec.l8Move
theorem l8Move_ok (R : List Int) (i j : Int) (n : Int) (hR : R.length = 24) (hr : rackB R = true) (hi : 0 ≤ i ∧ i ≤ 5) (hj : 0 ≤ j ∧ j ≤ 5) (hij : i ≠ j) (hn : 0 ≤ n) (h1 : n.toNat ≤ layN (tubeAt R i.toNat)) (h2 : n.toNat + layN (tubeAt R j.toNat) ≤ 4) : PureH Try.prog 111 [.arr R, .int i, .int j, .int n] [] (.arr (mvR R i.toNat j.toNat n.toNat)) := by
  obtain ⟨a, rfl⟩ : ∃ a : Nat, i = a := ⟨i.toNat, by omega⟩
  obtain ⟨b, rfl⟩ : ∃ b : Nat, j = b := ⟨j.toNat, by omega⟩
  obtain ⟨m, rfl⟩ : ∃ m : Nat, n = m := ⟨n.toNat, by omega⟩
  simp only [Int.toNat_natCast] at h1 h2 ⊢
  have tkR : R.take 24 = R := List.take_of_length_le (by omega)
  refine pure_of_vc (X := ⟨Try.prog, tys, [(52, l2Many_F)], [], true, true, 0, [], []⟩) fn_111 ⟨tys_ok, (.cons l2Many_T .nil), .nil, mixed⟩ (n0 := 0) (Nat.le_of_ble_eq_true rfl) (by simp [wfL, SV.wf]) (wfH_spec (by simp [wfH, SObj.wf])) (Nat.le_refl _) (fun _ => by simp [SV.wf, wfL]) ?_
  simp -implicitDefEqProofs only [Try.f111, Option.getD_some, argS, l2Many_F, hR, tkR, ZB, Int.reduceToNat, Nat.reduceLT, Nat.reduceLeDiff, Int.reduceLE, Int.reduceLT, Nat.reduceEqDiff, Nat.reduceSub, SB, SV.known, packR, ne_eq, reduceCtorEq, Nat.reduceEqDiff, ↓reduceIte, if_true, if_false, eq_self, Nat.reduceAdd, Nat.reduceMul, Nat.reduceSub, forall_const, oneCellS, Kd.isSca, flat, TYB]
  have c0 : rackB (mvR R a b 0) = true := hr
  have mf := fun k (hk : k ≤ m) => mv_facts hR hr (i := a) (j := b) (by omega) (by omega) (by omega) (m := k) (by omega) (by omega)
  have ml := fun k => (mvR_len R a b k).trans hR
  have la := lay_le _ (tubeAt_len hR (i := a) (by omega))
  have lb := lay_le _ (tubeAt_len hR (i := b) (by omega))
  refine loop_intro (fun k : Nat => [(3, .int (m - k : Nat)), (8, .ptr 1 0), (4, .ptr 0 0), (1, .int a), (2, .int b)]) (fun k => [(1, .ints (List.replicate 24 0) 28), (0, .ints (mvR R a b k) 28)]) 2 (fun k => k ≤ m) (fun k => m - k) ?_ ?_
  · refine ⟨0, ?_, Sub.mk_id ?_ ?_ ?_ ?_ ?_⟩
    all_goals (try (simp only [mvR, LB, subS, subH, wfS, wfH, SV.ren, renL, SObj.ren, SV.wf, SObj.wf, wfL, SV.known, Nat.reduceEqDiff, ↓reduceIte, if_true, if_false, eq_self, Nat.reduceAdd, Nat.reduceLT, Nat.reduceLeDiff, implies_true, reduceCtorEq, forall_const]; done))
    all_goals (try (simp only [mvR, LB, subS, subH, wfS, wfH, SV.ren, renL, SObj.ren, SV.wf, SObj.wf, wfL, SV.known, Nat.reduceEqDiff, ↓reduceIte, if_true, if_false, eq_self, Nat.reduceAdd, Nat.reduceLT, Nat.reduceLeDiff, implies_true, reduceCtorEq, forall_const]; simp; done))
    all_goals (try (simp only [mvR, LB, subS, subH, wfS, wfH, SV.ren, renL, SObj.ren, SV.wf, SObj.wf, wfL, SV.known, Nat.reduceEqDiff, ↓reduceIte, if_true, if_false, eq_self, Nat.reduceAdd, Nat.reduceLT, Nat.reduceLeDiff, implies_true, reduceCtorEq, forall_const]; (and_intros <;> (first | omega | rfl | (simp; done) | (simp; omega))); done))
    all_goals (try dsimp only)
    all_goals (and_intros <;> try (first | omega | (unfold In64; omega) | trivial | assumption))
  · intro k hk
    have mk := ml k
    have tkM : (mvR R a b k).take 24 = mvR R a b k := List.take_of_length_le (by omega)
    by_cases hlt : k < m
    · have hkl : (0 : Int) < (m - k : Nat) := by omega
      have ba := (mf k hk).1.1
      have bb := (mf k hk).2.1.1
      have fa := (mf k hk).1.2
      have fb := (mf k hk).2.1.2
      have ta := tubeAt_len mk (i := a) (by omega)
      have tb := tubeAt_len mk (i := b) (by omega)
      have ea : List.take 4 (List.drop (a * 4) (mvR R a b k)) = tubeAt (mvR R a b k) a := rfl
      have eb : List.take 4 (List.drop (b * 4) (mvR R a b k)) = tubeAt (mvR R a b k) b := rfl
      have pa := (posC_lay _ ta ba).trans (congrArg _ fa)
      have pb := (posC_lay _ tb bb).trans (congrArg _ fb)
      have eb2 : List.take 4 (List.drop (b * 4) ((mvR R a b k).set (a * 4 + (layN (tubeAt R a) - 1 - k)) 0)) = tubeAt (mvR R a b k) b := by
        refine tubeAt_ext (R := (mvR R a b k).set (a * 4 + (layN (tubeAt R a) - 1 - k)) 0) (tubeAt_len (by rw [List.length_set, mk]) (by omega)) tb fun c hc => ?_
        rw [getD_set' _ _ _ _ (by omega), if_neg (by omega)]
      have e1 : (((layN (tubeAt R a) - k : Nat) : Int) - 1).toNat = layN (tubeAt R a) - 1 - k := by omega
      have es : mvR R a b (k + 1) = ((mvR R a b k).set (b * 4 + (layN (tubeAt R b) + k)) ((mvR R a b k).getD (a * 4 + (layN (tubeAt R a) - 1 - k)) 0)).set (a * 4 + (layN (tubeAt R a) - 1 - k)) 0 := rfl
      have es8 : mvR R a b (k + 1) = ((mvR R a b k).set (a * 4 + (layN (tubeAt R a) - 1 - k)) 0).set (b * 4 + (layN (tubeAt R b) + k)) ((mvR R a b k).getD (a * 4 + (layN (tubeAt R a) - 1 - k)) 0) := by
        rw [es, List.set_comm _ _ (by omega)]
      simp -implicitDefEqProofs only [lk_normal, l2Many_F, hkl, ea, eb2, ta, tb, pa, pb, mk, e1, ZB, Int.reduceToNat, Nat.reduceLT, Nat.reduceLeDiff, Int.reduceLE, Int.reduceLT, Nat.reduceEqDiff, Nat.reduceSub, SB, SV.known, packR, ne_eq, reduceCtorEq, Nat.reduceEqDiff, ↓reduceIte, if_true, if_false, eq_self, Nat.reduceAdd, Nat.reduceMul, Nat.reduceSub, forall_const, oneCellS, Kd.isSca, flat, TYB]
      (try (and_intros <;> try (first | omega | (unfold In64; omega) | trivial | assumption)))
      refine ⟨k + 1, ?_, ?_, Sub.mk_id ?_ ?_ ?_ ?_ ?_⟩
      all_goals (try (simp only [es8, LB, subS, subH, wfS, wfH, SV.ren, renL, SObj.ren, SV.wf, SObj.wf, wfL, SV.known, Nat.reduceEqDiff, ↓reduceIte, if_true, if_false, eq_self, Nat.reduceAdd, Nat.reduceLT, Nat.reduceLeDiff, implies_true, reduceCtorEq, forall_const]; done))
      all_goals (try (simp only [es8, LB, subS, subH, wfS, wfH, SV.ren, renL, SObj.ren, SV.wf, SObj.wf, wfL, SV.known, Nat.reduceEqDiff, ↓reduceIte, if_true, if_false, eq_self, Nat.reduceAdd, Nat.reduceLT, Nat.reduceLeDiff, implies_true, reduceCtorEq, forall_const]; simp; done))
      all_goals (try (simp only [es8, LB, subS, subH, wfS, wfH, SV.ren, renL, SObj.ren, SV.wf, SObj.wf, wfL, SV.known, Nat.reduceEqDiff, ↓reduceIte, if_true, if_false, eq_self, Nat.reduceAdd, Nat.reduceLT, Nat.reduceLeDiff, implies_true, reduceCtorEq, forall_const]; (and_intros <;> (first | omega | rfl | (simp; done) | (simp; omega))); done))
      all_goals (try dsimp only)
      all_goals (and_intros <;> try (first | omega | (unfold In64; omega) | trivial | assumption))
    · have hkl : ¬ (0 : Int) < (m - k : Nat) := by omega
      obtain rfl : k = m := by omega
      simp -implicitDefEqProofs only [lk_normal, hkl, mk, tkM, ZB, Int.reduceToNat, Nat.reduceLT, Nat.reduceLeDiff, Int.reduceLE, Int.reduceLT, Nat.reduceEqDiff, Nat.reduceSub, SB, SV.known, packR, ne_eq, reduceCtorEq, Nat.reduceEqDiff, ↓reduceIte, if_true, if_false, eq_self, Nat.reduceAdd, Nat.reduceMul, Nat.reduceSub, forall_const, oneCellS, Kd.isSca, flat, TYB]
      (try (and_intros <;> try (first | omega | (unfold In64; omega) | trivial | assumption)))
def l8Move_F : List SV → Heap → Option (Prop × SV)
  | [.arr R, .int i, .int j, .int n], _ => some (R.length = 24 ∧ rackB R = true ∧ (0 ≤ i ∧ i ≤ 5) ∧ (0 ≤ j ∧ j ≤ 5) ∧ i ≠ j ∧ 0 ≤ n ∧ n.toNat ≤ layN (tubeAt R i.toNat) ∧ n.toNat + layN (tubeAt R j.toNat) ≤ 4, .arr (mvR R i.toNat j.toNat n.toNat))
  | _, _ => none
theorem l8Move_T : ∀ args H p v, l8Move_F args H = some (p, v) → p → PureH Try.prog 111 args H v := by
  intro args H p v h hp
  unfold l8Move_F at h
  split at h
  · cases h; exact (l8Move_ok _ _ _ _ hp.1 hp.2.1 hp.2.2.1 hp.2.2.2.1 hp.2.2.2.2.1 hp.2.2.2.2.2.1 hp.2.2.2.2.2.2.1 hp.2.2.2.2.2.2.2).any _
  · cases h
--@tbl l8Fits2 = spec.l8Fits
/-- The model's fits, for all racks: it answers whether rack and depths are valid and fit. -/
theorem l8Fits2_ok (R D : List Int) (hR : R.length = 24) (hD : D.length = 6) : PureH Try.prog 66 [.arr R, .arr D] [] (.bool (forB R D)) := by
  have tkR : R.take 24 = R := List.take_of_length_le (by omega)
  have tkD : D.take 6 = D := List.take_of_length_le (by omega)
  refine pure_of_vc (X := ⟨Try.prog, tys, [(52, l2Many_F), (43, l2Rack_F), (109, l8Depths_F)], [], true, true, 0, [], []⟩) fn_66 ⟨tys_ok, (.cons l2Many_T (.cons l2Rack_T (.cons l8Depths_T .nil))), .nil, mixed⟩ (n0 := 0) (Nat.le_of_ble_eq_true rfl) (by simp [wfL, SV.wf]) (wfH_spec (by simp [wfH, SObj.wf])) (Nat.le_refl _) (fun _ => by simp [SV.wf, wfL]) ?_
  simp -implicitDefEqProofs only [Try.f66, Option.getD_some, argS, l2Many_F, l2Rack_F, l8Depths_F, hR, hD, tkR, tkD, ZB, Int.reduceToNat, Nat.reduceLT, Nat.reduceLeDiff, Int.reduceLE, Int.reduceLT, Nat.reduceEqDiff, Nat.reduceSub, SB, SV.known, packR, ne_eq, reduceCtorEq, Nat.reduceEqDiff, ↓reduceIte, if_true, if_false, eq_self, Nat.reduceAdd, Nat.reduceMul, Nat.reduceSub, forall_const, oneCellS, Kd.isSca, flat, TYB]
  refine loop_intro (fun i : Nat => [(5, .int i), (2, .ptr 0 0), (3, .ptr 1 0)]) (fun _ => [(0, .ints R 28), (1, .ints D 39)]) 2 (fun i => i ≤ 6 ∧ ∀ k, k < i → posC (tubeAt R k) ≤ D.getD k 0) (fun i => 6 - i) ?_ ?_
  · refine ⟨0, ?_, Sub.mk_id ?_ ?_ ?_ ?_ ?_⟩
    all_goals (try (simp only [LB, subS, subH, wfS, wfH, SV.ren, renL, SObj.ren, SV.wf, SObj.wf, wfL, SV.known, Nat.reduceEqDiff, ↓reduceIte, if_true, if_false, eq_self, Nat.reduceAdd, Nat.reduceLT, Nat.reduceLeDiff, implies_true, reduceCtorEq, forall_const]; done))
    all_goals (try (simp only [LB, subS, subH, wfS, wfH, SV.ren, renL, SObj.ren, SV.wf, SObj.wf, wfL, SV.known, Nat.reduceEqDiff, ↓reduceIte, if_true, if_false, eq_self, Nat.reduceAdd, Nat.reduceLT, Nat.reduceLeDiff, implies_true, reduceCtorEq, forall_const]; simp; done))
    all_goals (try (simp only [LB, subS, subH, wfS, wfH, SV.ren, renL, SObj.ren, SV.wf, SObj.wf, wfL, SV.known, Nat.reduceEqDiff, ↓reduceIte, if_true, if_false, eq_self, Nat.reduceAdd, Nat.reduceLT, Nat.reduceLeDiff, implies_true, reduceCtorEq, forall_const]; (and_intros <;> (first | omega | rfl | (simp; done) | (simp; omega))); done))
    all_goals (try dsimp only)
    all_goals (and_intros <;> try (first | omega | (unfold In64; omega) | trivial | assumption))
  · rintro i ⟨hi, hall⟩
    have eT : List.take 4 (List.drop (i * 4) R) = tubeAt R i := rfl
    by_cases hlt : i < 6
    · have hil : (i : Int) < 6 := by omega
      have hl := tubeAt_len hR hlt
      simp -implicitDefEqProofs only [lk_normal, l2Many_F, hil, hR, hD, eT, hl, ZB, Int.reduceToNat, Nat.reduceLT, Nat.reduceLeDiff, Int.reduceLE, Int.reduceLT, Nat.reduceEqDiff, Nat.reduceSub, SB, SV.known, packR, ne_eq, reduceCtorEq, Nat.reduceEqDiff, ↓reduceIte, if_true, if_false, eq_self, Nat.reduceAdd, Nat.reduceMul, Nat.reduceSub, forall_const, oneCellS, Kd.isSca, flat, TYB]
      (try (and_intros <;> try (first | omega | (unfold In64; omega) | trivial | assumption)))
      · intro hx
        have : forB R D = false := by
          cases hf : forB R D with
          | false => rfl
          | true =>
            have ff := forB_facts hD hf
            have f2 := ff.2.2.2 i hlt
            have := posC_lay _ hl (tubeAt_ok ff.1 hlt)
            unfold roomF at f2
            omega
        rw [this]
      · intro hx
        (try (and_intros <;> try (first | omega | (unfold In64; omega) | trivial | assumption)))
        refine ⟨i + 1, ?_, ?_, Sub.mk_id ?_ ?_ ?_ ?_ ?_⟩
        all_goals (try (simp only [LB, subS, subH, wfS, wfH, SV.ren, renL, SObj.ren, SV.wf, SObj.wf, wfL, SV.known, Nat.reduceEqDiff, ↓reduceIte, if_true, if_false, eq_self, Nat.reduceAdd, Nat.reduceLT, Nat.reduceLeDiff, implies_true, reduceCtorEq, forall_const]; done))
        all_goals (try (simp only [LB, subS, subH, wfS, wfH, SV.ren, renL, SObj.ren, SV.wf, SObj.wf, wfL, SV.known, Nat.reduceEqDiff, ↓reduceIte, if_true, if_false, eq_self, Nat.reduceAdd, Nat.reduceLT, Nat.reduceLeDiff, implies_true, reduceCtorEq, forall_const]; simp; done))
        all_goals (try (simp only [LB, subS, subH, wfS, wfH, SV.ren, renL, SObj.ren, SV.wf, SObj.wf, wfL, SV.known, Nat.reduceEqDiff, ↓reduceIte, if_true, if_false, eq_self, Nat.reduceAdd, Nat.reduceLT, Nat.reduceLeDiff, implies_true, reduceCtorEq, forall_const]; (and_intros <;> (first | omega | rfl | (simp; done) | (simp; omega))); done))
        all_goals (try dsimp only)
        all_goals (and_intros <;> try (first | omega | (unfold In64; omega) | trivial | assumption))
        intro k hk
        by_cases hki : k = i
        · subst hki; omega
        · exact hall k (by omega)
    · have hil : ¬ (i : Int) < 6 := by omega
      obtain rfl : i = 6 := by omega
      have key : rackB R = true → fitF R D = true := fun hr => fit_none fun k hk => by
        have := posC_lay _ (tubeAt_len hR hk) (tubeAt_ok hr hk)
        have := hall k hk
        omega
      cases hr : rackB R with
      | false =>
        simp -implicitDefEqProofs only [lk_normal, l2Rack_F, l8Depths_F, hil, hR, hD, hr, tkR, tkD, ZB, Int.reduceToNat, Nat.reduceLT, Nat.reduceLeDiff, Int.reduceLE, Int.reduceLT, Nat.reduceEqDiff, Nat.reduceSub, SB, SV.known, packR, ne_eq, reduceCtorEq, Nat.reduceEqDiff, ↓reduceIte, if_true, if_false, eq_self, Nat.reduceAdd, Nat.reduceMul, Nat.reduceSub, forall_const, oneCellS, Kd.isSca, flat, TYB]
        simp [forB, hr]
      | true =>
        have hk := key hr
        simp -implicitDefEqProofs only [lk_normal, l2Rack_F, l8Depths_F, hil, hR, hD, hr, tkR, tkD, ZB, Int.reduceToNat, Nat.reduceLT, Nat.reduceLeDiff, Int.reduceLE, Int.reduceLT, Nat.reduceEqDiff, Nat.reduceSub, SB, SV.known, packR, ne_eq, reduceCtorEq, Nat.reduceEqDiff, ↓reduceIte, if_true, if_false, eq_self, Nat.reduceAdd, Nat.reduceMul, Nat.reduceSub, forall_const, oneCellS, Kd.isSca, flat, TYB]
        simp [forB, hr, hk]
def l8Fits2_F : List SV → Heap → Option (Prop × SV)
  | [.arr R, .arr D], _ => some (R.length = 24 ∧ D.length = 6, .bool (forB R D))
  | _, _ => none
theorem l8Fits2_T : ∀ args H p v, l8Fits2_F args H = some (p, v) → p → PureH Try.prog 66 args H v := by
  intro args H p v h hp
  unfold l8Fits2_F at h
  split at h
  · cases h; exact (l8Fits2_ok _ _ hp.1 hp.2).any _
  · cases h
def pbB (R D : List Int) (u : Int) (i j : Nat) : Bool := decide (0 < movF R D u i j)
theorem poursBy_ok (R D : List Int) (u : Int) (hR : R.length = 24) (hD : D.length = 6) (hf : forB R D = true) : FreshP Try.prog 115 [.arr R, .arr D, .int u] [] (GL (pbB R D u) 36) ((GL (pbB R D u) 36).length / 2) 2 50 true .one := by
  have tkR : R.take 24 = R := List.take_of_length_le (by omega)
  have tkD : D.take 6 = D := List.take_of_length_le (by omega)
  refine fresh_of_vc (X := ⟨Try.prog, tys, [(117, movedBy_F)], [], true, true, 0, [], []⟩) fn_115 ⟨tys_ok, (.cons movedBy_T .nil), .nil, mixed⟩ (n0 := 0) rfl (Nat.le_of_ble_eq_true rfl) (by simp [wfL, SV.wf]) (wfH_spec (by simp [wfH, SObj.wf])) (Nat.le_refl _) ?_
  simp -implicitDefEqProofs only [Try.f115, Option.getD_some, argS, movedBy_F, hR, hD, tkR, tkD, hf, ZB, Int.reduceToNat, Nat.reduceLT, Nat.reduceLeDiff, Int.reduceLE, Int.reduceLT, Nat.reduceEqDiff, Nat.reduceSub, SB, SV.known, packR, ne_eq, reduceCtorEq, Nat.reduceEqDiff, ↓reduceIte, if_true, if_false, eq_self, Nat.reduceAdd, Nat.reduceMul, Nat.reduceSub, forall_const, oneCellS, Kd.isSca, flat, TYB]
  refine loop_intro (fun s : Nat × Nat × Nat × List Int => [(3, .ptr 0 0), (4, .ptr 1 0), (2, .int u), (7, outVn 2 s.2.1 s.2.1 s.2.2.1), (10, .int s.1)]) (fun s => outHn 2 s.2.1 (GL (pbB R D u) (s.1 * 6) ++ s.2.2.2) 50 [(0, .ints R 28), (1, .ints D 39)]) 3
    (fun s => s.1 ≤ 6 ∧ (GL (pbB R D u) (s.1 * 6)).length = s.2.1 * 2 ∧ s.2.1 ≤ 37 ∧ s.2.1 ≤ s.1 * 6 ∧ s.2.2.2.length + s.2.1 * 2 = s.2.2.1 * 2) (fun s => 6 - s.1) ?_ ?_
  · refine ⟨(0, 0, 0, []), ⟨by omega, by simp [GL_zero], by simp, by simp, by simp⟩, Sub.mk_id ?_ ?_ ?_ ?_ ?_⟩
    all_goals simp only [outVn_zero, outHn_zero, LB, subS, subH, wfS, wfH, SV.ren, renL, SObj.ren, SV.wf, SObj.wf, wfL, SV.known, Nat.reduceEqDiff, ↓reduceIte, if_true, if_false, eq_self, Nat.reduceAdd, Nat.reduceLT, Nat.reduceLeDiff, implies_true, reduceCtorEq, forall_const]
    all_goals (try simp)
  · rintro ⟨i, n, cap, junk⟩ ⟨hi, hL, hn, hni, hj⟩
    simp only at hi hL hn hni hj
    simp -implicitDefEqProofs only [lk_normal, hR, hD, ZB, Int.reduceToNat, Nat.reduceLT, Nat.reduceLeDiff, Int.reduceLE, Int.reduceLT, Nat.reduceEqDiff, Nat.reduceSub, SB, SV.known, packR, ne_eq, reduceCtorEq, Nat.reduceEqDiff, ↓reduceIte, if_true, if_false, eq_self, Nat.reduceAdd, Nat.reduceMul, Nat.reduceSub, forall_const, oneCellS, Kd.isSca, flat, TYB]
    refine ⟨fun h => ?_, fun h => ?_⟩
    · have hi6 : i < 6 := by omega
      refine loop_intro (fun s : Nat × Nat × Nat × List Int => [(3, .ptr 0 0), (4, .ptr 1 0), (2, .int u), (7, outVn 2 s.2.1 s.2.1 s.2.2.1), (8, .int i), (10, .int i), (13, .int s.1)]) (fun s => outHn 2 s.2.1 (GL (pbB R D u) (i * 6 + s.1) ++ s.2.2.2) 50 [(0, .ints R 28), (1, .ints D 39)]) 3
        (fun s => s.1 ≤ 6 ∧ (GL (pbB R D u) (i * 6 + s.1)).length = s.2.1 * 2 ∧ s.2.1 ≤ 37 ∧ s.2.1 ≤ i * 6 + s.1 ∧ s.2.2.2.length + s.2.1 * 2 = s.2.2.1 * 2) (fun s => 6 - s.1) ?_ ?_
      · refine ⟨(0, n, cap, junk), ⟨by simp, by simpa using hL, by simpa using hn, by simpa using hni, by simpa using hj⟩, ?_⟩
        cases n with
        | zero =>
          refine Sub.mk_id ?_ ?_ ?_ ?_ ?_
          all_goals simp only [outVn_zero, outHn_zero, LB, subS, subH, wfS, wfH, SV.ren, renL, SObj.ren, SV.wf, SObj.wf, wfL, SV.known, Nat.reduceEqDiff, ↓reduceIte, if_true, if_false, eq_self, Nat.reduceAdd, Nat.reduceLT, Nat.reduceLeDiff, implies_true, reduceCtorEq, forall_const]
          all_goals (try simp)
        | succ n =>
          refine Sub.mk_id ?_ ?_ ?_ ?_ ?_
          all_goals simp only [outVn_succ, outHn_succ, LB, subS, subH, wfS, wfH, SV.ren, renL, SObj.ren, SV.wf, SObj.wf, wfL, SV.known, Nat.reduceEqDiff, ↓reduceIte, if_true, if_false, eq_self, Nat.reduceAdd, Nat.reduceLT, Nat.reduceLeDiff, implies_true, reduceCtorEq, forall_const]
          all_goals (try simp)
      · rintro ⟨j, n, cap, junk⟩ ⟨gj, gL, gn, gni, gk⟩
        simp only at gj gL gn gni gk
        have es := fun hj => GL_at (pbB R D u) i j hj
        have e6 : (i + 1) * 6 = i * 6 + 6 := by omega
        cases hc : pbB R D u i j with
        | false =>
         have hc2 : ¬ 0 < movF R D u i j := of_decide_eq_false hc
         cases n with
         | zero =>
          simp -implicitDefEqProofs only [lk_normal, movedBy_F, outVn_zero, outHn_zero, hR, hD, tkR, tkD, hf, hc2, ZB, Int.reduceToNat, Nat.reduceLT, Nat.reduceLeDiff, Int.reduceLE, Int.reduceLT, Nat.reduceEqDiff, Nat.reduceSub, SB, SV.known, packR, ne_eq, reduceCtorEq, Nat.reduceEqDiff, ↓reduceIte, if_true, if_false, eq_self, Nat.reduceAdd, Nat.reduceMul, Nat.reduceSub, forall_const, oneCellS, Kd.isSca, flat, TYB]
          refine ⟨fun hx => ?_, fun hx => ?_⟩
          · have e1 := es (by omega)
            rw [hc] at e1
            simp only [Bool.false_eq_true, if_false, List.append_nil] at e1
            (try (and_intros <;> try (first | omega | (unfold In64; omega) | trivial | assumption)))
            refine ⟨(j + 1, 0, cap, junk), ⟨by simp only; omega, by simp only [← Nat.add_assoc]; rw [e1]; exact gL, by simp only; omega, by simp only; omega, by simp only; omega⟩, by simp only; omega, Sub.mk_id ?_ ?_ ?_ ?_ ?_⟩
            all_goals simp only [outVn_zero, outHn_zero, ← Nat.add_assoc, e1, LB, subS, subH, wfS, wfH, SV.ren, renL, SObj.ren, SV.wf, SObj.wf, wfL, SV.known, Nat.reduceEqDiff, ↓reduceIte, if_true, if_false, eq_self, Nat.reduceAdd, Nat.reduceLT, Nat.reduceLeDiff, implies_true, reduceCtorEq, forall_const]
            all_goals (try simp)
          · have hj6 : j = 6 := by omega
            subst hj6
            (try (and_intros <;> try (first | omega | (unfold In64; omega) | trivial | assumption)))
            refine ⟨(i + 1, 0, cap, junk), ⟨by simp only; omega, by simp only; rw [e6]; exact gL, by simp only; omega, by simp only; omega, by simp only; omega⟩, by simp only; omega, Sub.mk_id ?_ ?_ ?_ ?_ ?_⟩
            all_goals simp only [outVn_zero, outHn_zero, e6, LB, subS, subH, wfS, wfH, SV.ren, renL, SObj.ren, SV.wf, SObj.wf, wfL, SV.known, Nat.reduceEqDiff, ↓reduceIte, if_true, if_false, eq_self, Nat.reduceAdd, Nat.reduceLT, Nat.reduceLeDiff, implies_true, reduceCtorEq, forall_const]
            all_goals (try simp)
         | succ n =>
          simp -implicitDefEqProofs only [lk_normal, movedBy_F, outVn_succ, outHn_succ, hR, hD, tkR, tkD, hf, hc2, ZB, Int.reduceToNat, Nat.reduceLT, Nat.reduceLeDiff, Int.reduceLE, Int.reduceLT, Nat.reduceEqDiff, Nat.reduceSub, SB, SV.known, packR, ne_eq, reduceCtorEq, Nat.reduceEqDiff, ↓reduceIte, if_true, if_false, eq_self, Nat.reduceAdd, Nat.reduceMul, Nat.reduceSub, forall_const, oneCellS, Kd.isSca, flat, TYB]
          refine ⟨fun hx => ?_, fun hx => ?_⟩
          · have e1 := es (by omega)
            rw [hc] at e1
            simp only [Bool.false_eq_true, if_false, List.append_nil] at e1
            (try (and_intros <;> try (first | omega | (unfold In64; omega) | trivial | assumption)))
            refine ⟨(j + 1, n + 1, cap, junk), ⟨by simp only; omega, by simp only [← Nat.add_assoc]; rw [e1]; exact gL, by simp only; omega, by simp only; omega, by simp only; omega⟩, by simp only; omega, Sub.mk_id ?_ ?_ ?_ ?_ ?_⟩
            all_goals simp only [outVn_succ, outHn_succ, ← Nat.add_assoc, e1, LB, subS, subH, wfS, wfH, SV.ren, renL, SObj.ren, SV.wf, SObj.wf, wfL, SV.known, Nat.reduceEqDiff, ↓reduceIte, if_true, if_false, eq_self, Nat.reduceAdd, Nat.reduceLT, Nat.reduceLeDiff, implies_true, reduceCtorEq, forall_const]
            all_goals (try simp)
          · have hj6 : j = 6 := by omega
            subst hj6
            (try (and_intros <;> try (first | omega | (unfold In64; omega) | trivial | assumption)))
            refine ⟨(i + 1, n + 1, cap, junk), ⟨by simp only; omega, by simp only; rw [e6]; exact gL, by simp only; omega, by simp only; omega, by simp only; omega⟩, by simp only; omega, Sub.mk_id ?_ ?_ ?_ ?_ ?_⟩
            all_goals simp only [outVn_succ, outHn_succ, e6, LB, subS, subH, wfS, wfH, SV.ren, renL, SObj.ren, SV.wf, SObj.wf, wfL, SV.known, Nat.reduceEqDiff, ↓reduceIte, if_true, if_false, eq_self, Nat.reduceAdd, Nat.reduceLT, Nat.reduceLeDiff, implies_true, reduceCtorEq, forall_const]
            all_goals (try simp)
        | true =>
         have hc2 : 0 < movF R D u i j := of_decide_eq_true hc
         cases n with
         | zero =>
          simp -implicitDefEqProofs only [lk_normal, movedBy_F, outVn_zero, outHn_zero, hR, hD, tkR, tkD, hf, hc2, ZB, Int.reduceToNat, Nat.reduceLT, Nat.reduceLeDiff, Int.reduceLE, Int.reduceLT, Nat.reduceEqDiff, Nat.reduceSub, SB, SV.known, packR, ne_eq, reduceCtorEq, Nat.reduceEqDiff, ↓reduceIte, if_true, if_false, eq_self, Nat.reduceAdd, Nat.reduceMul, Nat.reduceSub, forall_const, oneCellS, Kd.isSca, flat, TYB]
          refine ⟨fun hx => ?_, fun hx => ?_⟩
          · have e1 := es (by omega)
            have e0 : GL (pbB R D u) (i * 6 + j) = [] := List.length_eq_zero_iff.1 (by simpa using gL)
            rw [hc, e0] at e1
            simp only [if_true, List.nil_append] at e1
            (try (and_intros <;> try (first | omega | (unfold In64; omega) | trivial | assumption)))
            intro junk' cap' hj'
            (try (and_intros <;> try (first | omega | (unfold In64; omega) | trivial | assumption)))
            refine ⟨(j + 1, 1, cap', junk'), ⟨by simp only; omega, by simp only [← Nat.add_assoc]; rw [e1]; rfl, by simp only; omega, by simp only; omega, by simp only; omega⟩, by simp only; omega, Sub.mk_to 2 4 ?_ ?_ ?_ ?_ ?_ ?_ ?_⟩
            all_goals simp only [outVn_succ, outHn_succ, ← Nat.add_assoc, e1, LB, subS, subH, wfS, wfH, SV.ren, renL, SObj.ren, SV.wf, SObj.wf, wfL, SV.known, Nat.reduceEqDiff, ↓reduceIte, if_true, if_false, eq_self, Nat.reduceAdd, Nat.reduceLT, Nat.reduceLeDiff, implies_true, reduceCtorEq, forall_const]
            all_goals (try simp)
          · have hj6 : j = 6 := by omega
            subst hj6
            (try (and_intros <;> try (first | omega | (unfold In64; omega) | trivial | assumption)))
            refine ⟨(i + 1, 0, cap, junk), ⟨by simp only; omega, by simp only; rw [e6]; exact gL, by simp only; omega, by simp only; omega, by simp only; omega⟩, by simp only; omega, Sub.mk_id ?_ ?_ ?_ ?_ ?_⟩
            all_goals simp only [outVn_zero, outHn_zero, e6, LB, subS, subH, wfS, wfH, SV.ren, renL, SObj.ren, SV.wf, SObj.wf, wfL, SV.known, Nat.reduceEqDiff, ↓reduceIte, if_true, if_false, eq_self, Nat.reduceAdd, Nat.reduceLT, Nat.reduceLeDiff, implies_true, reduceCtorEq, forall_const]
            all_goals (try simp)
         | succ n =>
          have tkL : (GL (pbB R D u) (i * 6 + j) ++ junk).take ((n + 1) * 2) = GL (pbB R D u) (i * 6 + j) := List.take_left' gL
          have lenL : (GL (pbB R D u) (i * 6 + j) ++ junk).length = cap * 2 := by rw [List.length_append]; omega
          simp -implicitDefEqProofs only [lk_normal, movedBy_F, outVn_succ, outHn_succ, hR, hD, tkR, tkD, hf, hc2, tkL, lenL, ZB, Int.reduceToNat, Nat.reduceLT, Nat.reduceLeDiff, Int.reduceLE, Int.reduceLT, Nat.reduceEqDiff, Nat.reduceSub, SB, SV.known, packR, ne_eq, reduceCtorEq, Nat.reduceEqDiff, ↓reduceIte, if_true, if_false, eq_self, Nat.reduceAdd, Nat.reduceMul, Nat.reduceSub, forall_const, oneCellS, Kd.isSca, flat, TYB]
          refine ⟨fun hx => ?_, fun hx => ?_⟩
          · have e1 := es (by omega)
            rw [hc] at e1
            simp only [if_true] at e1
            (try (and_intros <;> try (first | omega | (unfold In64; omega) | trivial | assumption)))
            intro junk' cap' hj'
            (try (and_intros <;> try (first | omega | (unfold In64; omega) | trivial | assumption)))
            refine ⟨(j + 1, n + 1 + 1, cap', junk'), ⟨by simp only; omega, by simp only [← Nat.add_assoc]; rw [e1, List.length_append, gL]; simp; omega, by simp only; omega, by simp only; omega, by simp only; omega⟩, by simp only; omega, Sub.mk_to 2 4 ?_ ?_ ?_ ?_ ?_ ?_ ?_⟩
            all_goals simp only [outVn_succ, outHn_succ, ← Nat.add_assoc, e1, LB, subS, subH, wfS, wfH, SV.ren, renL, SObj.ren, SV.wf, SObj.wf, wfL, SV.known, Nat.reduceEqDiff, ↓reduceIte, if_true, if_false, eq_self, Nat.reduceAdd, Nat.reduceLT, Nat.reduceLeDiff, implies_true, reduceCtorEq, forall_const]
            all_goals (try simp)
          · have hj6 : j = 6 := by omega
            subst hj6
            (try (and_intros <;> try (first | omega | (unfold In64; omega) | trivial | assumption)))
            refine ⟨(i + 1, n + 1, cap, junk), ⟨by simp only; omega, by simp only; rw [e6]; exact gL, by simp only; omega, by simp only; omega, by simp only; omega⟩, by simp only; omega, Sub.mk_id ?_ ?_ ?_ ?_ ?_⟩
            all_goals simp only [outVn_succ, outHn_succ, e6, LB, subS, subH, wfS, wfH, SV.ren, renL, SObj.ren, SV.wf, SObj.wf, wfL, SV.known, Nat.reduceEqDiff, ↓reduceIte, if_true, if_false, eq_self, Nat.reduceAdd, Nat.reduceLT, Nat.reduceLeDiff, implies_true, reduceCtorEq, forall_const]
            all_goals (try simp)
    · obtain rfl : i = 6 := by omega
      have kn : ∀ a b c, (outVn 2 a b c).known = true := fun a b c => by cases a <;> rfl
      refine ⟨kn _ _ _, ?_⟩
      cases n with
      | zero => 
        refine .inl ⟨rfl, List.length_eq_zero_iff.1 (by simpa using hL), ?_⟩
        simp [outVn_zero, Wrap.ap]
      | succ n =>
        refine .inr ⟨2, cap, junk, ?_, ?_, by omega, ?_, ?_⟩
        · rw [show (GL (pbB R D u) 36).length = (n + 1) * 2 from hL]; simp [Wrap.ap, outVn_succ]
        · simp [hget_cons, outHn_succ]
        · have : (GL (pbB R D u) 36).length = (n + 1) * 2 := hL
          omega
        · intro _ h0
          have : (GL (pbB R D u) 36).length = (n + 1) * 2 := hL
          rw [h0] at this
          simp at this
theorem l8Pours_ok (R D : List Int) (u : Int) (hR : R.length = 24) (hD : D.length = 6) (hf : forB R D = true) (hu : ruF u = true) : FreshP Try.prog 110 [.arr R, .arr D, .int u] [] (GL (pbB R D u) 36) ((GL (pbB R D u) 36).length / 2) 2 50 false .one := by
  have tkR : R.take 24 = R := List.take_of_length_le (by omega)
  have tkD : D.take 6 = D := List.take_of_length_le (by omega)
  refine fresh_of_vc (X := ⟨Try.prog, tys, [(112, l8Moves_F)], [], true, true, 0, [], []⟩) fn_110 ⟨tys_ok, (.cons l8Moves_T .nil), .nil, mixed⟩ (n0 := 0) rfl (Nat.le_of_ble_eq_true rfl) (by simp [wfL, SV.wf]) (wfH_spec (by simp [wfH, SObj.wf])) (Nat.le_refl _) ?_
  simp -implicitDefEqProofs only [Try.f110, Option.getD_some, argS, l8Moves_F, hR, hD, tkR, tkD, hf, hu, ZB, Int.reduceToNat, Nat.reduceLT, Nat.reduceLeDiff, Int.reduceLE, Int.reduceLT, Nat.reduceEqDiff, Nat.reduceSub, SB, SV.known, packR, ne_eq, reduceCtorEq, Nat.reduceEqDiff, ↓reduceIte, if_true, if_false, eq_self, Nat.reduceAdd, Nat.reduceMul, Nat.reduceSub, forall_const, oneCellS, Kd.isSca, flat, TYB]
  refine loop_intro (fun s : Nat × Nat × Nat × List Int => [(3, .ptr 0 0), (4, .ptr 1 0), (2, .int u), (7, .slice 2 0 s.2.1 s.2.2.1), (8, .int s.1)]) (fun s => [(2, .ints (GL (pbB R D u) (s.1 * 6) ++ s.2.2.2) 50), (0, .ints R 28), (1, .ints D 39)]) 3
    (fun s => s.1 ≤ 6 ∧ (GL (pbB R D u) (s.1 * 6)).length = s.2.1 * 2 ∧ s.2.1 ≤ 37 ∧ s.2.1 ≤ s.1 * 6 ∧ s.2.2.2.length + s.2.1 * 2 = s.2.2.1 * 2) (fun s => 6 - s.1) ?_ ?_
  · refine ⟨(0, 0, 0, []), ⟨by omega, by simp [GL_zero], by simp, by simp, by simp⟩, Sub.mk_id ?_ ?_ ?_ ?_ ?_⟩
    all_goals simp only [Nat.zero_mul, GL_zero, List.append_nil, LB, subS, subH, wfS, wfH, SV.ren, renL, SObj.ren, SV.wf, SObj.wf, wfL, SV.known, Nat.reduceEqDiff, ↓reduceIte, if_true, if_false, eq_self, Nat.reduceAdd, Nat.reduceLT, Nat.reduceLeDiff, implies_true, reduceCtorEq, forall_const]
    all_goals (try simp)
  · rintro ⟨i, n, cap, junk⟩ ⟨hi, hL, hn, hni, hj⟩
    simp only at hi hL hn hni hj
    simp -implicitDefEqProofs only [lk_normal, l8Moves_F, hR, hD, hf, hu, ZB, Int.reduceToNat, Nat.reduceLT, Nat.reduceLeDiff, Int.reduceLE, Int.reduceLT, Nat.reduceEqDiff, Nat.reduceSub, SB, SV.known, packR, ne_eq, reduceCtorEq, Nat.reduceEqDiff, ↓reduceIte, if_true, if_false, eq_self, Nat.reduceAdd, Nat.reduceMul, Nat.reduceSub, forall_const, oneCellS, Kd.isSca, flat, TYB]
    refine ⟨fun h => ?_, fun h => ?_⟩
    · have hi6 : i < 6 := by omega
      refine loop_intro (fun s : Nat × Nat × Nat × List Int => [(3, .ptr 0 0), (4, .ptr 1 0), (2, .int u), (7, .slice 2 0 s.2.1 s.2.2.1), (8, .int i), (9, .int s.1)]) (fun s => [(2, .ints (GL (pbB R D u) (i * 6 + s.1) ++ s.2.2.2) 50), (0, .ints R 28), (1, .ints D 39)]) 3
        (fun s => s.1 ≤ 6 ∧ (GL (pbB R D u) (i * 6 + s.1)).length = s.2.1 * 2 ∧ s.2.1 ≤ 37 ∧ s.2.1 ≤ i * 6 + s.1 ∧ s.2.2.2.length + s.2.1 * 2 = s.2.2.1 * 2) (fun s => 6 - s.1) ?_ ?_
      · refine ⟨(0, n, cap, junk), ⟨by simp, by simpa using hL, by simpa using hn, by simpa using hni, by simpa using hj⟩, Sub.mk_id ?_ ?_ ?_ ?_ ?_⟩
        all_goals simp only [Nat.add_zero, LB, subS, subH, wfS, wfH, SV.ren, renL, SObj.ren, SV.wf, SObj.wf, wfL, SV.known, Nat.reduceEqDiff, ↓reduceIte, if_true, if_false, eq_self, Nat.reduceAdd, Nat.reduceLT, Nat.reduceLeDiff, implies_true, reduceCtorEq, forall_const]
        all_goals (try simp)
      · rintro ⟨j, n, cap, junk⟩ ⟨gj, gL, gn, gni, gk⟩
        simp only at gj gL gn gni gk
        have es := fun hj => GL_at (pbB R D u) i j hj
        have e6 : (i + 1) * 6 = i * 6 + 6 := by omega
        have tkL : (GL (pbB R D u) (i * 6 + j) ++ junk).take (n * 2) = GL (pbB R D u) (i * 6 + j) := List.take_left' gL
        have lenL : (GL (pbB R D u) (i * 6 + j) ++ junk).length = cap * 2 := by rw [List.length_append]; omega
        cases hc : pbB R D u i j with
        | false =>
          have hc2 : ¬ 0 < movF R D u i j := of_decide_eq_false hc
          simp -implicitDefEqProofs only [lk_normal, l8Moves_F, hR, hD, tkR, tkD, hf, hu, hc2, ZB, Int.reduceToNat, Nat.reduceLT, Nat.reduceLeDiff, Int.reduceLE, Int.reduceLT, Nat.reduceEqDiff, Nat.reduceSub, SB, SV.known, packR, ne_eq, reduceCtorEq, Nat.reduceEqDiff, ↓reduceIte, if_true, if_false, eq_self, Nat.reduceAdd, Nat.reduceMul, Nat.reduceSub, forall_const, oneCellS, Kd.isSca, flat, TYB]
          refine ⟨fun hx => ?_, fun hx => ?_⟩
          · have e1 := es (by omega)
            rw [hc] at e1
            simp only [Bool.false_eq_true, if_false, List.append_nil] at e1
            (try (and_intros <;> try (first | omega | (unfold In64; omega) | trivial | assumption)))
            refine ⟨(j + 1, n, cap, junk), ⟨by simp only; omega, by simp only [← Nat.add_assoc]; rw [e1]; exact gL, by simp only; omega, by simp only; omega, by simp only; omega⟩, by simp only; omega, Sub.mk_id ?_ ?_ ?_ ?_ ?_⟩
            all_goals simp only [← Nat.add_assoc, e1, LB, subS, subH, wfS, wfH, SV.ren, renL, SObj.ren, SV.wf, SObj.wf, wfL, SV.known, Nat.reduceEqDiff, ↓reduceIte, if_true, if_false, eq_self, Nat.reduceAdd, Nat.reduceLT, Nat.reduceLeDiff, implies_true, reduceCtorEq, forall_const]
            all_goals (try simp)
          · have hj6 : j = 6 := by omega
            subst hj6
            (try (and_intros <;> try (first | omega | (unfold In64; omega) | trivial | assumption)))
            refine ⟨(i + 1, n, cap, junk), ⟨by simp only; omega, by simp only; rw [e6]; exact gL, by simp only; omega, by simp only; omega, by simp only; omega⟩, by simp only; omega, Sub.mk_id ?_ ?_ ?_ ?_ ?_⟩
            all_goals simp only [e6, LB, subS, subH, wfS, wfH, SV.ren, renL, SObj.ren, SV.wf, SObj.wf, wfL, SV.known, Nat.reduceEqDiff, ↓reduceIte, if_true, if_false, eq_self, Nat.reduceAdd, Nat.reduceLT, Nat.reduceLeDiff, implies_true, reduceCtorEq, forall_const]
            all_goals (try simp)
        | true =>
          have hc2 : 0 < movF R D u i j := of_decide_eq_true hc
          simp -implicitDefEqProofs only [lk_normal, l8Moves_F, hR, hD, tkR, tkD, hf, hu, hc2, tkL, lenL, ZB, Int.reduceToNat, Nat.reduceLT, Nat.reduceLeDiff, Int.reduceLE, Int.reduceLT, Nat.reduceEqDiff, Nat.reduceSub, SB, SV.known, packR, ne_eq, reduceCtorEq, Nat.reduceEqDiff, ↓reduceIte, if_true, if_false, eq_self, Nat.reduceAdd, Nat.reduceMul, Nat.reduceSub, forall_const, oneCellS, Kd.isSca, flat, TYB]
          refine ⟨fun hx => ?_, fun hx => ?_⟩
          · have e1 := es (by omega)
            rw [hc] at e1
            simp only [if_true] at e1
            (try (and_intros <;> try (first | omega | (unfold In64; omega) | trivial | assumption)))
            intro junk' cap' hj'
            (try (and_intros <;> try (first | omega | (unfold In64; omega) | trivial | assumption)))
            refine ⟨(j + 1, n + 1, cap', junk'), ⟨by simp only; omega, by simp only [← Nat.add_assoc]; rw [e1, List.length_append, gL]; simp; omega, by simp only; omega, by simp only; omega, by simp only; omega⟩, by simp only; omega, Sub.mk_to 2 4 ?_ ?_ ?_ ?_ ?_ ?_ ?_⟩
            all_goals simp only [← Nat.add_assoc, e1, LB, subS, subH, wfS, wfH, SV.ren, renL, SObj.ren, SV.wf, SObj.wf, wfL, SV.known, Nat.reduceEqDiff, ↓reduceIte, if_true, if_false, eq_self, Nat.reduceAdd, Nat.reduceLT, Nat.reduceLeDiff, implies_true, reduceCtorEq, forall_const]
            all_goals (try simp)
          · have hj6 : j = 6 := by omega
            subst hj6
            (try (and_intros <;> try (first | omega | (unfold In64; omega) | trivial | assumption)))
            refine ⟨(i + 1, n, cap, junk), ⟨by simp only; omega, by simp only; rw [e6]; exact gL, by simp only; omega, by simp only; omega, by simp only; omega⟩, by simp only; omega, Sub.mk_id ?_ ?_ ?_ ?_ ?_⟩
            all_goals simp only [e6, LB, subS, subH, wfS, wfH, SV.ren, renL, SObj.ren, SV.wf, SObj.wf, wfL, SV.known, Nat.reduceEqDiff, ↓reduceIte, if_true, if_false, eq_self, Nat.reduceAdd, Nat.reduceLT, Nat.reduceLeDiff, implies_true, reduceCtorEq, forall_const]
            all_goals (try simp)
    · obtain rfl : i = 6 := by omega
      have hL' : (GL (pbB R D u) 36).length = n * 2 := hL
      refine .inr ⟨2, cap, junk, ?_, ?_, by omega, ?_, ?_⟩
      · rw [hL']; simp [Wrap.ap]
      · simp [hget_cons]
      · omega
      · intro h0; cases h0
end Go.Proofs.Ytfdpeenamkpcbaa
