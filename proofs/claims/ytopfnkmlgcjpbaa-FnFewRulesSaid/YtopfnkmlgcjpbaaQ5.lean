/- Texts of this claim, joined (Rule, RulC, EqR, Map, DelR, Gen, Sort, Beh, Sl, Back, Src, Sl3, Arg, Com, Good, GPath, Path, Backs, Sl1, Along). -/
import Derived.Test.YtopfnkmlgcjpbaaQ1
import Derived.Test.YtopfnkmlgcjpbaaQ2
import Derived.Test.YtopfnkmlgcjpbaaQ3
import Derived.Test.YtopfnkmlgcjpbaaQ4
import Derived.ChangeKeysEq
import Derived.Laws.StructEq
set_option maxRecDepth 100000
set_option linter.unusedSimpArgs false
set_option linter.unusedVariables false
namespace Go.Proofs.Ytopfnkmlgcjpbaa
open Go Go.RowKit
def roomF (R D : List Int) (j : Nat) : Int := D.getD j 0 - (layN (tubeAt R j) : Int)
def movF (R D : List Int) (u i j : Int) : Int :=
  if i = j ∨ (topF (tubeAt R i.toNat)).1 = 0 ∨ roomF R D j.toNat = 0 then 0 else if u = 4 then 1
  else if (topF (tubeAt R j.toNat)).1 ≠ 0 ∧ (topF (tubeAt R j.toNat)).1 ≠ (topF (tubeAt R i.toNat)).1 then 0
  else if u = 2 then 1 else if u = 3 ∧ roomF R D j.toNat < (topF (tubeAt R i.toNat)).2 then 0 else min (topF (tubeAt R i.toNat)).2 (roomF R D j.toNat)
def ruF (u : Int) : Bool := decide (1 ≤ u ∧ u ≤ 4)
--@tbl isRule = impl.isRule
theorem isRule_ok (u : Int) : PureH Try.prog 96 [.int u] [] (.bool (ruF u)) := by
  refine pure_of_vc (X := ⟨Try.prog, tys, [(108, within_F)], [], true, true, 0, [], []⟩) fn_96 ⟨tys_ok, (.cons within_T .nil), .nil, mixed⟩ (n0 := 0) (Nat.le_of_ble_eq_true rfl) (by simp [wfL, SV.wf]) (wfH_spec (by simp [wfH, SObj.wf])) (Nat.le_refl _) (fun _ => by simp [SV.wf, wfL]) ?_
  simp -implicitDefEqProofs only [Try.f96, Option.getD_some, argS, within_F, SB, SV.known, packR, ne_eq, reduceCtorEq, Nat.reduceEqDiff, ↓reduceIte, if_true, if_false, eq_self, Nat.reduceAdd, Nat.reduceMul, Nat.reduceSub, forall_const, oneCellS, litOne, flat1, Kd.isSca, flat, TYB]
  trivial
def isRule_F : List SV → Heap → Option (Prop × SV)
  | [.int u], _ => some (True, .bool (ruF u))
  | _, _ => none
theorem isRule_T : ∀ args H p v, isRule_F args H = some (p, v) → p → PureH Try.prog 96 args H v := by
  intro args H p v h hp
  unfold isRule_F at h
  split at h
  · cases h; exact (isRule_ok _).any _
  · cases h
--@tbl l8Rule = spec.l8Rule
theorem l8Rule_ok (u : Int) : PureH Try.prog 100 [.int u] [] (.bool (ruF u)) := by
  refine pure_of_vc (X := ⟨Try.prog, tys, [(120, l1In_F)], [], true, true, 0, [], []⟩) fn_100 ⟨tys_ok, (.cons l1In_T .nil), .nil, mixed⟩ (n0 := 0) (Nat.le_of_ble_eq_true rfl) (by simp [wfL, SV.wf]) (wfH_spec (by simp [wfH, SObj.wf])) (Nat.le_refl _) (fun _ => by simp [SV.wf, wfL]) ?_
  simp -implicitDefEqProofs only [Try.f100, Option.getD_some, argS, l1In_F, SB, SV.known, packR, ne_eq, reduceCtorEq, Nat.reduceEqDiff, ↓reduceIte, if_true, if_false, eq_self, Nat.reduceAdd, Nat.reduceMul, Nat.reduceSub, forall_const, oneCellS, litOne, flat1, Kd.isSca, flat, TYB]
  trivial
def l8Rule_F : List SV → Heap → Option (Prop × SV)
  | [.int u], _ => some (True, .bool (ruF u))
  | _, _ => none
theorem l8Rule_T : ∀ args H p v, l8Rule_F args H = some (p, v) → p → PureH Try.prog 100 args H v := by
  intro args H p v h hp
  unfold l8Rule_F at h
  split at h
  · cases h; exact (l8Rule_ok _).any _
  · cases h
/-- Depths that a rack fits. -/
def forB (R D : List Int) : Bool := rackB R && D.all isDep && fitF R D
theorem forB_facts {R D : List Int} (hD : D.length = 6) (h : forB R D = true) : rackB R = true ∧ D.all isDep = true ∧ fitF R D = true ∧ ∀ j, j < 6 → 1 ≤ D.getD j 0 ∧ D.getD j 0 ≤ 4 ∧ 0 ≤ roomF R D j ∧ roomF R D j ≤ 4 - (layN (tubeAt R j) : Int) := by
  simp only [forB, Bool.and_eq_true] at h
  refine ⟨h.1.1, h.1.2, h.2, fun j hj => ?_⟩
  have h1 := List.all_eq_true.1 h.1.2 (D.getD j 0) (by
    simp only [List.getD, List.getElem?_eq_getElem (show j < D.length by omega), Option.getD_some]
    exact List.getElem_mem _)
  have h2 : 1 ≤ D.getD j 0 ∧ D.getD j 0 ≤ 4 := by simpa [isDep] using h1
  have h3 := h.2
  unfold fitF at h3
  have h4 := List.all_eq_true.1 h3 j (List.mem_range.2 hj)
  have h5 : (layN (tubeAt R j) : Int) ≤ D.getD j 0 := by simpa using h4
  unfold roomF
  omega
--@tbl isFor = impl.isFor
theorem isFor_ok (R D : List Int) (hR : R.length = 24) (hD : D.length = 6) : PureH Try.prog 95 [.arr R, .arr D] [] (.bool (forB R D)) := by
  have tkR : R.take 24 = R := List.take_of_length_le (by omega)
  have tkD : D.take 6 = D := List.take_of_length_le (by omega)
  unfold forB
  cases h1 : rackB R <;> cases h2 : D.all isDep
  all_goals
    refine pure_of_vc (X := ⟨Try.prog, tys, [(11, IsRack_F), (30, isDepths_F), (104, fits_F)], [], true, true, 0, [], []⟩) fn_95 ⟨tys_ok, (.cons IsRack_T (.cons isDepths_T (.cons fits_T .nil))), .nil, mixed⟩ (n0 := 0) (Nat.le_of_ble_eq_true rfl) (by simp [wfL, SV.wf]) (wfH_spec (by simp [wfH, SObj.wf])) (Nat.le_refl _) (fun _ => by simp [SV.wf, wfL]) ?_
    simp -implicitDefEqProofs only [Try.f95, Option.getD_some, argS, IsRack_F, isDepths_F, fits_F, hR, hD, h1, h2, tkR, tkD, ZB, Int.reduceToNat, Nat.reduceLT, Nat.reduceLeDiff, Int.reduceLE, Int.reduceLT, Nat.reduceEqDiff, Nat.reduceSub, SB, SV.known, packR, ne_eq, reduceCtorEq, Nat.reduceEqDiff, ↓reduceIte, if_true, if_false, eq_self, Nat.reduceAdd, Nat.reduceMul, Nat.reduceSub, forall_const, oneCellS, litOne, flat1, Kd.isSca, flat, TYB]
def isFor_F : List SV → Heap → Option (Prop × SV)
  | [.arr R, .arr D], _ => some (R.length = 24 ∧ D.length = 6, .bool (forB R D))
  | _, _ => none
theorem isFor_T : ∀ args H p v, isFor_F args H = some (p, v) → p → PureH Try.prog 95 args H v := by
  intro args H p v h hp
  unfold isFor_F at h
  split at h
  · cases h; exact (isFor_ok _ _ hp.1 hp.2).any _
  · cases h
--@tbl movedBy = impl.movedBy
theorem movedBy_ok (R D : List Int) (u i j : Int) (hR : R.length = 24) (hD : D.length = 6) (hf : forB R D = true) (hi : 0 ≤ i ∧ i ≤ 5) (hj : 0 ≤ j ∧ j ≤ 5) : PureH Try.prog 98 [.arr R, .arr D, .int u, .int i, .int j] [] (.int (movF R D u i j)) := by
  have tkR : R.take 24 = R := List.take_of_length_le (by omega)
  have tkD : D.take 6 = D := List.take_of_length_le (by omega)
  have ei : List.take 4 (List.drop (i.toNat * 4) R) = tubeAt R i.toNat := rfl
  have ej : List.take 4 (List.drop (j.toNat * 4) R) = tubeAt R j.toNat := rfl
  have li := tubeAt_len hR (i := i.toNat) (by omega)
  have lj := tubeAt_len hR (i := j.toNat) (by omega)
  have er : D.getD j.toNat 0 - (layN (tubeAt R j.toNat) : Int) = roomF R D j.toNat := rfl
  have ff := (forB_facts hD hf).2.2.2 j.toNat (by omega)
  have tl := topF_le _ li
  refine pure_of_vc (X := ⟨Try.prog, tys, [(137, top_F), (133, layers_F)], [], true, true, 0, [], []⟩) fn_98 ⟨tys_ok, (.cons top_T (.cons layers_T .nil)), .nil, mixed⟩ (n0 := 0) (Nat.le_of_ble_eq_true rfl) (by simp [wfL, SV.wf]) (wfH_spec (by simp [wfH, SObj.wf])) (Nat.le_refl _) (fun _ => by simp [SV.wf, wfL]) ?_
  simp -implicitDefEqProofs only [Try.f98, Option.getD_some, argS, top_F, layers_F, hR, hD, tkR, tkD, ei, ej, li, lj, er, ZB, Int.reduceToNat, Nat.reduceLT, Nat.reduceLeDiff, Int.reduceLE, Int.reduceLT, Nat.reduceEqDiff, Nat.reduceSub, SB, SV.known, packR, ne_eq, reduceCtorEq, Nat.reduceEqDiff, ↓reduceIte, if_true, if_false, eq_self, Nat.reduceAdd, Nat.reduceMul, Nat.reduceSub, forall_const, oneCellS, litOne, flat1, Kd.isSca, flat, TYB]
  unfold movF
  (try (and_intros <;> try (first | omega | (unfold In64; omega) | trivial | assumption)))
  all_goals (repeat' (first | intro _ | apply And.intro))
  all_goals (repeat' split)
  all_goals omega
def movedBy_F : List SV → Heap → Option (Prop × SV)
  | [.arr R, .arr D, .int u, .int i, .int j], _ => some (R.length = 24 ∧ D.length = 6 ∧ forB R D = true ∧ (0 ≤ i ∧ i ≤ 5) ∧ (0 ≤ j ∧ j ≤ 5), .int (movF R D u i j))
  | _, _ => none
theorem movedBy_T : ∀ args H p v, movedBy_F args H = some (p, v) → p → PureH Try.prog 98 args H v := by
  intro args H p v h hp
  unfold movedBy_F at h
  split at h
  · cases h; exact (movedBy_ok _ _ _ _ _ hp.1 hp.2.1 hp.2.2.1 hp.2.2.2.1 hp.2.2.2.2).any _
  · cases h
theorem top_zero (t : List Int) (ht : t.length = 4) (hb : tubeB t = true) : ((topF t).1 = 0 ↔ layN t = 0) ∧ ((topF t).2 = 0 ↔ layN t = 0) := by
  rcases Nat.eq_zero_or_pos (layN t) with h0 | h0
  · have : topF t = (0, 0) := by simp [topF, runsL, h0]
    simp [this, h0]
  · have tp := top_pos t ht hb
    have := tp.1.2 h0
    have := tp.2.2 h0
    omega
--@tbl l8Moves = spec.l8Moves
theorem l8Moves_ok (R D : List Int) (u i j : Int) (hR : R.length = 24) (hD : D.length = 6) (hf : forB R D = true) (hu : ruF u = true) (hi : 0 ≤ i ∧ i ≤ 5) (hj : 0 ≤ j ∧ j ≤ 5) : PureH Try.prog 102 [.arr R, .arr D, .int u, .int i, .int j] [] (.int (movF R D u i j)) := by
  have tkR : R.take 24 = R := List.take_of_length_le (by omega)
  have tkD : D.take 6 = D := List.take_of_length_le (by omega)
  have ei : List.take 4 (List.drop (i.toNat * 4) R) = tubeAt R i.toNat := rfl
  have ej : List.take 4 (List.drop (j.toNat * 4) R) = tubeAt R j.toNat := rfl
  have li := tubeAt_len hR (i := i.toNat) (by omega)
  have lj := tubeAt_len hR (i := j.toNat) (by omega)
  have ff := forB_facts hD hf
  have bi := tubeAt_ok ff.1 (i := i.toNat) (by omega)
  have bj := tubeAt_ok ff.1 (i := j.toNat) (by omega)
  have pj := posC_lay _ lj bj
  have er : D.getD j.toNat 0 - (layN (tubeAt R j.toNat) : Int) = roomF R D j.toNat := rfl
  have f2 := ff.2.2.2 j.toNat (by omega)
  have tl := topF_le _ li
  have tz := top_zero _ li bi
  have u14 : 1 ≤ u ∧ u ≤ 4 := by simpa [ruF] using hu
  refine pure_of_vc (X := ⟨Try.prog, tys, [(138, l2Top_F), (135, l2Many_F), (139, l1Least_F)], [], true, true, 0, [], []⟩) fn_102 ⟨tys_ok, (.cons l2Top_T (.cons l2Many_T (.cons l1Least_T .nil))), .nil, mixed⟩ (n0 := 0) (Nat.le_of_ble_eq_true rfl) (by simp [wfL, SV.wf]) (wfH_spec (by simp [wfH, SObj.wf])) (Nat.le_refl _) (fun _ => by simp [SV.wf, wfL]) ?_
  simp -implicitDefEqProofs only [Try.f102, Option.getD_some, argS, l2Top_F, l2Many_F, l1Least_F, hR, hD, tkR, tkD, ei, ej, li, lj, bi, bj, pj, er, ZB, Int.reduceToNat, Nat.reduceLT, Nat.reduceLeDiff, Int.reduceLE, Int.reduceLT, Nat.reduceEqDiff, Nat.reduceSub, SB, SV.known, packR, ne_eq, reduceCtorEq, Nat.reduceEqDiff, ↓reduceIte, if_true, if_false, eq_self, Nat.reduceAdd, Nat.reduceMul, Nat.reduceSub, forall_const, oneCellS, litOne, flat1, Kd.isSca, flat, TYB]
  unfold movF
  (try (and_intros <;> try (first | omega | (unfold In64; omega) | trivial | assumption)))
  all_goals (repeat' (first | intro _ | apply And.intro))
  all_goals (repeat' split)
  all_goals omega
def l8Moves_F : List SV → Heap → Option (Prop × SV)
  | [.arr R, .arr D, .int u, .int i, .int j], _ => some (R.length = 24 ∧ D.length = 6 ∧ forB R D = true ∧ ruF u = true ∧ (0 ≤ i ∧ i ≤ 5) ∧ (0 ≤ j ∧ j ≤ 5), .int (movF R D u i j))
  | _, _ => none
theorem l8Moves_T : ∀ args H p v, l8Moves_F args H = some (p, v) → p → PureH Try.prog 102 args H v := by
  intro args H p v h hp
  unfold l8Moves_F at h
  split at h
  · cases h; exact (l8Moves_ok _ _ _ _ _ hp.1 hp.2.1 hp.2.2.1 hp.2.2.2.1 hp.2.2.2.2.1 hp.2.2.2.2.2).any _
  · cases h
/-! Moved layers. -/
def mvR (R : List Int) (i j : Nat) : Nat → List Int
  | 0 => R
  | k + 1 => ((mvR R i j k).set (j * 4 + (layN (tubeAt R j) + k)) ((mvR R i j k).getD (i * 4 + (layN (tubeAt R i) - 1 - k)) 0)).set (i * 4 + (layN (tubeAt R i) - 1 - k)) 0
theorem mvR_len (R : List Int) (i j : Nat) : ∀ k, (mvR R i j k).length = R.length
  | 0 => rfl
  | k + 1 => by simp [mvR, mvR_len R i j k]
theorem mvR_cell {R : List Int} (hR : R.length = 24) {i j : Nat} (hi : i < 6) (hj : j < 6) (hij : i ≠ j) : ∀ m, m ≤ layN (tubeAt R i) → m + layN (tubeAt R j) ≤ 4 → ∀ a b, a < 6 → b < 4 →
    (mvR R i j m).getD (a * 4 + b) 0 = if a = i ∧ layN (tubeAt R i) - m ≤ b ∧ b < layN (tubeAt R i) then 0 else if a = j ∧ layN (tubeAt R j) ≤ b ∧ b < layN (tubeAt R j) + m then R.getD (i * 4 + (layN (tubeAt R i) - 1 - (b - layN (tubeAt R j)))) 0 else R.getD (a * 4 + b) 0
  | 0, _, _, a, b, _, _ => by
    simp only [mvR]
    rw [if_neg (by omega), if_neg (by omega)]
  | m + 1, hm, hm2, a, b, ha, hb => by
    have hli := lay_le _ (tubeAt_len hR hi)
    have hlj := lay_le _ (tubeAt_len hR hj)
    have ih := mvR_cell hR hi hj hij m (by omega) (by omega)
    have it := ih i (layN (tubeAt R i) - 1 - m) hi (by omega)
    rw [if_neg (by omega), if_neg (by omega)] at it
    simp only [mvR]
    rw [getD_set' _ _ _ _ (by rw [List.length_set, mvR_len]; omega), getD_set' _ _ _ _ (by rw [mvR_len]; omega), it, ih a b ha hb]
    by_cases h1 : i * 4 + (layN (tubeAt R i) - 1 - m) = a * 4 + b
    · have hai : a = i := by omega
      subst hai
      rw [if_pos h1, if_pos (by omega)]
    · rw [if_neg h1]
      by_cases h2 : j * 4 + (layN (tubeAt R j) + m) = a * 4 + b
      · have haj : a = j := by omega
        subst haj
        rw [if_pos h2, if_neg (by omega), if_pos (by omega)]
        have : b = layN (tubeAt R a) + m := by omega
        subst this
        congr 2; omega
      · rw [if_neg h2]
        by_cases h3 : a = i ∧ layN (tubeAt R i) - m ≤ b ∧ b < layN (tubeAt R i)
        · rw [if_pos h3, if_pos (by omega)]
        · rw [if_neg h3]
          by_cases h4 : a = i ∧ layN (tubeAt R i) - (m + 1) ≤ b ∧ b < layN (tubeAt R i)
          · omega
          · rw [if_neg h4]
            by_cases h5 : a = j ∧ layN (tubeAt R j) ≤ b ∧ b < layN (tubeAt R j) + m
            · rw [if_pos h5, if_pos (by omega)]
            · rw [if_neg h5, if_neg (by omega)]
theorem mv_facts {R : List Int} (hR : R.length = 24) (hr : rackB R = true) {i j : Nat} (hi : i < 6) (hj : j < 6) (hij : i ≠ j) {m : Nat} (hm : m ≤ layN (tubeAt R i)) (hm2 : m + layN (tubeAt R j) ≤ 4) :
    (tubeB (tubeAt (mvR R i j m) i) = true ∧ layN (tubeAt (mvR R i j m) i) = layN (tubeAt R i) - m) ∧ (tubeB (tubeAt (mvR R i j m) j) = true ∧ layN (tubeAt (mvR R i j m) j) = layN (tubeAt R j) + m) ∧
    (∀ k, k < 6 → k ≠ i → k ≠ j → tubeAt (mvR R i j m) k = tubeAt R k) := by
  have hP : (mvR R i j m).length = 24 := by rw [mvR_len, hR]
  have hc := mvR_cell hR hi hj hij m hm hm2
  have hli := tubeAt_len hR hi
  have hlj := tubeAt_len hR hj
  have ci := tube_cells hli (tubeAt_ok hr hi)
  have cj := tube_cells hlj (tubeAt_ok hr hj)
  have li := lay_le _ hli
  refine ⟨tube_of (tubeAt_len hP hi) (by omega) (fun b hb => ?_) (fun b hb hb4 => ?_), tube_of (tubeAt_len hP hj) (by omega) (fun b hb => ?_) (fun b hb hb4 => ?_), fun k hk h1 h2 => ?_⟩
  · rw [tubeAt_getD _ _ _ (by omega), hc i b hi (by omega), if_neg (by omega), if_neg (by omega), ← tubeAt_getD _ _ _ (by omega)]
    exact ci.1 b (by omega)
  · rw [tubeAt_getD _ _ _ hb4, hc i b hi hb4]
    by_cases h3 : b < layN (tubeAt R i)
    · rw [if_pos ⟨rfl, hb, h3⟩]
    · rw [if_neg (by omega), if_neg (by omega), ← tubeAt_getD _ _ _ hb4]
      exact ci.2 b (by omega)
  · rw [tubeAt_getD _ _ _ (by omega), hc j b hj (by omega), if_neg (by omega)]
    by_cases h3 : layN (tubeAt R j) ≤ b
    · rw [if_pos (by omega), ← tubeAt_getD _ _ _ (by omega)]
      exact ci.1 _ (by omega)
    · rw [if_neg (by omega), ← tubeAt_getD _ _ _ (by omega)]
      exact cj.1 b (by omega)
  · rw [tubeAt_getD _ _ _ hb4, hc j b hj hb4, if_neg (by omega), if_neg (by omega), ← tubeAt_getD _ _ _ hb4]
    exact cj.2 b (by omega)
  · refine tubeAt_ext (tubeAt_len hP hk) (tubeAt_len hR hk) fun b hb => ?_
    rw [hc k b hk hb, if_neg (by omega), if_neg (by omega)]
theorem mv_rack {R : List Int} (hR : R.length = 24) (hr : rackB R = true) {i j : Nat} (hi : i < 6) (hj : j < 6) (hij : i ≠ j) {m : Nat} (hm : m ≤ layN (tubeAt R i)) (hm2 : m + layN (tubeAt R j) ≤ 4) : rackB (mvR R i j m) = true := by
  obtain ⟨h1, h2, h3⟩ := mv_facts hR hr hi hj hij hm hm2
  rw [rack_tubes]
  intro k hk
  by_cases hki : k = i
  · rw [hki]; exact h1.1
  · by_cases hkj : k = j
    · rw [hkj]; exact h2.1
    · rw [h3 k hk hki hkj]; exact tubeAt_ok hr hk
theorem movF_bd {R D : List Int} {u i j : Int} (hR : R.length = 24) (hD : D.length = 6) (hf : forB R D = true) (hi : 0 ≤ i ∧ i ≤ 5) (hj : 0 ≤ j ∧ j ≤ 5) : 0 ≤ movF R D u i j ∧ (movF R D u i j = 0 ∨ (i ≠ j ∧ (movF R D u i j).toNat ≤ layN (tubeAt R i.toNat) ∧ (movF R D u i j).toNat + layN (tubeAt R j.toNat) ≤ 4)) := by
  have ff := forB_facts hD hf
  have f2 := ff.2.2.2 j.toNat (by omega)
  have li := tubeAt_len hR (i := i.toNat) (by omega)
  have bi := tubeAt_ok ff.1 (i := i.toNat) (by omega)
  have tl := topF_le _ li
  have tp := top_pos _ li bi
  have lle := lay_le _ li
  have tc : (topF (tubeAt R i.toNat)).1 = 0 ∨ 0 < layN (tubeAt R i.toNat) := by
    rcases Nat.eq_zero_or_pos (layN (tubeAt R i.toNat)) with h0 | h0
    · left; simp [topF, runsL, h0]
    · exact .inr h0
  unfold movF
  repeat' split
  all_goals omega
--@tbl move = impl.move
theorem move_ok (R : List Int) (i j : Int) (n : Int) (hR : R.length = 24) (hr : rackB R = true) (hi : 0 ≤ i ∧ i ≤ 5) (hj : 0 ≤ j ∧ j ≤ 5) (hij : i ≠ j) (hn : 0 ≤ n) (h1 : n.toNat ≤ layN (tubeAt R i.toNat)) (h2 : n.toNat + layN (tubeAt R j.toNat) ≤ 4) : PureH Try.prog 99 [.arr R, .int i, .int j, .int n] [] (.arr (mvR R i.toNat j.toNat n.toNat)) := by
  obtain ⟨a, rfl⟩ : ∃ a : Nat, i = a := ⟨i.toNat, by omega⟩
  obtain ⟨b, rfl⟩ : ∃ b : Nat, j = b := ⟨j.toNat, by omega⟩
  obtain ⟨m, rfl⟩ : ∃ m : Nat, n = m := ⟨n.toNat, by omega⟩
  simp only [Int.toNat_natCast] at h1 h2 ⊢
  have tkR : R.take 24 = R := List.take_of_length_le (by omega)
  refine pure_of_vc (X := ⟨Try.prog, tys, [(133, layers_F)], [], true, true, 0, [], []⟩) fn_99 ⟨tys_ok, (.cons layers_T .nil), .nil, mixed⟩ (n0 := 0) (Nat.le_of_ble_eq_true rfl) (by simp [wfL, SV.wf]) (wfH_spec (by simp [wfH, SObj.wf])) (Nat.le_refl _) (fun _ => by simp [SV.wf, wfL]) ?_
  simp -implicitDefEqProofs only [Try.f99, Option.getD_some, argS, layers_F, hR, tkR, ZB, Int.reduceToNat, Nat.reduceLT, Nat.reduceLeDiff, Int.reduceLE, Int.reduceLT, Nat.reduceEqDiff, Nat.reduceSub, SB, SV.known, packR, ne_eq, reduceCtorEq, Nat.reduceEqDiff, ↓reduceIte, if_true, if_false, eq_self, Nat.reduceAdd, Nat.reduceMul, Nat.reduceSub, forall_const, oneCellS, litOne, flat1, Kd.isSca, flat, TYB]
  have c0 : rackB (mvR R a b 0) = true := hr
  have mf := fun k (hk : k ≤ m) => mv_facts hR hr (i := a) (j := b) (by omega) (by omega) (by omega) (m := k) (by omega) (by omega)
  have ml := fun k => (mvR_len R a b k).trans hR
  have la := lay_le _ (tubeAt_len hR (i := a) (by omega))
  have lb := lay_le _ (tubeAt_len hR (i := b) (by omega))
  refine loop_intro (fun k : Nat => [(12, .int k), (11, .int m), (8, .ptr 1 0), (4, .ptr 0 0), (1, .int a), (2, .int b)]) (fun k => [(1, .ints (List.replicate 24 0) 27), (0, .ints (mvR R a b k) 27)]) 2 (fun k => k ≤ m) (fun k => m - k) ?_ ?_
  · refine ⟨0, ?_, Sub.mk_id ?_ ?_ ?_ ?_ ?_⟩
    all_goals (try (simp only [mvR, LB, subS, subH, wfS, wfH, SV.ren, renL, SObj.ren, SV.wf, SObj.wf, wfL, SV.known, Nat.reduceEqDiff, ↓reduceIte, if_true, if_false, eq_self, Nat.reduceAdd, Nat.reduceLT, Nat.reduceLeDiff, implies_true, reduceCtorEq, forall_const]; done))
    all_goals (try (simp only [mvR, LB, subS, subH, wfS, wfH, SV.ren, renL, SObj.ren, SV.wf, SObj.wf, wfL, SV.known, Nat.reduceEqDiff, ↓reduceIte, if_true, if_false, eq_self, Nat.reduceAdd, Nat.reduceLT, Nat.reduceLeDiff, implies_true, reduceCtorEq, forall_const]; simp; done))
    all_goals (try (simp only [mvR, LB, subS, subH, wfS, wfH, SV.ren, renL, SObj.ren, SV.wf, SObj.wf, wfL, SV.known, Nat.reduceEqDiff, ↓reduceIte, if_true, if_false, eq_self, Nat.reduceAdd, Nat.reduceLT, Nat.reduceLeDiff, implies_true, reduceCtorEq, forall_const]; (and_intros <;> (first | omega | rfl | (simp; done) | (simp; omega))); done))
    all_goals (try dsimp only)
    all_goals (and_intros <;> try (first | omega | (unfold In64; omega) | trivial | assumption))
  · intro k hk
    have mk := ml k
    have tkM : (mvR R a b k).take 24 = mvR R a b k := List.take_of_length_le (by omega)
    by_cases hlt : k < m
    · have hkl : (k : Int) < m := by omega
      have fa := (mf k hk).1.2
      have fb := (mf k hk).2.1.2
      have ta := tubeAt_len mk (i := a) (by omega)
      have tb := tubeAt_len mk (i := b) (by omega)
      have ea : List.take 4 (List.drop (a * 4) (mvR R a b k)) = tubeAt (mvR R a b k) a := rfl
      have eb : List.take 4 (List.drop (b * 4) (mvR R a b k)) = tubeAt (mvR R a b k) b := rfl
      have e1 : (((layN (tubeAt R a) - k : Nat) : Int) - 1).toNat = layN (tubeAt R a) - 1 - k := by omega
      have es : mvR R a b (k + 1) = ((mvR R a b k).set (b * 4 + (layN (tubeAt R b) + k)) ((mvR R a b k).getD (a * 4 + (layN (tubeAt R a) - 1 - k)) 0)).set (a * 4 + (layN (tubeAt R a) - 1 - k)) 0 := rfl
      simp -implicitDefEqProofs only [lk_normal, layers_F, hkl, ea, eb, ta, tb, fa, fb, mk, e1, ZB, Int.reduceToNat, Nat.reduceLT, Nat.reduceLeDiff, Int.reduceLE, Int.reduceLT, Nat.reduceEqDiff, Nat.reduceSub, SB, SV.known, packR, ne_eq, reduceCtorEq, Nat.reduceEqDiff, ↓reduceIte, if_true, if_false, eq_self, Nat.reduceAdd, Nat.reduceMul, Nat.reduceSub, forall_const, oneCellS, litOne, flat1, Kd.isSca, flat, TYB]
      (try (and_intros <;> try (first | omega | (unfold In64; omega) | trivial | assumption)))
      refine ⟨k + 1, ?_, ?_, Sub.mk_id ?_ ?_ ?_ ?_ ?_⟩
      all_goals (try (simp only [es, LB, subS, subH, wfS, wfH, SV.ren, renL, SObj.ren, SV.wf, SObj.wf, wfL, SV.known, Nat.reduceEqDiff, ↓reduceIte, if_true, if_false, eq_self, Nat.reduceAdd, Nat.reduceLT, Nat.reduceLeDiff, implies_true, reduceCtorEq, forall_const]; done))
      all_goals (try (simp only [es, LB, subS, subH, wfS, wfH, SV.ren, renL, SObj.ren, SV.wf, SObj.wf, wfL, SV.known, Nat.reduceEqDiff, ↓reduceIte, if_true, if_false, eq_self, Nat.reduceAdd, Nat.reduceLT, Nat.reduceLeDiff, implies_true, reduceCtorEq, forall_const]; simp; done))
      all_goals (try (simp only [es, LB, subS, subH, wfS, wfH, SV.ren, renL, SObj.ren, SV.wf, SObj.wf, wfL, SV.known, Nat.reduceEqDiff, ↓reduceIte, if_true, if_false, eq_self, Nat.reduceAdd, Nat.reduceLT, Nat.reduceLeDiff, implies_true, reduceCtorEq, forall_const]; (and_intros <;> (first | omega | rfl | (simp; done) | (simp; omega))); done))
      all_goals (try dsimp only)
      all_goals (and_intros <;> try (first | omega | (unfold In64; omega) | trivial | assumption))
    · have hkl : ¬ (k : Int) < m := by omega
      obtain rfl : k = m := by omega
      simp -implicitDefEqProofs only [lk_normal, hkl, mk, tkM, ZB, Int.reduceToNat, Nat.reduceLT, Nat.reduceLeDiff, Int.reduceLE, Int.reduceLT, Nat.reduceEqDiff, Nat.reduceSub, SB, SV.known, packR, ne_eq, reduceCtorEq, Nat.reduceEqDiff, ↓reduceIte, if_true, if_false, eq_self, Nat.reduceAdd, Nat.reduceMul, Nat.reduceSub, forall_const, oneCellS, litOne, flat1, Kd.isSca, flat, TYB]
      (try (and_intros <;> try (first | omega | (unfold In64; omega) | trivial | assumption)))
def move_F : List SV → Heap → Option (Prop × SV)
  | [.arr R, .int i, .int j, .int n], _ => some (R.length = 24 ∧ rackB R = true ∧ (0 ≤ i ∧ i ≤ 5) ∧ (0 ≤ j ∧ j ≤ 5) ∧ i ≠ j ∧ 0 ≤ n ∧ n.toNat ≤ layN (tubeAt R i.toNat) ∧ n.toNat + layN (tubeAt R j.toNat) ≤ 4, .arr (mvR R i.toNat j.toNat n.toNat))
  | _, _ => none
theorem move_T : ∀ args H p v, move_F args H = some (p, v) → p → PureH Try.prog 99 args H v := by
  intro args H p v h hp
  unfold move_F at h
  split at h
  · cases h; exact (move_ok _ _ _ _ hp.1 hp.2.1 hp.2.2.1 hp.2.2.2.1 hp.2.2.2.2.1 hp.2.2.2.2.2.1 hp.2.2.2.2.2.2.1 hp.2.2.2.2.2.2.2).any _
  · cases h
--@tbl l8Move = spec.l8Move
theorem l8Move_ok (R : List Int) (i j : Int) (n : Int) (hR : R.length = 24) (hr : rackB R = true) (hi : 0 ≤ i ∧ i ≤ 5) (hj : 0 ≤ j ∧ j ≤ 5) (hij : i ≠ j) (hn : 0 ≤ n) (h1 : n.toNat ≤ layN (tubeAt R i.toNat)) (h2 : n.toNat + layN (tubeAt R j.toNat) ≤ 4) : PureH Try.prog 103 [.arr R, .int i, .int j, .int n] [] (.arr (mvR R i.toNat j.toNat n.toNat)) := by
  obtain ⟨a, rfl⟩ : ∃ a : Nat, i = a := ⟨i.toNat, by omega⟩
  obtain ⟨b, rfl⟩ : ∃ b : Nat, j = b := ⟨j.toNat, by omega⟩
  obtain ⟨m, rfl⟩ : ∃ m : Nat, n = m := ⟨n.toNat, by omega⟩
  simp only [Int.toNat_natCast] at h1 h2 ⊢
  have tkR : R.take 24 = R := List.take_of_length_le (by omega)
  refine pure_of_vc (X := ⟨Try.prog, tys, [(135, l2Many_F)], [], true, true, 0, [], []⟩) fn_103 ⟨tys_ok, (.cons l2Many_T .nil), .nil, mixed⟩ (n0 := 0) (Nat.le_of_ble_eq_true rfl) (by simp [wfL, SV.wf]) (wfH_spec (by simp [wfH, SObj.wf])) (Nat.le_refl _) (fun _ => by simp [SV.wf, wfL]) ?_
  simp -implicitDefEqProofs only [Try.f103, Option.getD_some, argS, l2Many_F, hR, tkR, ZB, Int.reduceToNat, Nat.reduceLT, Nat.reduceLeDiff, Int.reduceLE, Int.reduceLT, Nat.reduceEqDiff, Nat.reduceSub, SB, SV.known, packR, ne_eq, reduceCtorEq, Nat.reduceEqDiff, ↓reduceIte, if_true, if_false, eq_self, Nat.reduceAdd, Nat.reduceMul, Nat.reduceSub, forall_const, oneCellS, litOne, flat1, Kd.isSca, flat, TYB]
  have c0 : rackB (mvR R a b 0) = true := hr
  have mf := fun k (hk : k ≤ m) => mv_facts hR hr (i := a) (j := b) (by omega) (by omega) (by omega) (m := k) (by omega) (by omega)
  have ml := fun k => (mvR_len R a b k).trans hR
  have la := lay_le _ (tubeAt_len hR (i := a) (by omega))
  have lb := lay_le _ (tubeAt_len hR (i := b) (by omega))
  refine loop_intro (fun k : Nat => [(3, .int (m - k : Nat)), (8, .ptr 1 0), (4, .ptr 0 0), (1, .int a), (2, .int b)]) (fun k => [(1, .ints (List.replicate 24 0) 27), (0, .ints (mvR R a b k) 27)]) 2 (fun k => k ≤ m) (fun k => m - k) ?_ ?_
  · refine ⟨0, ?_, Sub.mk_id ?_ ?_ ?_ ?_ ?_⟩
    all_goals (try (simp only [mvR, LB, subS, subH, wfS, wfH, SV.ren, renL, SObj.ren, SV.wf, SObj.wf, wfL, SV.known, Nat.reduceEqDiff, ↓reduceIte, if_true, if_false, eq_self, Nat.reduceAdd, Nat.reduceLT, Nat.reduceLeDiff, implies_true, reduceCtorEq, forall_const]; done))
    all_goals (try (simp only [mvR, LB, subS, subH, wfS, wfH, SV.ren, renL, SObj.ren, SV.wf, SObj.wf, wfL, SV.known, Nat.reduceEqDiff, ↓reduceIte, if_true, if_false, eq_self, Nat.reduceAdd, Nat.reduceLT, Nat.reduceLeDiff, implies_true, reduceCtorEq, forall_const]; simp; done))
    all_goals (try (simp only [mvR, LB, subS, subH, wfS, wfH, SV.ren, renL, SObj.ren, SV.wf, SObj.wf, wfL, SV.known, Nat.reduceEqDiff, ↓reduceIte, if_true, if_false, eq_self, Nat.reduceAdd, Nat.reduceLT, Nat.reduceLeDiff, implies_true, reduceCtorEq, forall_const]; (and_intros <;> (first | omega | rfl | (simp; done) | (simp; omega))); done))
    all_goals (try dsimp only)
    all_goals (and_intros <;> try (first | omega | (unfold In64; omega) | trivial | assumption))
  · intro k hk
    have mk := ml k
    have tkM : (mvR R a b k).take 24 = mvR R a b k := List.take_of_length_le (by omega)
    by_cases hlt : k < m
    · have hkl : (0 : Int) < (m - k : Nat) := by omega
      have ba := (mf k hk).1.1
      have bb := (mf k hk).2.1.1
      have fa := (mf k hk).1.2
      have fb := (mf k hk).2.1.2
      have ta := tubeAt_len mk (i := a) (by omega)
      have tb := tubeAt_len mk (i := b) (by omega)
      have ea : List.take 4 (List.drop (a * 4) (mvR R a b k)) = tubeAt (mvR R a b k) a := rfl
      have eb : List.take 4 (List.drop (b * 4) (mvR R a b k)) = tubeAt (mvR R a b k) b := rfl
      have pa := (posC_lay _ ta ba).trans (congrArg _ fa)
      have pb := (posC_lay _ tb bb).trans (congrArg _ fb)
      have eb2 : List.take 4 (List.drop (b * 4) ((mvR R a b k).set (a * 4 + (layN (tubeAt R a) - 1 - k)) 0)) = tubeAt (mvR R a b k) b := by
        refine tubeAt_ext (R := (mvR R a b k).set (a * 4 + (layN (tubeAt R a) - 1 - k)) 0) (tubeAt_len (by rw [List.length_set, mk]) (by omega)) tb fun c hc => ?_
        rw [getD_set' _ _ _ _ (by omega), if_neg (by omega)]
      have e1 : (((layN (tubeAt R a) - k : Nat) : Int) - 1).toNat = layN (tubeAt R a) - 1 - k := by omega
      have es : mvR R a b (k + 1) = ((mvR R a b k).set (b * 4 + (layN (tubeAt R b) + k)) ((mvR R a b k).getD (a * 4 + (layN (tubeAt R a) - 1 - k)) 0)).set (a * 4 + (layN (tubeAt R a) - 1 - k)) 0 := rfl
      have es8 : mvR R a b (k + 1) = ((mvR R a b k).set (a * 4 + (layN (tubeAt R a) - 1 - k)) 0).set (b * 4 + (layN (tubeAt R b) + k)) ((mvR R a b k).getD (a * 4 + (layN (tubeAt R a) - 1 - k)) 0) := by
        rw [es, List.set_comm _ _ (by omega)]
      simp -implicitDefEqProofs only [lk_normal, l2Many_F, hkl, ea, eb2, ta, tb, pa, pb, mk, e1, ZB, Int.reduceToNat, Nat.reduceLT, Nat.reduceLeDiff, Int.reduceLE, Int.reduceLT, Nat.reduceEqDiff, Nat.reduceSub, SB, SV.known, packR, ne_eq, reduceCtorEq, Nat.reduceEqDiff, ↓reduceIte, if_true, if_false, eq_self, Nat.reduceAdd, Nat.reduceMul, Nat.reduceSub, forall_const, oneCellS, litOne, flat1, Kd.isSca, flat, TYB]
      (try (and_intros <;> try (first | omega | (unfold In64; omega) | trivial | assumption)))
      refine ⟨k + 1, ?_, ?_, Sub.mk_id ?_ ?_ ?_ ?_ ?_⟩
      all_goals (try (simp only [es8, LB, subS, subH, wfS, wfH, SV.ren, renL, SObj.ren, SV.wf, SObj.wf, wfL, SV.known, Nat.reduceEqDiff, ↓reduceIte, if_true, if_false, eq_self, Nat.reduceAdd, Nat.reduceLT, Nat.reduceLeDiff, implies_true, reduceCtorEq, forall_const]; done))
      all_goals (try (simp only [es8, LB, subS, subH, wfS, wfH, SV.ren, renL, SObj.ren, SV.wf, SObj.wf, wfL, SV.known, Nat.reduceEqDiff, ↓reduceIte, if_true, if_false, eq_self, Nat.reduceAdd, Nat.reduceLT, Nat.reduceLeDiff, implies_true, reduceCtorEq, forall_const]; simp; done))
      all_goals (try (simp only [es8, LB, subS, subH, wfS, wfH, SV.ren, renL, SObj.ren, SV.wf, SObj.wf, wfL, SV.known, Nat.reduceEqDiff, ↓reduceIte, if_true, if_false, eq_self, Nat.reduceAdd, Nat.reduceLT, Nat.reduceLeDiff, implies_true, reduceCtorEq, forall_const]; (and_intros <;> (first | omega | rfl | (simp; done) | (simp; omega))); done))
      all_goals (try dsimp only)
      all_goals (and_intros <;> try (first | omega | (unfold In64; omega) | trivial | assumption))
    · have hkl : ¬ (0 : Int) < (m - k : Nat) := by omega
      obtain rfl : k = m := by omega
      simp -implicitDefEqProofs only [lk_normal, hkl, mk, tkM, ZB, Int.reduceToNat, Nat.reduceLT, Nat.reduceLeDiff, Int.reduceLE, Int.reduceLT, Nat.reduceEqDiff, Nat.reduceSub, SB, SV.known, packR, ne_eq, reduceCtorEq, Nat.reduceEqDiff, ↓reduceIte, if_true, if_false, eq_self, Nat.reduceAdd, Nat.reduceMul, Nat.reduceSub, forall_const, oneCellS, litOne, flat1, Kd.isSca, flat, TYB]
      (try (and_intros <;> try (first | omega | (unfold In64; omega) | trivial | assumption)))
def l8Move_F : List SV → Heap → Option (Prop × SV)
  | [.arr R, .int i, .int j, .int n], _ => some (R.length = 24 ∧ rackB R = true ∧ (0 ≤ i ∧ i ≤ 5) ∧ (0 ≤ j ∧ j ≤ 5) ∧ i ≠ j ∧ 0 ≤ n ∧ n.toNat ≤ layN (tubeAt R i.toNat) ∧ n.toNat + layN (tubeAt R j.toNat) ≤ 4, .arr (mvR R i.toNat j.toNat n.toNat))
  | _, _ => none
theorem l8Move_T : ∀ args H p v, l8Move_F args H = some (p, v) → p → PureH Try.prog 103 args H v := by
  intro args H p v h hp
  unfold l8Move_F at h
  split at h
  · cases h; exact (l8Move_ok _ _ _ _ hp.1 hp.2.1 hp.2.2.1 hp.2.2.2.1 hp.2.2.2.2.1 hp.2.2.2.2.2.1 hp.2.2.2.2.2.2.1 hp.2.2.2.2.2.2.2).any _
  · cases h
--@tbl l8Fits2 = spec.l8Fits
/-- The model's fits, for all racks: it answers whether rack and depths are valid and fit. -/
theorem l8Fits2_ok (R D : List Int) (hR : R.length = 24) (hD : D.length = 6) : PureH Try.prog 91 [.arr R, .arr D] [] (.bool (forB R D)) := by
  have tkR : R.take 24 = R := List.take_of_length_le (by omega)
  have tkD : D.take 6 = D := List.take_of_length_le (by omega)
  refine pure_of_vc (X := ⟨Try.prog, tys, [(135, l2Many_F), (72, l2Rack_F), (105, l8Depths_F)], [], true, true, 0, [], []⟩) fn_91 ⟨tys_ok, (.cons l2Many_T (.cons l2Rack_T (.cons l8Depths_T .nil))), .nil, mixed⟩ (n0 := 0) (Nat.le_of_ble_eq_true rfl) (by simp [wfL, SV.wf]) (wfH_spec (by simp [wfH, SObj.wf])) (Nat.le_refl _) (fun _ => by simp [SV.wf, wfL]) ?_
  simp -implicitDefEqProofs only [Try.f91, Option.getD_some, argS, l2Many_F, l2Rack_F, l8Depths_F, hR, hD, tkR, tkD, ZB, Int.reduceToNat, Nat.reduceLT, Nat.reduceLeDiff, Int.reduceLE, Int.reduceLT, Nat.reduceEqDiff, Nat.reduceSub, SB, SV.known, packR, ne_eq, reduceCtorEq, Nat.reduceEqDiff, ↓reduceIte, if_true, if_false, eq_self, Nat.reduceAdd, Nat.reduceMul, Nat.reduceSub, forall_const, oneCellS, litOne, flat1, Kd.isSca, flat, TYB]
  refine loop_intro (fun i : Nat => [(5, .int i), (2, .ptr 0 0), (3, .ptr 1 0)]) (fun _ => [(0, .ints R 27), (1, .ints D 51)]) 2 (fun i => i ≤ 6 ∧ ∀ k, k < i → posC (tubeAt R k) ≤ D.getD k 0) (fun i => 6 - i) ?_ ?_
  · refine ⟨0, ?_, Sub.mk_id ?_ ?_ ?_ ?_ ?_⟩
    all_goals (try (simp only [LB, subS, subH, wfS, wfH, SV.ren, renL, SObj.ren, SV.wf, SObj.wf, wfL, SV.known, Nat.reduceEqDiff, ↓reduceIte, if_true, if_false, eq_self, Nat.reduceAdd, Nat.reduceLT, Nat.reduceLeDiff, implies_true, reduceCtorEq, forall_const]; done))
    all_goals (try (simp only [LB, subS, subH, wfS, wfH, SV.ren, renL, SObj.ren, SV.wf, SObj.wf, wfL, SV.known, Nat.reduceEqDiff, ↓reduceIte, if_true, if_false, eq_self, Nat.reduceAdd, Nat.reduceLT, Nat.reduceLeDiff, implies_true, reduceCtorEq, forall_const]; simp; done))
    all_goals (try (simp only [LB, subS, subH, wfS, wfH, SV.ren, renL, SObj.ren, SV.wf, SObj.wf, wfL, SV.known, Nat.reduceEqDiff, ↓reduceIte, if_true, if_false, eq_self, Nat.reduceAdd, Nat.reduceLT, Nat.reduceLeDiff, implies_true, reduceCtorEq, forall_const]; (and_intros <;> (first | omega | rfl | (simp; done) | (simp; omega))); done))
    all_goals (try dsimp only)
    all_goals (and_intros <;> try (first | omega | (unfold In64; omega) | trivial | assumption))
  · rintro i ⟨hi, hall⟩
    have eT : List.take 4 (List.drop (i * 4) R) = tubeAt R i := rfl
    by_cases hlt : i < 6
    · have hil : (i : Int) < 6 := by omega
      have hl := tubeAt_len hR hlt
      simp -implicitDefEqProofs only [lk_normal, l2Many_F, hil, hR, hD, eT, hl, ZB, Int.reduceToNat, Nat.reduceLT, Nat.reduceLeDiff, Int.reduceLE, Int.reduceLT, Nat.reduceEqDiff, Nat.reduceSub, SB, SV.known, packR, ne_eq, reduceCtorEq, Nat.reduceEqDiff, ↓reduceIte, if_true, if_false, eq_self, Nat.reduceAdd, Nat.reduceMul, Nat.reduceSub, forall_const, oneCellS, litOne, flat1, Kd.isSca, flat, TYB]
      (try (and_intros <;> try (first | omega | (unfold In64; omega) | trivial | assumption)))
      · intro hx
        have : forB R D = false := by
          cases hf : forB R D with
          | false => rfl
          | true =>
            have ff := forB_facts hD hf
            have f2 := ff.2.2.2 i hlt
            have := posC_lay _ hl (tubeAt_ok ff.1 hlt)
            unfold roomF at f2
            omega
        rw [this]
      · intro hx
        (try (and_intros <;> try (first | omega | (unfold In64; omega) | trivial | assumption)))
        refine ⟨i + 1, ?_, ?_, Sub.mk_id ?_ ?_ ?_ ?_ ?_⟩
        all_goals (try (simp only [LB, subS, subH, wfS, wfH, SV.ren, renL, SObj.ren, SV.wf, SObj.wf, wfL, SV.known, Nat.reduceEqDiff, ↓reduceIte, if_true, if_false, eq_self, Nat.reduceAdd, Nat.reduceLT, Nat.reduceLeDiff, implies_true, reduceCtorEq, forall_const]; done))
        all_goals (try (simp only [LB, subS, subH, wfS, wfH, SV.ren, renL, SObj.ren, SV.wf, SObj.wf, wfL, SV.known, Nat.reduceEqDiff, ↓reduceIte, if_true, if_false, eq_self, Nat.reduceAdd, Nat.reduceLT, Nat.reduceLeDiff, implies_true, reduceCtorEq, forall_const]; simp; done))
        all_goals (try (simp only [LB, subS, subH, wfS, wfH, SV.ren, renL, SObj.ren, SV.wf, SObj.wf, wfL, SV.known, Nat.reduceEqDiff, ↓reduceIte, if_true, if_false, eq_self, Nat.reduceAdd, Nat.reduceLT, Nat.reduceLeDiff, implies_true, reduceCtorEq, forall_const]; (and_intros <;> (first | omega | rfl | (simp; done) | (simp; omega))); done))
        all_goals (try dsimp only)
        all_goals (and_intros <;> try (first | omega | (unfold In64; omega) | trivial | assumption))
        intro k hk
        by_cases hki : k = i
        · subst hki; omega
        · exact hall k (by omega)
    · have hil : ¬ (i : Int) < 6 := by omega
      obtain rfl : i = 6 := by omega
      have key : rackB R = true → fitF R D = true := fun hr => fit_none fun k hk => by
        have := posC_lay _ (tubeAt_len hR hk) (tubeAt_ok hr hk)
        have := hall k hk
        omega
      cases hr : rackB R with
      | false =>
        simp -implicitDefEqProofs only [lk_normal, l2Rack_F, l8Depths_F, hil, hR, hD, hr, tkR, tkD, ZB, Int.reduceToNat, Nat.reduceLT, Nat.reduceLeDiff, Int.reduceLE, Int.reduceLT, Nat.reduceEqDiff, Nat.reduceSub, SB, SV.known, packR, ne_eq, reduceCtorEq, Nat.reduceEqDiff, ↓reduceIte, if_true, if_false, eq_self, Nat.reduceAdd, Nat.reduceMul, Nat.reduceSub, forall_const, oneCellS, litOne, flat1, Kd.isSca, flat, TYB]
        simp [forB, hr]
      | true =>
        have hk := key hr
        simp -implicitDefEqProofs only [lk_normal, l2Rack_F, l8Depths_F, hil, hR, hD, hr, tkR, tkD, ZB, Int.reduceToNat, Nat.reduceLT, Nat.reduceLeDiff, Int.reduceLE, Int.reduceLT, Nat.reduceEqDiff, Nat.reduceSub, SB, SV.known, packR, ne_eq, reduceCtorEq, Nat.reduceEqDiff, ↓reduceIte, if_true, if_false, eq_self, Nat.reduceAdd, Nat.reduceMul, Nat.reduceSub, forall_const, oneCellS, litOne, flat1, Kd.isSca, flat, TYB]
        simp [forB, hr, hk]
def l8Fits2_F : List SV → Heap → Option (Prop × SV)
  | [.arr R, .arr D], _ => some (R.length = 24 ∧ D.length = 6, .bool (forB R D))
  | _, _ => none
theorem l8Fits2_T : ∀ args H p v, l8Fits2_F args H = some (p, v) → p → PureH Try.prog 91 args H v := by
  intro args H p v h hp
  unfold l8Fits2_F at h
  split at h
  · cases h; exact (l8Fits2_ok _ _ hp.1 hp.2).any _
  · cases h
def pbB (R D : List Int) (u : Int) (i j : Nat) : Bool := decide (0 < movF R D u i j)
theorem poursBy_ok (R D : List Int) (u : Int) (hR : R.length = 24) (hD : D.length = 6) (hf : forB R D = true) : FreshP Try.prog 109 [.arr R, .arr D, .int u] [] (GL (pbB R D u) 36) ((GL (pbB R D u) 36).length / 2) 2 44 true .one := by
  have tkR : R.take 24 = R := List.take_of_length_le (by omega)
  have tkD : D.take 6 = D := List.take_of_length_le (by omega)
  refine fresh_of_vc (X := ⟨Try.prog, tys, [(98, movedBy_F)], [], true, true, 0, [], []⟩) fn_109 ⟨tys_ok, (.cons movedBy_T .nil), .nil, mixed⟩ (n0 := 0) rfl (Nat.le_of_ble_eq_true rfl) (by simp [wfL, SV.wf]) (wfH_spec (by simp [wfH, SObj.wf])) (Nat.le_refl _) ?_
  simp -implicitDefEqProofs only [Try.f109, Option.getD_some, argS, movedBy_F, hR, hD, tkR, tkD, hf, ZB, Int.reduceToNat, Nat.reduceLT, Nat.reduceLeDiff, Int.reduceLE, Int.reduceLT, Nat.reduceEqDiff, Nat.reduceSub, SB, SV.known, packR, ne_eq, reduceCtorEq, Nat.reduceEqDiff, ↓reduceIte, if_true, if_false, eq_self, Nat.reduceAdd, Nat.reduceMul, Nat.reduceSub, forall_const, oneCellS, litOne, flat1, Kd.isSca, flat, TYB]
  refine loop_intro (fun s : Nat × Nat × Nat × List Int => [(3, .ptr 0 0), (4, .ptr 1 0), (2, .int u), (7, outVn 2 s.2.1 s.2.1 s.2.2.1), (10, .int s.1)]) (fun s => outHn 2 s.2.1 (GL (pbB R D u) (s.1 * 6) ++ s.2.2.2) 44 [(0, .ints R 27), (1, .ints D 51)]) 3
    (fun s => s.1 ≤ 6 ∧ (GL (pbB R D u) (s.1 * 6)).length = s.2.1 * 2 ∧ s.2.1 ≤ 37 ∧ s.2.1 ≤ s.1 * 6 ∧ s.2.2.2.length + s.2.1 * 2 = s.2.2.1 * 2) (fun s => 6 - s.1) ?_ ?_
  · refine ⟨(0, 0, 0, []), ⟨by omega, by simp [GL_zero], by simp, by simp, by simp⟩, Sub.mk_id ?_ ?_ ?_ ?_ ?_⟩
    all_goals simp only [outVn_zero, outHn_zero, LB, subS, subH, wfS, wfH, SV.ren, renL, SObj.ren, SV.wf, SObj.wf, wfL, SV.known, Nat.reduceEqDiff, ↓reduceIte, if_true, if_false, eq_self, Nat.reduceAdd, Nat.reduceLT, Nat.reduceLeDiff, implies_true, reduceCtorEq, forall_const]
    all_goals (try simp)
  · rintro ⟨i, n, cap, junk⟩ ⟨hi, hL, hn, hni, hj⟩
    simp only at hi hL hn hni hj
    simp -implicitDefEqProofs only [lk_normal, hR, hD, ZB, Int.reduceToNat, Nat.reduceLT, Nat.reduceLeDiff, Int.reduceLE, Int.reduceLT, Nat.reduceEqDiff, Nat.reduceSub, SB, SV.known, packR, ne_eq, reduceCtorEq, Nat.reduceEqDiff, ↓reduceIte, if_true, if_false, eq_self, Nat.reduceAdd, Nat.reduceMul, Nat.reduceSub, forall_const, oneCellS, litOne, flat1, Kd.isSca, flat, TYB]
    refine ⟨fun h => ?_, fun h => ?_⟩
    · have hi6 : i < 6 := by omega
      refine loop_intro (fun s : Nat × Nat × Nat × List Int => [(3, .ptr 0 0), (4, .ptr 1 0), (2, .int u), (7, outVn 2 s.2.1 s.2.1 s.2.2.1), (8, .int i), (10, .int i), (13, .int s.1)]) (fun s => outHn 2 s.2.1 (GL (pbB R D u) (i * 6 + s.1) ++ s.2.2.2) 44 [(0, .ints R 27), (1, .ints D 51)]) 3
        (fun s => s.1 ≤ 6 ∧ (GL (pbB R D u) (i * 6 + s.1)).length = s.2.1 * 2 ∧ s.2.1 ≤ 37 ∧ s.2.1 ≤ i * 6 + s.1 ∧ s.2.2.2.length + s.2.1 * 2 = s.2.2.1 * 2) (fun s => 6 - s.1) ?_ ?_
      · refine ⟨(0, n, cap, junk), ⟨by simp, by simpa using hL, by simpa using hn, by simpa using hni, by simpa using hj⟩, ?_⟩
        cases n with
        | zero =>
          refine Sub.mk_id ?_ ?_ ?_ ?_ ?_
          all_goals simp only [outVn_zero, outHn_zero, LB, subS, subH, wfS, wfH, SV.ren, renL, SObj.ren, SV.wf, SObj.wf, wfL, SV.known, Nat.reduceEqDiff, ↓reduceIte, if_true, if_false, eq_self, Nat.reduceAdd, Nat.reduceLT, Nat.reduceLeDiff, implies_true, reduceCtorEq, forall_const]
          all_goals (try simp)
        | succ n =>
          refine Sub.mk_id ?_ ?_ ?_ ?_ ?_
          all_goals simp only [outVn_succ, outHn_succ, LB, subS, subH, wfS, wfH, SV.ren, renL, SObj.ren, SV.wf, SObj.wf, wfL, SV.known, Nat.reduceEqDiff, ↓reduceIte, if_true, if_false, eq_self, Nat.reduceAdd, Nat.reduceLT, Nat.reduceLeDiff, implies_true, reduceCtorEq, forall_const]
          all_goals (try simp)
      · rintro ⟨j, n, cap, junk⟩ ⟨gj, gL, gn, gni, gk⟩
        simp only at gj gL gn gni gk
        have es := fun hj => GL_at (pbB R D u) i j hj
        have e6 : (i + 1) * 6 = i * 6 + 6 := by omega
        cases hc : pbB R D u i j with
        | false =>
         have hc2 : ¬ 0 < movF R D u i j := of_decide_eq_false hc
         cases n with
         | zero =>
          simp -implicitDefEqProofs only [lk_normal, movedBy_F, outVn_zero, outHn_zero, hR, hD, tkR, tkD, hf, hc2, ZB, Int.reduceToNat, Nat.reduceLT, Nat.reduceLeDiff, Int.reduceLE, Int.reduceLT, Nat.reduceEqDiff, Nat.reduceSub, SB, SV.known, packR, ne_eq, reduceCtorEq, Nat.reduceEqDiff, ↓reduceIte, if_true, if_false, eq_self, Nat.reduceAdd, Nat.reduceMul, Nat.reduceSub, forall_const, oneCellS, litOne, flat1, Kd.isSca, flat, TYB]
          refine ⟨fun hx => ?_, fun hx => ?_⟩
          · have e1 := es (by omega)
            rw [hc] at e1
            simp only [Bool.false_eq_true, if_false, List.append_nil] at e1
            (try (and_intros <;> try (first | omega | (unfold In64; omega) | trivial | assumption)))
            refine ⟨(j + 1, 0, cap, junk), ⟨by simp only; omega, by simp only [← Nat.add_assoc]; rw [e1]; exact gL, by simp only; omega, by simp only; omega, by simp only; omega⟩, by simp only; omega, Sub.mk_id ?_ ?_ ?_ ?_ ?_⟩
            all_goals simp only [outVn_zero, outHn_zero, ← Nat.add_assoc, e1, LB, subS, subH, wfS, wfH, SV.ren, renL, SObj.ren, SV.wf, SObj.wf, wfL, SV.known, Nat.reduceEqDiff, ↓reduceIte, if_true, if_false, eq_self, Nat.reduceAdd, Nat.reduceLT, Nat.reduceLeDiff, implies_true, reduceCtorEq, forall_const]
            all_goals (try simp)
          · have hj6 : j = 6 := by omega
            subst hj6
            (try (and_intros <;> try (first | omega | (unfold In64; omega) | trivial | assumption)))
            refine ⟨(i + 1, 0, cap, junk), ⟨by simp only; omega, by simp only; rw [e6]; exact gL, by simp only; omega, by simp only; omega, by simp only; omega⟩, by simp only; omega, Sub.mk_id ?_ ?_ ?_ ?_ ?_⟩
            all_goals simp only [outVn_zero, outHn_zero, e6, LB, subS, subH, wfS, wfH, SV.ren, renL, SObj.ren, SV.wf, SObj.wf, wfL, SV.known, Nat.reduceEqDiff, ↓reduceIte, if_true, if_false, eq_self, Nat.reduceAdd, Nat.reduceLT, Nat.reduceLeDiff, implies_true, reduceCtorEq, forall_const]
            all_goals (try simp)
         | succ n =>
          simp -implicitDefEqProofs only [lk_normal, movedBy_F, outVn_succ, outHn_succ, hR, hD, tkR, tkD, hf, hc2, ZB, Int.reduceToNat, Nat.reduceLT, Nat.reduceLeDiff, Int.reduceLE, Int.reduceLT, Nat.reduceEqDiff, Nat.reduceSub, SB, SV.known, packR, ne_eq, reduceCtorEq, Nat.reduceEqDiff, ↓reduceIte, if_true, if_false, eq_self, Nat.reduceAdd, Nat.reduceMul, Nat.reduceSub, forall_const, oneCellS, litOne, flat1, Kd.isSca, flat, TYB]
          refine ⟨fun hx => ?_, fun hx => ?_⟩
          · have e1 := es (by omega)
            rw [hc] at e1
            simp only [Bool.false_eq_true, if_false, List.append_nil] at e1
            (try (and_intros <;> try (first | omega | (unfold In64; omega) | trivial | assumption)))
            refine ⟨(j + 1, n + 1, cap, junk), ⟨by simp only; omega, by simp only [← Nat.add_assoc]; rw [e1]; exact gL, by simp only; omega, by simp only; omega, by simp only; omega⟩, by simp only; omega, Sub.mk_id ?_ ?_ ?_ ?_ ?_⟩
            all_goals simp only [outVn_succ, outHn_succ, ← Nat.add_assoc, e1, LB, subS, subH, wfS, wfH, SV.ren, renL, SObj.ren, SV.wf, SObj.wf, wfL, SV.known, Nat.reduceEqDiff, ↓reduceIte, if_true, if_false, eq_self, Nat.reduceAdd, Nat.reduceLT, Nat.reduceLeDiff, implies_true, reduceCtorEq, forall_const]
            all_goals (try simp)
          · have hj6 : j = 6 := by omega
            subst hj6
            (try (and_intros <;> try (first | omega | (unfold In64; omega) | trivial | assumption)))
            refine ⟨(i + 1, n + 1, cap, junk), ⟨by simp only; omega, by simp only; rw [e6]; exact gL, by simp only; omega, by simp only; omega, by simp only; omega⟩, by simp only; omega, Sub.mk_id ?_ ?_ ?_ ?_ ?_⟩
            all_goals simp only [outVn_succ, outHn_succ, e6, LB, subS, subH, wfS, wfH, SV.ren, renL, SObj.ren, SV.wf, SObj.wf, wfL, SV.known, Nat.reduceEqDiff, ↓reduceIte, if_true, if_false, eq_self, Nat.reduceAdd, Nat.reduceLT, Nat.reduceLeDiff, implies_true, reduceCtorEq, forall_const]
            all_goals (try simp)
        | true =>
         have hc2 : 0 < movF R D u i j := of_decide_eq_true hc
         cases n with
         | zero =>
          simp -implicitDefEqProofs only [lk_normal, movedBy_F, outVn_zero, outHn_zero, hR, hD, tkR, tkD, hf, hc2, ZB, Int.reduceToNat, Nat.reduceLT, Nat.reduceLeDiff, Int.reduceLE, Int.reduceLT, Nat.reduceEqDiff, Nat.reduceSub, SB, SV.known, packR, ne_eq, reduceCtorEq, Nat.reduceEqDiff, ↓reduceIte, if_true, if_false, eq_self, Nat.reduceAdd, Nat.reduceMul, Nat.reduceSub, forall_const, oneCellS, litOne, flat1, Kd.isSca, flat, TYB]
          refine ⟨fun hx => ?_, fun hx => ?_⟩
          · have e1 := es (by omega)
            have e0 : GL (pbB R D u) (i * 6 + j) = [] := List.length_eq_zero_iff.1 (by simpa using gL)
            rw [hc, e0] at e1
            simp only [if_true, List.nil_append] at e1
            (try (and_intros <;> try (first | omega | (unfold In64; omega) | trivial | assumption)))
            intro junk' cap' hj'
            (try (and_intros <;> try (first | omega | (unfold In64; omega) | trivial | assumption)))
            refine ⟨(j + 1, 1, cap', junk'), ⟨by simp only; omega, by simp only [← Nat.add_assoc]; rw [e1]; rfl, by simp only; omega, by simp only; omega, by simp only; omega⟩, by simp only; omega, Sub.mk_to 2 4 ?_ ?_ ?_ ?_ ?_ ?_ ?_⟩
            all_goals simp only [outVn_succ, outHn_succ, ← Nat.add_assoc, e1, LB, subS, subH, wfS, wfH, SV.ren, renL, SObj.ren, SV.wf, SObj.wf, wfL, SV.known, Nat.reduceEqDiff, ↓reduceIte, if_true, if_false, eq_self, Nat.reduceAdd, Nat.reduceLT, Nat.reduceLeDiff, implies_true, reduceCtorEq, forall_const]
            all_goals (try simp)
          · have hj6 : j = 6 := by omega
            subst hj6
            (try (and_intros <;> try (first | omega | (unfold In64; omega) | trivial | assumption)))
            refine ⟨(i + 1, 0, cap, junk), ⟨by simp only; omega, by simp only; rw [e6]; exact gL, by simp only; omega, by simp only; omega, by simp only; omega⟩, by simp only; omega, Sub.mk_id ?_ ?_ ?_ ?_ ?_⟩
            all_goals simp only [outVn_zero, outHn_zero, e6, LB, subS, subH, wfS, wfH, SV.ren, renL, SObj.ren, SV.wf, SObj.wf, wfL, SV.known, Nat.reduceEqDiff, ↓reduceIte, if_true, if_false, eq_self, Nat.reduceAdd, Nat.reduceLT, Nat.reduceLeDiff, implies_true, reduceCtorEq, forall_const]
            all_goals (try simp)
         | succ n =>
          have tkL : (GL (pbB R D u) (i * 6 + j) ++ junk).take ((n + 1) * 2) = GL (pbB R D u) (i * 6 + j) := List.take_left' gL
          have lenL : (GL (pbB R D u) (i * 6 + j) ++ junk).length = cap * 2 := by rw [List.length_append]; omega
          simp -implicitDefEqProofs only [lk_normal, movedBy_F, outVn_succ, outHn_succ, hR, hD, tkR, tkD, hf, hc2, tkL, lenL, ZB, Int.reduceToNat, Nat.reduceLT, Nat.reduceLeDiff, Int.reduceLE, Int.reduceLT, Nat.reduceEqDiff, Nat.reduceSub, SB, SV.known, packR, ne_eq, reduceCtorEq, Nat.reduceEqDiff, ↓reduceIte, if_true, if_false, eq_self, Nat.reduceAdd, Nat.reduceMul, Nat.reduceSub, forall_const, oneCellS, litOne, flat1, Kd.isSca, flat, TYB]
          refine ⟨fun hx => ?_, fun hx => ?_⟩
          · have e1 := es (by omega)
            rw [hc] at e1
            simp only [if_true] at e1
            (try (and_intros <;> try (first | omega | (unfold In64; omega) | trivial | assumption)))
            intro junk' cap' hj'
            (try (and_intros <;> try (first | omega | (unfold In64; omega) | trivial | assumption)))
            refine ⟨(j + 1, n + 1 + 1, cap', junk'), ⟨by simp only; omega, by simp only [← Nat.add_assoc]; rw [e1, List.length_append, gL]; simp; omega, by simp only; omega, by simp only; omega, by simp only; omega⟩, by simp only; omega, Sub.mk_to 2 4 ?_ ?_ ?_ ?_ ?_ ?_ ?_⟩
            all_goals simp only [outVn_succ, outHn_succ, ← Nat.add_assoc, e1, LB, subS, subH, wfS, wfH, SV.ren, renL, SObj.ren, SV.wf, SObj.wf, wfL, SV.known, Nat.reduceEqDiff, ↓reduceIte, if_true, if_false, eq_self, Nat.reduceAdd, Nat.reduceLT, Nat.reduceLeDiff, implies_true, reduceCtorEq, forall_const]
            all_goals (try simp)
          · have hj6 : j = 6 := by omega
            subst hj6
            (try (and_intros <;> try (first | omega | (unfold In64; omega) | trivial | assumption)))
            refine ⟨(i + 1, n + 1, cap, junk), ⟨by simp only; omega, by simp only; rw [e6]; exact gL, by simp only; omega, by simp only; omega, by simp only; omega⟩, by simp only; omega, Sub.mk_id ?_ ?_ ?_ ?_ ?_⟩
            all_goals simp only [outVn_succ, outHn_succ, e6, LB, subS, subH, wfS, wfH, SV.ren, renL, SObj.ren, SV.wf, SObj.wf, wfL, SV.known, Nat.reduceEqDiff, ↓reduceIte, if_true, if_false, eq_self, Nat.reduceAdd, Nat.reduceLT, Nat.reduceLeDiff, implies_true, reduceCtorEq, forall_const]
            all_goals (try simp)
    · obtain rfl : i = 6 := by omega
      have kn : ∀ a b c, (outVn 2 a b c).known = true := fun a b c => by cases a <;> rfl
      refine ⟨kn _ _ _, ?_⟩
      cases n with
      | zero => 
        refine .inl ⟨rfl, List.length_eq_zero_iff.1 (by simpa using hL), ?_⟩
        simp [outVn_zero, Wrap.ap]
      | succ n =>
        refine .inr ⟨2, cap, junk, ?_, ?_, by omega, ?_, ?_⟩
        · rw [show (GL (pbB R D u) 36).length = (n + 1) * 2 from hL]; simp [Wrap.ap, outVn_succ]
        · simp [hget_cons, outHn_succ]
        · have : (GL (pbB R D u) 36).length = (n + 1) * 2 := hL
          omega
        · intro _ h0
          have : (GL (pbB R D u) 36).length = (n + 1) * 2 := hL
          rw [h0] at this
          simp at this
theorem l8Pours_ok (R D : List Int) (u : Int) (hR : R.length = 24) (hD : D.length = 6) (hf : forB R D = true) (hu : ruF u = true) : FreshP Try.prog 93 [.arr R, .arr D, .int u] [] (GL (pbB R D u) 36) ((GL (pbB R D u) 36).length / 2) 2 44 false .one := by
  have tkR : R.take 24 = R := List.take_of_length_le (by omega)
  have tkD : D.take 6 = D := List.take_of_length_le (by omega)
  refine fresh_of_vc (X := ⟨Try.prog, tys, [(102, l8Moves_F)], [], true, true, 0, [], []⟩) fn_93 ⟨tys_ok, (.cons l8Moves_T .nil), .nil, mixed⟩ (n0 := 0) rfl (Nat.le_of_ble_eq_true rfl) (by simp [wfL, SV.wf]) (wfH_spec (by simp [wfH, SObj.wf])) (Nat.le_refl _) ?_
  simp -implicitDefEqProofs only [Try.f93, Option.getD_some, argS, l8Moves_F, hR, hD, tkR, tkD, hf, hu, ZB, Int.reduceToNat, Nat.reduceLT, Nat.reduceLeDiff, Int.reduceLE, Int.reduceLT, Nat.reduceEqDiff, Nat.reduceSub, SB, SV.known, packR, ne_eq, reduceCtorEq, Nat.reduceEqDiff, ↓reduceIte, if_true, if_false, eq_self, Nat.reduceAdd, Nat.reduceMul, Nat.reduceSub, forall_const, oneCellS, litOne, flat1, Kd.isSca, flat, TYB]
  refine loop_intro (fun s : Nat × Nat × Nat × List Int => [(3, .ptr 0 0), (4, .ptr 1 0), (2, .int u), (7, .slice 2 0 s.2.1 s.2.2.1), (8, .int s.1)]) (fun s => [(2, .ints (GL (pbB R D u) (s.1 * 6) ++ s.2.2.2) 44), (0, .ints R 27), (1, .ints D 51)]) 3
    (fun s => s.1 ≤ 6 ∧ (GL (pbB R D u) (s.1 * 6)).length = s.2.1 * 2 ∧ s.2.1 ≤ 37 ∧ s.2.1 ≤ s.1 * 6 ∧ s.2.2.2.length + s.2.1 * 2 = s.2.2.1 * 2) (fun s => 6 - s.1) ?_ ?_
  · refine ⟨(0, 0, 0, []), ⟨by omega, by simp [GL_zero], by simp, by simp, by simp⟩, Sub.mk_id ?_ ?_ ?_ ?_ ?_⟩
    all_goals simp only [Nat.zero_mul, GL_zero, List.append_nil, LB, subS, subH, wfS, wfH, SV.ren, renL, SObj.ren, SV.wf, SObj.wf, wfL, SV.known, Nat.reduceEqDiff, ↓reduceIte, if_true, if_false, eq_self, Nat.reduceAdd, Nat.reduceLT, Nat.reduceLeDiff, implies_true, reduceCtorEq, forall_const]
    all_goals (try simp)
  · rintro ⟨i, n, cap, junk⟩ ⟨hi, hL, hn, hni, hj⟩
    simp only at hi hL hn hni hj
    simp -implicitDefEqProofs only [lk_normal, l8Moves_F, hR, hD, hf, hu, ZB, Int.reduceToNat, Nat.reduceLT, Nat.reduceLeDiff, Int.reduceLE, Int.reduceLT, Nat.reduceEqDiff, Nat.reduceSub, SB, SV.known, packR, ne_eq, reduceCtorEq, Nat.reduceEqDiff, ↓reduceIte, if_true, if_false, eq_self, Nat.reduceAdd, Nat.reduceMul, Nat.reduceSub, forall_const, oneCellS, litOne, flat1, Kd.isSca, flat, TYB]
    refine ⟨fun h => ?_, fun h => ?_⟩
    · have hi6 : i < 6 := by omega
      refine loop_intro (fun s : Nat × Nat × Nat × List Int => [(3, .ptr 0 0), (4, .ptr 1 0), (2, .int u), (7, .slice 2 0 s.2.1 s.2.2.1), (8, .int i), (9, .int s.1)]) (fun s => [(2, .ints (GL (pbB R D u) (i * 6 + s.1) ++ s.2.2.2) 44), (0, .ints R 27), (1, .ints D 51)]) 3
        (fun s => s.1 ≤ 6 ∧ (GL (pbB R D u) (i * 6 + s.1)).length = s.2.1 * 2 ∧ s.2.1 ≤ 37 ∧ s.2.1 ≤ i * 6 + s.1 ∧ s.2.2.2.length + s.2.1 * 2 = s.2.2.1 * 2) (fun s => 6 - s.1) ?_ ?_
      · refine ⟨(0, n, cap, junk), ⟨by simp, by simpa using hL, by simpa using hn, by simpa using hni, by simpa using hj⟩, Sub.mk_id ?_ ?_ ?_ ?_ ?_⟩
        all_goals simp only [Nat.add_zero, LB, subS, subH, wfS, wfH, SV.ren, renL, SObj.ren, SV.wf, SObj.wf, wfL, SV.known, Nat.reduceEqDiff, ↓reduceIte, if_true, if_false, eq_self, Nat.reduceAdd, Nat.reduceLT, Nat.reduceLeDiff, implies_true, reduceCtorEq, forall_const]
        all_goals (try simp)
      · rintro ⟨j, n, cap, junk⟩ ⟨gj, gL, gn, gni, gk⟩
        simp only at gj gL gn gni gk
        have es := fun hj => GL_at (pbB R D u) i j hj
        have e6 : (i + 1) * 6 = i * 6 + 6 := by omega
        have tkL : (GL (pbB R D u) (i * 6 + j) ++ junk).take (n * 2) = GL (pbB R D u) (i * 6 + j) := List.take_left' gL
        have lenL : (GL (pbB R D u) (i * 6 + j) ++ junk).length = cap * 2 := by rw [List.length_append]; omega
        cases hc : pbB R D u i j with
        | false =>
          have hc2 : ¬ 0 < movF R D u i j := of_decide_eq_false hc
          simp -implicitDefEqProofs only [lk_normal, l8Moves_F, hR, hD, tkR, tkD, hf, hu, hc2, ZB, Int.reduceToNat, Nat.reduceLT, Nat.reduceLeDiff, Int.reduceLE, Int.reduceLT, Nat.reduceEqDiff, Nat.reduceSub, SB, SV.known, packR, ne_eq, reduceCtorEq, Nat.reduceEqDiff, ↓reduceIte, if_true, if_false, eq_self, Nat.reduceAdd, Nat.reduceMul, Nat.reduceSub, forall_const, oneCellS, litOne, flat1, Kd.isSca, flat, TYB]
          refine ⟨fun hx => ?_, fun hx => ?_⟩
          · have e1 := es (by omega)
            rw [hc] at e1
            simp only [Bool.false_eq_true, if_false, List.append_nil] at e1
            (try (and_intros <;> try (first | omega | (unfold In64; omega) | trivial | assumption)))
            refine ⟨(j + 1, n, cap, junk), ⟨by simp only; omega, by simp only [← Nat.add_assoc]; rw [e1]; exact gL, by simp only; omega, by simp only; omega, by simp only; omega⟩, by simp only; omega, Sub.mk_id ?_ ?_ ?_ ?_ ?_⟩
            all_goals simp only [← Nat.add_assoc, e1, LB, subS, subH, wfS, wfH, SV.ren, renL, SObj.ren, SV.wf, SObj.wf, wfL, SV.known, Nat.reduceEqDiff, ↓reduceIte, if_true, if_false, eq_self, Nat.reduceAdd, Nat.reduceLT, Nat.reduceLeDiff, implies_true, reduceCtorEq, forall_const]
            all_goals (try simp)
          · have hj6 : j = 6 := by omega
            subst hj6
            (try (and_intros <;> try (first | omega | (unfold In64; omega) | trivial | assumption)))
            refine ⟨(i + 1, n, cap, junk), ⟨by simp only; omega, by simp only; rw [e6]; exact gL, by simp only; omega, by simp only; omega, by simp only; omega⟩, by simp only; omega, Sub.mk_id ?_ ?_ ?_ ?_ ?_⟩
            all_goals simp only [e6, LB, subS, subH, wfS, wfH, SV.ren, renL, SObj.ren, SV.wf, SObj.wf, wfL, SV.known, Nat.reduceEqDiff, ↓reduceIte, if_true, if_false, eq_self, Nat.reduceAdd, Nat.reduceLT, Nat.reduceLeDiff, implies_true, reduceCtorEq, forall_const]
            all_goals (try simp)
        | true =>
          have hc2 : 0 < movF R D u i j := of_decide_eq_true hc
          simp -implicitDefEqProofs only [lk_normal, l8Moves_F, hR, hD, tkR, tkD, hf, hu, hc2, tkL, lenL, ZB, Int.reduceToNat, Nat.reduceLT, Nat.reduceLeDiff, Int.reduceLE, Int.reduceLT, Nat.reduceEqDiff, Nat.reduceSub, SB, SV.known, packR, ne_eq, reduceCtorEq, Nat.reduceEqDiff, ↓reduceIte, if_true, if_false, eq_self, Nat.reduceAdd, Nat.reduceMul, Nat.reduceSub, forall_const, oneCellS, litOne, flat1, Kd.isSca, flat, TYB]
          refine ⟨fun hx => ?_, fun hx => ?_⟩
          · have e1 := es (by omega)
            rw [hc] at e1
            simp only [if_true] at e1
            (try (and_intros <;> try (first | omega | (unfold In64; omega) | trivial | assumption)))
            intro junk' cap' hj'
            (try (and_intros <;> try (first | omega | (unfold In64; omega) | trivial | assumption)))
            refine ⟨(j + 1, n + 1, cap', junk'), ⟨by simp only; omega, by simp only [← Nat.add_assoc]; rw [e1, List.length_append, gL]; simp; omega, by simp only; omega, by simp only; omega, by simp only; omega⟩, by simp only; omega, Sub.mk_to 2 4 ?_ ?_ ?_ ?_ ?_ ?_ ?_⟩
            all_goals simp only [← Nat.add_assoc, e1, LB, subS, subH, wfS, wfH, SV.ren, renL, SObj.ren, SV.wf, SObj.wf, wfL, SV.known, Nat.reduceEqDiff, ↓reduceIte, if_true, if_false, eq_self, Nat.reduceAdd, Nat.reduceLT, Nat.reduceLeDiff, implies_true, reduceCtorEq, forall_const]
            all_goals (try simp)
          · have hj6 : j = 6 := by omega
            subst hj6
            (try (and_intros <;> try (first | omega | (unfold In64; omega) | trivial | assumption)))
            refine ⟨(i + 1, n, cap, junk), ⟨by simp only; omega, by simp only; rw [e6]; exact gL, by simp only; omega, by simp only; omega, by simp only; omega⟩, by simp only; omega, Sub.mk_id ?_ ?_ ?_ ?_ ?_⟩
            all_goals simp only [e6, LB, subS, subH, wfS, wfH, SV.ren, renL, SObj.ren, SV.wf, SObj.wf, wfL, SV.known, Nat.reduceEqDiff, ↓reduceIte, if_true, if_false, eq_self, Nat.reduceAdd, Nat.reduceLT, Nat.reduceLeDiff, implies_true, reduceCtorEq, forall_const]
            all_goals (try simp)
    · obtain rfl : i = 6 := by omega
      have hL' : (GL (pbB R D u) 36).length = n * 2 := hL
      refine .inr ⟨2, cap, junk, ?_, ?_, by omega, ?_, ?_⟩
      · rw [hL']; simp [Wrap.ap]
      · simp [hget_cons]
      · omega
      · intro h0; cases h0
end Go.Proofs.Ytopfnkmlgcjpbaa
set_option maxRecDepth 100000
set_option linter.unusedSimpArgs false
set_option linter.unusedVariables false
namespace Go.Proofs.Ytopfnkmlgcjpbaa
open Go Go.RowKit
def poursBy_F : List SV → Heap → Nat → Nat → K1 → Prop
  | [.arr R, .arr D, .int u], H, n, _, κ => (R.length = 24 ∧ D.length = 6 ∧ forB R D = true) ∧ freshK .one (GL (pbB R D u) 36) ((GL (pbB R D u) 36).length / 2) 2 44 true H n κ
  | _, _, _, _, _ => False
--@tbl poursBy = impl.poursBy
theorem poursBy_T : ∀ args H n m κ, poursBy_F args H n m κ → GenOK Try.prog 109 args H n m κ := by
  intro args H n m κ h
  unfold poursBy_F at h
  split at h
  · exact gen_of_fresh (poursBy_ok _ _ _ h.1.1 h.1.2.1 h.1.2.2) (fun k o hk => by cases hk) h.2
  · exact h.elim
def l8Pours_F : List SV → Heap → Nat → Nat → K1 → Prop
  | [.arr R, .arr D, .int u], H, n, _, κ => (R.length = 24 ∧ D.length = 6 ∧ forB R D = true ∧ ruF u = true) ∧ freshK .one (GL (pbB R D u) 36) ((GL (pbB R D u) 36).length / 2) 2 44 false H n κ
  | _, _, _, _, _ => False
--@tbl l8Pours = spec.l8Pours
theorem l8Pours_T : ∀ args H n m κ, l8Pours_F args H n m κ → GenOK Try.prog 93 args H n m κ := by
  intro args H n m κ h
  unfold l8Pours_F at h
  split at h
  · exact gen_of_fresh (l8Pours_ok _ _ _ h.1.1 h.1.2.1 h.1.2.2.1 h.1.2.2.2) (fun k o hk => by cases hk) h.2
  · exact h.elim
def pbyB (R D : List Int) (u i j : Int) : Bool := forB R D && ruF u && plF i && plF j && !decide (movF R D u i j = 0)
def pbyT (R D : List Int) (u i j : Int) : List Int := if pbyB R D u i j = true then mvR R i.toNat j.toNat (movF R D u i j).toNat else List.replicate 24 0
def pbyN (R D : List Int) (u i j : Int) : Int := if pbyB R D u i j = true then movF R D u i j else 0
theorem PourBy_ok (R D : List Int) (u i j : Int) (hR : R.length = 24) (hD : D.length = 6) : PureH Try.prog 26 [.arr R, .arr D, .int u, .int i, .int j] [] (.tup [.arr (pbyT R D u i j), .int (pbyN R D u i j), .bool (pbyB R D u i j)]) := by
  have tkR : R.take 24 = R := List.take_of_length_le (by omega)
  have tkD : D.take 6 = D := List.take_of_length_le (by omega)
  have r24 : List.take 24 (List.replicate 24 (0 : Int)) = List.replicate 24 0 := rfl
  unfold pbyT pbyN pbyB
  cases hf : forB R D <;> cases hu : ruF u <;> cases hi : plF i <;> cases hj : plF j
  case true.true.true.true =>
    have bi := pl_bd hi
    have bj := pl_bd hj
    have mb := movF_bd (u := u) hR hD hf bi bj
    have hr := (forB_facts hD hf).1
    by_cases hm : movF R D u i j = 0
    · refine pure_of_vc (X := ⟨Try.prog, tys, [(95, isFor_F), (96, isRule_F), (97, isPlace_F), (98, movedBy_F), (99, move_F)], [], true, true, 0, [], []⟩) fn_26 ⟨tys_ok, (.cons isFor_T (.cons isRule_T (.cons isPlace_T (.cons movedBy_T (.cons move_T .nil))))), .nil, mixed⟩ (n0 := 0) (Nat.le_of_ble_eq_true rfl) (by simp [wfL, SV.wf]) (wfH_spec (by simp [wfH, SObj.wf])) (Nat.le_refl _) (fun _ => by simp [SV.wf, wfL]) ?_
      simp -implicitDefEqProofs only [Try.f26, Option.getD_some, argS, isFor_F, isRule_F, isPlace_F, movedBy_F, move_F, hR, hD, tkR, tkD, r24, hf, hu, hi, hj, hm, ZB, Int.reduceToNat, Nat.reduceLT, Nat.reduceLeDiff, Int.reduceLE, Int.reduceLT, Nat.reduceEqDiff, Nat.reduceSub, SB, SV.known, packR, ne_eq, reduceCtorEq, Nat.reduceEqDiff, ↓reduceIte, if_true, if_false, eq_self, Nat.reduceAdd, Nat.reduceMul, Nat.reduceSub, forall_const, oneCellS, litOne, flat1, Kd.isSca, flat, TYB]
      (try (and_intros <;> try (first | omega | (unfold In64; omega) | trivial | assumption)))
    · have ml := (mvR_len R i.toNat j.toNat (movF R D u i j).toNat).trans hR
      have tkM : (mvR R i.toNat j.toNat (movF R D u i j).toNat).take 24 = mvR R i.toNat j.toNat (movF R D u i j).toNat := List.take_of_length_le (by omega)
      have m2 := mb.2.resolve_left hm
      refine pure_of_vc (X := ⟨Try.prog, tys, [(95, isFor_F), (96, isRule_F), (97, isPlace_F), (98, movedBy_F), (99, move_F)], [], true, true, 0, [], []⟩) fn_26 ⟨tys_ok, (.cons isFor_T (.cons isRule_T (.cons isPlace_T (.cons movedBy_T (.cons move_T .nil))))), .nil, mixed⟩ (n0 := 0) (Nat.le_of_ble_eq_true rfl) (by simp [wfL, SV.wf]) (wfH_spec (by simp [wfH, SObj.wf])) (Nat.le_refl _) (fun _ => by simp [SV.wf, wfL]) ?_
      simp -implicitDefEqProofs only [Try.f26, Option.getD_some, argS, isFor_F, isRule_F, isPlace_F, movedBy_F, move_F, hR, hD, tkR, tkD, r24, hf, hu, hi, hj, hm, hr, ml, tkM, ZB, Int.reduceToNat, Nat.reduceLT, Nat.reduceLeDiff, Int.reduceLE, Int.reduceLT, Nat.reduceEqDiff, Nat.reduceSub, SB, SV.known, packR, ne_eq, reduceCtorEq, Nat.reduceEqDiff, ↓reduceIte, if_true, if_false, eq_self, Nat.reduceAdd, Nat.reduceMul, Nat.reduceSub, forall_const, oneCellS, litOne, flat1, Kd.isSca, flat, TYB]
      (try (and_intros <;> try (first | omega | (unfold In64; omega) | trivial | assumption)))
      all_goals (first | exact m2.1 | skip)
  all_goals
    refine pure_of_vc (X := ⟨Try.prog, tys, [(95, isFor_F), (96, isRule_F), (97, isPlace_F)], [], true, true, 0, [], []⟩) fn_26 ⟨tys_ok, (.cons isFor_T (.cons isRule_T (.cons isPlace_T .nil))), .nil, mixed⟩ (n0 := 0) (Nat.le_of_ble_eq_true rfl) (by simp [wfL, SV.wf]) (wfH_spec (by simp [wfH, SObj.wf])) (Nat.le_refl _) (fun _ => by simp [SV.wf, wfL]) ?_
    simp -implicitDefEqProofs only [Try.f26, Option.getD_some, argS, isFor_F, isRule_F, isPlace_F, hR, hD, tkR, tkD, r24, hf, hu, hi, hj, ZB, Int.reduceToNat, Nat.reduceLT, Nat.reduceLeDiff, Int.reduceLE, Int.reduceLT, Nat.reduceEqDiff, Nat.reduceSub, SB, SV.known, packR, ne_eq, reduceCtorEq, Nat.reduceEqDiff, ↓reduceIte, if_true, if_false, eq_self, Nat.reduceAdd, Nat.reduceMul, Nat.reduceSub, forall_const, oneCellS, litOne, flat1, Kd.isSca, flat, TYB]
def PourBy_F : List SV → Heap → Option (Prop × SV)
  | [.arr R, .arr D, .int u, .int i, .int j], _ => some (R.length = 24 ∧ D.length = 6, .tup [.arr (pbyT R D u i j), .int (pbyN R D u i j), .bool (pbyB R D u i j)])
  | _, _ => none
theorem PourBy_T : ∀ args H p v, PourBy_F args H = some (p, v) → p → PureH Try.prog 26 args H v := by
  intro args H p v h hp
  unfold PourBy_F at h
  split at h
  · cases h; exact (PourBy_ok _ _ _ _ _ hp.1 hp.2).any _
  · cases h
/-! CountRules. -/
end Go.Proofs.Ytopfnkmlgcjpbaa
set_option maxRecDepth 100000
set_option linter.unusedSimpArgs false
set_option linter.unusedVariables false
namespace Go.Proofs.Ytopfnkmlgcjpbaa
open Go Go.RowKit
theorem run_of_next {P : Program} {s : Sem Value} {x : Value} {w : World} (h : (do pure (Next.value (← s)) : Sem Next).run P w = .ok (.value x) w) : s.run P w = .ok x w := by
  simp only [Sem.run_bind] at h
  generalize s.run P w = r at h
  cases r with
  | ok y w1 => simp only [Result.andThen_ok, Sem.run_pure] at h; cases h; rfl
  | halt y w1 => simp only [Result.andThen_halt] at h; cases h
theorem runPart_int {t : TypeId} (hk : (tys t).k = .int) (L : List Int) (off : Nat) (h : off < L.length) (w : World) : (part t (ints L) off).run Try.prog w = .ok (.int .i64 (L.getD off 0)) w := by
  obtain ⟨v, x, _, h2, h3, h4⟩ := part_sound (B := fun _ => 0) (H := []) (n := 0) (κ := fun v _ _ => v = .int (L.getD off 0)) tys_ok (t := t) (L := L) (off := off) (by unfold partVC; rw [hk]; all_goals exact ⟨h, rfl⟩)
  subst h3
  have h5 := h4 w (HR.nil _ _)
  rw [h2 rfl] at h5
  exact run_of_next h5
theorem runPart_arr {t k e : Nat} (hk : (tys t).k = .arr k e) (L : List Int) (off : Nat) (h : off + (tys t).size ≤ L.length) (w : World) : (part t (ints L) off).run Try.prog w = .ok (.agg (ints ((L.drop off).take (tys t).size))) w := by
  obtain ⟨v, x, _, h2, h3, h4⟩ := part_sound (B := fun _ => 0) (H := []) (n := 0) (κ := fun v _ _ => v = .arr ((L.drop off).take (tys t).size)) tys_ok (t := t) (L := L) (off := off) (by unfold partVC; rw [hk]; all_goals exact ⟨h, rfl⟩)
  subst h3
  have h5 := h4 w (HR.nil _ _)
  rw [h2 rfl] at h5
  exact run_of_next h5
/-- Equality at a type, at every depth from some depth on. -/
def EqA (D : Nat) (t : TypeId) (s : Nat) : Prop := ∀ d, D ≤ d → ∀ (L M : List Int), L.length = s → M.length = s → ∀ w, (Op.equalIn d t (.agg (ints L)) (.agg (ints M))).run Try.prog w = .ok (decide (L = M)) w
theorem take_split (L : List Int) (c k : Nat) : L.take ((k + 1) * c) = L.take c ++ (L.drop c).take (k * c) := by
  rw [show (k + 1) * c = c + k * c by rw [Nat.add_mul, Nat.one_mul, Nat.add_comm], List.take_add]
theorem items_run {d : Nat} {e : TypeId} {c : Nat} (L M : List Int) (hst : ∀ a, (a + 1) * c ≤ L.length → (a + 1) * c ≤ M.length → ∀ w, ∃ x y, (part e (ints L) (a * c)).run Try.prog w = .ok x w ∧ (part e (ints M) (a * c)).run Try.prog w = .ok y w ∧
      (Op.equalIn d e x y).run Try.prog w = .ok (decide ((L.drop (a * c)).take c = (M.drop (a * c)).take c)) w) :
    ∀ (k a : Nat), (a + k) * c ≤ L.length → (a + k) * c ≤ M.length → ∀ w, (Op.eqItems d e c (ints L) (ints M) (List.range' a k)).run Try.prog w = .ok (decide ((L.drop (a * c)).take (k * c) = (M.drop (a * c)).take (k * c))) w
  | 0, a, _, _, w => by simp [Op.eqItems]
  | k + 1, a, h1, h2, w => by
    have le : (a + 1) * c ≤ (a + (k + 1)) * c := Nat.mul_le_mul_right c (by omega)
    obtain ⟨x, y, p1, p2, p3⟩ := hst a (by omega) (by omega) w
    have ih := items_run L M hst k (a + 1) (by rw [show a + 1 + k = a + (k + 1) by omega]; exact h1) (by rw [show a + 1 + k = a + (k + 1) by omega]; exact h2) w
    have hac : (a + 1) * c = a * c + c := by rw [Nat.add_mul, Nat.one_mul]
    have hkc : (a + (k + 1)) * c = a * c + c + k * c := by rw [Nat.add_mul, Nat.add_mul, Nat.one_mul]; omega
    rw [List.range'_succ]
    simp only [Op.eqItems, Sem.run_bind, p1, p2, p3, Result.andThen_ok]
    rw [take_split, take_split, List.drop_drop, List.drop_drop, ← hac]
    by_cases hd : (L.drop (a * c)).take c = (M.drop (a * c)).take c
    · simp only [hd, decide_true, Bool.not_true, Bool.false_eq_true, if_false]
      rw [ih]
      simp
    · have : ¬ ((L.drop (a * c)).take c ++ (L.drop ((a + 1) * c)).take (k * c) = (M.drop (a * c)).take c ++ (M.drop ((a + 1) * c)).take (k * c)) := fun h => hd (List.append_inj_left h (by rw [List.length_take, List.length_take, List.length_drop, List.length_drop]; omega))
      simp [hd, this]
theorem eqA_ints {t e n : Nat} {i : TypeInfo} (hu : Try.prog.underlying t = some (.array n e)) (hi : Try.prog.info? e = some i) (hc : Try.prog.cellsOf e = 1) (hk : (tys e).k = .int) (hue : Try.prog.underlying e = some (.int .i64)) : EqA 2 t n := by
  intro d hd L M hL hM w
  obtain ⟨d, rfl⟩ : ∃ d', d = d' + 1 + 1 := ⟨d - 2, by omega⟩
  rw [run_equalIn_array w (d + 1) (ints L) (ints M) hu hi, hc, List.range_eq_range', items_run L M (fun a h1 h2 w => ⟨_, _, runPart_int hk L (a * 1) (by omega) w, runPart_int hk M (a * 1) (by omega) w, ?_⟩) n 0 (by omega) (by omega) w]
  · simp [List.take_of_length_le, hL, hM]
  · rw [run_equalIn_int w d e .i64 .i64 _ _ hue]
    have one : ∀ N : List Int, a * 1 < N.length → (N.drop (a * 1)).take 1 = [N.getD (a * 1) 0] := fun N h => by
      rw [List.drop_eq_getElem_cons h, List.take_succ_cons, List.take_zero]
      simp only [List.getD, List.getElem?_eq_getElem h, Option.getD_some]
    rw [one L (by omega), one M (by omega)]
    have : (L.getD (a * 1) 0 == M.getD (a * 1) 0) = decide ([L.getD (a * 1) 0] = [M.getD (a * 1) 0]) := by
      simp only [List.cons.injEq, and_true]
      rfl
    rw [this]
theorem eqA_arr {t e n c D k e' : Nat} {i : TypeInfo} (hu : Try.prog.underlying t = some (.array n e)) (hi : Try.prog.info? e = some i) (hc : Try.prog.cellsOf e = c) (hs : (tys e).size = c) (hk : (tys e).k = .arr k e') (he : EqA D e c) : EqA (D + 1) t (n * c) := by
  intro d hd L M hL hM w
  obtain ⟨d, rfl⟩ : ∃ d', d = d' + 1 := ⟨d - 1, by omega⟩
  have mul1 : ∀ a, (a + 1) * c = a * c + c := fun a => by rw [Nat.add_mul, Nat.one_mul]
  rw [run_equalIn_array w d (ints L) (ints M) hu hi, hc, List.range_eq_range', items_run L M (fun a h1 h2 w => ⟨_, _, runPart_arr hk L (a * c) (by rw [hs]; have := mul1 a; omega) w, runPart_arr hk M (a * c) (by rw [hs]; have := mul1 a; omega) w, ?_⟩) n 0 (by rw [Nat.zero_add]; omega) (by rw [Nat.zero_add]; omega) w]
  · simp [List.take_of_length_le, hL, hM]
  · rw [hs]
    exact he d (by omega) _ _ (by rw [List.length_take, List.length_drop]; have := mul1 a; omega) (by rw [List.length_take, List.length_drop]; have := mul1 a; omega) w
theorem eqA_one {t e c D k e' : Nat} {f : Field} (hu : Try.prog.underlying t = some (.struct #[f])) (hf : f.name ≠ "_") (hft : f.type = e) (hfo : f.offset = 0) (hs : (tys e).size = c) (hk : (tys e).k = .arr k e') (hp : Try.prog.stoodInHeld t = false) (he : EqA D e c) : EqA (D + 1) t c := by
  intro d hd L M hL hM w
  obtain ⟨d, rfl⟩ : ∃ d', d = d' + 1 := ⟨d - 1, by omega⟩
  have hfs : Try.prog.fieldsOf t = #[f] := by simp [Program.fieldsOf, hu]
  rw [run_equalIn_struct w d t (ints L) (ints M) (by rw [hfs]; exact hu) hp, hfs]
  have p1 := runPart_arr hk L 0 (by omega) w
  have p2 := runPart_arr hk M 0 (by omega) w
  rw [hs, List.drop_zero, List.take_of_length_le (by omega)] at p1 p2
  have h3 := he d (by omega) L M hL hM w
  simp only [Op.eqFields, if_pos hf, hft, hfo, Sem.run_bind, p1, p2, h3, Result.andThen_ok]
  by_cases hx : L = M
  · simp [hx]
  · simp [hx]
theorem eqI_of {t s D : Nat} (hD : D ≤ 10000) (h : EqA D t s) (hg : Try.prog.eqGuardType Try.prog.depth t = false) : EqI Try.prog t s := by
  intro L M hL hM w
  refine ⟨fun x y => ?_, fun x y => ?_, h 10000 hD L M hL hM w⟩
  · simp [eqGuard, hg]
  · simp [eqGuard, hg]
theorem eqA_A4 : EqA 2 24 4 := eqA_ints (i := (Try.prog.info? 3).getD default) Try.underlying24 (by kernel_rfl) (by kernel_rfl) rfl Try.underlying3
theorem eqA_A64 : EqA 3 25 24 := eqA_arr (c := 4) (i := (Try.prog.info? 24).getD default) Try.underlying25 (by kernel_rfl) (by kernel_rfl) rfl rfl eqA_A4
theorem eqI_rack : EqI Try.prog 27 24 := eqI_of (by omega) (eqA_one Try.underlying27 (by decide) rfl rfl rfl rfl (by kernel_rfl) eqA_A64) (by kernel_rfl)
/-! Keys of maps. -/
def KeyA (D : Nat) (t s : Nat) : Prop := ∀ d, D ≤ d → ∀ L : List Int, L.length = s → ∀ em w, (Instr.checkKey em d t (.agg (ints L))).run Try.prog w = .ok () w
theorem keyA_ints {t e n : Nat} {i : TypeInfo} (hu : Try.prog.underlying t = some (.array n e)) (hi : Try.prog.info? e = some i) (hc : Try.prog.cellsOf e = 1) (hk : (tys e).k = .int) (hue : Try.prog.underlying e = some (.int .i64)) : KeyA 2 t n := by
  intro d hd L hL em w
  obtain ⟨d, rfl⟩ : ∃ d', d = d' + 1 + 1 := ⟨d - 2, by omega⟩
  rw [Instr.checkKey]
  simp only [Sem.run_bind, run_underlying hu, Result.andThen_ok]
  simp only [Std.Legacy.Range.forIn_eq_forIn_range', Std.Legacy.Range.size, Nat.sub_zero, Nat.add_one_sub_one, Nat.div_one]
  have each : ∀ j ∈ List.range' 0 n, j < L.length := fun j hj => by
    rw [List.mem_range'] at hj; omega
  generalize List.range' 0 n = is at each
  induction is with
  | nil => simp
  | cons j is ih =>
    have hj := each j (List.mem_cons_self ..)
    have p1 := runPart_int hk L (j * 1) (by omega) w
    have p2 : ∀ x : Int, (Instr.checkKey em (d + 1) e (.int .i64 x)).run Try.prog w = .ok () w := fun x => by
      unfold Instr.checkKey
      simp [run_underlying hue]
    simp only [List.forIn_cons, Sem.run_bind, run_sizeOf w hi, Result.andThen_ok, hc, p1, p2, Sem.run_pure]
    exact ih (fun y hy => each y (List.mem_cons_of_mem _ hy))
theorem keyA_arr {t e n c D k e' : Nat} {i : TypeInfo} (hu : Try.prog.underlying t = some (.array n e)) (hi : Try.prog.info? e = some i) (hc : Try.prog.cellsOf e = c) (hs : (tys e).size = c) (hk : (tys e).k = .arr k e') (he : KeyA D e c) : KeyA (D + 1) t (n * c) := by
  intro d hd L hL em w
  obtain ⟨d, rfl⟩ : ∃ d', d = d' + 1 := ⟨d - 1, by omega⟩
  rw [Instr.checkKey]
  simp only [Sem.run_bind, run_underlying hu, Result.andThen_ok]
  simp only [Std.Legacy.Range.forIn_eq_forIn_range', Std.Legacy.Range.size, Nat.sub_zero, Nat.add_one_sub_one, Nat.div_one]
  have each : ∀ j ∈ List.range' 0 n, j * c + c ≤ L.length := fun j hj => by
    have hjn : j + 1 ≤ n := by rw [List.mem_range'] at hj; omega
    have := Nat.mul_le_mul_right c hjn
    rw [Nat.add_mul, Nat.one_mul] at this
    omega
  generalize List.range' 0 n = is at each
  induction is with
  | nil => simp
  | cons j is ih =>
    have hj := each j (List.mem_cons_self ..)
    have p1 := runPart_arr hk L (j * c) (by rw [hs]; exact hj) w
    rw [hs] at p1
    have p2 := he d (by omega) ((L.drop (j * c)).take c) (by rw [List.length_take, List.length_drop]; omega) em w
    simp only [List.forIn_cons, Sem.run_bind, run_sizeOf w hi, Result.andThen_ok, hc, p1, p2, Sem.run_pure]
    exact ih (fun y hy => each y (List.mem_cons_of_mem _ hy))
theorem keyA_one {t e c D k e' : Nat} {f : Field} (hu : Try.prog.underlying t = some (.struct #[f])) (hf : f.name ≠ "_") (hft : f.type = e) (hfo : f.offset = 0) (hs : (tys e).size = c) (hk : (tys e).k = .arr k e') (he : KeyA D e c) : KeyA (D + 1) t c := by
  intro d hd L hL em w
  obtain ⟨d, rfl⟩ : ∃ d', d = d' + 1 := ⟨d - 1, by omega⟩
  rw [Instr.checkKey]
  have p1 := runPart_arr hk L 0 (by omega) w
  rw [hs, List.drop_zero, List.take_of_length_le (by omega)] at p1
  have p2 := he d (by omega) L hL em w
  simp only [Sem.run_bind, run_underlying hu, Result.andThen_ok]
  rw [← Array.forIn_toList]
  simp only [List.forIn_cons, List.forIn_nil, Sem.run_bind, hf, ne_eq, not_false_eq_true, if_true, hft, hfo, p1, p2, Result.andThen_ok, Sem.run_pure]
theorem keyA_A4 : KeyA 2 24 4 := keyA_ints (i := (Try.prog.info? 3).getD default) Try.underlying24 (by kernel_rfl) (by kernel_rfl) rfl Try.underlying3
theorem keyA_A64 : KeyA 3 25 24 := keyA_arr (c := 4) (i := (Try.prog.info? 24).getD default) Try.underlying25 (by kernel_rfl) (by kernel_rfl) rfl rfl keyA_A4
theorem keyA_rack : KeyA 4 27 24 := keyA_one Try.underlying27 (by decide) rfl rfl rfl rfl keyA_A64
theorem keyI_rack : KeyI Try.prog 27 24 := ⟨by rw [Try.underlying27], eqI_rack, fun L hL em w => keyA_rack 10000 (by omega) L hL em w⟩
end Go.Proofs.Ytopfnkmlgcjpbaa
set_option maxRecDepth 100000
set_option linter.unusedSimpArgs false
set_option linter.unusedVariables false
namespace Go.Proofs.Ytopfnkmlgcjpbaa
open Go Go.RowKit
/-! Lists of racks. -/
def all24 (Q : List (List Int)) : Prop := ∀ x ∈ Q, x.length = 24
theorem flat_len : ∀ {Q : List (List Int)}, all24 Q → Q.flatten.length = Q.length * 24
  | [], _ => rfl
  | x :: Q, h => by
    rw [List.flatten_cons, List.length_append, flat_len fun y hy => h y (List.mem_cons_of_mem _ hy), h x (List.mem_cons_self ..), List.length_cons]; omega
theorem flat_get : ∀ {Q : List (List Int)}, all24 Q → ∀ {i : Nat}, i < Q.length → ∀ J, ((Q.flatten ++ J).drop (i * 24)).take 24 = Q.getD i []
  | [], _, i, hi, _ => by simp at hi
  | x :: Q, h, i, hi, J => by
    have hx := h x (List.mem_cons_self ..)
    rw [List.flatten_cons, List.append_assoc]
    cases i with
    | zero => rw [Nat.zero_mul, List.drop_zero, List.take_left' hx]; rfl
    | succ i =>
      rw [show (i + 1) * 24 = 24 + i * 24 by omega, ← List.drop_drop, List.drop_left' hx, flat_get (fun y hy => h y (List.mem_cons_of_mem _ hy)) (by simpa using hi) J]
      rfl
theorem getD_mem {Q : List (List Int)} {i : Nat} (hi : i < Q.length) : Q.getD i [] ∈ Q := by
  rw [List.getD_eq_getElem?_getD, List.getElem?_eq_getElem hi]; exact List.getElem_mem hi
theorem take_succ_getD {α : Type} (Q : List (List α)) (i : Nat) (hi : i < Q.length) : Q.take (i + 1) = Q.take i ++ [Q.getD i []] := by
  rw [List.take_succ_eq_append_getElem hi, List.getD_eq_getElem?_getD, List.getElem?_eq_getElem hi]; rfl
/-! Maps that know racks. -/
def mk1 (K : List (List Int)) : List (List Int × Int) := K.map fun k => (k, 1)
theorem mk1_len (K : List (List Int)) : (mk1 K).length = K.length := by simp [mk1]
theorem mk1_keys {K : List (List Int)} (h : all24 K) : keysOK (mk1 K) 24 := fun q hq => by
  obtain ⟨k, hk, rfl⟩ := List.mem_map.1 hq
  exact h k hk
theorem mget_mk1 (x : List Int) : ∀ K : List (List Int), mget (mk1 K) x = if x ∈ K then 1 else 0
  | [] => rfl
  | k :: K => by
    show (if x = k then 1 else mget (mk1 K) x) = _
    rw [mget_mk1 x K]
    by_cases h : x = k
    · simp [h]
    · simp [h]
theorem mset_mk1 {x : List Int} : ∀ {K : List (List Int)}, x ∉ K → mset (mk1 K) x 1 = mk1 (K ++ [x])
  | [], _ => rfl
  | k :: K, h => by
    have h1 : ¬ x = k := fun e => h (e ▸ List.mem_cons_self ..)
    have ih := mset_mk1 (K := K) fun hx => h (List.mem_cons_of_mem _ hx)
    show (if x = k then (k, 1) :: mk1 K else (k, 1) :: mset (mk1 K) x 1) = _
    rw [if_neg h1, ih]; rfl
/-! What is new. -/
def nwS (K O : List (List Int)) (x : List Int) : List (List Int) := if x ∈ K ++ O then O else O ++ [x]
def nwF (K xs : List (List Int)) : List (List Int) := xs.foldl (nwS K) []
theorem nwF_nil (K : List (List Int)) : nwF K [] = [] := rfl
theorem nwF_snoc (K xs : List (List Int)) (x : List Int) : nwF K (xs ++ [x]) = nwS K (nwF K xs) x := by simp [nwF, List.foldl_append]
theorem nwF_old {K xs : List (List Int)} {x : List Int} (h : x ∈ K ++ nwF K xs) : nwF K (xs ++ [x]) = nwF K xs := by rw [nwF_snoc, nwS, if_pos h]
theorem nwF_new {K xs : List (List Int)} {x : List Int} (h : x ∉ K ++ nwF K xs) : nwF K (xs ++ [x]) = nwF K xs ++ [x] := by rw [nwF_snoc, nwS, if_neg h]
theorem snoc_ind {α : Type} {P : List α → Prop} (h0 : P []) (h1 : ∀ l x, P l → P (l ++ [x])) (l : List α) : P l := by
  have : P l.reverse.reverse := by
    generalize l.reverse = r
    induction r with
    | nil => exact h0
    | cons x r ih => rw [List.reverse_cons]; exact h1 _ _ ih
  rwa [List.reverse_reverse] at this
theorem nwF_sub (K xs : List (List Int)) : ∀ y ∈ nwF K xs, y ∈ xs ∧ y ∉ K := by
  refine snoc_ind (P := fun xs => ∀ y ∈ nwF K xs, y ∈ xs ∧ y ∉ K) (by simp [nwF]) (fun l x ih y hy => ?_) xs
  by_cases h : x ∈ K ++ nwF K l
  · rw [nwF_old h] at hy
    exact ⟨List.mem_append_left _ (ih y hy).1, (ih y hy).2⟩
  · rw [nwF_new h] at hy
    rcases List.mem_append.1 hy with hy | hy
    · exact ⟨List.mem_append_left _ (ih y hy).1, (ih y hy).2⟩
    · simp at hy; subst hy
      exact ⟨by simp, fun hK => h (List.mem_append_left _ hK)⟩
theorem nwF_all (K xs : List (List Int)) : ∀ y ∈ xs, y ∈ K ++ nwF K xs := by
  refine snoc_ind (P := fun xs => ∀ y ∈ xs, y ∈ K ++ nwF K xs) (by simp) (fun l x ih y hy => ?_) xs
  by_cases h : x ∈ K ++ nwF K l
  · rw [nwF_old h]
    rcases List.mem_append.1 hy with hy | hy
    · exact ih y hy
    · simp at hy; subst hy; exact h
  · rw [nwF_new h, ← List.append_assoc]
    rcases List.mem_append.1 hy with hy | hy
    · exact List.mem_append_left _ (ih y hy)
    · exact List.mem_append_right _ hy
theorem nwF_len (K xs : List (List Int)) : (nwF K xs).length ≤ xs.length := by
  refine snoc_ind (P := fun xs => (nwF K xs).length ≤ xs.length) (by simp [nwF]) (fun l x ih => ?_) xs
  rw [nwF_snoc, nwS]
  split <;> simp <;> omega
/-- What is known already changes nothing. -/
theorem nwF_skip (K ys xs : List (List Int)) (h : ∀ y ∈ ys, y ∈ K) : nwF K (ys ++ xs) = nwF K xs := by
  have h0 : nwF K ys = [] := by
    have := nwF_sub K ys
    rcases List.eq_nil_or_concat (nwF K ys) with h1 | ⟨l, x, h1⟩
    · exact h1
    · have h2 := this x (by rw [h1]; simp)
      exact absurd (h x h2.1) h2.2
  show (ys ++ xs).foldl (nwS K) [] = _
  rw [List.foldl_append]
  show xs.foldl (nwS K) (nwF K ys) = _
  rw [h0]; rfl
theorem memT (G : List (List Int)) (x : List Int) (m : Nat) (hm : m < G.length) : decide (x ∈ G.take (m + 1)) = (decide (x ∈ G.take m) || decide (G.getD m [] = x)) := by
  rw [take_succ_getD G m hm]
  by_cases h : x ∈ G.take m
  · simp only [List.mem_append, h, true_or, decide_true, Bool.true_or]
  · by_cases h2 : G.getD m [] = x
    · rw [h2]; simp
    · have h3 : ¬ x = G.getD m [] := fun e => h2 e.symm
      simp only [List.mem_append, h, List.mem_singleton, h3, h2, or_self, decide_false, Bool.or_self]
end Go.Proofs.Ytopfnkmlgcjpbaa
set_option maxRecDepth 100000
set_option linter.unusedSimpArgs false
set_option linter.unusedVariables false
namespace Go.Proofs.Ytopfnkmlgcjpbaa
open Go Go.RowKit
def chkR (L : List Int) (off len : Nat) : List (List Int) := (List.range len).map fun i => (L.drop (off + i * 24)).take 24
theorem chkR_len (L : List Int) (off len : Nat) : (chkR L off len).length = len := by simp [chkR]
theorem chkR_getD (L : List Int) (off len k : Nat) (h : k < len) : (chkR L off len).getD k [] = (L.drop (off + k * 24)).take 24 := by simp [chkR, List.getD, h]
theorem indexFuncR_ok (g : Nat) (caps : List SV) (H Hc : Heap) (pr : List Int → Bool) (n0 b : Nat) (L : List Int) (e len cap : Nat) (hb : hget H b = some (.ints L e)) (hl : len * 24 ≤ L.length) (hm : len ≤ 9223372036854775806)
    (Q : List Int → Prop) (hQ : ∀ i, i < len → Q ((L.drop (i * 24)).take 24)) (hc : ∀ x : List Int, Q x → PureH Try.prog g (.arr x :: caps) Hc (.bool (pr x))) (hE : Ext Hc H) (hw : wfL n0 caps) (hwH : hwf n0 H) :
    PureH Try.prog 151 [.slice b 0 len cap, .fn g caps] H (.int (idxG pr (chkR L 0 len))) := by
  have hE2 := chkR_len L 0 len
  have h00 : b < n0 := (hwH b _ hb).1
  refine pure_of_vc (X := ⟨Try.prog, tys, [(g, fun args H' => match args with | .arr x :: r => some (r = caps ∧ Ext Hc H' ∧ Q x, .bool (pr x)) | _ => none)], [], true, true, n0, [], []⟩) fn_151
    ⟨tys_ok, .cons (fun args H' p v h hp => ?_) .nil, .nil, mixed⟩ (n0 := n0) (Nat.le_of_ble_eq_true rfl) ⟨by simpa [SV.wf] using h00, by simpa [SV.wf] using hw, trivial⟩ hwH (Nat.le_refl _) (fun _ => trivial) ?_
  · split at h
    · cases h
      obtain ⟨rfl, hx1, hx⟩ := hp
      exact (hc _ hx).weaken hx1 (fun _ => trivial)
    · cases h
  simp -implicitDefEqProofs only [Try.f151, Option.getD_some, argS, hb, SB, SV.known, packR, ne_eq, reduceCtorEq, Nat.reduceEqDiff, ↓reduceIte, if_true, if_false, eq_self, Nat.reduceAdd, Nat.reduceMul, Nat.reduceSub, forall_const, oneCellS, litOne, flat1, Kd.isSca, flat, TYB]
  refine loop_intro (fun i : Nat => [(0, .slice b 0 len cap), (1, .fn g caps), (7, .int len), (8, .int i)]) (fun i => H) n0 (fun i => i ≤ len ∧ ∀ k, k < i → pr ((chkR L 0 len).getD k []) = false) (fun i => len - i) ?_ ?_
  · refine ⟨0, ⟨by omega, by simp⟩, Sub.same ?_ ?_ hwH (Nat.le_refl _)⟩
    · simp [subS, subH, wfS, wfH, SV.ren, renL, SObj.ren, SV.wf, SObj.wf, wfL, sget_cons, hget_cons, SV.known, renL_id]
    · simp [subS, subH, wfS, wfH, SV.ren, renL, SObj.ren, SV.wf, SObj.wf, wfL, sget_cons, hget_cons, hw, h00]
  · intro i hi
    obtain ⟨hi1, hi2⟩ := hi
    simp -implicitDefEqProofs only [lk_normal, hb, SB, SV.known, packR, ne_eq, reduceCtorEq, Nat.reduceEqDiff, ↓reduceIte, if_true, if_false, eq_self, Nat.reduceAdd, Nat.reduceMul, Nat.reduceSub, forall_const, oneCellS, litOne, flat1, Kd.isSca, flat, TYB]
    refine ⟨fun h => ?_, fun h => ?_⟩
    · have hlt : i < len := by omega
      have e1 : 0 + (i : Int).toNat * 24 = i * 24 := by simp
      have e2 : (L.drop (i * 24)).take 24 = (chkR L 0 len).getD i [] := by rw [chkR_getD L 0 len i hlt, Nat.zero_add]
      have e3 : Q ((chkR L 0 len).getD i []) := by rw [← e2]; exact hQ i hlt
      simp only [Int.toNat_natCast, Nat.zero_add, e2]
      refine ⟨by omega, by omega, by omega, ⟨hE, e3⟩, ?_⟩
      cases hp : pr ((chkR L 0 len).getD i []) with
      | true =>
        simp -implicitDefEqProofs only [SB, SV.known, packR, ne_eq, reduceCtorEq, Nat.reduceEqDiff, ↓reduceIte, if_true, if_false, eq_self, Nat.reduceAdd, Nat.reduceMul, Nat.reduceSub, forall_const, oneCellS, litOne, flat1, Kd.isSca, flat, TYB]
        rw [idxG_hit (by omega) hp hi2]
      | false =>
        simp -implicitDefEqProofs only [lk_normal, SB, SV.known, packR, ne_eq, reduceCtorEq, Nat.reduceEqDiff, ↓reduceIte, if_true, if_false, eq_self, Nat.reduceAdd, Nat.reduceMul, Nat.reduceSub, forall_const, oneCellS, litOne, flat1, Kd.isSca, flat, TYB]
        refine ⟨by unfold In64; omega, i + 1, ⟨by omega, fun k hk => ?_⟩, by omega, Sub.same ?_ ?_ hwH (Nat.le_refl _)⟩
        · by_cases hki : k = i
          · subst hki; exact hp
          · exact hi2 k (by omega)
        · simp [subS, subH, wfS, wfH, SV.ren, renL, SObj.ren, SV.wf, SObj.wf, wfL, sget_cons, hget_cons, SV.known, renL_id]
        · simp [subS, subH, wfS, wfH, SV.ren, renL, SObj.ren, SV.wf, SObj.wf, wfL, sget_cons, hget_cons, hw, h00]
    · obtain rfl : i = len := by omega
      rw [idxG_none (by rw [hE2]; exact hi2)]
end Go.Proofs.Ytopfnkmlgcjpbaa
set_option maxRecDepth 100000
set_option linter.unusedSimpArgs false
set_option linter.unusedVariables false
namespace Go.Proofs.Ytopfnkmlgcjpbaa
open Go Go.RowKit

mutual
theorem SV.wf_ren {n N : Nat} {ρ : Nat → Nat} (h : ∀ k, k < n → ρ k < N) : ∀ v : SV, v.wf n → (v.ren ρ).wf N
  | .non, _ => trivial
  | .und, _ => trivial
  | .int _, _ => trivial
  | .bool _, _ => trivial
  | .arr _, _ => trivial
  | .barr _, _ => trivial
  | .lit _, _ => trivial
  | .nils, _ => trivial
  | .ptr b o, hw => by simp only [SV.ren, SV.wf] at *; exact h b hw
  | .slice b o l c, hw => by simp only [SV.ren, SV.wf] at *; exact h b hw
  | .mp b, hw => by simp only [SV.ren, SV.wf] at *; exact h b hw
  | .fn f caps, hw => by simp only [SV.ren, SV.wf] at *; exact wfL_ren h caps hw
  | .tup l, hw => by simp only [SV.ren, SV.wf] at *; exact wfL_ren h l hw
  | .stc l, hw => by simp only [SV.ren, SV.wf] at *; exact wfL_ren h l hw
theorem wfL_ren {n N : Nat} {ρ : Nat → Nat} (h : ∀ k, k < n → ρ k < N) : ∀ l : List SV, wfL n l → wfL N (renL ρ l)
  | [], _ => trivial
  | v :: r, hw => by simp only [renL, wfL] at *; exact ⟨SV.wf_ren h v hw.1, wfL_ren h r hw.2⟩
end
theorem SObj.wf_ren {n N : Nat} {ρ : Nat → Nat} (h : ∀ k, k < n → ρ k < N) (o : SObj) (hw : o.wf n) : (o.ren ρ).wf N := by
  cases o <;> simp only [SObj.ren, SObj.wf] at *
  exact wfL_ren h _ hw
/-- Names of a call's blocks among the caller's. -/
def ext (ρ : Nat → Nat) (n0 n : Nat) : Nat → Nat := fun k => if k < n0 then ρ k else n + (k - n0)
theorem ext_lt {ρ : Nat → Nat} {n0 n k : Nat} (h : k < n0) : ext ρ n0 n k = ρ k := if_pos h
theorem ext_ge {ρ : Nat → Nat} {n0 n k : Nat} (h : n0 ≤ k) : ext ρ n0 n k = n + (k - n0) := if_neg (by omega)
def renH (ρ : Nat → Nat) (H : Heap) : Heap := H.map fun q => (ρ q.1, q.2.ren ρ)
theorem renH_get {ρ : Nat → Nat} (hi : ∀ a b, ρ a = ρ b → a = b) (H : Heap) (k : Nat) : hget (renH ρ H) (ρ k) = (hget H k).map (SObj.ren ρ) := by
  induction H with
  | nil => rfl
  | cons q H ih =>
    obtain ⟨b, o⟩ := q
    show hget ((ρ b, o.ren ρ) :: renH ρ H) (ρ k) = _
    rw [hget_cons, hget_cons, ih]
    by_cases h : k = b
    · subst h; rw [if_pos rfl, if_pos rfl]; rfl
    · rw [if_neg (fun h2 => h (hi _ _ h2)), if_neg h]
theorem renH_key {ρ : Nat → Nat} (H : Heap) {j : Nat} {o : SObj} (h : hget (renH ρ H) j = some o) : ∃ k, j = ρ k := by
  induction H with
  | nil => cases h
  | cons q H ih =>
    obtain ⟨b, o1⟩ := q
    have h' : hget ((ρ b, o1.ren ρ) :: renH ρ H) j = some o := h
    rw [hget_cons] at h'
    split at h'
    · exact ⟨b, by assumption⟩
    · exact ih h'
/-- What a walk comes to: a value and blocks under names of its own. -/
def finK (p m : Nat) (ψ : SV → Heap → Nat → Prop) : K1 := fun v H' _ => ∃ v' H'' n'', Sub p m [(0, v)] H' [(0, v')] H'' n'' ∧ ψ v' H'' n''

theorem gen_of_vc {X : Cx} {f : FuncId} {fn : Func} {c : Code} (hf : FnOK X.P f fn c X.sx X.hr) (hX : CxOK X) {n0 : Nat} {args : List SV} {H0 : Heap} {ψ : SV → Heap → Nat → Prop} (hN : args.length ≤ fn.ntmps) (hwa : wfL n0 args) (hwH : hwf n0 H0) (hm0 : X.m ≤ n0)
    (h : codeVC X n0 c (argS 0 args) H0 n0 (retK X.τ fn.results.toList (finK n0 X.m ψ)))
    (ρ : Nat → Nat) {H : Heap} {n m : Nat} {κ : K1} (hdom : ∀ k, k < n0 → ∃ o, hget H0 k = some o) (hi : ∀ a b, a < n0 → b < n0 → ρ a = ρ b → a = b)
    (hs : ∀ k o, hget H0 k = some o → hget H (ρ k) = some (o.ren ρ)) (hm : ∀ k o, hget H0 k = some o → X.m ≤ k → m ≤ ρ k)
    (hq : ∀ v H' n', ψ v H' n' → (∀ k o, hget H0 k = some o → o.live = true → X.m ≤ k → (hget H' k).isSome = true) ∧ (∀ k o, hget H' k = some o → o.live = true → k < X.m → ∃ o0, hget H0 k = some o0 ∧ o0.live = true))
    (hk : ∀ v H' n', ψ v H' n' → n0 ≤ n' → κ (v.ren (ext ρ n0 n)) (renH (ext ρ n0 n) H' ++ H) (n + (n' - n0))) : GenOK X.P f (renL ρ args) H n m κ := by
  refine ⟨hf.ent, fun B M w hH hwHH hwa' hown hM => ?_⟩
  have hρ : ∀ k, k < n0 → ρ k < n := fun k hk0 => by
    obtain ⟨o, ho⟩ := hdom k hk0
    exact (hwHH _ _ (hs k o ho)).1
  have hR : HR (fun k => B (ρ k)) H0 w := ⟨fun k o hl hk1 => by
    have := hH.at_ _ _ (hs k o hl) (by rw [SObj.live_ren]; exact hk1)
    rw [SObj.sat_ren] at this
    exact this, fun k j o1 o2 h1 h2 h3 h4 he => hi k j (hwH k o1 h1).1 (hwH j o2 h3).1 (hH.inj _ _ _ _ (hs k o1 h1) (by rw [SObj.live_ren]; exact h2) (hs j o2 h3) (by rw [SObj.live_ren]; exact h4) he)⟩
  rw [denL_ren]
  let M0 : Nat → Prop := fun i => (∃ k o, hget H0 k = some o ∧ o.live = true ∧ X.m ≤ k ∧ i = B (ρ k)) ∨ w.heap.size ≤ i
  have hM0 : ∀ i, M0 i → M i := fun i hi0 => by
    rcases hi0 with ⟨k, o, h1, h2, h3, rfl⟩ | h1
    · exact hown _ _ (hs k o h1) (by rw [SObj.live_ren]; exact h2) (hm k o h1 h3)
    · exact hM i h1
  have hown0 : Own M0 X.m (fun k => B (ρ k)) H0 := fun k o h1 h2 h3 => .inl ⟨k, o, h1, h2, h3, rfl⟩
  refine (run_of_vc hf hX hN hwa hwH (Nat.le_refl _) h (fun k => B (ρ k)) M0 w hR hown0 (fun _ h => .inr h)).mono fun e w' hh => ?_
  obtain ⟨v1, H1, n1, B1, rfl, ⟨v, H', n', hsub, hψ⟩, g1, g2, g3, g4, g5, g6, g7⟩ := hh
  -- the last renaming
  obtain ⟨σ, s1, s2, s3, s4, s5, s6, s7⟩ := hsub
  have sv := subS_spec s1 0 v rfl
  have e1 : v1 = v.ren σ := sv.1
  have vw : v.wf n' := s3.1
  let B2 : Nat → Nat := fun k => B1 (σ k)
  have hB2 : ∀ k, k < n0 → B2 k = B (ρ k) := fun k hk1 => by
    show B1 (σ k) = _
    rw [s6 k hk1, g6 k hk1]
  have hR2 : HR B2 H' w' := ⟨fun k o hl hk1 => by
    obtain ⟨a1, _, _⟩ := s2 k o hl
    have := g3.at_ _ _ a1 (by rw [SObj.live_ren]; exact hk1)
    rw [SObj.sat_ren] at this
    exact this, fun k j o o' a1 a2 a3 a4 he => by
    obtain ⟨b1, _, b3⟩ := s2 k o a1
    obtain ⟨c1, _, c3⟩ := s2 j o' a3
    exact s5 k b3 j c3 (g3.inj _ _ _ _ b1 (by rw [SObj.live_ren]; exact a2) c1 (by rw [SObj.live_ren]; exact a4) he)⟩
  have hO2 : Own M0 X.m B2 H' := fun k o hl hk1 hmk => by
    obtain ⟨a1, a2, _⟩ := s2 k o hl
    exact g4 _ _ a1 (by rw [SObj.live_ren]; exact hk1) (a2 hmk)
  obtain ⟨q1, q2⟩ := hq v H' n' hψ
  have hκ := hk v H' n' hψ s7
  -- names among the caller's
  let E := ext ρ n0 n
  let B3 : Nat → Nat := fun j => if j < n then B j else B2 (n0 + (j - n))
  have hE : ∀ k, k < n' → E k < n + (n' - n0) := fun k hk1 => by
    show ext ρ n0 n k < _
    by_cases hlt : k < n0
    · rw [ext_lt hlt]; have := hρ k hlt; omega
    · rw [ext_ge (by omega)]; omega
  have hEi : ∀ a b, E a = E b → a = b := fun a b he => by
    have he' : ext ρ n0 n a = ext ρ n0 n b := he
    by_cases ha : a < n0
    · have := hρ a ha
      by_cases hb : b < n0
      · rw [ext_lt ha, ext_lt hb] at he'; exact hi a b ha hb he'
      · rw [ext_lt ha, ext_ge (by omega)] at he'; omega
    · by_cases hb : b < n0
      · have := hρ b hb
        rw [ext_ge (by omega), ext_lt hb] at he'; omega
      · rw [ext_ge (by omega), ext_ge (by omega)] at he'; omega
  have hB3 : ∀ k, B3 (E k) = B2 k := fun k => by
    show (if ext ρ n0 n k < n then B (ext ρ n0 n k) else B2 (n0 + (ext ρ n0 n k - n))) = _
    by_cases hlt : k < n0
    · rw [ext_lt hlt, if_pos (hρ k hlt), hB2 k hlt]
    · rw [ext_ge (by omega), if_neg (by omega), show n0 + (n + (k - n0) - n) = k by omega]
  have hB3l : ∀ j, j < n → B3 j = B j := fun j hj => if_pos hj
  -- a look-up in the new heap
  have look : ∀ j o, hget (renH E H' ++ H) j = some o → (∃ k o', j = E k ∧ hget H' k = some o' ∧ o = o'.ren E) ∨ (hget H j = some o ∧ ∀ k, j = E k → hget H' k = none) := fun j o hl => by
    rw [hget_app] at hl
    cases hr : hget (renH E H') j with
    | some o1 =>
      rw [hr] at hl
      simp at hl
      subst hl
      obtain ⟨k, rfl⟩ := renH_key H' hr
      rw [renH_get hEi] at hr
      cases hk1 : hget H' k with
      | none => rw [hk1] at hr; cases hr
      | some o' => rw [hk1] at hr; simp at hr; exact .inl ⟨k, o', rfl, hk1, hr.symm⟩
    | none =>
      rw [hr] at hl
      simp at hl
      refine .inr ⟨hl, fun k hjk => ?_⟩
      subst hjk
      rw [renH_get hEi] at hr
      cases hk1 : hget H' k with
      | none => rfl
      | some o' => rw [hk1] at hr; cases hr
  -- blocks of the caller's that the call did not write
  have same : ∀ j o, hget H j = some o → o.live = true → (∀ k, j = E k → hget H' k = none) → ¬ M0 (B j) := fun j o hl hk1 hno hc => by
    rcases hc with ⟨k, o1, a1, a2, a3, a4⟩ | hc
    · have hj := hH.inj j (ρ k) _ _ hl hk1 (hs k o1 a1) (by rw [SObj.live_ren]; exact a2) a4
      have hkn := (hwH k o1 a1).1
      have hn := hno k (by rw [hj]; exact (ext_lt hkn).symm)
      have := q1 k o1 a1 a2 a3
      rw [hn] at this; cases this
    · have := hH.lt hl hk1
      omega
  have ren3 : ∀ (o : SObj) (id : Nat), o.wf n' → o.sat B2 w' id → (o.ren E).sat B3 w' id := fun o id hw1 hs1 => by
    rw [SObj.sat_ren]
    exact SObj.sat_congr (fun k _ => hB3 k) o hw1 hs1
  refine ⟨v.ren E, renH E H' ++ H, n + (n' - n0), B3, ?_, hκ, by omega, SV.wf_ren hE v vw, ?_, fun k hk1 => hB3l k hk1, ⟨fun j o hl hk1 => ?_, fun j1 j2 o1 o2 a1 a2 a3 a4 he => ?_⟩, ?_, ?_⟩
  · congr 1
    rw [SV.den_ren, e1, SV.den_ren]
    exact (SV.den_congr (n := n') (fun k _ => hB3 k) v vw).symm
  · intro j o hl
    rcases look j o hl with ⟨k, o', rfl, a1, rfl⟩ | ⟨a1, _⟩
    · have := s4 k o' a1
      exact ⟨hE k this.1, SObj.wf_ren hE o' this.2⟩
    · have := hwHH j o a1
      exact ⟨by omega, SObj.wf_mono (by omega) _ this.2⟩
  · rcases look j o hl with ⟨k, o', rfl, a1, rfl⟩ | ⟨a1, hno⟩
    · rw [SObj.live_ren] at hk1
      rw [hB3]
      exact ren3 o' _ (s4 k o' a1).2 (hR2.at_ k o' a1 hk1)
    · have hjn := (hwHH j o a1).1
      rw [hB3l j hjn]
      refine SObj.sat_congr (fun k hk2 => hB3l k hk2) o (hwHH j o a1).2 ?_
      exact SObj.sat_heap (g5.block (B j) (hH.lt a1 hk1) (same j o a1 hk1 hno)) (hH.at_ j o a1 hk1)
  · have cross : ∀ k o' j o, hget H' k = some o' → o'.live = true → hget H j = some o → o.live = true → (∀ k, j = E k → hget H' k = none) → B2 k ≠ B j := fun k o' j o b1 b2 b3 b4 hno hc => by
      by_cases hkm : k < X.m
      · obtain ⟨o0, c1, c2⟩ := q2 k o' b1 b2 hkm
        have hkn : k < n0 := by omega
        rw [hB2 k hkn] at hc
        have hj := hH.inj _ _ _ _ (hs k o0 c1) (by rw [SObj.live_ren]; exact c2) b3 b4 hc
        have := hno k (by rw [← hj]; exact (ext_lt hkn).symm)
        rw [this] at b1; cases b1
      · have := hO2 k o' b1 b2 (by omega)
        rw [hc] at this
        exact same j o b3 b4 hno this
    rcases look j1 o1 a1 with ⟨k1, p1, rfl, b1, rfl⟩ | ⟨b1, n1'⟩ <;> rcases look j2 o2 a3 with ⟨k2, p2, rfl, c1, rfl⟩ | ⟨c1, n2'⟩
    · rw [SObj.live_ren] at a2 a4
      rw [hB3, hB3] at he
      rw [hR2.inj k1 k2 _ _ b1 a2 c1 a4 he]
    · rw [SObj.live_ren] at a2
      rw [hB3, hB3l j2 (hwHH j2 o2 c1).1] at he
      exact absurd he (cross k1 p1 j2 o2 b1 a2 c1 a4 n2')
    · rw [SObj.live_ren] at a4
      rw [hB3, hB3l j1 (hwHH j1 o1 b1).1] at he
      exact absurd he.symm (cross k2 p2 j1 o1 c1 a4 b1 a2 n1')
    · rw [hB3l j1 (hwHH j1 o1 b1).1, hB3l j2 (hwHH j2 o2 c1).1] at he
      exact hH.inj j1 j2 _ _ b1 a2 c1 a4 he
  · intro j o hl hk1 hmj
    rcases look j o hl with ⟨k, o', rfl, a1, rfl⟩ | ⟨a1, _⟩
    · rw [SObj.live_ren] at hk1
      rw [hB3]
      by_cases hkm : k < X.m
      · obtain ⟨o0, c1, c2⟩ := q2 k o' a1 hk1 hkm
        have hkn : k < n0 := by omega
        rw [hB2 k hkn]
        have hmj' : m ≤ ext ρ n0 n k := hmj
        rw [ext_lt hkn] at hmj'
        exact hown _ _ (hs k o0 c1) (by rw [SObj.live_ren]; exact c2) hmj'
      · exact hM0 _ (hO2 k o' a1 hk1 (by omega))
    · rw [hB3l j (hwHH j o a1).1]
      exact hown j o a1 hk1 hmj
  · exact ⟨g5.os, g5.tape, g5.output, g5.size, fun i hi1 hi2 => g5.block i hi1 fun hc => hi2 (hM0 i hc), g5.drawn⟩
end Go.Proofs.Ytopfnkmlgcjpbaa
set_option maxRecDepth 100000
set_option linter.unusedSimpArgs false
set_option linter.unusedVariables false
namespace Go.Proofs.Ytopfnkmlgcjpbaa
open Go Go.RowKit
theorem runs_head (t : List Int) (ht : t.length = 4) (h : 0 < layN t) : (runsL t).getD 0 0 = t.getD 0 0 := by
  have key : ∀ i, 0 < i → i ≤ 4 → (RL t i).getD 0 0 = t.getD 0 0 ∧ 2 ≤ (RL t i).length := by
    intro i
    induction i with
    | zero => intro h; omega
    | succ i ih =>
      intro _ hi
      rw [RL_succ t i (by omega)]
      by_cases hi0 : i = 0
      · subst hi0
        rw [RL_zero]
        simp [stepR]
      · obtain ⟨h1, h2⟩ := ih (by omega) (by omega)
        unfold stepR
        split
        · refine ⟨?_, by simpa using h2⟩
          rw [getD_set' _ _ _ _ (by omega), if_neg (by omega), h1]
        · refine ⟨?_, by rw [List.length_append]; omega⟩
          rw [getD_app _ _ _ (by omega), h1]
  exact (key (layN t) h (lay_le t ht)).1
def rcN (R : List Int) (k : Nat) : Nat := (runsL (tubeAt R k)).length / 2
def rcC (R : List Int) (k : Nat) : Int := (runsL (tubeAt R k)).getD 0 0
def srtF (R : List Int) : Nat → Option (List Int)
  | 0 => some []
  | k + 1 => match srtF R k with
    | none => none
    | some s => if rcN R k = 0 then some s else if 1 < rcN R k ∨ rcC R k ∈ s then none else some (s ++ [rcC R k])
def sortB (R : List Int) : Bool := (srtF R 6).isSome
theorem srt_none {R : List Int} {k : Nat} (h : srtF R k = none) : ∀ j, srtF R (k + j) = none
  | 0 => h
  | j + 1 => by
    have := srt_none h j
    show srtF R (k + j + 1) = none
    simp only [srtF, this]
theorem sort_false {R : List Int} {k : Nat} (h : srtF R k = none) (hk : k ≤ 6) : sortB R = false := by
  have := srt_none h (6 - k)
  rw [show k + (6 - k) = 6 by omega] at this
  simp [sortB, this]
theorem srt_step {R : List Int} {k : Nat} {s : List Int} (h : srtF R k = some s) : srtF R (k + 1) = if rcN R k = 0 then some s else if 1 < rcN R k ∨ rcC R k ∈ s then none else some (s ++ [rcC R k]) := by
  simp only [srtF, h]
theorem srt_len {R : List Int} : ∀ {k : Nat} {s : List Int}, srtF R k = some s → s.length ≤ k
  | 0, s, h => by cases h; simp
  | k + 1, s, h => by
    cases hk : srtF R k with
    | none => simp [srtF, hk] at h
    | some s' =>
      have := srt_len hk
      rw [srt_step hk] at h
      split at h
      · cases h; omega
      · split at h
        · cases h
        · cases h; simp; omega
def seenL (s : List Int) : List Bool := (List.range 6).map fun c : Nat => decide ((c : Int) ∈ s)
theorem seenL_len (s : List Int) : (seenL s).length = 6 := by simp [seenL]
theorem seenL_nil : seenL [] = List.replicate 6 false := by simp [seenL, List.range, List.range.loop]
theorem seenL_getD (s : List Int) (c : Int) (h : 0 ≤ c ∧ c ≤ 5) : (seenL s).getD c.toNat false = decide (c ∈ s) := by
  have : ((c.toNat : Nat) : Int) = c := by omega
  simp [seenL, List.getD, show c.toNat < 6 by omega, this]
theorem seenL_set (s : List Int) (c : Int) (h : 0 ≤ c ∧ c ≤ 5) : (seenL s).set c.toNat true = seenL (s ++ [c]) := by
  apply List.ext_getElem (by simp [seenL])
  intro k h1 h2
  simp only [List.getElem_set, seenL, List.getElem_map, List.getElem_range]
  by_cases hk : c.toNat = k
  · rw [if_pos hk]
    have : (k : Int) = c := by omega
    simp [this]
  · rw [if_neg hk]
    have : ¬ (k : Int) = c := by omega
    simp [this]
theorem rc_facts {R : List Int} (hR : R.length = 24) (hr : rackB R = true) {k : Nat} (hk : k < 6) (h : 0 < rcN R k) : 0 ≤ rcC R k ∧ rcC R k ≤ 5 := by
  have hl := tubeAt_len hR hk
  have hb := tubeAt_ok hr hk
  have h0 : 0 < layN (tubeAt R k) := (runs_bottom _ hl hb).1.2 (by unfold crN; unfold rcN at h; omega)
  unfold rcC
  rw [runs_head _ hl h0]
  have := (tube_cells hl hb).1 0 h0
  omega
--@tbl isSorted = impl.isSorted
theorem isSorted_ok (R : List Int) (hR : R.length = 24) (hr : rackB R = true) : PureH Try.prog 116 [.arr R] [] (.bool (sortB R)) := by
  have tkR : R.take 24 = R := List.take_of_length_le (by omega)
  refine pure_of_vc (X := ⟨Try.prog, tys, [], [(152, runs_F)], true, true, 0, [], []⟩) fn_116 ⟨tys_ok, .nil, (.cons runs_T .nil), mixed⟩ (n0 := 0) (Nat.le_of_ble_eq_true rfl) (by simp [wfL, SV.wf]) (wfH_spec (by simp [wfH, SObj.wf])) (Nat.le_refl _) (fun _ => by simp [SV.wf, wfL]) ?_
  simp -implicitDefEqProofs only [Try.f116, Option.getD_some, argS, runs_F, hR, tkR, ZB, Int.reduceToNat, Nat.reduceLT, Nat.reduceLeDiff, Int.reduceLE, Int.reduceLT, Nat.reduceEqDiff, Nat.reduceSub, SB, SV.known, packR, ne_eq, reduceCtorEq, Nat.reduceEqDiff, ↓reduceIte, if_true, if_false, eq_self, Nat.reduceAdd, Nat.reduceMul, Nat.reduceSub, forall_const, oneCellS, litOne, flat1, Kd.isSca, flat, TYB]
  refine loop_intro (fun s : Nat × List Int => [(9, .int s.1), (8, .arr R), (3, .ptr 1 0), (2, .bool false), (1, .ptr 0 0)]) (fun s => [(1, .bls (seenL s.2) 122), (0, .ints R 27)]) 2 (fun s => s.1 ≤ 6 ∧ srtF R s.1 = some s.2) (fun s => 6 - s.1) ?_ ?_
  · refine ⟨(0, []), ⟨by omega, rfl⟩, Sub.mk_id ?_ ?_ ?_ ?_ ?_⟩
    all_goals simp only [seenL_nil, LB, subS, subH, wfS, wfH, SV.ren, renL, SObj.ren, SV.wf, SObj.wf, wfL, SV.known, Nat.reduceEqDiff, ↓reduceIte, if_true, if_false, eq_self, Nat.reduceAdd, Nat.reduceLT, Nat.reduceLeDiff, implies_true, reduceCtorEq, forall_const]
  · rintro ⟨i, s⟩ ⟨hi, hs⟩
    simp only at hi hs
    have eT : List.take 4 (List.drop (i * 4) R) = tubeAt R i := rfl
    have sl := seenL_len s
    by_cases hlt : i < 6
    · have hil : (i : Int) < 6 := by omega
      have hl := tubeAt_len hR hlt
      have tk4 : (tubeAt R i).take 4 = tubeAt R i := List.take_of_length_le (by omega)
      have es := srt_step hs
      have en : (runsL (tubeAt R i)).length / 2 = rcN R i := rfl
      obtain ⟨n, hn, hn4, _⟩ := runsL_even _ hl
      have ern : rcN R i = n := by unfold rcN; omega
      have gd : ∀ J : List Int, 0 < rcN R i → (runsL (tubeAt R i) ++ J).getD 0 0 = rcC R i := fun J h => getD_app _ _ _ (by omega)
      simp -implicitDefEqProofs only [lk_normal, runs_F, freshK, Wrap.ap, hil, hR, eT, hl, tk4, en, sl, ZB, Int.reduceToNat, Nat.reduceLT, Nat.reduceLeDiff, Int.reduceLE, Int.reduceLT, Nat.reduceEqDiff, Nat.reduceSub, SB, SV.known, packR, ne_eq, reduceCtorEq, Nat.reduceEqDiff, ↓reduceIte, if_true, if_false, eq_self, Nat.reduceAdd, Nat.reduceMul, Nat.reduceSub, forall_const, oneCellS, litOne, flat1, Kd.isSca, flat, TYB]
      refine ⟨by omega, fun h0 => ?_, fun h0 cap junk hj => ?_⟩
      · have hz : rcN R i = 0 := by rw [ern]; rw [h0] at hn; simp at hn; omega
        rw [if_pos hz] at es
        (try (and_intros <;> try (first | omega | (unfold In64; omega) | trivial | assumption)))
        refine ⟨(i + 1, s), ?_, ?_, Sub.mk_id ?_ ?_ ?_ ?_ ?_⟩
        all_goals (try (simp only [es, LB, subS, subH, wfS, wfH, SV.ren, renL, SObj.ren, SV.wf, SObj.wf, wfL, SV.known, Nat.reduceEqDiff, ↓reduceIte, if_true, if_false, eq_self, Nat.reduceAdd, Nat.reduceLT, Nat.reduceLeDiff, implies_true, reduceCtorEq, forall_const]; done))
        all_goals (try (simp only [es, LB, subS, subH, wfS, wfH, SV.ren, renL, SObj.ren, SV.wf, SObj.wf, wfL, SV.known, Nat.reduceEqDiff, ↓reduceIte, if_true, if_false, eq_self, Nat.reduceAdd, Nat.reduceLT, Nat.reduceLeDiff, implies_true, reduceCtorEq, forall_const]; simp; done))
        all_goals (try (simp only [es, LB, subS, subH, wfS, wfH, SV.ren, renL, SObj.ren, SV.wf, SObj.wf, wfL, SV.known, Nat.reduceEqDiff, ↓reduceIte, if_true, if_false, eq_self, Nat.reduceAdd, Nat.reduceLT, Nat.reduceLeDiff, implies_true, reduceCtorEq, forall_const]; (and_intros <;> (first | omega | rfl | (simp; done) | (simp; omega))); done))
        all_goals (try dsimp only)
        all_goals (and_intros <;> try (first | omega | (unfold In64; omega) | trivial | assumption))
        all_goals (try exact es)
      · have hp : 0 < rcN R i := by
          rcases Nat.eq_zero_or_pos n with hz | hz
          · exact absurd (List.length_eq_zero_iff.1 (by rw [hn, hz])) h0
          · omega
        rw [if_neg (by omega)] at es
        have rc := rc_facts hR hr hlt hp
        have g0 := gd junk hp
        have sg := seenL_getD s (rcC R i) rc
        have sw := seenL_set s (rcC R i) rc
        have lj : 0 < (runsL (tubeAt R i) ++ junk).length := by rw [List.length_append]; omega
        refine ⟨fun hz => absurd hz (by omega), fun _ => ⟨fun h1 => ?_, fun h1 => ?_⟩⟩
        · rw [if_pos (by omega)] at es
          rw [sort_false es (by omega)]
        · cases hd : decide (rcC R i ∈ s)
          · rw [if_neg (fun hx => hx.elim (fun h => by omega) (of_decide_eq_false hd))] at es
            simp -implicitDefEqProofs only [lk_normal, g0, sg, sw, hd, sl, lj, ZB, Int.reduceToNat, Nat.reduceLT, Nat.reduceLeDiff, Int.reduceLE, Int.reduceLT, Nat.reduceEqDiff, Nat.reduceSub, SB, SV.known, packR, ne_eq, reduceCtorEq, Nat.reduceEqDiff, ↓reduceIte, if_true, if_false, eq_self, Nat.reduceAdd, Nat.reduceMul, Nat.reduceSub, forall_const, oneCellS, litOne, flat1, Kd.isSca, flat, TYB]
            (try (and_intros <;> try (first | omega | (unfold In64; omega) | trivial | assumption)))
            refine ⟨(i + 1, s ++ [rcC R i]), ?_, ?_, Sub.mk_id ?_ ?_ ?_ ?_ ?_⟩
            all_goals (try (simp only [es, LB, subS, subH, wfS, wfH, SV.ren, renL, SObj.ren, SV.wf, SObj.wf, wfL, SV.known, Nat.reduceEqDiff, ↓reduceIte, if_true, if_false, eq_self, Nat.reduceAdd, Nat.reduceLT, Nat.reduceLeDiff, implies_true, reduceCtorEq, forall_const]; done))
            all_goals (try (simp only [es, LB, subS, subH, wfS, wfH, SV.ren, renL, SObj.ren, SV.wf, SObj.wf, wfL, SV.known, Nat.reduceEqDiff, ↓reduceIte, if_true, if_false, eq_self, Nat.reduceAdd, Nat.reduceLT, Nat.reduceLeDiff, implies_true, reduceCtorEq, forall_const]; simp; done))
            all_goals (try (simp only [es, LB, subS, subH, wfS, wfH, SV.ren, renL, SObj.ren, SV.wf, SObj.wf, wfL, SV.known, Nat.reduceEqDiff, ↓reduceIte, if_true, if_false, eq_self, Nat.reduceAdd, Nat.reduceLT, Nat.reduceLeDiff, implies_true, reduceCtorEq, forall_const]; (and_intros <;> (first | omega | rfl | (simp; done) | (simp; omega))); done))
            all_goals (try dsimp only)
            all_goals (and_intros <;> try (first | omega | (unfold In64; omega) | trivial | assumption))
          · rw [if_pos (.inr (of_decide_eq_true hd))] at es
            simp -implicitDefEqProofs only [lk_normal, g0, sg, sw, hd, sl, lj, ZB, Int.reduceToNat, Nat.reduceLT, Nat.reduceLeDiff, Int.reduceLE, Int.reduceLT, Nat.reduceEqDiff, Nat.reduceSub, SB, SV.known, packR, ne_eq, reduceCtorEq, Nat.reduceEqDiff, ↓reduceIte, if_true, if_false, eq_self, Nat.reduceAdd, Nat.reduceMul, Nat.reduceSub, forall_const, oneCellS, litOne, flat1, Kd.isSca, flat, TYB]
            rw [sort_false es (by omega)]
            (try (and_intros <;> try (first | omega | (unfold In64; omega) | trivial | assumption)))
    · have hil : ¬ (i : Int) < 6 := by omega
      obtain rfl : i = 6 := by omega
      simp -implicitDefEqProofs only [lk_normal, hil, ZB, Int.reduceToNat, Nat.reduceLT, Nat.reduceLeDiff, Int.reduceLE, Int.reduceLT, Nat.reduceEqDiff, Nat.reduceSub, SB, SV.known, packR, ne_eq, reduceCtorEq, Nat.reduceEqDiff, ↓reduceIte, if_true, if_false, eq_self, Nat.reduceAdd, Nat.reduceMul, Nat.reduceSub, forall_const, oneCellS, litOne, flat1, Kd.isSca, flat, TYB]
      simp [sortB, hs]
def isSorted_F : List SV → Heap → Option (Prop × SV)
  | [.arr R], _ => some (R.length = 24 ∧ rackB R = true, .bool (sortB R))
  | _, _ => none
theorem isSorted_T : ∀ args H p v, isSorted_F args H = some (p, v) → p → PureH Try.prog 116 args H v := by
  intro args H p v h hp
  unfold isSorted_F at h
  split at h
  · cases h; exact (isSorted_ok _ hp.1 hp.2).any _
  · cases h
--@tbl l1Has = spec.l1Has
theorem l1Has_ok (L : List Int) (e cap len : Nat) (c : Int) (hl : len ≤ L.length) (hm : len ≤ 1000000) : PureH Try.prog 160 [.slice 0 0 len cap, .int c] [(0, .ints L e)] (.bool (decide (c ∈ L.take len))) := by
  refine pure_of_vc (X := ⟨Try.prog, tys, [], [], true, true, 1, [], []⟩) fn_160 ⟨tys_ok, .nil, .nil, mixed⟩ (n0 := 1) (Nat.le_of_ble_eq_true rfl) (by simp [wfL, SV.wf]) (wfH_spec (by simp [wfH, SObj.wf])) (Nat.le_refl _) (fun _ => by simp [SV.wf, wfL]) ?_
  simp -implicitDefEqProofs only [Try.f160, Option.getD_some, argS, ZB, Int.reduceToNat, Nat.reduceLT, Nat.reduceLeDiff, Int.reduceLE, Int.reduceLT, Nat.reduceEqDiff, Nat.reduceSub, SB, SV.known, packR, ne_eq, reduceCtorEq, Nat.reduceEqDiff, ↓reduceIte, if_true, if_false, eq_self, Nat.reduceAdd, Nat.reduceMul, Nat.reduceSub, forall_const, oneCellS, litOne, flat1, Kd.isSca, flat, TYB]
  refine loop_intro (fun i : Nat => [(5, .int i), (0, .slice 0 0 len cap), (1, .int c)]) (fun _ => [(0, .ints L e)]) 1 (fun i => i ≤ len ∧ ∀ k, k < i → ¬ L.getD k 0 = c) (fun i => len - i) ?_ ?_
  · refine ⟨0, ?_, Sub.mk_id ?_ ?_ ?_ ?_ ?_⟩
    all_goals (try (simp only [LB, subS, subH, wfS, wfH, SV.ren, renL, SObj.ren, SV.wf, SObj.wf, wfL, SV.known, Nat.reduceEqDiff, ↓reduceIte, if_true, if_false, eq_self, Nat.reduceAdd, Nat.reduceLT, Nat.reduceLeDiff, implies_true, reduceCtorEq, forall_const]; done))
    all_goals (try (simp only [LB, subS, subH, wfS, wfH, SV.ren, renL, SObj.ren, SV.wf, SObj.wf, wfL, SV.known, Nat.reduceEqDiff, ↓reduceIte, if_true, if_false, eq_self, Nat.reduceAdd, Nat.reduceLT, Nat.reduceLeDiff, implies_true, reduceCtorEq, forall_const]; simp; done))
    all_goals (try (simp only [LB, subS, subH, wfS, wfH, SV.ren, renL, SObj.ren, SV.wf, SObj.wf, wfL, SV.known, Nat.reduceEqDiff, ↓reduceIte, if_true, if_false, eq_self, Nat.reduceAdd, Nat.reduceLT, Nat.reduceLeDiff, implies_true, reduceCtorEq, forall_const]; (and_intros <;> (first | omega | rfl | (simp; done) | (simp; omega))); done))
    all_goals (try dsimp only)
    all_goals (and_intros <;> try (first | omega | (unfold In64; omega) | trivial | assumption))
  · rintro i ⟨hi, hn⟩
    by_cases hlt : i < len
    · have hil : (i : Int) < len := by omega
      simp -implicitDefEqProofs only [lk_normal, hil, ZB, Int.reduceToNat, Nat.reduceLT, Nat.reduceLeDiff, Int.reduceLE, Int.reduceLT, Nat.reduceEqDiff, Nat.reduceSub, SB, SV.known, packR, ne_eq, reduceCtorEq, Nat.reduceEqDiff, ↓reduceIte, if_true, if_false, eq_self, Nat.reduceAdd, Nat.reduceMul, Nat.reduceSub, forall_const, oneCellS, litOne, flat1, Kd.isSca, flat, TYB]
      refine ⟨by omega, by omega, fun h => ?_, fun h => ?_⟩
      · have : c ∈ L.take len := List.mem_take_iff_getElem.2 ⟨i, by omega, by rw [← h]; simp [List.getD, List.getElem?_eq_getElem (show i < L.length by omega)]⟩
        simp [this]
      · (try (and_intros <;> try (first | omega | (unfold In64; omega) | trivial | assumption)))
        refine ⟨i + 1, ?_, ?_, Sub.mk_id ?_ ?_ ?_ ?_ ?_⟩
        all_goals (try (simp only [LB, subS, subH, wfS, wfH, SV.ren, renL, SObj.ren, SV.wf, SObj.wf, wfL, SV.known, Nat.reduceEqDiff, ↓reduceIte, if_true, if_false, eq_self, Nat.reduceAdd, Nat.reduceLT, Nat.reduceLeDiff, implies_true, reduceCtorEq, forall_const]; done))
        all_goals (try (simp only [LB, subS, subH, wfS, wfH, SV.ren, renL, SObj.ren, SV.wf, SObj.wf, wfL, SV.known, Nat.reduceEqDiff, ↓reduceIte, if_true, if_false, eq_self, Nat.reduceAdd, Nat.reduceLT, Nat.reduceLeDiff, implies_true, reduceCtorEq, forall_const]; simp; done))
        all_goals (try (simp only [LB, subS, subH, wfS, wfH, SV.ren, renL, SObj.ren, SV.wf, SObj.wf, wfL, SV.known, Nat.reduceEqDiff, ↓reduceIte, if_true, if_false, eq_self, Nat.reduceAdd, Nat.reduceLT, Nat.reduceLeDiff, implies_true, reduceCtorEq, forall_const]; (and_intros <;> (first | omega | rfl | (simp; done) | (simp; omega))); done))
        all_goals (try dsimp only)
        all_goals (and_intros <;> try (first | omega | (unfold In64; omega) | trivial | assumption))
        intro k hk
        by_cases hki : k = i
        · subst hki; exact h
        · exact hn k (by omega)
    · have hil : ¬ (i : Int) < len := by omega
      obtain rfl : i = len := by omega
      simp -implicitDefEqProofs only [lk_normal, hil, ZB, Int.reduceToNat, Nat.reduceLT, Nat.reduceLeDiff, Int.reduceLE, Int.reduceLT, Nat.reduceEqDiff, Nat.reduceSub, SB, SV.known, packR, ne_eq, reduceCtorEq, Nat.reduceEqDiff, ↓reduceIte, if_true, if_false, eq_self, Nat.reduceAdd, Nat.reduceMul, Nat.reduceSub, forall_const, oneCellS, litOne, flat1, Kd.isSca, flat, TYB]
      have : ¬ c ∈ L.take i := fun hc => by
        obtain ⟨k, hk, he⟩ := List.mem_take_iff_getElem.1 hc
        refine hn k (by omega) ?_
        simp only [List.getD, List.getElem?_eq_getElem (show k < L.length by omega), Option.getD_some]
        exact he
      simp [this]
def l1Has_F : List SV → Heap → Option (Prop × SV)
  | [.slice b 0 len _, .int c], H => match hget H b with
    | some (.ints L _) => some (len ≤ L.length ∧ len ≤ 1000000, .bool (decide (c ∈ L.take len)))
    | _ => none
  | _, _ => none
theorem l1Has_T : ∀ args H p v, l1Has_F args H = some (p, v) → p → PureH Try.prog 160 args H v := by
  intro args H p v h hp
  unfold l1Has_F at h
  split at h
  · rename_i b len cap c
    split at h
    · rename_i L e hb
      cases h
      exact one_block (l1Has_ok L e cap len c hp.1 hp.2) hb rfl (fun _ => trivial)
    · cases h
  · cases h
--@tbl l2Sorted = spec.l2Sorted
theorem l2Sorted_ok (R : List Int) (hR : R.length = 24) (hr : rackB R = true) : PureH Try.prog 153 [.arr R] [] (.bool (sortB R)) := by
  have tkR : R.take 24 = R := List.take_of_length_le (by omega)
  refine pure_of_vc (X := ⟨Try.prog, tys, [(160, l1Has_F)], [(154, l2Runs_F)], true, true, 0, [], []⟩) fn_153 ⟨tys_ok, (.cons l1Has_T .nil), (.cons l2Runs_T .nil), mixed⟩ (n0 := 0) (Nat.le_of_ble_eq_true rfl) (by simp [wfL, SV.wf]) (wfH_spec (by simp [wfH, SObj.wf])) (Nat.le_refl _) (fun _ => by simp [SV.wf, wfL]) ?_
  simp -implicitDefEqProofs only [Try.f153, Option.getD_some, argS, l1Has_F, l2Runs_F, hR, tkR, ZB, Int.reduceToNat, Nat.reduceLT, Nat.reduceLeDiff, Int.reduceLE, Int.reduceLT, Nat.reduceEqDiff, Nat.reduceSub, SB, SV.known, packR, ne_eq, reduceCtorEq, Nat.reduceEqDiff, ↓reduceIte, if_true, if_false, eq_self, Nat.reduceAdd, Nat.reduceMul, Nat.reduceSub, forall_const, oneCellS, litOne, flat1, Kd.isSca, flat, TYB]
  refine loop_intro (fun s : Nat × List Int × Nat × List Int => [(4, .int s.1), (3, .slice 1 0 s.2.1.length s.2.2.1), (2, .bool false), (1, .ptr 0 0)]) (fun s => [(1, .ints (s.2.1 ++ s.2.2.2) 3), (0, .ints R 27)]) 2 (fun s => s.1 ≤ 6 ∧ srtF R s.1 = some s.2.1 ∧ s.2.2.2.length + s.2.1.length = s.2.2.1) (fun s => 6 - s.1) ?_ ?_
  · refine ⟨(0, [], 0, []), ⟨by omega, rfl, rfl⟩, Sub.mk_id ?_ ?_ ?_ ?_ ?_⟩
    all_goals simp only [LB, subS, subH, wfS, wfH, SV.ren, renL, SObj.ren, SV.wf, SObj.wf, wfL, SV.known, Nat.reduceEqDiff, ↓reduceIte, if_true, if_false, eq_self, Nat.reduceAdd, Nat.reduceLT, Nat.reduceLeDiff, implies_true, reduceCtorEq, forall_const]
    all_goals simp
  · rintro ⟨i, s, cap, junk⟩ ⟨hi, hs, hj⟩
    simp only at hi hs hj
    have eT : List.take 4 (List.drop (i * 4) R) = tubeAt R i := rfl
    have sle := srt_len hs
    have tks : (s ++ junk).take s.length = s := List.take_left' rfl
    have lsj : (s ++ junk).length = cap := by rw [List.length_append]; omega
    by_cases hlt : i < 6
    · have hil : (i : Int) < 6 := by omega
      have hl := tubeAt_len hR hlt
      have hb := tubeAt_ok hr hlt
      have es := srt_step hs
      have en : (runsL (tubeAt R i)).length / 2 = rcN R i := rfl
      obtain ⟨n, hn, hn4, _⟩ := runsL_even _ hl
      have ern : rcN R i = n := by unfold rcN; omega
      have gd : ∀ J : List Int, 0 < rcN R i → (runsL (tubeAt R i) ++ J).getD 0 0 = rcC R i := fun J h => getD_app _ _ _ (by omega)
      simp -implicitDefEqProofs only [lk_normal, l1Has_F, l2Runs_F, freshK, Wrap.ap, hil, hR, eT, hl, hb, en, tks, lsj, ZB, Int.reduceToNat, Nat.reduceLT, Nat.reduceLeDiff, Int.reduceLE, Int.reduceLT, Nat.reduceEqDiff, Nat.reduceSub, SB, SV.known, packR, ne_eq, reduceCtorEq, Nat.reduceEqDiff, ↓reduceIte, if_true, if_false, eq_self, Nat.reduceAdd, Nat.reduceMul, Nat.reduceSub, forall_const, oneCellS, litOne, flat1, Kd.isSca, flat, TYB]
      have r1 : (List.replicate 1 (0 : Int)) = [0] := rfl
      refine ⟨by omega, by omega, fun cap1 junk1 hj1 => ⟨fun h1 => ?_, fun h1 => ?_⟩⟩
      · rw [if_neg (by omega), if_pos (.inl (by omega))] at es
        rw [sort_false es (by omega)]
      · refine ⟨fun h2 => ?_, fun h2 => ?_⟩
        · rw [gd junk1 (by omega)]
          rw [if_neg (by omega)] at es
          refine ⟨by omega, by rw [List.length_append]; omega, ⟨by omega, by omega⟩, fun hm => ?_, fun hm => ⟨fun _ => ?_, fun hx => absurd h2 hx⟩⟩
          · rw [if_pos (.inr hm)] at es
            rw [sort_false es (by omega)]
          · rw [if_neg (fun hx => hx.elim (fun h => by omega) hm)] at es
            refine ⟨by omega, by rw [List.length_append]; omega, by omega, by omega, by omega, fun junk2 cap2 hj2 => ?_⟩
            (try (and_intros <;> try (first | omega | (unfold In64; omega) | trivial | assumption)))
            refine ⟨(i + 1, s ++ [rcC R i], cap2, junk2), ?_, ?_, Sub.mk_to 1 4 ?_ ?_ ?_ ?_ ?_ ?_ ?_⟩
            all_goals (try (simp only [es, r1, List.set_cons_zero, List.take_succ_cons, List.take_zero, List.length_append, List.length_cons, List.length_nil, List.append_nil, LB, subS, subH, wfS, wfH, SV.ren, renL, SObj.ren, SV.wf, SObj.wf, wfL, SV.known, Nat.reduceEqDiff, ↓reduceIte, if_true, if_false, eq_self, Nat.reduceAdd, Nat.reduceLT, Nat.reduceLeDiff, implies_true, reduceCtorEq, forall_const]; done))
            all_goals (try (simp only [es, r1, List.set_cons_zero, List.take_succ_cons, List.take_zero, List.length_append, List.length_cons, List.length_nil, List.append_nil, LB, subS, subH, wfS, wfH, SV.ren, renL, SObj.ren, SV.wf, SObj.wf, wfL, SV.known, Nat.reduceEqDiff, ↓reduceIte, if_true, if_false, eq_self, Nat.reduceAdd, Nat.reduceLT, Nat.reduceLeDiff, implies_true, reduceCtorEq, forall_const]; simp; done))
            all_goals (try (simp only [es, r1, List.set_cons_zero, List.take_succ_cons, List.take_zero, List.length_append, List.length_cons, List.length_nil, List.append_nil, LB, subS, subH, wfS, wfH, SV.ren, renL, SObj.ren, SV.wf, SObj.wf, wfL, SV.known, Nat.reduceEqDiff, ↓reduceIte, if_true, if_false, eq_self, Nat.reduceAdd, Nat.reduceLT, Nat.reduceLeDiff, implies_true, reduceCtorEq, forall_const]; (and_intros <;> (first | omega | rfl | (simp; done) | (simp; omega))); done))
            all_goals (try dsimp only)
            all_goals (and_intros <;> try (first | omega | (unfold In64; omega) | trivial | assumption))
            all_goals (try simp)
            all_goals (try omega)
        · refine ⟨fun hx => absurd hx h2, fun _ => ?_⟩
          rw [if_pos (by omega)] at es
          (try (and_intros <;> try (first | omega | (unfold In64; omega) | trivial | assumption)))
          refine ⟨(i + 1, s, cap, junk), ?_, ?_, Sub.mk_id ?_ ?_ ?_ ?_ ?_⟩
          all_goals (try (simp only [es, LB, subS, subH, wfS, wfH, SV.ren, renL, SObj.ren, SV.wf, SObj.wf, wfL, SV.known, Nat.reduceEqDiff, ↓reduceIte, if_true, if_false, eq_self, Nat.reduceAdd, Nat.reduceLT, Nat.reduceLeDiff, implies_true, reduceCtorEq, forall_const]; done))
          all_goals (try (simp only [es, LB, subS, subH, wfS, wfH, SV.ren, renL, SObj.ren, SV.wf, SObj.wf, wfL, SV.known, Nat.reduceEqDiff, ↓reduceIte, if_true, if_false, eq_self, Nat.reduceAdd, Nat.reduceLT, Nat.reduceLeDiff, implies_true, reduceCtorEq, forall_const]; simp; done))
          all_goals (try (simp only [es, LB, subS, subH, wfS, wfH, SV.ren, renL, SObj.ren, SV.wf, SObj.wf, wfL, SV.known, Nat.reduceEqDiff, ↓reduceIte, if_true, if_false, eq_self, Nat.reduceAdd, Nat.reduceLT, Nat.reduceLeDiff, implies_true, reduceCtorEq, forall_const]; (and_intros <;> (first | omega | rfl | (simp; done) | (simp; omega))); done))
          all_goals (try dsimp only)
          all_goals (and_intros <;> try (first | omega | (unfold In64; omega) | trivial | assumption))
    · have hil : ¬ (i : Int) < 6 := by omega
      obtain rfl : i = 6 := by omega
      simp -implicitDefEqProofs only [lk_normal, hil, ZB, Int.reduceToNat, Nat.reduceLT, Nat.reduceLeDiff, Int.reduceLE, Int.reduceLT, Nat.reduceEqDiff, Nat.reduceSub, SB, SV.known, packR, ne_eq, reduceCtorEq, Nat.reduceEqDiff, ↓reduceIte, if_true, if_false, eq_self, Nat.reduceAdd, Nat.reduceMul, Nat.reduceSub, forall_const, oneCellS, litOne, flat1, Kd.isSca, flat, TYB]
      simp [sortB, hs]
def l2Sorted_F : List SV → Heap → Option (Prop × SV)
  | [.arr R], _ => some (R.length = 24 ∧ rackB R = true, .bool (sortB R))
  | _, _ => none
theorem l2Sorted_T : ∀ args H p v, l2Sorted_F args H = some (p, v) → p → PureH Try.prog 153 args H v := by
  intro args H p v h hp
  unfold l2Sorted_F at h
  split at h
  · cases h; exact (l2Sorted_ok _ hp.1 hp.2).any _
  · cases h
/-! IsStuck. -/
end Go.Proofs.Ytopfnkmlgcjpbaa
set_option maxRecDepth 100000
set_option linter.unusedSimpArgs false
set_option linter.unusedVariables false
namespace Go.Proofs.Ytopfnkmlgcjpbaa
open Go Go.RowKit
/-! Racks behind a rack. -/
def sucP (R D : List Int) (u i j : Int) : List Int := mvR R i.toNat j.toNat (movF R D u i j).toNat
def sucN (R D : List Int) (u : Int) : Nat := (GL (pbB R D u) 36).length / 2
def sucL (D : List Int) (u : Int) (R : List Int) : List (List Int) := (List.range (sucN R D u)).map fun q => sucP R D u ((GL (pbB R D u) 36).getD (q * 2) 0) ((GL (pbB R D u) 36).getD (q * 2 + 1) 0)
theorem sucL_len (D : List Int) (u : Int) (R : List Int) : (sucL D u R).length = sucN R D u := by simp [sucL]
theorem sucN_le (R D : List Int) (u : Int) : sucN R D u ≤ 36 := by
  obtain ⟨n, h1, h2⟩ := GL_even (pbB R D u) 36
  unfold sucN; omega
theorem sucL_getD (D : List Int) (u : Int) (R : List Int) {q : Nat} (h : q < sucN R D u) : (sucL D u R).getD q [] = sucP R D u ((GL (pbB R D u) 36).getD (q * 2) 0) ((GL (pbB R D u) 36).getD (q * 2 + 1) 0) := by
  simp [sucL, List.getD, h]
/-- A pair that is listed is one by the condition. -/
theorem GL_pairB (c : Nat → Nat → Bool) : ∀ m, m ≤ 36 → ∀ i, i * 2 + 2 ≤ (GL c m).length → ∃ a b : Nat, a < 6 ∧ b < 6 ∧ c a b = true ∧ (GL c m).getD (i * 2) 0 = (a : Int) ∧ (GL c m).getD (i * 2 + 1) 0 = (b : Int)
  | 0, _, i, h => by simp [GL_zero] at h
  | m + 1, hm, i, h => by
    obtain ⟨n, hn, _⟩ := GL_even c m
    rw [GL_succ, List.length_append, hn] at h
    rw [GL_succ]
    by_cases hi : i * 2 + 2 ≤ n * 2
    · obtain ⟨a, b, h1, h2, h3, h4, h5⟩ := GL_pairB c m (by omega) i (by omega)
      refine ⟨a, b, h1, h2, h3, ?_, ?_⟩
      · rw [getD_app _ _ _ (by omega)]; exact h4
      · rw [getD_app _ _ _ (by omega)]; exact h5
    · unfold prG at h ⊢
      split at h
      · rename_i hc
        simp at h
        have hin : i = n := by omega
        subst hin
        refine ⟨m / 6, m % 6, by omega, by omega, hc, ?_, ?_⟩
        · rw [if_pos hc, List.getD_eq_getElem?_getD, List.getElem?_append_right (by omega), hn]; simp
        · rw [if_pos hc, List.getD_eq_getElem?_getD, List.getElem?_append_right (by omega), hn]; simp [Nat.add_sub_cancel_left]
      · simp at h; omega
theorem movF_room {R D : List Int} {u i j : Int} (hR : R.length = 24) (hD : D.length = 6) (hf : forB R D = true) (hi : 0 ≤ i ∧ i ≤ 5) (hj : 0 ≤ j ∧ j ≤ 5) (h : 0 < movF R D u i j) : movF R D u i j ≤ roomF R D j.toNat := by
  have ff := forB_facts hD hf
  have f2 := ff.2.2.2 j.toNat (by omega)
  revert h
  unfold movF
  repeat' split
  all_goals omega
theorem for_suc {R D : List Int} {u : Int} (hR : R.length = 24) (hD : D.length = 6) (hf : forB R D = true) {a b : Nat} (ha : a < 6) (hb : b < 6) (hc : pbB R D u a b = true) : (sucP R D u a b).length = 24 ∧ forB (sucP R D u a b) D = true ∧ 0 < movF R D u a b ∧ (a : Int) ≠ b ∧ (movF R D u a b).toNat ≤ layN (tubeAt R a) ∧ (movF R D u a b).toNat + layN (tubeAt R b) ≤ 4 := by
  have hp : 0 < movF R D u a b := of_decide_eq_true hc
  have hbd := movF_bd (u := u) hR hD hf (i := a) (j := b) (by omega) (by omega)
  have hrm := movF_room hR hD hf (i := a) (j := b) (by omega) (by omega) hp
  simp only [Int.toNat_natCast] at hbd hrm
  have h2 : (a : Int) ≠ b ∧ (movF R D u a b).toNat ≤ layN (tubeAt R a) ∧ (movF R D u a b).toNat + layN (tubeAt R b) ≤ 4 := by
    rcases hbd.2 with h | h
    · omega
    · exact h
  have ff := forB_facts hD hf
  have hr := ff.1
  have hne : a ≠ b := by omega
  obtain ⟨m1, m2, m3⟩ := mv_facts hR hr ha hb hne h2.2.1 h2.2.2
  have mr := mv_rack hR hr ha hb hne h2.2.1 h2.2.2
  unfold sucP
  simp only [Int.toNat_natCast]
  refine ⟨by rw [mvR_len, hR], ?_, hp, h2⟩
  simp only [forB, Bool.and_eq_true]
  refine ⟨⟨mr, ff.2.1⟩, fit_none fun k hk => ?_⟩
  have f4 := ff.2.2.2 k hk
  by_cases hki : k = a
  · subst hki
    rw [m1.2]
    unfold roomF at f4
    omega
  · by_cases hkj : k = b
    · subst hkj
      rw [m2.2]
      unfold roomF at hrm
      omega
    · rw [m3 k hk hki hkj]
      unfold roomF at f4
      omega
def okR (D : List Int) (Q : List (List Int)) : Prop := ∀ x ∈ Q, x.length = 24 ∧ forB x D = true
theorem okR.all24 {D : List Int} {Q : List (List Int)} (h : okR D Q) : all24 Q := fun x hx => (h x hx).1
theorem okR_suc {D : List Int} {u : Int} (hD : D.length = 6) {Q : List (List Int)} (h : okR D Q) : okR D (Q.flatMap (sucL D u)) := by
  intro x hx
  obtain ⟨R, hR, hx⟩ := List.mem_flatMap.1 hx
  obtain ⟨q, hq, rfl⟩ := List.mem_map.1 hx
  have := List.mem_range.1 hq
  have hn : q * 2 + 2 ≤ (GL (pbB R D u) 36).length := by unfold sucN at this; omega
  obtain ⟨a, b, h1, h2, h3, h4, h5⟩ := GL_pairB _ 36 (by omega) q hn
  have := for_suc (h R hR).1 hD (h R hR).2 h1 h2 h3
  show (sucP R D u _ _).length = 24 ∧ _
  rw [h4, h5]
  exact ⟨this.1, this.2.1⟩
theorem okR_nw {D : List Int} {K xs : List (List Int)} (h : okR D xs) : okR D (nwF K xs) := fun x hx => h x (nwF_sub K xs x hx).1
theorem okR_app {D : List Int} {P Q : List (List Int)} (h1 : okR D P) (h2 : okR D Q) : okR D (P ++ Q) := fun x hx => by
  rcases List.mem_append.1 hx with hx | hx
  · exact h1 x hx
  · exact h2 x hx
/-- Up to some racks, and up to some pours of the next one. -/
def upto (D : List Int) (u : Int) (Q : List (List Int)) (i j : Nat) : List (List Int) := (Q.take i).flatMap (sucL D u) ++ (sucL D u (Q.getD i [])).take j
theorem upto_zero (D : List Int) (u : Int) (Q : List (List Int)) : upto D u Q 0 0 = [] := by simp [upto]
theorem upto_next (D : List Int) (u : Int) (Q : List (List Int)) {i : Nat} (hi : i < Q.length) : upto D u Q i (sucN (Q.getD i []) D u) = upto D u Q (i + 1) 0 := by
  unfold upto
  have e : (sucL D u (Q.getD i [])).take (sucN (Q.getD i []) D u) = sucL D u (Q.getD i []) := List.take_of_length_le (by rw [sucL_len]; omega)
  rw [e, take_succ_getD Q i hi, List.flatMap_append, List.take_zero, List.append_nil, List.flatMap_cons, List.flatMap_nil, List.append_nil]
theorem upto_snoc (D : List Int) (u : Int) (Q : List (List Int)) {i j : Nat} (hj : j < sucN (Q.getD i []) D u) : upto D u Q i (j + 1) = upto D u Q i j ++ [(sucL D u (Q.getD i [])).getD j []] := by
  unfold upto
  rw [take_succ_getD _ _ (by rw [sucL_len]; exact hj), List.append_assoc]
theorem upto_end (D : List Int) (u : Int) (Q : List (List Int)) : upto D u Q Q.length 0 = Q.flatMap (sucL D u) := by
  unfold upto
  rw [List.take_of_length_le (by omega), List.take_zero, List.append_nil]
theorem upto_ok {D : List Int} {u : Int} (hD : D.length = 6) {Q : List (List Int)} (h : okR D Q) {i j : Nat} (hi : i < Q.length ∨ j = 0) : okR D (upto D u Q i j) := by
  unfold upto
  refine okR_app (okR_suc hD fun x hx => h x (List.mem_of_mem_take hx)) fun x hx => ?_
  rcases hi with hi | hj
  · have hx2 := List.mem_of_mem_take hx
    exact okR_suc hD h x (List.mem_flatMap.2 ⟨Q.getD i [], getD_mem hi, hx2⟩)
  · subst hj; simp at hx
theorem fm_len (D : List Int) (u : Int) : ∀ Q : List (List Int), (Q.flatMap (sucL D u)).length ≤ 36 * Q.length
  | [] => by simp
  | x :: Q => by
    rw [List.flatMap_cons, List.length_append, sucL_len, List.length_cons]
    have := fm_len D u Q
    have := sucN_le x D u
    omega
theorem upto_len (D : List Int) (u : Int) (Q : List (List Int)) (i j : Nat) : (upto D u Q i j).length ≤ 36 * i + j := by
  unfold upto
  rw [List.length_append, List.length_take]
  have := fm_len D u (Q.take i)
  have h2 := List.length_take (i := i) (l := Q)
  omega
--@tbl behind = impl.behind
theorem behind_ok (D : List Int) (u : Int) (Q K : List (List Int)) (J : List Int) (e len cap : Nat) (hD : D.length = 6) (hu : ruF u = true) (hQ : okR D Q) (hK : all24 K) (hl : Q.length = len) (hsm : len ≤ 2000) :
    codeVC (⟨Try.prog, tys, [(98, movedBy_F), (99, move_F)], [(109, poursBy_F)], true, true, 1, [], []⟩ : Cx) 2 (Try.f117.body.getD .skip) (argS 0 [.slice 0 0 len cap, .arr D, .int u, .mp 1]) [(0, .ints (Q.flatten ++ J) e), (1, .mp true (mk1 K))] 2
      (retK tys Try.f117.results.toList (finK 2 1 fun v H' n' => ∃ c j, v = outVn 2 (nwF K (Q.flatMap (sucL D u))).length (nwF K (Q.flatMap (sucL D u))).length c ∧ H' = outHn 2 (nwF K (Q.flatMap (sucL D u))).length ((nwF K (Q.flatMap (sucL D u))).flatten ++ j) 27 [(1, .mp true (mk1 (K ++ nwF K (Q.flatMap (sucL D u)))))] ∧ n' = 3 ∧ j.length + (nwF K (Q.flatMap (sucL D u))).length * 24 = c * 24)) := by
  have tkD : D.take 6 = D := List.take_of_length_le (by omega)
  have hA := hQ.all24
  have hfl := flat_len hA
  simp -implicitDefEqProofs only [Try.f117, Option.getD_some, argS, movedBy_F, move_F, poursBy_F, hD, tkD, ZB, Int.reduceToNat, Nat.reduceLT, Nat.reduceLeDiff, Int.reduceLE, Int.reduceLT, Nat.reduceEqDiff, Nat.reduceSub, SB, SV.known, packR, ne_eq, reduceCtorEq, Nat.reduceEqDiff, ↓reduceIte, if_true, if_false, eq_self, Nat.reduceAdd, Nat.reduceMul, Nat.reduceSub, forall_const, oneCellS, litOne, flat1, Kd.isSca, flat, TYB]
  generalize hX : Q.flatMap (sucL D u) = X at *
  refine loop_intro (fun s : Nat × Nat × List Int => [(17, .int s.1), (16, .int len), (15, .slice 0 0 len cap), (9, outVn 3 (nwF K (upto D u Q s.1 0)).length (nwF K (upto D u Q s.1 0)).length s.2.1), (5, .ptr 2 0), (2, .int u), (3, .mp 1)])
    (fun s => outHn 3 (nwF K (upto D u Q s.1 0)).length ((nwF K (upto D u Q s.1 0)).flatten ++ s.2.2) 27 [(2, .ints D 51), (0, .ints (Q.flatten ++ J) e), (1, .mp true (mk1 (K ++ nwF K (upto D u Q s.1 0))))]) 4
    (fun s => s.1 ≤ len ∧ s.2.2.length + (nwF K (upto D u Q s.1 0)).length * 24 = s.2.1 * 24) (fun s => len - s.1) ?_ ?_
  · refine ⟨(0, 0, []), ⟨by simp, by simp [upto_zero, nwF_nil]⟩, Sub.mk_id ?_ ?_ ?_ ?_ ?_⟩
    all_goals simp only [upto_zero, nwF_nil, List.length_nil, outVn_zero, outHn_zero, List.append_nil, LB, subS, subH, wfS, wfH, SV.ren, renL, SObj.ren, SV.wf, SObj.wf, wfL, SV.known, Nat.reduceEqDiff, ↓reduceIte, if_true, if_false, eq_self, Nat.reduceAdd, Nat.reduceLT, Nat.reduceLeDiff, implies_true, reduceCtorEq, forall_const]
    all_goals (try simp)
  · rintro ⟨i, c, j⟩ ⟨hi, hj⟩
    simp only at hi hj
    by_cases hlt : i < len
    · have hil : (i : Int) < len := by omega
      have hiQ : i < Q.length := by omega
      have eR : List.take 24 (List.drop (i * 24) (Q.flatten ++ J)) = Q.getD i [] := flat_get hA hiQ J
      obtain ⟨r24, rf⟩ := hQ _ (getD_mem hiQ)
      have tkR : List.take 24 (Q.getD i []) = Q.getD i [] := List.take_of_length_le (by omega)
      have lQ : i * 24 + 24 ≤ (Q.flatten ++ J).length := by rw [List.length_append, hfl]; omega
      have unext := upto_next D u Q hiQ
      have usn := fun q (hq : q < sucN (Q.getD i []) D u) => upto_snoc D u Q hq
      have sgd := fun q (hq : q < sucN (Q.getD i []) D u) => sucL_getD D u (Q.getD i []) hq
      generalize hR : Q.getD i [] = R at *
      obtain ⟨np, hnp, hnp36⟩ := GL_even (pbB R D u) 36
      have esn : sucN R D u = np := by unfold sucN; omega
      have ehp : (GL (pbB R D u) 36).length / 2 = np := by omega
      have pairs := GL_pairB (pbB R D u) 36 (by omega)
      rw [esn] at unext usn sgd
      generalize hP : GL (pbB R D u) 36 = P at *
      have okU := fun q => upto_ok (u := u) hD hQ (j := q) (.inl hiQ)
      simp -implicitDefEqProofs only [lk_normal, poursBy_F, hget_outHn, known_outVn, hil, eR, r24, rf, tkR, lQ, hD, tkD, hP, ehp, freshK, Wrap.ap, ZB, Int.reduceToNat, Nat.reduceLT, Nat.reduceLeDiff, Int.reduceLE, Int.reduceLT, Nat.reduceEqDiff, Nat.reduceSub, SB, SV.known, packR, ne_eq, reduceCtorEq, Nat.reduceEqDiff, ↓reduceIte, if_true, if_false, eq_self, Nat.reduceAdd, Nat.reduceMul, Nat.reduceSub, forall_const, oneCellS, litOne, flat1, Kd.isSca, flat, TYB]
      refine ⟨by omega, fun hP0 => ?_, fun hP1 cp jp hjp => ?_⟩
      · have hnp0 : np = 0 := by rw [hP0] at hnp; simp at hnp; omega
        subst hnp0
        refine loop_intro (fun _ : Unit => [(26, .int 0), (25, .int 0), (24, .nils), (17, .int i), (16, .int len), (15, .slice 0 0 len cap), (9, outVn 3 (nwF K (upto D u Q i 0)).length (nwF K (upto D u Q i 0)).length c), (5, .ptr 2 0), (2, .int u), (3, .mp 1)])
          (fun _ => outHn 3 (nwF K (upto D u Q i 0)).length ((nwF K (upto D u Q i 0)).flatten ++ j) 27 [(2, .ints D 51), (0, .ints (Q.flatten ++ J) e), (1, .mp true (mk1 (K ++ nwF K (upto D u Q i 0))))]) 5 (fun _ => True) (fun _ => 0) ?_ ?_
        · refine ⟨(), trivial, Sub.mk_id ?_ ?_ ?_ ?_ ?_⟩
          all_goals (cases (nwF K (upto D u Q i 0)).length <;> simp only [outVn_zero, outVn_succ, outHn_zero, outHn_succ, LB, subS, subH, wfS, wfH, SV.ren, renL, SObj.ren, SV.wf, SObj.wf, wfL, SV.known, Nat.reduceEqDiff, ↓reduceIte, if_true, if_false, eq_self, Nat.reduceAdd, Nat.reduceLT, Nat.reduceLeDiff, implies_true, reduceCtorEq, forall_const] <;> simp)
        · intro _ _
          simp -implicitDefEqProofs only [lk_normal, hget_outHn, known_outVn, ZB, Int.reduceToNat, Nat.reduceLT, Nat.reduceLeDiff, Int.reduceLE, Int.reduceLT, Nat.reduceEqDiff, Nat.reduceSub, SB, SV.known, packR, ne_eq, reduceCtorEq, Nat.reduceEqDiff, ↓reduceIte, if_true, if_false, eq_self, Nat.reduceAdd, Nat.reduceMul, Nat.reduceSub, forall_const, oneCellS, litOne, flat1, Kd.isSca, flat, TYB]
          refine ⟨by unfold In64; omega, (i + 1, c, j), ⟨by simp only; omega, by simp only [← unext]; exact hj⟩, by simp only; omega, Sub.mk_id ?_ ?_ ?_ ?_ ?_⟩
          all_goals (try simp only [← unext])
          all_goals (cases (nwF K (upto D u Q i 0)).length <;> simp only [outVn_zero, outVn_succ, outHn_zero, outHn_succ, LB, subS, subH, wfS, wfH, SV.ren, renL, SObj.ren, SV.wf, SObj.wf, wfL, SV.known, Nat.reduceEqDiff, ↓reduceIte, if_true, if_false, eq_self, Nat.reduceAdd, Nat.reduceLT, Nat.reduceLeDiff, implies_true, reduceCtorEq, forall_const] <;> simp)
      · have lenP : (P ++ jp).length = cp * 2 := by rw [List.length_append]; omega
        refine loop_intro (fun s : Nat × Nat × List Int => [(26, .int s.1), (25, .int np), (24, .slice 5 0 np cp), (11, .ptr 4 0), (17, .int i), (16, .int len), (15, .slice 0 0 len cap), (9, outVn 3 (nwF K (upto D u Q i s.1)).length (nwF K (upto D u Q i s.1)).length s.2.1), (5, .ptr 2 0), (2, .int u), (3, .mp 1)])
          (fun s => outHn 3 (nwF K (upto D u Q i s.1)).length ((nwF K (upto D u Q i s.1)).flatten ++ s.2.2) 27 [(5, .ints (P ++ jp) 44), (4, .ints R 27), (2, .ints D 51), (0, .ints (Q.flatten ++ J) e), (1, .mp true (mk1 (K ++ nwF K (upto D u Q i s.1))))]) 6
          (fun s => s.1 ≤ np ∧ s.2.2.length + (nwF K (upto D u Q i s.1)).length * 24 = s.2.1 * 24) (fun s => np - s.1) ?_ ?_
        · refine ⟨(0, c, j), ⟨by simp only; omega, by simp only; exact hj⟩, Sub.mk_id ?_ ?_ ?_ ?_ ?_⟩
          all_goals (cases (nwF K (upto D u Q i 0)).length <;> simp only [outVn_zero, outVn_succ, outHn_zero, outHn_succ, LB, subS, subH, wfS, wfH, SV.ren, renL, SObj.ren, SV.wf, SObj.wf, wfL, SV.known, Nat.reduceEqDiff, ↓reduceIte, if_true, if_false, eq_self, Nat.reduceAdd, Nat.reduceLT, Nat.reduceLeDiff, implies_true, reduceCtorEq, forall_const] <;> simp)
        · rintro ⟨q, c, j⟩ ⟨hq, hj⟩
          simp only at hq hj
          have hOk := okU q
          have hNk := (okR_nw (K := K) hOk).all24
          have hfO := flat_len hNk
          by_cases hqn : q < np
          · have hql : (q : Int) < np := by omega
            obtain ⟨a, b, ha, hb, hc, ga, gb⟩ := pairs q (by omega)
            have eP : List.take 2 (List.drop (q * 2) (P ++ jp)) = [(a : Int), (b : Int)] := by
              rw [take2_drop _ _ (by rw [List.length_append]; omega), getD_app _ _ _ (by omega), getD_app _ _ _ (by omega), ga, gb]
            obtain ⟨x24, xf, mp, mne, m1, m2⟩ := for_suc r24 hD rf ha hb hc
            have us := usn q hqn
            have ex := sgd q hqn
            rw [ga, gb] at ex
            rw [ex] at us
            have a0 : 0 ≤ (a : Int) ∧ (a : Int) ≤ 5 := by omega
            have b0 : 0 ≤ (b : Int) ∧ (b : Int) ≤ 5 := by omega
            have rr := (forB_facts hD rf).1
            have m0 : 0 ≤ movF R D u a b := by omega
            have exx : mvR R a b (movF R D u a b).toNat = sucP R D u a b := by unfold sucP; simp only [Int.toNat_natCast]
            have kOK : keysOK (mk1 (K ++ nwF K (upto D u Q i q))) (sucP R D u a b).length := by
              rw [x24]
              exact mk1_keys fun y hy => by
                rcases List.mem_append.1 hy with hy | hy
                · exact hK y hy
                · exact hNk y hy
            have kI : KeyI Try.prog 27 (sucP R D u a b).length := by rw [x24]; exact keyI_rack
            have mg := mget_mk1 (sucP R D u a b) (K ++ nwF K (upto D u Q i q))
            have bound : (nwF K (upto D u Q i q)).length ≤ 100000 := by
              have := nwF_len K (upto D u Q i q)
              have := upto_len D u Q i q
              omega
            have tkx : List.take 24 (sucP R D u a b) = sucP R D u a b := List.take_of_length_le (by omega)
            generalize hx : sucP R D u a b = x at *
            have kOK24 : keysOK (mk1 (K ++ nwF K (upto D u Q i q))) 24 := x24 ▸ kOK
            have kI24 : KeyI Try.prog 27 24 := x24 ▸ kI
            have z1 : ¬ (0 : Int) = 1 := by omega
            by_cases hin : x ∈ K ++ nwF K (upto D u Q i q)
            · have eo := nwF_old hin
              rw [← us] at eo
              rw [if_pos hin] at mg
              simp -implicitDefEqProofs only [lk_normal, movedBy_F, move_F, hget_outHn, known_outVn, hql, eP, lenP, r24, rf, rr, tkR, hD, tkD, a0, b0, mne, m0, m1, m2, exx, x24, kOK24, kI24, z1, mg, tkx, List.getD_cons_zero, List.getD_cons_succ, Int.toNat_natCast, ZB, Int.reduceToNat, Nat.reduceLT, Nat.reduceLeDiff, Int.reduceLE, Int.reduceLT, Nat.reduceEqDiff, Nat.reduceSub, SB, SV.known, packR, ne_eq, reduceCtorEq, Nat.reduceEqDiff, ↓reduceIte, if_true, if_false, eq_self, Nat.reduceAdd, Nat.reduceMul, Nat.reduceSub, forall_const, oneCellS, litOne, flat1, Kd.isSca, flat, TYB]
              refine ⟨by omega, by omega, by unfold In64; omega, (q + 1, c, j), ⟨by simp only; omega, by simp only [eo]; exact hj⟩, by simp only; omega, Sub.mk_id ?_ ?_ ?_ ?_ ?_⟩
              all_goals (try simp only [eo])
              all_goals (cases (nwF K (upto D u Q i q)).length <;> simp only [outVn_zero, outVn_succ, outHn_zero, outHn_succ, LB, subS, subH, wfS, wfH, SV.ren, renL, SObj.ren, SV.wf, SObj.wf, wfL, SV.known, Nat.reduceEqDiff, ↓reduceIte, if_true, if_false, eq_self, Nat.reduceAdd, Nat.reduceLT, Nat.reduceLeDiff, implies_true, reduceCtorEq, forall_const] <;> simp)
            · have eo := nwF_new hin
              rw [← us] at eo
              rw [if_neg hin] at mg
              have ms := mset_mk1 hin
              cases hn : (nwF K (upto D u Q i q)).length with
              | zero =>
                simp -implicitDefEqProofs only [lk_normal, movedBy_F, move_F, hget_outHn, known_outVn, hql, eP, lenP, r24, rf, rr, tkR, hD, tkD, a0, b0, mne, m0, m1, m2, exx, x24, kOK24, kI24, z1, mg, ms, tkx, outVn_zero, outHn_zero, List.getD_cons_zero, List.getD_cons_succ, Int.toNat_natCast, ZB, Int.reduceToNat, Nat.reduceLT, Nat.reduceLeDiff, Int.reduceLE, Int.reduceLT, Nat.reduceEqDiff, Nat.reduceSub, SB, SV.known, packR, ne_eq, reduceCtorEq, Nat.reduceEqDiff, ↓reduceIte, if_true, if_false, eq_self, Nat.reduceAdd, Nat.reduceMul, Nat.reduceSub, forall_const, oneCellS, litOne, flat1, Kd.isSca, flat, TYB]
                have hO : nwF K (upto D u Q i q) = [] := List.length_eq_zero_iff.1 hn
                refine ⟨by omega, by omega, fun junk' cap' hj' => ⟨by unfold In64; omega, (q + 1, cap', junk'), ⟨by simp only; omega, by simp only [eo, hO]; simpa using hj'⟩, by simp only; omega, Sub.mk_to 3 9 ?_ ?_ ?_ ?_ ?_ ?_ ?_⟩⟩
                all_goals (try simp only [eo, hO, List.append_nil, List.nil_append, List.length_cons, List.length_nil, List.flatten_cons, List.flatten_nil])
                all_goals (simp only [outVn_succ, outHn_succ, LB, subS, subH, wfS, wfH, SV.ren, renL, SObj.ren, SV.wf, SObj.wf, wfL, SV.known, Nat.reduceEqDiff, ↓reduceIte, if_true, if_false, eq_self, Nat.reduceAdd, Nat.reduceLT, Nat.reduceLeDiff, implies_true, reduceCtorEq, forall_const] <;> simp)
              | succ n =>
                have hj2 : ((nwF K (upto D u Q i q)).flatten ++ j).length = c * 24 := by rw [List.length_append, hfO, hn]; rw [hn] at hj; omega
                have gL : ((nwF K (upto D u Q i q)).flatten).length = (n + 1) * 24 := by rw [hfO, hn]
                have tkO : List.take ((n + 1) * 24) ((nwF K (upto D u Q i q)).flatten ++ j) = (nwF K (upto D u Q i q)).flatten := List.take_left' gL
                rw [hn] at bound
                simp -implicitDefEqProofs only [lk_normal, movedBy_F, move_F, hget_outHn, known_outVn, hql, eP, lenP, r24, rf, rr, tkR, hD, tkD, a0, b0, mne, m0, m1, m2, exx, x24, kOK24, kI24, z1, mg, ms, tkx, outVn_succ, outHn_succ, hj2, tkO, List.getD_cons_zero, List.getD_cons_succ, Int.toNat_natCast, ZB, Int.reduceToNat, Nat.reduceLT, Nat.reduceLeDiff, Int.reduceLE, Int.reduceLT, Nat.reduceEqDiff, Nat.reduceSub, SB, SV.known, packR, ne_eq, reduceCtorEq, Nat.reduceEqDiff, ↓reduceIte, if_true, if_false, eq_self, Nat.reduceAdd, Nat.reduceMul, Nat.reduceSub, forall_const, oneCellS, litOne, flat1, Kd.isSca, flat, TYB]
                have hcn : n + 1 ≤ c := by rw [hn] at hj; omega
                refine ⟨by omega, by omega, hcn, by omega, by omega, fun junk' cap' hj' => ⟨by unfold In64; omega, (q + 1, cap', junk'), ⟨by simp only; omega, by simp only [eo, List.length_append, hn]; simpa using hj'⟩, by simp only; omega, Sub.mk_to 3 9 ?_ ?_ ?_ ?_ ?_ ?_ ?_⟩⟩
                all_goals (try simp only [eo, List.length_append, hn, List.length_cons, List.length_nil, List.flatten_append, List.flatten_cons, List.flatten_nil, List.append_nil, ← List.append_assoc])
                all_goals (simp only [outVn_succ, outHn_succ, LB, subS, subH, wfS, wfH, SV.ren, renL, SObj.ren, SV.wf, SObj.wf, wfL, SV.known, Nat.reduceEqDiff, ↓reduceIte, if_true, if_false, eq_self, Nat.reduceAdd, Nat.reduceLT, Nat.reduceLeDiff, implies_true, reduceCtorEq, forall_const] <;> simp)
          · have hql : ¬ (q : Int) < np := by omega
            obtain rfl : q = np := by omega
            simp -implicitDefEqProofs only [lk_normal, hget_outHn, known_outVn, hql, ZB, Int.reduceToNat, Nat.reduceLT, Nat.reduceLeDiff, Int.reduceLE, Int.reduceLT, Nat.reduceEqDiff, Nat.reduceSub, SB, SV.known, packR, ne_eq, reduceCtorEq, Nat.reduceEqDiff, ↓reduceIte, if_true, if_false, eq_self, Nat.reduceAdd, Nat.reduceMul, Nat.reduceSub, forall_const, oneCellS, litOne, flat1, Kd.isSca, flat, TYB]
            refine ⟨by unfold In64; omega, (i + 1, c, j), ⟨by simp only; omega, by simp only [← unext]; exact hj⟩, by simp only; omega, Sub.mk_id ?_ ?_ ?_ ?_ ?_⟩
            all_goals (try simp only [← unext])
            all_goals (cases (nwF K (upto D u Q i q)).length <;> simp only [outVn_zero, outVn_succ, outHn_zero, outHn_succ, LB, subS, subH, wfS, wfH, SV.ren, renL, SObj.ren, SV.wf, SObj.wf, wfL, SV.known, Nat.reduceEqDiff, ↓reduceIte, if_true, if_false, eq_self, Nat.reduceAdd, Nat.reduceLT, Nat.reduceLeDiff, implies_true, reduceCtorEq, forall_const] <;> simp)
    · have hil : ¬ (i : Int) < len := by omega
      obtain rfl : i = len := by omega
      simp -implicitDefEqProofs only [lk_normal, hget_outHn, known_outVn, hil, ZB, Int.reduceToNat, Nat.reduceLT, Nat.reduceLeDiff, Int.reduceLE, Int.reduceLT, Nat.reduceEqDiff, Nat.reduceSub, SB, SV.known, packR, ne_eq, reduceCtorEq, Nat.reduceEqDiff, ↓reduceIte, if_true, if_false, eq_self, Nat.reduceAdd, Nat.reduceMul, Nat.reduceSub, forall_const, oneCellS, litOne, flat1, Kd.isSca, flat, TYB]
      have ue : upto D u Q i 0 = X := by rw [← hX, ← upto_end, hl]
      rw [ue] at hj ⊢
      refine ⟨by cases (nwF K X).length <;> rfl, outVn 2 (nwF K X).length (nwF K X).length c, outHn 2 (nwF K X).length ((nwF K X).flatten ++ j) 27 [(1, .mp true (mk1 (K ++ nwF K X)))], 3, Sub.mk_to 2 3 ?_ ?_ ?_ ?_ ?_ ?_ ?_, c, j, rfl, rfl, rfl, hj⟩
      all_goals (cases (nwF K X).length <;> simp only [outVn_zero, outVn_succ, outHn_zero, outHn_succ, LB, subS, subH, wfS, wfH, SV.ren, renL, SObj.ren, SV.wf, SObj.wf, wfL, SV.known, Nat.reduceEqDiff, ↓reduceIte, if_true, if_false, eq_self, Nat.reduceAdd, Nat.reduceLT, Nat.reduceLeDiff, implies_true, reduceCtorEq, forall_const] <;> simp)
end Go.Proofs.Ytopfnkmlgcjpbaa
set_option maxRecDepth 100000
set_option linter.unusedSimpArgs false
set_option linter.unusedVariables false
namespace Go.Proofs.Ytopfnkmlgcjpbaa
open Go Go.RowKit
--@tbl eqS2 = laws.eqIntA2S
/-! Marks. -/
theorem gen_of_pure {P : Program} {f : FuncId} {args : List SV} {H : Heap} {n m : Nat} {v : SV} {κ : K1} (h : PureH P f args H v) (hk : κ v H n) : GenOK P f args H n m κ :=
  ⟨h.ent, fun B M w hH hwH hwa hown hM => (h.call B w hH).mono fun e w' hh => ⟨v, H, n, B, hh.1, hk, Nat.le_refl _, h.wf n hwa hwH, hwH, fun _ _ => rfl, hH.of_below hh.2, hown, Kept.of_below hh.2⟩⟩
end Go.Proofs.Ytopfnkmlgcjpbaa
set_option maxRecDepth 100000
set_option linter.unusedSimpArgs false
set_option linter.unusedVariables false
namespace Go.Proofs.Ytopfnkmlgcjpbaa
open Go Go.RowKit
/-- May so many layers be poured back? -/
def bk1 (R : List Int) (i j m : Int) : Bool := plF i && plF j && !decide (i = j) && decide (1 ≤ m ∧ m ≤ min (topF (tubeAt R j.toNat)).2 (4 - (layN (tubeAt R i.toNat) : Int)))
def bkR (R : List Int) (i j m : Int) : List Int := pmR R j.toNat i.toNat m.toNat
def bk2 (R : List Int) (i j m : Int) : Bool := bk1 R i j m && canF (bkR R i j m) i j
def bkB (R : List Int) (i j m : Int) : Bool := bk2 R i j m && decide (pourF (bkR R i j m) i.toNat j.toNat = R) && decide (pmN (bkR R i j m) i.toNat j.toNat = m)
def bkT (R : List Int) (i j m : Int) : List Int := if bkB R i j m = true then bkR R i j m else List.replicate 24 0
end Go.Proofs.Ytopfnkmlgcjpbaa
set_option maxRecDepth 100000
set_option linter.unusedSimpArgs false
set_option linter.unusedVariables false
namespace Go.Proofs.Ytopfnkmlgcjpbaa
open Go Go.RowKit
end Go.Proofs.Ytopfnkmlgcjpbaa
set_option maxRecDepth 100000
set_option linter.unusedSimpArgs false
set_option linter.unusedVariables false
namespace Go.Proofs.Ytopfnkmlgcjpbaa
open Go Go.RowKit
--@tbl eqSource = laws.eqSource
--@tbl eqS3 = laws.eqSourceS
/-! Marks. -/
--@tbl mark3 = laws.markSourceS
--@tbl held3 = laws.heldSourceS
end Go.Proofs.Ytopfnkmlgcjpbaa
set_option maxRecDepth 100000
set_option linter.unusedSimpArgs false
set_option linter.unusedVariables false
namespace Go.Proofs.Ytopfnkmlgcjpbaa
open Go Go.RowKit
--@tbl toIntA2 = laws.toIntA2
end Go.Proofs.Ytopfnkmlgcjpbaa
set_option maxRecDepth 100000
set_option linter.unusedSimpArgs false
set_option linter.unusedVariables false
namespace Go.Proofs.Ytopfnkmlgcjpbaa
open Go Go.RowKit
/-! DeleteFunc with a closure over a rack and depths. -/
/-! The lists. -/
end Go.Proofs.Ytopfnkmlgcjpbaa
set_option maxRecDepth 100000
set_option linter.unusedSimpArgs false
set_option linter.unusedVariables false
namespace Go.Proofs.Ytopfnkmlgcjpbaa
open Go Go.RowKit
def goodF (R p : List Int) : Bool := decide (bndF (pourF R (p.getD 0 0).toNat (p.getD 1 0).toNat) < bndF R)
def gdL (R : List Int) : List Int := kept (fun p => goodF R p) (PL R 36) ((PL R 36).length / 2)
end Go.Proofs.Ytopfnkmlgcjpbaa
set_option maxRecDepth 100000
set_option linter.unusedSimpArgs false
set_option linter.unusedVariables false
namespace Go.Proofs.Ytopfnkmlgcjpbaa
open Go Go.RowKit
def stR (R : List Int) : List Int := if gdL R = [] then R else pourF R ((gdL R).getD 0 0).toNat ((gdL R).getD 1 0).toNat
def gpR (R : List Int) : Nat → List Int
  | 0 => R
  | n + 1 => stR (gpR R n)
def gpL (R : List Int) : Nat → List Int
  | 0 => []
  | n + 1 => gpL R n ++ (gdL (gpR R n)).take 2
attribute [local irreducible] gpR gpL gdL pourF bndF canF goodF
end Go.Proofs.Ytopfnkmlgcjpbaa
set_option maxRecDepth 100000
set_option linter.unusedSimpArgs false
set_option linter.unusedVariables false
namespace Go.Proofs.Ytopfnkmlgcjpbaa
open Go Go.RowKit
def cppB (R : List Int) (i j : Int) : Bool := plF i && plF j && canF R i j
attribute [local irreducible] pourF bndF canF goodF cppB
end Go.Proofs.Ytopfnkmlgcjpbaa
set_option maxRecDepth 100000
set_option linter.unusedSimpArgs false
set_option linter.unusedVariables false
namespace Go.Proofs.Ytopfnkmlgcjpbaa
open Go Go.RowKit
attribute [local irreducible] bkR bkB bk2 bkT --@tbl PourBacks = impl.PourBacks --@tbl sPourBacks = spec.PourBacks
end Go.Proofs.Ytopfnkmlgcjpbaa
set_option maxRecDepth 100000
set_option linter.unusedSimpArgs false
set_option linter.unusedVariables false
namespace Go.Proofs.Ytopfnkmlgcjpbaa
open Go Go.RowKit
--@tbl eqS1 = laws.eqIntS
/-! Marks. -/
--@tbl mark1 = laws.markIntS
--@tbl held1 = laws.heldIntS
end Go.Proofs.Ytopfnkmlgcjpbaa
set_option maxRecDepth 100000
set_option linter.unusedSimpArgs false
set_option linter.unusedVariables false
namespace Go.Proofs.Ytopfnkmlgcjpbaa
open Go Go.RowKit
theorem FreshP.sub {P : Program} {f : FuncId} {args : List SV} {H0 H : Heap} {L : List Int} {len es e : Nat} {nl : Bool} {wr : Wrap} (h : FreshP P f args H0 L len es e nl wr) (ρ : Nat → Nat) (hs : subHs ρ 0 H H0) (hi : injOn ρ (H0.map (·.1))) : FreshP P f (renL ρ args) H L len es e nl wr := by
  refine ⟨h.ent, h.ok, fun B w hH => ?_⟩
  have := h.call (fun k => B (ρ k)) w ⟨fun k o hl hk => ?_, fun k j o o' g1 g2 g3 g4 he => ?_⟩
  · rw [denL_ren]
    refine this.mono fun r w' ⟨h1, h2⟩ => ⟨h1, h2.imp (fun ⟨a, b, c⟩ => ⟨a, b, c.trans (congrArg Ending.returned (Wrap.den_eq h.ok rfl))⟩) id⟩
  · obtain ⟨e1, _, _⟩ := hs k o hl
    have := hH.at_ _ _ e1 (by rw [SObj.live_ren]; exact hk)
    rw [SObj.sat_ren] at this
    exact this
  · obtain ⟨e1, _, m1⟩ := hs k o g1
    obtain ⟨e2, _, m2⟩ := hs j o' g3
    exact hi k m1 j m2 (hH.inj _ _ _ _ e1 (by rw [SObj.live_ren]; exact g2) e2 (by rw [SObj.live_ren]; exact g4) he)
theorem FreshP.one {P : Program} {f : FuncId} {args : List SV} {H : Heap} {o : SObj} {b : Nat} {L : List Int} {len es e : Nat} {nl : Bool} {wr : Wrap} (h : FreshP P f args [(0, o)] L len es e nl wr) (hb : hget H b = some o) (ho : o.ren (fun _ => b) = o) : FreshP P f (renL (fun _ => b) args) H L len es e nl wr :=
  h.sub (fun _ => b) (fun j o' hj => by
    rw [hget_cons] at hj
    split at hj
    · cases hj; exact ⟨by rw [ho]; exact hb, fun _ => by omega, by simp [*]⟩
    · cases hj) (fun a ha c hc _ => by simp at ha hc; omega)
attribute [local irreducible] pourF bndF canF goodF cppB --@tbl BoundsAlong = impl.BoundsAlong
end Go.Proofs.Ytopfnkmlgcjpbaa
