/- Walks: valid racks. -/
import Derived.Test.YtnlbljikbonioaaR
import Derived.Test.YtnlbljikbonioaaC
set_option maxRecDepth 100000
set_option linter.unusedSimpArgs false
set_option linter.unusedVariables false
namespace Go.Proofs.Ytnlbljikbonioaa
open Go Go.RowKit
def rackB (R : List Int) : Bool := (tubesOf R 0 6).all tubeB
--@tbl areAll_rack = impl.areAll[[4]int]
def areAll_rack_F : List SV → Heap → Option (Prop × SV)
  | [.slice b off len _, .fn g []], H => match hget H b with
    | some (.ints L _) => some (g = 66 ∧ off + len * 4 ≤ L.length ∧ len ≤ 9223372036854775806, .bool ((tubesOf L off len).all tubeB))
    | _ => none
  | _, _ => none
theorem areAll_rack_T : ∀ args H p v, areAll_rack_F args H = some (p, v) → p → PureH Try.prog 65 args H v := by
  intro args H p v h hp
  unfold areAll_rack_F at h
  split at h
  · rename_i b off len cap g
    split at h
    · rename_i L e hb
      cases h
      obtain ⟨rfl, hl, hm⟩ := hp
      exact one_block (areAllT_ok _ tubeB L e off len cap hl hm fun x hx => isTube_ok x (tubesOf_mem hl hx)) hb rfl (fun _ => trivial)
    · cases h
  · cases h
--@tbl IsRack = impl.IsRack
theorem IsRack_ok (R : List Int) (hR : R.length = 24) : PureH Try.prog 14 [.arr R] [] (.bool (rackB R)) := by
  refine pure_of_vc (X := ⟨Try.prog, tys, [(65, areAll_rack_F)], [], true, true, 0, [], []⟩) fn_14 ⟨tys_ok, (.cons areAll_rack_T .nil), .nil, mixed⟩ (n0 := 0) (Nat.le_of_ble_eq_true rfl) (by simp [wfL, SV.wf]) (wfH_spec (by simp [wfH, SObj.wf])) (Nat.le_refl _) (fun _ => by simp [SV.wf, wfL]) ?_
  simp -implicitDefEqProofs only [Try.f14, Option.getD_some, argS, areAll_rack_F, hR, ZB, Int.reduceToNat, Nat.reduceLT, Nat.reduceLeDiff, Int.reduceLE, Int.reduceLT, Nat.reduceEqDiff, Nat.reduceSub, SB, SV.known, packR, ne_eq, reduceCtorEq, Nat.reduceEqDiff, ↓reduceIte, if_true, if_false, eq_self, Nat.reduceAdd, Nat.reduceMul, Nat.reduceSub, forall_const, oneCellS, litOne, flat1, Kd.isSca, flat, TYB]
  rfl
def IsRack_F : List SV → Heap → Option (Prop × SV)
  | [.arr R], _ => some (R.length = 24, .bool (rackB R))
  | _, _ => none
theorem IsRack_T : ∀ args H p v, IsRack_F args H = some (p, v) → p → PureH Try.prog 14 args H v := by
  intro args H p v h hp
  unfold IsRack_F at h
  split at h
  · cases h; exact (IsRack_ok _ hp).any _
  · cases h

def cB (R : List Int) (a b : Nat) : Prop := (0 ≤ R.getD (a * 4 + b) 0 ∧ R.getD (a * 4 + b) 0 ≤ 5) ∧ ¬ (0 < b ∧ 0 < R.getD (a * 4 + b) 0 ∧ R.getD (a * 4 + (b - 1)) 0 = 0)
theorem tubeB_iff (t : List Int) (h : t.length = 4) : tubeB t = true ↔ ∀ b, b < 4 → cB t 0 b := by
  obtain ⟨a, b, c, d, rfl⟩ : ∃ a b c d, t = [a, b, c, d] := by
    match t, h with
    | [a, b, c, d], _ => exact ⟨a, b, c, d, rfl⟩
  have e : (∀ k, k < 4 → cB [a, b, c, d] 0 k) ↔ cB [a, b, c, d] 0 0 ∧ cB [a, b, c, d] 0 1 ∧ cB [a, b, c, d] 0 2 ∧ cB [a, b, c, d] 0 3 :=
    ⟨fun h => ⟨h 0 (by omega), h 1 (by omega), h 2 (by omega), h 3 (by omega)⟩, fun h k hk => by
      match k, hk with
      | 0, _ => exact h.1
      | 1, _ => exact h.2.1
      | 2, _ => exact h.2.2.1
      | 3, _ => exact h.2.2.2⟩
  rw [e]
  by_cases ha : a = 0
  · subst ha
    simp [tubeB, layN, isZ0, cB, coT, is0, List.findIdx?_cons]; omega
  · by_cases hb : b = 0
    · subst hb
      simp [tubeB, layN, isZ0, cB, coT, is0, List.findIdx?_cons, ha, Ne.symm ha]; omega
    · by_cases hc : c = 0
      · subst hc
        simp [tubeB, layN, isZ0, cB, coT, is0, List.findIdx?_cons, ha, hb, Ne.symm ha, Ne.symm hb]; omega
      · by_cases hd : d = 0
        · subst hd
          simp [tubeB, layN, isZ0, cB, coT, is0, List.findIdx?_cons, ha, hb, hc, Ne.symm ha, Ne.symm hb, Ne.symm hc]; omega
        · simp [tubeB, layN, isZ0, cB, coT, is0, List.findIdx?_cons, ha, hb, hc, hd, Ne.symm ha, Ne.symm hb, Ne.symm hc, Ne.symm hd]; omega
theorem cut_getD (R : List Int) (i k : Nat) (h : k < 4) : ((R.drop (i * 4)).take 4).getD k 0 = R.getD (i * 4 + k) 0 := by
  simp [List.getD, List.getElem?_take, h, List.getElem?_drop]
theorem rackB_iff (R : List Int) (h : R.length = 24) : rackB R = true ↔ ∀ a b, a < 6 → b < 4 → cB R a b := by
  unfold rackB tubesOf
  simp only [List.all_map, List.all_eq_true, List.mem_range, Function.comp, Nat.zero_add]
  constructor
  · intro hh a b ha hb
    have h1 := (tubeB_iff _ (by rw [List.length_take, List.length_drop]; omega)).1 (hh a ha) b hb
    unfold cB at h1 ⊢
    rw [Nat.zero_mul, Nat.zero_add, Nat.zero_add, cut_getD _ _ _ hb, cut_getD _ _ _ (by omega)] at h1
    exact h1
  · intro hh a ha
    refine (tubeB_iff _ (by rw [List.length_take, List.length_drop]; omega)).2 fun b hb => ?_
    have h1 := hh a b ha hb
    unfold cB at h1 ⊢
    rw [Nat.zero_mul, Nat.zero_add, Nat.zero_add, cut_getD _ _ _ hb, cut_getD _ _ _ (by omega)]
    exact h1
--@tbl l2Rack = spec.l2Rack
theorem l2Rack_ok (R : List Int) (hR : R.length = 24) : PureH Try.prog 59 [.arr R] [] (.bool (rackB R)) := by
  refine pure_of_vc (X := ⟨Try.prog, tys, [(101, l1In_F)], [], true, true, 0, [], []⟩) fn_59 ⟨tys_ok, (.cons l1In_T .nil), .nil, mixed⟩ (n0 := 0) (Nat.le_of_ble_eq_true rfl) (by simp [wfL, SV.wf]) (wfH_spec (by simp [wfH, SObj.wf])) (Nat.le_refl _) (fun _ => by simp [SV.wf, wfL]) ?_
  simp -implicitDefEqProofs only [Try.f59, Option.getD_some, argS, l1In_F, hR, ZB, Int.reduceToNat, Nat.reduceLT, Nat.reduceLeDiff, Int.reduceLE, Int.reduceLT, Nat.reduceEqDiff, Nat.reduceSub, SB, SV.known, packR, ne_eq, reduceCtorEq, Nat.reduceEqDiff, ↓reduceIte, if_true, if_false, eq_self, Nat.reduceAdd, Nat.reduceMul, Nat.reduceSub, forall_const, oneCellS, litOne, flat1, Kd.isSca, flat, TYB]
  refine loop_intro (fun i : Nat => [(1, .ptr 0 0), (3, .int i)]) (fun _ => [(0, .ints R 27)]) 1 (fun i => i ≤ 6 ∧ ∀ a b, a < i → b < 4 → cB R a b) (fun i => 6 - i) ?_ ?_
  · refine ⟨0, ⟨by omega, by omega⟩, Sub.mk_id ?_ ?_ ?_ ?_ ?_⟩
    all_goals simp only [LB, subS, subH, wfS, wfH, SV.ren, renL, SObj.ren, SV.wf, SObj.wf, wfL, SV.known, Nat.reduceEqDiff, ↓reduceIte, if_true, if_false, eq_self, Nat.reduceAdd, Nat.reduceLT, Nat.reduceLeDiff, implies_true, reduceCtorEq, forall_const]
    all_goals simp
  · intro i hi
    obtain ⟨hi1, hi2⟩ := hi
    simp -implicitDefEqProofs only [lk_normal, l1In_F, hR, ZB, Int.reduceToNat, Nat.reduceLT, Nat.reduceLeDiff, Int.reduceLE, Int.reduceLT, Nat.reduceEqDiff, Nat.reduceSub, SB, SV.known, packR, ne_eq, reduceCtorEq, Nat.reduceEqDiff, ↓reduceIte, if_true, if_false, eq_self, Nat.reduceAdd, Nat.reduceMul, Nat.reduceSub, forall_const, oneCellS, litOne, flat1, Kd.isSca, flat, TYB]
    refine ⟨fun h => ?_, fun h => ?_⟩
    · have hlt : i < 6 := by omega
      refine loop_intro (fun k : Nat => [(1, .ptr 0 0), (3, .int i), (4, .int k)]) (fun _ => [(0, .ints R 27)]) 1 (fun k => k ≤ 4 ∧ ∀ b, b < k → cB R i b) (fun k => 4 - k) ?_ ?_
      · refine ⟨0, ⟨by omega, by omega⟩, Sub.mk_id ?_ ?_ ?_ ?_ ?_⟩
        all_goals simp only [LB, subS, subH, wfS, wfH, SV.ren, renL, SObj.ren, SV.wf, SObj.wf, wfL, SV.known, Nat.reduceEqDiff, ↓reduceIte, if_true, if_false, eq_self, Nat.reduceAdd, Nat.reduceLT, Nat.reduceLeDiff, implies_true, reduceCtorEq, forall_const]
        all_goals simp
      · intro k hk
        obtain ⟨hk1, hk2⟩ := hk
        simp -implicitDefEqProofs only [lk_normal, l1In_F, hR, ZB, Int.reduceToNat, Nat.reduceLT, Nat.reduceLeDiff, Int.reduceLE, Int.reduceLT, Nat.reduceEqDiff, Nat.reduceSub, SB, SV.known, packR, ne_eq, reduceCtorEq, Nat.reduceEqDiff, ↓reduceIte, if_true, if_false, eq_self, Nat.reduceAdd, Nat.reduceMul, Nat.reduceSub, forall_const, oneCellS, litOne, flat1, Kd.isSca, flat, TYB]
        refine ⟨fun h => ?_, fun h => ?_⟩
        · have e0 : ((k : Int) - 1).toNat = k - 1 := by omega
          simp only [e0]
          have no : ¬ cB R i k → false = rackB R := fun hn => by
            cases hr : rackB R with
            | false => rfl
            | true => exact absurd ((rackB_iff R hR).1 hr i k hlt (by omega)) hn
          have inv : cB R i k → ∀ b, b < k + 1 → cB R i b := fun hc b hb => by
            by_cases hbk : b = k
            · subst hbk; exact hc
            · exact hk2 b (by omega)
          (try (and_intros <;> try (first | omega | (unfold In64; omega) | trivial | assumption)))
          all_goals intro h1
          · (try (and_intros <;> try (first | omega | (unfold In64; omega) | trivial | assumption)))
            all_goals intro h2
            · (try (and_intros <;> try (first | omega | (unfold In64; omega) | trivial | assumption)))
              all_goals intro h3
              · (try (and_intros <;> try (first | omega | (unfold In64; omega) | trivial | assumption)))
                all_goals intro h4
                · exact no fun hc => hc.2 ⟨by omega, h3, h4⟩
                · (try (and_intros <;> try (first | omega | (unfold In64; omega) | trivial | assumption)))
                  refine ⟨k + 1, ⟨by omega, inv ⟨h1, fun hn => h4 hn.2.2⟩⟩, by omega, Sub.mk_id ?_ ?_ ?_ ?_ ?_⟩
                  all_goals simp only [LB, subS, subH, wfS, wfH, SV.ren, renL, SObj.ren, SV.wf, SObj.wf, wfL, SV.known, Nat.reduceEqDiff, ↓reduceIte, if_true, if_false, eq_self, Nat.reduceAdd, Nat.reduceLT, Nat.reduceLeDiff, implies_true, reduceCtorEq, forall_const]
              · (try (and_intros <;> try (first | omega | (unfold In64; omega) | trivial | assumption)))
                refine ⟨k + 1, ⟨by omega, inv ⟨h1, fun hn => h3 hn.2.1⟩⟩, by omega, Sub.mk_id ?_ ?_ ?_ ?_ ?_⟩
                all_goals simp only [LB, subS, subH, wfS, wfH, SV.ren, renL, SObj.ren, SV.wf, SObj.wf, wfL, SV.known, Nat.reduceEqDiff, ↓reduceIte, if_true, if_false, eq_self, Nat.reduceAdd, Nat.reduceLT, Nat.reduceLeDiff, implies_true, reduceCtorEq, forall_const]
            · (try (and_intros <;> try (first | omega | (unfold In64; omega) | trivial | assumption)))
              refine ⟨k + 1, ⟨by omega, inv ⟨h1, fun hn => h2 (by omega)⟩⟩, by omega, Sub.mk_id ?_ ?_ ?_ ?_ ?_⟩
              all_goals simp only [LB, subS, subH, wfS, wfH, SV.ren, renL, SObj.ren, SV.wf, SObj.wf, wfL, SV.known, Nat.reduceEqDiff, ↓reduceIte, if_true, if_false, eq_self, Nat.reduceAdd, Nat.reduceLT, Nat.reduceLeDiff, implies_true, reduceCtorEq, forall_const]
          · exact no fun hc => h1 hc.1
        · obtain rfl : k = 4 := by omega
          (try (and_intros <;> try (first | omega | (unfold In64; omega) | trivial | assumption)))
          refine ⟨i + 1, ⟨by omega, fun a b ha hb => ?_⟩, by omega, Sub.mk_id ?_ ?_ ?_ ?_ ?_⟩
          · by_cases hai : a = i
            · subst hai; exact hk2 b hb
            · exact hi2 a b (by omega) hb
          all_goals simp only [LB, subS, subH, wfS, wfH, SV.ren, renL, SObj.ren, SV.wf, SObj.wf, wfL, SV.known, Nat.reduceEqDiff, ↓reduceIte, if_true, if_false, eq_self, Nat.reduceAdd, Nat.reduceLT, Nat.reduceLeDiff, implies_true, reduceCtorEq, forall_const]
    · obtain rfl : i = 6 := by omega
      rw [(rackB_iff R hR).2 fun a b ha hb => hi2 a b ha hb]
def l2Rack_F : List SV → Heap → Option (Prop × SV)
  | [.arr R], _ => some (R.length = 24, .bool (rackB R))
  | _, _ => none
theorem l2Rack_T : ∀ args H p v, l2Rack_F args H = some (p, v) → p → PureH Try.prog 59 args H v := by
  intro args H p v h hp
  unfold l2Rack_F at h
  split at h
  · cases h; exact (l2Rack_ok _ hp).any _
  · cases h

/-! Layers, as the model counts them. -/
def posC (t : List Int) : Int := ((t.map fun x => if 0 < x then (1 : Int) else 0)).sum
theorem posC_take_succ (l : List Int) (k : Nat) (h : k < l.length) : posC (l.take (k + 1)) = posC (l.take k) + if 0 < l.getD k 0 then 1 else 0 := by
  unfold posC
  rw [List.map_take, List.map_take, sum_take_succ _ k (by simpa using h)]
  simp [List.getD, List.getElem?_eq_getElem h]
theorem posC_bd (l : List Int) : 0 ≤ posC l ∧ posC l ≤ l.length := by
  have : Bd 0 1 (l.map fun x => if 0 < x then (1 : Int) else 0) := by
    intro x hx
    obtain ⟨c, _, rfl⟩ := List.mem_map.1 hx
    split <;> omega
  have := sum_bd _ this
  simp only [List.length_map] at this
  unfold posC; omega
theorem posC_lay (t : List Int) (h : t.length = 4) (ht : tubeB t = true) : posC t = layN t := by
  rw [tubeB_iff t h] at ht
  obtain ⟨a, b, c, d, rfl⟩ : ∃ a b c d, t = [a, b, c, d] := by
    match t, h with
    | [a, b, c, d], _ => exact ⟨a, b, c, d, rfl⟩
  have h0 := ht 0 (by omega)
  have h1 := ht 1 (by omega)
  have h2 := ht 2 (by omega)
  have h3 := ht 3 (by omega)
  simp [cB] at h0 h1 h2 h3
  by_cases ha : a = 0
  · subst ha
    simp [posC, layN, isZ0, List.findIdx?_cons]
    repeat' (split)
    all_goals omega
  · by_cases hb : b = 0
    · subst hb
      simp [posC, layN, isZ0, List.findIdx?_cons, Ne.symm ha]
      repeat' (split)
      all_goals omega
    · by_cases hc : c = 0
      · subst hc
        simp [posC, layN, isZ0, List.findIdx?_cons, Ne.symm ha, Ne.symm hb]
        repeat' (split)
        all_goals omega
      · by_cases hd : d = 0
        · subst hd
          simp [posC, layN, isZ0, List.findIdx?_cons, Ne.symm ha, Ne.symm hb, Ne.symm hc]
          repeat' (split)
          all_goals omega
        · simp [posC, layN, isZ0, List.findIdx?_cons, Ne.symm ha, Ne.symm hb, Ne.symm hc, Ne.symm hd]
          repeat' (split)
          all_goals omega
--@tbl l2Many = spec.l2Many
theorem l2Many_ok (t : List Int) (h : t.length = 4) : PureH Try.prog 85 [.arr t] [] (.int (posC t)) := by
  refine pure_of_vc (X := ⟨Try.prog, tys, [], [], true, true, 0, [], []⟩) fn_85 ⟨tys_ok, .nil, .nil, mixed⟩ (n0 := 0) (Nat.le_of_ble_eq_true rfl) (by simp [wfL, SV.wf]) (wfH_spec (by simp [wfH, SObj.wf])) (Nat.le_refl _) (fun _ => by simp [SV.wf, wfL]) ?_
  simp -implicitDefEqProofs only [Try.f85, Option.getD_some, argS, h, ZB, Int.reduceToNat, Nat.reduceLT, Nat.reduceLeDiff, Int.reduceLE, Int.reduceLT, Nat.reduceEqDiff, Nat.reduceSub, SB, SV.known, packR, ne_eq, reduceCtorEq, Nat.reduceEqDiff, ↓reduceIte, if_true, if_false, eq_self, Nat.reduceAdd, Nat.reduceMul, Nat.reduceSub, forall_const, oneCellS, litOne, flat1, Kd.isSca, flat, TYB]
  refine loop_intro (fun i : Nat => [(1, .ptr 0 0), (4, .int i), (3, .int (posC (t.take i)))]) (fun _ => [(0, .ints t 24)]) 1 (fun i => i ≤ 4) (fun i => 4 - i) ?_ ?_
  · refine ⟨0, by omega, Sub.mk_id ?_ ?_ ?_ ?_ ?_⟩
    all_goals simp only [LB, subS, subH, wfS, wfH, SV.ren, renL, SObj.ren, SV.wf, SObj.wf, wfL, SV.known, Nat.reduceEqDiff, ↓reduceIte, if_true, if_false, eq_self, Nat.reduceAdd, Nat.reduceLT, Nat.reduceLeDiff, implies_true, reduceCtorEq, forall_const]
    all_goals simp [posC]
  · intro i hi
    simp -implicitDefEqProofs only [lk_normal, h, ZB, Int.reduceToNat, Nat.reduceLT, Nat.reduceLeDiff, Int.reduceLE, Int.reduceLT, Nat.reduceEqDiff, Nat.reduceSub, SB, SV.known, packR, ne_eq, reduceCtorEq, Nat.reduceEqDiff, ↓reduceIte, if_true, if_false, eq_self, Nat.reduceAdd, Nat.reduceMul, Nat.reduceSub, forall_const, oneCellS, litOne, flat1, Kd.isSca, flat, TYB]
    have hb := posC_bd (t.take i)
    have hl1 : (t.take i).length = i := by rw [List.length_take]; omega
    rw [hl1] at hb
    refine ⟨fun hx => ?_, fun hx => ?_⟩
    · have es := posC_take_succ t i (by omega)
      (try (and_intros <;> try (first | omega | (unfold In64; omega) | trivial | assumption)))
      all_goals intro hp
      · (try (and_intros <;> try (first | omega | (unfold In64; omega) | trivial | assumption)))
        refine ⟨i + 1, by omega, by omega, Sub.mk_id ?_ ?_ ?_ ?_ ?_⟩
        any_goals (simp only [LB, subS, subH, wfS, wfH, SV.ren, renL, SObj.ren, SV.wf, SObj.wf, wfL, SV.known, Nat.reduceEqDiff, ↓reduceIte, if_true, if_false, eq_self, Nat.reduceAdd, Nat.reduceLT, Nat.reduceLeDiff, implies_true, reduceCtorEq, forall_const]; done)
        simp only [LB, subS, subH, wfS, wfH, SV.ren, renL, SObj.ren, SV.wf, SObj.wf, wfL, SV.known, Nat.reduceEqDiff, ↓reduceIte, if_true, if_false, eq_self, Nat.reduceAdd, Nat.reduceLT, Nat.reduceLeDiff, implies_true, reduceCtorEq, forall_const]
        rw [es, if_pos hp]
      · (try (and_intros <;> try (first | omega | (unfold In64; omega) | trivial | assumption)))
        refine ⟨i + 1, by omega, by omega, Sub.mk_id ?_ ?_ ?_ ?_ ?_⟩
        any_goals (simp only [LB, subS, subH, wfS, wfH, SV.ren, renL, SObj.ren, SV.wf, SObj.wf, wfL, SV.known, Nat.reduceEqDiff, ↓reduceIte, if_true, if_false, eq_self, Nat.reduceAdd, Nat.reduceLT, Nat.reduceLeDiff, implies_true, reduceCtorEq, forall_const]; done)
        simp only [LB, subS, subH, wfS, wfH, SV.ren, renL, SObj.ren, SV.wf, SObj.wf, wfL, SV.known, Nat.reduceEqDiff, ↓reduceIte, if_true, if_false, eq_self, Nat.reduceAdd, Nat.reduceLT, Nat.reduceLeDiff, implies_true, reduceCtorEq, forall_const]
        rw [es, if_neg hp, Int.add_zero]
    · obtain rfl : i = 4 := by omega
      rw [List.take_of_length_le (by omega)]
def l2Many_F : List SV → Heap → Option (Prop × SV)
  | [.arr t], _ => some (t.length = 4, .int (posC t))
  | _, _ => none
theorem l2Many_T : ∀ args H p v, l2Many_F args H = some (p, v) → p → PureH Try.prog 85 args H v := by
  intro args H p v h hp
  unfold l2Many_F at h
  split at h
  · cases h; exact (l2Many_ok _ hp).any _
  · cases h

/-! Fitting depths. -/
def tubeAt (R : List Int) (i : Nat) : List Int := (R.drop (i * 4)).take 4
theorem tubeAt_len {R : List Int} (h : R.length = 24) {i : Nat} (hi : i < 6) : (tubeAt R i).length = 4 := by unfold tubeAt; rw [List.length_take, List.length_drop]; omega
theorem tubeAt_ok {R : List Int} (hr : rackB R = true) {i : Nat} (hi : i < 6) : tubeB (tubeAt R i) = true := by
  unfold rackB at hr
  refine List.all_eq_true.1 hr _ (List.mem_map.2 ⟨i, List.mem_range.2 hi, ?_⟩)
  rw [Nat.zero_add]; rfl
def fitF (R D : List Int) : Bool := (List.range 6).all fun i => decide ((layN (tubeAt R i) : Int) ≤ D.getD i 0)
theorem fit_hit {R D : List Int} {i : Nat} (hi : i < 6) (h : ¬ (layN (tubeAt R i) : Int) ≤ D.getD i 0) : fitF R D = false := by
  unfold fitF
  rw [List.all_eq_false]
  exact ⟨i, List.mem_range.2 hi, by simpa using h⟩
theorem fit_none {R D : List Int} (h : ∀ i, i < 6 → (layN (tubeAt R i) : Int) ≤ D.getD i 0) : fitF R D = true := by
  unfold fitF
  rw [List.all_eq_true]
  intro i hi
  simpa using h i (List.mem_range.1 hi)
--@tbl fits = impl.fits
theorem fits_ok (R D : List Int) (hR : R.length = 24) (hD : D.length = 6) : PureH Try.prog 133 [.arr R, .arr D] [] (.bool (fitF R D)) := by
  have tk1 : R.take 24 = R := List.take_of_length_le (by omega)
  refine pure_of_vc (X := ⟨Try.prog, tys, [(73, layers_F)], [], true, true, 0, [], []⟩) fn_133 ⟨tys_ok, (.cons layers_T .nil), .nil, mixed⟩ (n0 := 0) (Nat.le_of_ble_eq_true rfl) (by simp [wfL, SV.wf]) (wfH_spec (by simp [wfH, SObj.wf])) (Nat.le_refl _) (fun _ => by simp [SV.wf, wfL]) ?_
  simp -implicitDefEqProofs only [Try.f133, Option.getD_some, argS, layers_F, hR, hD, tk1, ZB, Int.reduceToNat, Nat.reduceLT, Nat.reduceLeDiff, Int.reduceLE, Int.reduceLT, Nat.reduceEqDiff, Nat.reduceSub, SB, SV.known, packR, ne_eq, reduceCtorEq, Nat.reduceEqDiff, ↓reduceIte, if_true, if_false, eq_self, Nat.reduceAdd, Nat.reduceMul, Nat.reduceSub, forall_const, oneCellS, litOne, flat1, Kd.isSca, flat, TYB]
  refine loop_intro (fun i : Nat => [(2, .ptr 0 0), (3, .ptr 1 0), (8, .arr R), (9, .int i)]) (fun _ => [(0, .ints R 27), (1, .ints D 40)]) 2 (fun i => i ≤ 6 ∧ ∀ k, k < i → (layN (tubeAt R k) : Int) ≤ D.getD k 0) (fun i => 6 - i) ?_ ?_
  · refine ⟨0, ⟨by omega, by omega⟩, Sub.mk_id ?_ ?_ ?_ ?_ ?_⟩
    all_goals simp only [LB, subS, subH, wfS, wfH, SV.ren, renL, SObj.ren, SV.wf, SObj.wf, wfL, SV.known, Nat.reduceEqDiff, ↓reduceIte, if_true, if_false, eq_self, Nat.reduceAdd, Nat.reduceLT, Nat.reduceLeDiff, implies_true, reduceCtorEq, forall_const]
    all_goals simp
  · intro i hi
    obtain ⟨hi1, hi2⟩ := hi
    have eT : List.take 4 (List.drop (i * 4) R) = tubeAt R i := rfl
    simp -implicitDefEqProofs only [lk_normal, layers_F, hR, hD, eT, ZB, Int.reduceToNat, Nat.reduceLT, Nat.reduceLeDiff, Int.reduceLE, Int.reduceLT, Nat.reduceEqDiff, Nat.reduceSub, SB, SV.known, packR, ne_eq, reduceCtorEq, Nat.reduceEqDiff, ↓reduceIte, if_true, if_false, eq_self, Nat.reduceAdd, Nat.reduceMul, Nat.reduceSub, forall_const, oneCellS, litOne, flat1, Kd.isSca, flat, TYB]
    refine ⟨fun hx => ?_, fun hx => ?_⟩
    · have hlt : i < 6 := by omega
      have hl := tubeAt_len hR hlt
      have tk3 : (tubeAt R i).take 4 = tubeAt R i := List.take_of_length_le (by omega)
      simp only [hl, tk3, List.append_nil, List.replicate_zero, Nat.le_refl, true_and, ZB, Int.reduceToNat, Nat.reduceLT, Nat.reduceLeDiff, Int.reduceLE, Int.reduceLT, Nat.reduceEqDiff, Nat.reduceSub]
      (try (and_intros <;> try (first | omega | (unfold In64; omega) | trivial | assumption)))
      all_goals intro hp
      · rw [fit_hit hlt (by omega)]
      · (try (and_intros <;> try (first | omega | (unfold In64; omega) | trivial | assumption)))
        refine ⟨i + 1, ⟨by omega, fun k hk => ?_⟩, by omega, Sub.mk_id ?_ ?_ ?_ ?_ ?_⟩
        · by_cases hki : k = i
          · subst hki; omega
          · exact hi2 k (by omega)
        all_goals simp only [LB, subS, subH, wfS, wfH, SV.ren, renL, SObj.ren, SV.wf, SObj.wf, wfL, SV.known, Nat.reduceEqDiff, ↓reduceIte, if_true, if_false, eq_self, Nat.reduceAdd, Nat.reduceLT, Nat.reduceLeDiff, implies_true, reduceCtorEq, forall_const]
    · obtain rfl : i = 6 := by omega
      rw [fit_none hi2]
def fits_F : List SV → Heap → Option (Prop × SV)
  | [.arr R, .arr D], _ => some (R.length = 24 ∧ D.length = 6, .bool (fitF R D))
  | _, _ => none
theorem fits_T : ∀ args H p v, fits_F args H = some (p, v) → p → PureH Try.prog 133 args H v := by
  intro args H p v h hp
  unfold fits_F at h
  split at h
  · cases h; exact (fits_ok _ _ hp.1 hp.2).any _
  · cases h
--@tbl l8Fits = spec.l8Fits
theorem l8Fits_ok (R D : List Int) (hR : R.length = 24) (hD : D.length = 6) (hr : rackB R = true) (hd : D.all isDep = true) : PureH Try.prog 90 [.arr R, .arr D] [] (.bool (fitF R D)) := by
  have tk1 : R.take 24 = R := List.take_of_length_le (by omega)
  have tk2 : D.take 6 = D := List.take_of_length_le (by omega)
  refine pure_of_vc (X := ⟨Try.prog, tys, [(85, l2Many_F), (59, l2Rack_F), (130, l8Depths_F)], [], true, true, 0, [], []⟩) fn_90 ⟨tys_ok, (.cons l2Many_T (.cons l2Rack_T (.cons l8Depths_T .nil))), .nil, mixed⟩ (n0 := 0) (Nat.le_of_ble_eq_true rfl) (by simp [wfL, SV.wf]) (wfH_spec (by simp [wfH, SObj.wf])) (Nat.le_refl _) (fun _ => by simp [SV.wf, wfL]) ?_
  simp -implicitDefEqProofs only [Try.f90, Option.getD_some, argS, l2Many_F, l2Rack_F, l8Depths_F, hR, hD, hr, hd, tk1, tk2, ZB, Int.reduceToNat, Nat.reduceLT, Nat.reduceLeDiff, Int.reduceLE, Int.reduceLT, Nat.reduceEqDiff, Nat.reduceSub, SB, SV.known, packR, ne_eq, reduceCtorEq, Nat.reduceEqDiff, ↓reduceIte, if_true, if_false, eq_self, Nat.reduceAdd, Nat.reduceMul, Nat.reduceSub, forall_const, oneCellS, litOne, flat1, Kd.isSca, flat, TYB]
  refine loop_intro (fun i : Nat => [(2, .ptr 0 0), (3, .ptr 1 0), (5, .int i)]) (fun _ => [(0, .ints R 27), (1, .ints D 40)]) 2 (fun i => i ≤ 6 ∧ ∀ k, k < i → (layN (tubeAt R k) : Int) ≤ D.getD k 0) (fun i => 6 - i) ?_ ?_
  · refine ⟨0, ⟨by omega, by omega⟩, Sub.mk_id ?_ ?_ ?_ ?_ ?_⟩
    all_goals simp only [LB, subS, subH, wfS, wfH, SV.ren, renL, SObj.ren, SV.wf, SObj.wf, wfL, SV.known, Nat.reduceEqDiff, ↓reduceIte, if_true, if_false, eq_self, Nat.reduceAdd, Nat.reduceLT, Nat.reduceLeDiff, implies_true, reduceCtorEq, forall_const]
    all_goals simp
  · intro i hi
    obtain ⟨hi1, hi2⟩ := hi
    have eT : List.take 4 (List.drop (i * 4) R) = tubeAt R i := rfl
    simp -implicitDefEqProofs only [lk_normal, l2Many_F, l2Rack_F, l8Depths_F, hR, hD, hr, hd, tk1, tk2, eT, ZB, Int.reduceToNat, Nat.reduceLT, Nat.reduceLeDiff, Int.reduceLE, Int.reduceLT, Nat.reduceEqDiff, Nat.reduceSub, SB, SV.known, packR, ne_eq, reduceCtorEq, Nat.reduceEqDiff, ↓reduceIte, if_true, if_false, eq_self, Nat.reduceAdd, Nat.reduceMul, Nat.reduceSub, forall_const, oneCellS, litOne, flat1, Kd.isSca, flat, TYB]
    refine ⟨fun hx => ?_, fun hx => ?_⟩
    · have hlt : i < 6 := by omega
      have hl := tubeAt_len hR hlt
      have ep := posC_lay _ hl (tubeAt_ok hr hlt)
      simp only [hl, ep]
      (try (and_intros <;> try (first | omega | (unfold In64; omega) | trivial | assumption)))
      all_goals intro hp
      · rw [fit_hit hlt (by omega)]
      · (try (and_intros <;> try (first | omega | (unfold In64; omega) | trivial | assumption)))
        refine ⟨i + 1, ⟨by omega, fun k hk => ?_⟩, by omega, Sub.mk_id ?_ ?_ ?_ ?_ ?_⟩
        · by_cases hki : k = i
          · subst hki; omega
          · exact hi2 k (by omega)
        all_goals simp only [LB, subS, subH, wfS, wfH, SV.ren, renL, SObj.ren, SV.wf, SObj.wf, wfL, SV.known, Nat.reduceEqDiff, ↓reduceIte, if_true, if_false, eq_self, Nat.reduceAdd, Nat.reduceLT, Nat.reduceLeDiff, implies_true, reduceCtorEq, forall_const]
    · obtain rfl : i = 6 := by omega
      rw [fit_none hi2]
def l8Fits_F : List SV → Heap → Option (Prop × SV)
  | [.arr R, .arr D], _ => some (R.length = 24 ∧ D.length = 6 ∧ rackB R = true ∧ D.all isDep = true, .bool (fitF R D))
  | _, _ => none
theorem l8Fits_T : ∀ args H p v, l8Fits_F args H = some (p, v) → p → PureH Try.prog 90 args H v := by
  intro args H p v h hp
  unfold l8Fits_F at h
  split at h
  · cases h; exact (l8Fits_ok _ _ hp.1 hp.2.1 hp.2.2.1 hp.2.2.2).any _
  · cases h
--@tbl FitsDepths = impl.FitsDepths
--@tbl sFitsDepths = spec.FitsDepths
def fdB (R D : List Int) : Bool := rackB R && D.all isDep
def fdF (R D : List Int) : Bool := rackB R && D.all isDep && fitF R D
end Go.Proofs.Ytnlbljikbonioaa
