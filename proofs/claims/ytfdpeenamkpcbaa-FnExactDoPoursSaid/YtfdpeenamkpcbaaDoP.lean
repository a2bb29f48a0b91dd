/- Walks: DoPours. -/
import Derived.Test.YtfdpeenamkpcbaaPath
set_option maxRecDepth 100000
set_option linter.unusedSimpArgs false
set_option linter.unusedVariables false
namespace Go.Proofs.Ytfdpeenamkpcbaa
open Go Go.RowKit
theorem pmN_bd {R : List Int} (hR : R.length = 24) {i j : Nat} (hi : i ≤ 5) (hj : j ≤ 5) : 0 ≤ pmN R i j ∧ pmN R i j ≤ 4 := by
  have l0 := tubeAt_len hR (i := i) (by omega)
  have l1 := tubeAt_len hR (i := j) (by omega)
  have h0 := topF_le _ l0
  have h1 := lay_le _ l1
  have h2 := lay_le _ l0
  unfold pmN
  omega
def paS (R L : List Int) : Nat → Int
  | 0 => 0
  | k + 1 => paS R L k + pmN (paR R L k) (L.getD (k * 2) 0).toNat (L.getD (k * 2 + 1) 0).toNat
theorem paS_zero (R L : List Int) : paS R L 0 = 0 := rfl
theorem paS_succ (R L : List Int) (k : Nat) : paS R L (k + 1) = paS R L k + pmN (paR R L k) (L.getD (k * 2) 0).toNat (L.getD (k * 2 + 1) 0).toNat := rfl
theorem paS_bd {R L : List Int} (hR : R.length = 24) (hr : rackB R = true) : ∀ k, (∀ i, i < k → paC R L i = true) → 0 ≤ paS R L k ∧ paS R L k ≤ 4 * (k : Int)
  | 0, _ => by simp [paS_zero]
  | k + 1, h => by
    have ih := paS_bd hR hr k fun i hi => h i (by omega)
    have q := paR_facts hR hr k fun i hi => h i (by omega)
    have c := cppB_facts (h k (by omega))
    have := pmN_bd q.1 (i := (L.getD (k * 2) 0).toNat) (j := (L.getD (k * 2 + 1) 0).toNat) (by omega) (by omega)
    rw [paS_succ]
    omega
def doB (R L : List Int) (len : Nat) : Bool := (List.range len).all (paC R L)
theorem doB_true {R L : List Int} {len : Nat} (h : ∀ i, i < len → paC R L i = true) : doB R L len = true := by
  unfold doB; rw [List.all_eq_true]; intro i hi; exact h i (List.mem_range.1 hi)
theorem doB_false {R L : List Int} {len i : Nat} (hi : i < len) (h : paC R L i = false) : doB R L len = false := by
  unfold doB; rw [List.all_eq_false]; exact ⟨i, List.mem_range.2 hi, by simp [h]⟩
def doT (R L : List Int) (len : Nat) : List SV := if (rackB R && doB R L len) = true then [.arr (paR R L len), .int (paS R L len), .bool true] else [.arr (List.replicate 24 0), .int 0, .bool false]
theorem doT_stop {R L : List Int} {len i : Nat} (hi : i < len) (h : paC R L i = false) : doT R L len = [.arr (List.replicate 24 0), .int 0, .bool false] := by
  unfold doT; rw [doB_false hi h, Bool.and_false]; rfl
theorem doT_end {R L : List Int} {len : Nat} (hr : rackB R = true) (h : ∀ i, i < len → paC R L i = true) : doT R L len = [.arr (paR R L len), .int (paS R L len), .bool true] := by
  unfold doT; rw [doB_true h, hr]; rfl
theorem doT_bad {R L : List Int} {len : Nat} (hr : rackB R = false) : doT R L len = [.arr (List.replicate 24 0), .int 0, .bool false] := by
  unfold doT; rw [hr]; rfl
theorem paC_eq (R L : List Int) (k : Nat) : paC R L k = (plF (L.getD (k * 2) 0) && plF (L.getD (k * 2 + 1) 0) && canF (paR R L k) (L.getD (k * 2) 0) (L.getD (k * 2 + 1) 0)) := rfl
theorem paR_len {R L : List Int} (hR : R.length = 24) : ∀ k, (paR R L k).length = 24
  | 0 => hR
  | k + 1 => pourF_len (paR_len hR k) _ _
theorem doT_three {R L : List Int} {len : Nat} (hR : R.length = 24) : ∃ T n b, doT R L len = [.arr T, .int n, .bool b] ∧ T.length = 24 := by
  unfold doT
  split
  · exact ⟨_, _, _, rfl, paR_len hR len⟩
  · exact ⟨_, _, _, rfl, by simp⟩
attribute [local irreducible] pourF canF cppB pmN
--@tbl doPours = impl.doPours
theorem doPours_ok (R L : List Int) (e len cap : Nat) (hR : R.length = 24) (hr : rackB R = true) (hL : len * 2 ≤ L.length) (hl : len ≤ 1048576) : PureH Try.prog 48 [.arr R, .slice 0 0 len cap] [(0, .ints L e)] (.tup (doT R L len)) := by
  have tkR : R.take 24 = R := List.take_of_length_le (by omega)
  have r24 : List.take 24 (List.replicate 24 (0 : Int)) = List.replicate 24 0 := rfl
  obtain ⟨T, n, b, hT, hTl⟩ := doT_three (R := R) (L := L) (len := len) hR
  rw [hT]
  refine pure_of_vc (X := ⟨Try.prog, tys, [(97, isPlace_F), (98, canPour_F), (99, pour_F)], [], true, true, 1, [], []⟩) fn_48 ⟨tys_ok, (.cons isPlace_T (.cons canPour_T (.cons pour_T .nil))), .nil, mixed⟩ (n0 := 1) (Nat.le_of_ble_eq_true rfl) (by simp [wfL, SV.wf]) (wfH_spec (by simp [wfH, SObj.wf])) (Nat.le_refl _) (fun _ => by simp [SV.wf, wfL]) ?_
  simp -implicitDefEqProofs only [Try.f48, Option.getD_some, argS, isPlace_F, canPour_F, pour_F, hR, tkR, hr, r24, ZB, Int.reduceToNat, Nat.reduceLT, Nat.reduceLeDiff, Int.reduceLE, Int.reduceLT, Nat.reduceEqDiff, Nat.reduceSub, SB, SV.known, packR, ne_eq, reduceCtorEq, Nat.reduceEqDiff, ↓reduceIte, if_true, if_false, eq_self, Nat.reduceAdd, Nat.reduceMul, Nat.reduceSub, forall_const, oneCellS, Kd.isSca, flat, TYB]
  refine loop_intro (fun i : Nat => [(14, .int i), (13, .int len), (12, .slice 0 0 len cap), (7, .int (paS R L i)), (6, .bool false), (5, .int 0), (4, .ptr 2 0), (2, .ptr 1 0)]) (fun i => [(2, .ints (List.replicate 24 0) 28), (1, .ints (paR R L i) 28), (0, .ints L e)]) 3 (fun i => i ≤ len ∧ ∀ q, q < i → paC R L q = true) (fun i => len - i) ?_ ?_
  · refine ⟨0, ?_, Sub.mk_id ?_ ?_ ?_ ?_ ?_⟩
    all_goals (try (simp only [paR_zero, paS_zero, LB, subS, subH, wfS, wfH, SV.ren, renL, SObj.ren, SV.wf, SObj.wf, wfL, SV.known, Nat.reduceEqDiff, ↓reduceIte, if_true, if_false, eq_self, Nat.reduceAdd, Nat.reduceLT, Nat.reduceLeDiff, implies_true, reduceCtorEq, forall_const]; done))
    all_goals (try (simp only [paR_zero, paS_zero, LB, subS, subH, wfS, wfH, SV.ren, renL, SObj.ren, SV.wf, SObj.wf, wfL, SV.known, Nat.reduceEqDiff, ↓reduceIte, if_true, if_false, eq_self, Nat.reduceAdd, Nat.reduceLT, Nat.reduceLeDiff, implies_true, reduceCtorEq, forall_const]; simp; done))
    all_goals (try (simp only [paR_zero, paS_zero, LB, subS, subH, wfS, wfH, SV.ren, renL, SObj.ren, SV.wf, SObj.wf, wfL, SV.known, Nat.reduceEqDiff, ↓reduceIte, if_true, if_false, eq_self, Nat.reduceAdd, Nat.reduceLT, Nat.reduceLeDiff, implies_true, reduceCtorEq, forall_const]; (and_intros <;> (first | omega | rfl | (simp; done) | (simp; omega))); done))
    all_goals (try dsimp only)
    all_goals (and_intros <;> try (first | omega | (unfold In64; omega) | trivial | assumption))
  · rintro i ⟨hi, hall⟩
    obtain ⟨qR, qr⟩ := paR_facts hR hr i hall
    have bS := paS_bd hR hr i hall
    have tkQ : (paR R L i).take 24 = paR R L i := List.take_of_length_le (by omega)
    have dQ : List.drop 24 (paR R L i) = [] := List.drop_eq_nil_of_le (by omega)
    by_cases hlt : i < len
    · have hil : (i : Int) < len := by omega
      have eP : List.take 2 (List.drop (i * 2) L) = [L.getD (i * 2) 0, L.getD (i * 2 + 1) 0] := take2_drop _ _ (by omega)
      have ec : paC R L i = (plF (L.getD (i * 2) 0) && plF (L.getD (i * 2 + 1) 0) && canF (paR R L i) (L.getD (i * 2) 0) (L.getD (i * 2 + 1) 0)) := paC_eq R L i
      have pl := pourF_len qR (L.getD (i * 2) 0).toNat (L.getD (i * 2 + 1) 0).toNat
      have tkp : (pourF (paR R L i) (L.getD (i * 2) 0).toNat (L.getD (i * 2 + 1) 0).toNat).take 24 = pourF (paR R L i) (L.getD (i * 2) 0).toNat (L.getD (i * 2 + 1) 0).toNat := List.take_of_length_le (by omega)
      have stop : paC R L i = false → T = List.replicate 24 0 ∧ n = 0 ∧ b = false := fun h => by
        have := hT.symm.trans (doT_stop hlt h)
        simpa using this
      cases h1 : plF (L.getD (i * 2) 0) with
      | false =>
        obtain ⟨rfl, rfl, rfl⟩ := stop (by rw [ec, h1]; rfl)
        simp -implicitDefEqProofs only [lk_normal, isPlace_F, hil, eP, h1, r24, List.getD_cons_zero, List.getD_cons_succ, ZB, Int.reduceToNat, Nat.reduceLT, Nat.reduceLeDiff, Int.reduceLE, Int.reduceLT, Nat.reduceEqDiff, Nat.reduceSub, SB, SV.known, packR, ne_eq, reduceCtorEq, Nat.reduceEqDiff, ↓reduceIte, if_true, if_false, eq_self, Nat.reduceAdd, Nat.reduceMul, Nat.reduceSub, forall_const, oneCellS, Kd.isSca, flat, TYB]
        (try (and_intros <;> try (first | omega | (unfold In64; omega) | trivial | assumption)))
      | true =>
        cases h2 : plF (L.getD (i * 2 + 1) 0) with
        | false =>
          obtain ⟨rfl, rfl, rfl⟩ := stop (by rw [ec, h1, h2]; rfl)
          simp -implicitDefEqProofs only [lk_normal, isPlace_F, hil, eP, h1, h2, r24, List.getD_cons_zero, List.getD_cons_succ, ZB, Int.reduceToNat, Nat.reduceLT, Nat.reduceLeDiff, Int.reduceLE, Int.reduceLT, Nat.reduceEqDiff, Nat.reduceSub, SB, SV.known, packR, ne_eq, reduceCtorEq, Nat.reduceEqDiff, ↓reduceIte, if_true, if_false, eq_self, Nat.reduceAdd, Nat.reduceMul, Nat.reduceSub, forall_const, oneCellS, Kd.isSca, flat, TYB]
          (try (and_intros <;> try (first | omega | (unfold In64; omega) | trivial | assumption)))
        | true =>
          have b1 : 0 ≤ L.getD (i * 2) 0 ∧ L.getD (i * 2) 0 ≤ 5 := of_decide_eq_true h1
          have b2 : 0 ≤ L.getD (i * 2 + 1) 0 ∧ L.getD (i * 2 + 1) 0 ≤ 5 := of_decide_eq_true h2
          have pb := pmN_bd qR (i := (L.getD (i * 2) 0).toNat) (j := (L.getD (i * 2 + 1) 0).toNat) (by omega) (by omega)
          cases hc : canF (paR R L i) (L.getD (i * 2) 0) (L.getD (i * 2 + 1) 0) with
          | false =>
            obtain ⟨rfl, rfl, rfl⟩ := stop (by rw [ec, h1, h2, hc]; rfl)
            simp -implicitDefEqProofs only [lk_normal, isPlace_F, canPour_F, hil, eP, h1, h2, hc, qR, tkQ, r24, List.getD_cons_zero, List.getD_cons_succ, ZB, Int.reduceToNat, Nat.reduceLT, Nat.reduceLeDiff, Int.reduceLE, Int.reduceLT, Nat.reduceEqDiff, Nat.reduceSub, SB, SV.known, packR, ne_eq, reduceCtorEq, Nat.reduceEqDiff, ↓reduceIte, if_true, if_false, eq_self, Nat.reduceAdd, Nat.reduceMul, Nat.reduceSub, forall_const, oneCellS, Kd.isSca, flat, TYB]
            (try (and_intros <;> try (first | omega | (unfold In64; omega) | trivial | assumption)))
          | true =>
            have hp : paC R L i = true := by rw [ec, h1, h2, hc]; rfl
            simp -implicitDefEqProofs only [lk_normal, isPlace_F, canPour_F, pour_F, hil, eP, h1, h2, hc, qR, qr, tkQ, dQ, pl, tkp, List.getD_cons_zero, List.getD_cons_succ, ZB, Int.reduceToNat, Nat.reduceLT, Nat.reduceLeDiff, Int.reduceLE, Int.reduceLT, Nat.reduceEqDiff, Nat.reduceSub, SB, SV.known, packR, ne_eq, reduceCtorEq, Nat.reduceEqDiff, ↓reduceIte, if_true, if_false, eq_self, Nat.reduceAdd, Nat.reduceMul, Nat.reduceSub, forall_const, oneCellS, Kd.isSca, flat, TYB]
            (try (and_intros <;> try (first | omega | (unfold In64; omega) | trivial | assumption)))
            refine ⟨i + 1, ?_, ?_, Sub.mk_id ?_ ?_ ?_ ?_ ?_⟩
            all_goals (try (simp only [paR_succ, paS_succ, LB, subS, subH, wfS, wfH, SV.ren, renL, SObj.ren, SV.wf, SObj.wf, wfL, SV.known, Nat.reduceEqDiff, ↓reduceIte, if_true, if_false, eq_self, Nat.reduceAdd, Nat.reduceLT, Nat.reduceLeDiff, implies_true, reduceCtorEq, forall_const]; done))
            all_goals (try (simp only [paR_succ, paS_succ, LB, subS, subH, wfS, wfH, SV.ren, renL, SObj.ren, SV.wf, SObj.wf, wfL, SV.known, Nat.reduceEqDiff, ↓reduceIte, if_true, if_false, eq_self, Nat.reduceAdd, Nat.reduceLT, Nat.reduceLeDiff, implies_true, reduceCtorEq, forall_const]; simp; done))
            all_goals (try (simp only [paR_succ, paS_succ, LB, subS, subH, wfS, wfH, SV.ren, renL, SObj.ren, SV.wf, SObj.wf, wfL, SV.known, Nat.reduceEqDiff, ↓reduceIte, if_true, if_false, eq_self, Nat.reduceAdd, Nat.reduceLT, Nat.reduceLeDiff, implies_true, reduceCtorEq, forall_const]; (and_intros <;> (first | omega | rfl | (simp; done) | (simp; omega))); done))
            all_goals (try dsimp only)
            all_goals (and_intros <;> try (first | omega | (unfold In64; omega) | trivial | assumption))
            all_goals (intro q hq; by_cases hqi : q = i)
            · subst hqi; exact hp
            · exact hall q (by omega)
    · have hil : ¬ (i : Int) < len := by omega
      obtain rfl : i = len := by omega
      have hE := hT.symm.trans (doT_end hr hall)
      simp only [List.cons.injEq, SV.arr.injEq, SV.int.injEq, SV.bool.injEq, and_true] at hE
      obtain ⟨rfl, rfl, rfl⟩ := hE
      simp -implicitDefEqProofs only [lk_normal, hil, qR, tkQ, ZB, Int.reduceToNat, Nat.reduceLT, Nat.reduceLeDiff, Int.reduceLE, Int.reduceLT, Nat.reduceEqDiff, Nat.reduceSub, SB, SV.known, packR, ne_eq, reduceCtorEq, Nat.reduceEqDiff, ↓reduceIte, if_true, if_false, eq_self, Nat.reduceAdd, Nat.reduceMul, Nat.reduceSub, forall_const, oneCellS, Kd.isSca, flat, TYB]
def doPours_F : List SV → Heap → Option (Prop × SV)
  | [.arr R, .slice b 0 len _], H => match hget H b with
    | some (.ints L _) => some (R.length = 24 ∧ rackB R = true ∧ len * 2 ≤ L.length ∧ len ≤ 1048576, .tup (doT R L len))
    | _ => none
  | _, _ => none
theorem doT_wf (R L : List Int) (len n : Nat) : (SV.tup (doT R L len)).wf n := by unfold doT; split <;> simp [SV.wf, wfL]
theorem doPours_T : ∀ args H p v, doPours_F args H = some (p, v) → p → PureH Try.prog 48 args H v := by
  intro args H p v h hp
  unfold doPours_F at h
  split at h
  · split at h
    · rename_i L e hb
      cases h
      exact one_block (doPours_ok _ L e _ _ hp.1 hp.2.1 hp.2.2.1 hp.2.2.2) hb rfl (fun _ => doT_wf _ _ _ _)
    · cases h
  · cases h
--@tbl DoPours = impl.DoPours
theorem DoPours_ok (R L : List Int) (e len cap : Nat) (hR : R.length = 24) (hL : len * 2 ≤ L.length) (hl : len ≤ 1048576) : PureH Try.prog 15 [.arr R, .slice 0 0 len cap] [(0, .ints L e)] (.tup (doT R L len)) := by
  have tkR : R.take 24 = R := List.take_of_length_le (by omega)
  have r24 : List.take 24 (List.replicate 24 (0 : Int)) = List.replicate 24 0 := rfl
  cases hr : rackB R
  · rw [doT_bad hr]
    refine pure_of_vc (X := ⟨Try.prog, tys, [(47, IsRack_F), (48, doPours_F)], [], true, true, 1, [], []⟩) fn_15 ⟨tys_ok, (.cons IsRack_T (.cons doPours_T .nil)), .nil, mixed⟩ (n0 := 1) (Nat.le_of_ble_eq_true rfl) (by simp [wfL, SV.wf]) (wfH_spec (by simp [wfH, SObj.wf])) (Nat.le_refl _) (fun _ => by simp [SV.wf, wfL]) ?_
    simp -implicitDefEqProofs only [Try.f15, Option.getD_some, argS, IsRack_F, doPours_F, hR, tkR, hr, r24, ZB, Int.reduceToNat, Nat.reduceLT, Nat.reduceLeDiff, Int.reduceLE, Int.reduceLT, Nat.reduceEqDiff, Nat.reduceSub, SB, SV.known, packR, ne_eq, reduceCtorEq, Nat.reduceEqDiff, ↓reduceIte, if_true, if_false, eq_self, Nat.reduceAdd, Nat.reduceMul, Nat.reduceSub, forall_const, oneCellS, Kd.isSca, flat, TYB]
  · obtain ⟨T, n, b, hT, hTl⟩ := doT_three (R := R) (L := L) (len := len) hR
    have tkT : T.take 24 = T := List.take_of_length_le (by omega)
    rw [hT]
    refine pure_of_vc (X := ⟨Try.prog, tys, [(47, IsRack_F), (48, doPours_F)], [], true, true, 1, [], []⟩) fn_15 ⟨tys_ok, (.cons IsRack_T (.cons doPours_T .nil)), .nil, mixed⟩ (n0 := 1) (Nat.le_of_ble_eq_true rfl) (by simp [wfL, SV.wf]) (wfH_spec (by simp [wfH, SObj.wf])) (Nat.le_refl _) (fun _ => by simp [SV.wf, wfL]) ?_
    simp -implicitDefEqProofs only [Try.f15, Option.getD_some, argS, IsRack_F, doPours_F, hR, tkR, hr, r24, hT, hTl, tkT, hL, hl, ZB, Int.reduceToNat, Nat.reduceLT, Nat.reduceLeDiff, Int.reduceLE, Int.reduceLT, Nat.reduceEqDiff, Nat.reduceSub, SB, SV.known, packR, ne_eq, reduceCtorEq, Nat.reduceEqDiff, ↓reduceIte, if_true, if_false, eq_self, Nat.reduceAdd, Nat.reduceMul, Nat.reduceSub, forall_const, oneCellS, Kd.isSca, flat, TYB]
--@tbl sDoPours = spec.DoPours
theorem sDoPours_ok (R L : List Int) (e len cap : Nat) (hR : R.length = 24) (hL : len * 2 ≤ L.length) (hl : len ≤ 1048576) : PureH Try.prog 12 [.arr R, .slice 0 0 len cap] [(0, .ints L e)] (.tup (doT R L len)) := by
  have tkR : R.take 24 = R := List.take_of_length_le (by omega)
  have r24 : List.take 24 (List.replicate 24 (0 : Int)) = List.replicate 24 0 := rfl
  cases hr : rackB R
  · rw [doT_bad hr]
    refine pure_of_vc (X := ⟨Try.prog, tys, [(43, l2Rack_F), (44, sPour_F)], [], true, true, 1, [], []⟩) fn_12 ⟨tys_ok, (.cons l2Rack_T (.cons sPour_T .nil)), .nil, mixed⟩ (n0 := 1) (Nat.le_of_ble_eq_true rfl) (by simp [wfL, SV.wf]) (wfH_spec (by simp [wfH, SObj.wf])) (Nat.le_refl _) (fun _ => by simp [SV.wf, wfL]) ?_
    simp -implicitDefEqProofs only [Try.f12, Option.getD_some, argS, l2Rack_F, sPour_F, hR, tkR, hr, r24, ZB, Int.reduceToNat, Nat.reduceLT, Nat.reduceLeDiff, Int.reduceLE, Int.reduceLT, Nat.reduceEqDiff, Nat.reduceSub, SB, SV.known, packR, ne_eq, reduceCtorEq, Nat.reduceEqDiff, ↓reduceIte, if_true, if_false, eq_self, Nat.reduceAdd, Nat.reduceMul, Nat.reduceSub, forall_const, oneCellS, Kd.isSca, flat, TYB]
  · obtain ⟨T, n, b, hT, hTl⟩ := doT_three (R := R) (L := L) (len := len) hR
    rw [hT]
    refine pure_of_vc (X := ⟨Try.prog, tys, [(43, l2Rack_F), (44, sPour_F)], [], true, true, 1, [], []⟩) fn_12 ⟨tys_ok, (.cons l2Rack_T (.cons sPour_T .nil)), .nil, mixed⟩ (n0 := 1) (Nat.le_of_ble_eq_true rfl) (by simp [wfL, SV.wf]) (wfH_spec (by simp [wfH, SObj.wf])) (Nat.le_refl _) (fun _ => by simp [SV.wf, wfL]) ?_
    simp -implicitDefEqProofs only [Try.f12, Option.getD_some, argS, l2Rack_F, sPour_F, hR, tkR, hr, r24, ZB, Int.reduceToNat, Nat.reduceLT, Nat.reduceLeDiff, Int.reduceLE, Int.reduceLT, Nat.reduceEqDiff, Nat.reduceSub, SB, SV.known, packR, ne_eq, reduceCtorEq, Nat.reduceEqDiff, ↓reduceIte, if_true, if_false, eq_self, Nat.reduceAdd, Nat.reduceMul, Nat.reduceSub, forall_const, oneCellS, Kd.isSca, flat, TYB]
    refine loop_intro (fun i : Nat => [(8, .int i), (7, .int (paS R L i)), (6, .bool false), (5, .int 0), (4, .ptr 2 0), (2, .ptr 1 0), (1, .slice 0 0 len cap)]) (fun i => [(2, .ints (List.replicate 24 0) 28), (1, .ints (paR R L i) 28), (0, .ints L e)]) 3 (fun i => i ≤ len ∧ ∀ q, q < i → paC R L q = true) (fun i => len - i) ?_ ?_
    · refine ⟨0, ?_, Sub.mk_id ?_ ?_ ?_ ?_ ?_⟩
      all_goals (try (simp only [paR_zero, paS_zero, LB, subS, subH, wfS, wfH, SV.ren, renL, SObj.ren, SV.wf, SObj.wf, wfL, SV.known, Nat.reduceEqDiff, ↓reduceIte, if_true, if_false, eq_self, Nat.reduceAdd, Nat.reduceLT, Nat.reduceLeDiff, implies_true, reduceCtorEq, forall_const]; done))
      all_goals (try (simp only [paR_zero, paS_zero, LB, subS, subH, wfS, wfH, SV.ren, renL, SObj.ren, SV.wf, SObj.wf, wfL, SV.known, Nat.reduceEqDiff, ↓reduceIte, if_true, if_false, eq_self, Nat.reduceAdd, Nat.reduceLT, Nat.reduceLeDiff, implies_true, reduceCtorEq, forall_const]; simp; done))
      all_goals (try (simp only [paR_zero, paS_zero, LB, subS, subH, wfS, wfH, SV.ren, renL, SObj.ren, SV.wf, SObj.wf, wfL, SV.known, Nat.reduceEqDiff, ↓reduceIte, if_true, if_false, eq_self, Nat.reduceAdd, Nat.reduceLT, Nat.reduceLeDiff, implies_true, reduceCtorEq, forall_const]; (and_intros <;> (first | omega | rfl | (simp; done) | (simp; omega))); done))
      all_goals (try dsimp only)
      all_goals (and_intros <;> try (first | omega | (unfold In64; omega) | trivial | assumption))
    · rintro i ⟨hi, hall⟩
      obtain ⟨qR, qr⟩ := paR_facts hR hr i hall
      have bS := paS_bd hR hr i hall
      have tkQ : (paR R L i).take 24 = paR R L i := List.take_of_length_le (by omega)
      have dQ : List.drop 24 (paR R L i) = [] := List.drop_eq_nil_of_le (by omega)
      by_cases hlt : i < len
      · have hil : (i : Int) < len := by omega
        have eP : List.take 2 (List.drop (i * 2) L) = [L.getD (i * 2) 0, L.getD (i * 2 + 1) 0] := take2_drop _ _ (by omega)
        have ec : paC R L i = (plF (L.getD (i * 2) 0) && plF (L.getD (i * 2 + 1) 0) && canF (paR R L i) (L.getD (i * 2) 0) (L.getD (i * 2 + 1) 0)) := paC_eq R L i
        have pl := pourF_len qR (L.getD (i * 2) 0).toNat (L.getD (i * 2 + 1) 0).toNat
        have tkp : (pourF (paR R L i) (L.getD (i * 2) 0).toNat (L.getD (i * 2 + 1) 0).toNat).take 24 = pourF (paR R L i) (L.getD (i * 2) 0).toNat (L.getD (i * 2 + 1) 0).toNat := List.take_of_length_le (by omega)
        have stop : paC R L i = false → T = List.replicate 24 0 ∧ n = 0 ∧ b = false := fun h => by
          have := hT.symm.trans (doT_stop hlt h)
          simpa using this
        have ep : pourB (paR R L i) (L.getD (i * 2) 0) (L.getD (i * 2 + 1) 0) = paC R L i := by rw [ec]; unfold pourB; rw [qr]; simp
        cases hc : paC R L i with
        | false =>
          rw [hc] at ep
          obtain ⟨rfl, rfl, rfl⟩ := stop hc
          have eT : pourT (paR R L i) (L.getD (i * 2) 0) (L.getD (i * 2 + 1) 0) = List.replicate 24 0 := by unfold pourT; rw [ep]; rfl
          have eM : pourM (paR R L i) (L.getD (i * 2) 0) (L.getD (i * 2 + 1) 0) = 0 := by unfold pourM; rw [ep]; rfl
          simp -implicitDefEqProofs only [lk_normal, sPour_F, hil, ep, eT, eM, qR, tkQ, r24, List.length_replicate, ZB, Int.reduceToNat, Nat.reduceLT, Nat.reduceLeDiff, Int.reduceLE, Int.reduceLT, Nat.reduceEqDiff, Nat.reduceSub, SB, SV.known, packR, ne_eq, reduceCtorEq, Nat.reduceEqDiff, ↓reduceIte, if_true, if_false, eq_self, Nat.reduceAdd, Nat.reduceMul, Nat.reduceSub, forall_const, oneCellS, Kd.isSca, flat, TYB]
          (try (and_intros <;> try (first | omega | (unfold In64; omega) | trivial | assumption)))
        | true =>
          rw [hc] at ep
          have b12 := cppB_facts (show cppB (paR R L i) (L.getD (i * 2) 0) (L.getD (i * 2 + 1) 0) = true from hc)
          have pb := pmN_bd qR (i := (L.getD (i * 2) 0).toNat) (j := (L.getD (i * 2 + 1) 0).toNat) (by omega) (by omega)
          have eT : pourT (paR R L i) (L.getD (i * 2) 0) (L.getD (i * 2 + 1) 0) = pourF (paR R L i) (L.getD (i * 2) 0).toNat (L.getD (i * 2 + 1) 0).toNat := by unfold pourT; rw [ep]; rfl
          have eM : pourM (paR R L i) (L.getD (i * 2) 0) (L.getD (i * 2 + 1) 0) = pmN (paR R L i) (L.getD (i * 2) 0).toNat (L.getD (i * 2 + 1) 0).toNat := by unfold pourM; rw [ep]; rfl
          simp -implicitDefEqProofs only [lk_normal, sPour_F, hil, ep, eT, eM, qR, qr, tkQ, dQ, pl, tkp, ZB, Int.reduceToNat, Nat.reduceLT, Nat.reduceLeDiff, Int.reduceLE, Int.reduceLT, Nat.reduceEqDiff, Nat.reduceSub, SB, SV.known, packR, ne_eq, reduceCtorEq, Nat.reduceEqDiff, ↓reduceIte, if_true, if_false, eq_self, Nat.reduceAdd, Nat.reduceMul, Nat.reduceSub, forall_const, oneCellS, Kd.isSca, flat, TYB]
          (try (and_intros <;> try (first | omega | (unfold In64; omega) | trivial | assumption)))
          refine ⟨i + 1, ?_, ?_, Sub.mk_id ?_ ?_ ?_ ?_ ?_⟩
          all_goals (try (simp only [paR_succ, paS_succ, LB, subS, subH, wfS, wfH, SV.ren, renL, SObj.ren, SV.wf, SObj.wf, wfL, SV.known, Nat.reduceEqDiff, ↓reduceIte, if_true, if_false, eq_self, Nat.reduceAdd, Nat.reduceLT, Nat.reduceLeDiff, implies_true, reduceCtorEq, forall_const]; done))
          all_goals (try (simp only [paR_succ, paS_succ, LB, subS, subH, wfS, wfH, SV.ren, renL, SObj.ren, SV.wf, SObj.wf, wfL, SV.known, Nat.reduceEqDiff, ↓reduceIte, if_true, if_false, eq_self, Nat.reduceAdd, Nat.reduceLT, Nat.reduceLeDiff, implies_true, reduceCtorEq, forall_const]; simp; done))
          all_goals (try (simp only [paR_succ, paS_succ, LB, subS, subH, wfS, wfH, SV.ren, renL, SObj.ren, SV.wf, SObj.wf, wfL, SV.known, Nat.reduceEqDiff, ↓reduceIte, if_true, if_false, eq_self, Nat.reduceAdd, Nat.reduceLT, Nat.reduceLeDiff, implies_true, reduceCtorEq, forall_const]; (and_intros <;> (first | omega | rfl | (simp; done) | (simp; omega))); done))
          all_goals (try dsimp only)
          all_goals (and_intros <;> try (first | omega | (unfold In64; omega) | trivial | assumption))
          all_goals (intro q hq; by_cases hqi : q = i)
          · subst hqi; exact hc
          · exact hall q (by omega)
      · have hil : ¬ (i : Int) < len := by omega
        obtain rfl : i = len := by omega
        have hE := hT.symm.trans (doT_end hr hall)
        simp only [List.cons.injEq, SV.arr.injEq, SV.int.injEq, SV.bool.injEq, and_true] at hE
        obtain ⟨rfl, rfl, rfl⟩ := hE
        simp -implicitDefEqProofs only [lk_normal, hil, qR, tkQ, ZB, Int.reduceToNat, Nat.reduceLT, Nat.reduceLeDiff, Int.reduceLE, Int.reduceLT, Nat.reduceEqDiff, Nat.reduceSub, SB, SV.known, packR, ne_eq, reduceCtorEq, Nat.reduceEqDiff, ↓reduceIte, if_true, if_false, eq_self, Nat.reduceAdd, Nat.reduceMul, Nat.reduceSub, forall_const, oneCellS, Kd.isSca, flat, TYB]
theorem paS_app (R L J : List Int) (len : Nat) (h : len * 2 ≤ L.length) : ∀ k, k ≤ len → paR R (L ++ J) k = paR R L k ∧ paS R (L ++ J) k = paS R L k
  | 0, _ => ⟨rfl, rfl⟩
  | k + 1, hk => by
    have ih := paS_app R L J len h k (by omega)
    rw [paR_succ, paR_succ, paS_succ, paS_succ, ih.1, ih.2, getD_app _ _ _ (by omega), getD_app _ _ _ (by omega)]
    exact ⟨rfl, rfl⟩
theorem doT_app (R L J : List Int) (len : Nat) (h : len * 2 ≤ L.length) : doT R (L ++ J) len = doT R L len := by
  have hb : doB R (L ++ J) len = doB R L len := by
    unfold doB
    rw [Bool.eq_iff_iff, List.all_eq_true, List.all_eq_true]
    have : ∀ k ∈ List.range len, paC R (L ++ J) k = paC R L k := fun k hk => by
      have hk := List.mem_range.1 hk
      unfold paC
      rw [(paS_app R L J len h k (by omega)).1, getD_app _ _ _ (by omega), getD_app _ _ _ (by omega)]
    exact ⟨fun h1 k hk => by rw [← this k hk]; exact h1 k hk, fun h1 k hk => by rw [this k hk]; exact h1 k hk⟩
  unfold doT
  rw [hb, (paS_app R L J len h len (Nat.le_refl _)).1, (paS_app R L J len h len (Nat.le_refl _)).2]
def DoPours_F : List SV → Heap → Option (Prop × SV)
  | [.arr R, .slice b 0 len _], H => match hget H b with
    | some (.ints L _) => some (R.length = 24 ∧ len * 2 ≤ L.length ∧ len ≤ 1048576, .tup (doT R (L.take (len * 2)) len))
    | _ => none
  | _, _ => none
theorem DoPours_T : ∀ args H p v, DoPours_F args H = some (p, v) → p → PureH Try.prog 15 args H v := by
  intro args H p v h hp
  unfold DoPours_F at h
  split at h
  · split at h
    · rename_i L e hb
      cases h
      rw [← doT_app _ (L.take _) (L.drop _) _ (by rw [List.length_take]; omega), List.take_append_drop]
      exact one_block (DoPours_ok _ L e _ _ hp.1 hp.2.1 hp.2.2) hb rfl (fun _ => doT_wf _ _ _ _)
    · cases h
  · cases h
def sDoPours_F : List SV → Heap → Option (Prop × SV)
  | [.arr R, .slice b 0 len _], H => match hget H b with
    | some (.ints L _) => some (R.length = 24 ∧ len * 2 ≤ L.length ∧ len ≤ 1048576, .tup (doT R (L.take (len * 2)) len))
    | _ => none
  | _, _ => none
theorem sDoPours_T : ∀ args H p v, sDoPours_F args H = some (p, v) → p → PureH Try.prog 12 args H v := by
  intro args H p v h hp
  unfold sDoPours_F at h
  split at h
  · split at h
    · rename_i L e hb
      cases h
      rw [← doT_app _ (L.take _) (L.drop _) _ (by rw [List.length_take]; omega), List.take_append_drop]
      exact one_block (sDoPours_ok _ L e _ _ hp.1 hp.2.1 hp.2.2) hb rfl (fun _ => doT_wf _ _ _ _)
    · cases h
  · cases h
theorem lawDoPours (R L : List Int) (off len cap : Nat) (hR : R.length = 24) (_ : ∀ x ∈ R, In64 x) (hle : len ≤ cap) (hcm : cap ≤ maxLen) (hL : L.length = len * 2) (_ : ∀ x ∈ L, In64 x) : PureH Try.prog 3 [.arr R, .slice 0 off len cap] [(0, .win off L)] (.bool true) := by
  have tkR : R.take 24 = R := List.take_of_length_le (by omega)
  have hb : len ≤ 9223372036854775807 := by unfold maxLen at hcm; omega
  have tkL : ∀ J, (L ++ J).take (len * 2) = L := fun J => List.take_left' hL
  by_cases hbig : 1048576 - (len : Int) < 0
  · refine pure_of_vc (X := ⟨Try.prog, tys, [(11, szA2_F), (13, toRack_F), (15, DoPours_F), (12, sDoPours_F), (17, eqS2_F), (16, eqRack_F)], [(14, toA2S_F)], true, true, 1, [14], []⟩) (show FnOK Try.prog 3 Try.f3 (Try.f3.body.getD .skip) [14] [] from ⟨Try.func3, rfl, by kernel_rfl, by kernel_rfl⟩) ⟨tys_ok, (.cons szA2_T (.cons toRack_T (.cons DoPours_T (.cons sDoPours_T (.cons eqS2_T (.cons eqRack_T .nil)))))), (.cons toA2S_T .nil), mixed⟩ (n0 := 1) (Nat.le_of_ble_eq_true rfl) (by simp [wfL, SV.wf]) (wfH_spec (by simp [wfH, SObj.wf])) (Nat.le_refl _) (fun _ => by simp [SV.wf, wfL]) ?_
    simp -implicitDefEqProofs only [Try.f3, Option.getD_some, argS, szA2_F, toRack_F, DoPours_F, sDoPours_F, eqS2_F, eqRack_F, toA2S_F, hR, tkR, hbig, hb, freshK, Wrap.ap, ZB, Int.reduceToNat, Nat.reduceLT, Nat.reduceLeDiff, Int.reduceLE, Int.reduceLT, Nat.reduceEqDiff, Nat.reduceSub, SB, SV.known, packR, ne_eq, reduceCtorEq, Nat.reduceEqDiff, ↓reduceIte, if_true, if_false, eq_self, Nat.reduceAdd, Nat.reduceMul, Nat.reduceSub, forall_const, oneCellS, Kd.isSca, flat, TYB]
  · have hl : len ≤ 1048576 := by omega
    have ln : ∀ J : List Int, len * 2 ≤ (L ++ J).length := fun J => by rw [List.length_append]; omega
    obtain ⟨T, n, b, hT, hTl⟩ := doT_three (R := R) (L := L) (len := len) hR
    have tkT : T.take 24 = T := List.take_of_length_le (by omega)
    refine pure_of_vc (X := ⟨Try.prog, tys, [(11, szA2_F), (13, toRack_F), (15, DoPours_F), (12, sDoPours_F), (17, eqS2_F), (16, eqRack_F)], [(14, toA2S_F)], true, true, 1, [14], []⟩) (show FnOK Try.prog 3 Try.f3 (Try.f3.body.getD .skip) [14] [] from ⟨Try.func3, rfl, by kernel_rfl, by kernel_rfl⟩) ⟨tys_ok, (.cons szA2_T (.cons toRack_T (.cons DoPours_T (.cons sDoPours_T (.cons eqS2_T (.cons eqRack_T .nil)))))), (.cons toA2S_T .nil), mixed⟩ (n0 := 1) (Nat.le_of_ble_eq_true rfl) (by simp [wfL, SV.wf]) (wfH_spec (by simp [wfH, SObj.wf])) (Nat.le_refl _) (fun _ => by simp [SV.wf, wfL]) ?_
    simp -implicitDefEqProofs only [Try.f3, Option.getD_some, argS, szA2_F, toRack_F, DoPours_F, sDoPours_F, eqS2_F, eqRack_F, toA2S_F, hR, tkR, hbig, hb, hl, hL, tkL, hT, hTl, tkT, freshK, Wrap.ap, ZB, Int.reduceToNat, Nat.reduceLT, Nat.reduceLeDiff, Int.reduceLE, Int.reduceLT, Nat.reduceEqDiff, Nat.reduceSub, SB, SV.known, packR, ne_eq, reduceCtorEq, Nat.reduceEqDiff, ↓reduceIte, if_true, if_false, eq_self, Nat.reduceAdd, Nat.reduceMul, Nat.reduceSub, forall_const, oneCellS, Kd.isSca, flat, TYB]
    exact fun _ _ _ => ⟨ln _, fun _ _ _ => ⟨ln _, fun _ _ _ => ⟨ln _, ln _, by omega⟩⟩⟩
theorem lawDoPoursN (R : List Int) (hR : R.length = 24) (_ : ∀ x ∈ R, In64 x) : PureH Try.prog 3 [.arr R, .nils] [] (.bool true) := by
  have tkR : R.take 24 = R := List.take_of_length_le (by omega)
  obtain ⟨T, n, b, hT, hTl⟩ := doT_three (R := R) (L := []) (len := 0) hR
  have tkT : T.take 24 = T := List.take_of_length_le (by omega)
  refine pure_of_vc (X := ⟨Try.prog, tys, [(11, szA2_F), (13, toRack_F), (15, DoPours_F), (12, sDoPours_F), (17, eqS2_F), (16, eqRack_F)], [(14, toA2S_F)], true, true, 0, [14], []⟩) (show FnOK Try.prog 3 Try.f3 (Try.f3.body.getD .skip) [14] [] from ⟨Try.func3, rfl, by kernel_rfl, by kernel_rfl⟩) ⟨tys_ok, (.cons szA2_T (.cons toRack_T (.cons DoPours_T (.cons sDoPours_T (.cons eqS2_T (.cons eqRack_T .nil)))))), (.cons toA2S_T .nil), mixed⟩ (n0 := 0) (Nat.le_of_ble_eq_true rfl) (by simp [wfL, SV.wf]) (wfH_spec (by simp [wfH, SObj.wf])) (Nat.le_refl _) (fun _ => by simp [SV.wf, wfL]) ?_
  simp -implicitDefEqProofs only [Try.f3, Option.getD_some, argS, szA2_F, toRack_F, DoPours_F, sDoPours_F, eqS2_F, eqRack_F, toA2S_F, hR, tkR, hT, hTl, tkT, freshK, Wrap.ap, ZB, Int.reduceToNat, Nat.reduceLT, Nat.reduceLeDiff, Int.reduceLE, Int.reduceLT, Nat.reduceEqDiff, Nat.reduceSub, SB, SV.known, packR, ne_eq, reduceCtorEq, Nat.reduceEqDiff, ↓reduceIte, if_true, if_false, eq_self, Nat.reduceAdd, Nat.reduceMul, Nat.reduceSub, forall_const, oneCellS, Kd.isSca, flat, TYB]
  exact fun _ _ _ _ _ _ _ _ _ => trivial
end Go.Proofs.Ytfdpeenamkpcbaa
