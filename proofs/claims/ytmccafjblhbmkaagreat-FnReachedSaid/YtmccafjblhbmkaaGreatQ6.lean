/- Texts of this claim, joined (Sort, Rule, RulC, Com, Good, Bfs, UPours, View, FP1, FP0, RE0, RE1, RE2, RE3, DelR, SlR). -/
import Derived.Test.YtmccafjblhbmkaaGreatQ1
import Derived.Test.YtmccafjblhbmkaaGreatQ2
import Derived.Test.YtmccafjblhbmkaaGreatQ3
import Derived.Test.YtmccafjblhbmkaaGreatQ4
import Derived.Test.YtmccafjblhbmkaaGreatQ5
set_option maxRecDepth 100000
set_option linter.unusedSimpArgs false
set_option linter.unusedVariables false
namespace Go.Proofs.YtmccafjblhbmkaaGreat
open Go Go.RowKit
theorem runs_head (t : List Int) (ht : t.length = 4) (h : 0 < layN t) : (runsL t).getD 0 0 = t.getD 0 0 := by
  have key : ∀ i, 0 < i → i ≤ 4 → (RL t i).getD 0 0 = t.getD 0 0 ∧ 2 ≤ (RL t i).length := by
    intro i
    induction i with
    | zero => intro h; omega
    | succ i ih =>
      intro _ hi
      rw [RL_succ t i (by omega)]
      by_cases hi0 : i = 0
      · subst hi0
        rw [RL_zero]
        simp [stepR]
      · obtain ⟨h1, h2⟩ := ih (by omega) (by omega)
        unfold stepR
        split
        · refine ⟨?_, by simpa using h2⟩
          rw [getD_set' _ _ _ _ (by omega), if_neg (by omega), h1]
        · refine ⟨?_, by rw [List.length_append]; omega⟩
          rw [getD_app _ _ _ (by omega), h1]
  exact (key (layN t) h (lay_le t ht)).1
def rcN (R : List Int) (k : Nat) : Nat := (runsL (tubeAt R k)).length / 2
def rcC (R : List Int) (k : Nat) : Int := (runsL (tubeAt R k)).getD 0 0
def srtF (R : List Int) : Nat → Option (List Int)
  | 0 => some []
  | k + 1 => match srtF R k with
    | none => none
    | some s => if rcN R k = 0 then some s else if 1 < rcN R k ∨ rcC R k ∈ s then none else some (s ++ [rcC R k])
def sortB (R : List Int) : Bool := (srtF R 6).isSome
theorem srt_none {R : List Int} {k : Nat} (h : srtF R k = none) : ∀ j, srtF R (k + j) = none
  | 0 => h
  | j + 1 => by
    have := srt_none h j
    show srtF R (k + j + 1) = none
    simp only [srtF, this]
theorem sort_false {R : List Int} {k : Nat} (h : srtF R k = none) (hk : k ≤ 6) : sortB R = false := by
  have := srt_none h (6 - k)
  rw [show k + (6 - k) = 6 by omega] at this
  simp [sortB, this]
theorem srt_step {R : List Int} {k : Nat} {s : List Int} (h : srtF R k = some s) : srtF R (k + 1) = if rcN R k = 0 then some s else if 1 < rcN R k ∨ rcC R k ∈ s then none else some (s ++ [rcC R k]) := by
  simp only [srtF, h]
theorem srt_len {R : List Int} : ∀ {k : Nat} {s : List Int}, srtF R k = some s → s.length ≤ k
  | 0, s, h => by cases h; simp
  | k + 1, s, h => by
    cases hk : srtF R k with
    | none => simp [srtF, hk] at h
    | some s' =>
      have := srt_len hk
      rw [srt_step hk] at h
      split at h
      · cases h; omega
      · split at h
        · cases h
        · cases h; simp; omega
def seenL (s : List Int) : List Bool := (List.range 6).map fun c : Nat => decide ((c : Int) ∈ s)
theorem seenL_len (s : List Int) : (seenL s).length = 6 := by simp [seenL]
theorem seenL_nil : seenL [] = List.replicate 6 false := by simp [seenL, List.range, List.range.loop]
theorem seenL_getD (s : List Int) (c : Int) (h : 0 ≤ c ∧ c ≤ 5) : (seenL s).getD c.toNat false = decide (c ∈ s) := by
  have : ((c.toNat : Nat) : Int) = c := by omega
  simp [seenL, List.getD, show c.toNat < 6 by omega, this]
theorem seenL_set (s : List Int) (c : Int) (h : 0 ≤ c ∧ c ≤ 5) : (seenL s).set c.toNat true = seenL (s ++ [c]) := by
  apply List.ext_getElem (by simp [seenL])
  intro k h1 h2
  simp only [List.getElem_set, seenL, List.getElem_map, List.getElem_range]
  by_cases hk : c.toNat = k
  · rw [if_pos hk]
    have : (k : Int) = c := by omega
    simp [this]
  · rw [if_neg hk]
    have : ¬ (k : Int) = c := by omega
    simp [this]
theorem rc_facts {R : List Int} (hR : R.length = 24) (hr : rackB R = true) {k : Nat} (hk : k < 6) (h : 0 < rcN R k) : 0 ≤ rcC R k ∧ rcC R k ≤ 5 := by
  have hl := tubeAt_len hR hk
  have hb := tubeAt_ok hr hk
  have h0 : 0 < layN (tubeAt R k) := (runs_bottom _ hl hb).1.2 (by unfold crN; unfold rcN at h; omega)
  unfold rcC
  rw [runs_head _ hl h0]
  have := (tube_cells hl hb).1 0 h0
  omega
--@tbl isSorted = impl.isSorted
theorem isSorted_ok (R : List Int) (hR : R.length = 24) (hr : rackB R = true) : PureH Tryz.prog 114 [.arr R] [] (.bool (sortB R)) := by
  have tkR : R.take 24 = R := List.take_of_length_le (by omega)
  refine pure_of_vc (X := ⟨Tryz.prog, tys, [], [(147, runs_F)], true, true, 0, [], []⟩) fn_114 ⟨tys_ok, .nil, (.cons runs_T .nil), mixed⟩ (n0 := 0) (Nat.le_of_ble_eq_true rfl) (by simp [wfL, SV.wf]) (wfH_spec (by simp [wfH, SObj.wf])) (Nat.le_refl _) (fun _ => by simp [SV.wf, wfL]) ?_
  simp -implicitDefEqProofs only [Tryz.f114, Option.getD_some, argS, runs_F, hR, tkR, ZB, Int.reduceToNat, Nat.reduceLT, Nat.reduceLeDiff, Int.reduceLE, Int.reduceLT, Nat.reduceEqDiff, Nat.reduceSub, SB, SV.known, packR, ne_eq, reduceCtorEq, Nat.reduceEqDiff, ↓reduceIte, if_true, if_false, eq_self, Nat.reduceAdd, Nat.reduceMul, Nat.reduceSub, forall_const, oneCellS, litOne, flat1, Kd.isSca, flat, TYB]
  refine loop_intro (fun s : Nat × List Int => [(9, .int s.1), (8, .arr R), (3, .ptr 1 0), (2, .bool false), (1, .ptr 0 0)]) (fun s => [(1, .bls (seenL s.2) 152), (0, .ints R 27)]) 2 (fun s => s.1 ≤ 6 ∧ srtF R s.1 = some s.2) (fun s => 6 - s.1) ?_ ?_
  · refine ⟨(0, []), ⟨by omega, rfl⟩, Sub.mk_id ?_ ?_ ?_ ?_ ?_⟩
    all_goals simp only [seenL_nil, LB, subS, subH, wfS, wfH, SV.ren, renL, SObj.ren, SV.wf, SObj.wf, wfL, SV.known, Nat.reduceEqDiff, ↓reduceIte, if_true, if_false, eq_self, Nat.reduceAdd, Nat.reduceLT, Nat.reduceLeDiff, implies_true, reduceCtorEq, forall_const]
  · rintro ⟨i, s⟩ ⟨hi, hs⟩
    simp only at hi hs
    have eT : List.take 4 (List.drop (i * 4) R) = tubeAt R i := rfl
    have sl := seenL_len s
    by_cases hlt : i < 6
    · have hil : (i : Int) < 6 := by omega
      have hl := tubeAt_len hR hlt
      have tk4 : (tubeAt R i).take 4 = tubeAt R i := List.take_of_length_le (by omega)
      have es := srt_step hs
      have en : (runsL (tubeAt R i)).length / 2 = rcN R i := rfl
      obtain ⟨n, hn, hn4, _⟩ := runsL_even _ hl
      have ern : rcN R i = n := by unfold rcN; omega
      have gd : ∀ J : List Int, 0 < rcN R i → (runsL (tubeAt R i) ++ J).getD 0 0 = rcC R i := fun J h => getD_app _ _ _ (by omega)
      simp -implicitDefEqProofs only [lk_normal, runs_F, freshK, Wrap.ap, hil, hR, eT, hl, tk4, en, sl, ZB, Int.reduceToNat, Nat.reduceLT, Nat.reduceLeDiff, Int.reduceLE, Int.reduceLT, Nat.reduceEqDiff, Nat.reduceSub, SB, SV.known, packR, ne_eq, reduceCtorEq, Nat.reduceEqDiff, ↓reduceIte, if_true, if_false, eq_self, Nat.reduceAdd, Nat.reduceMul, Nat.reduceSub, forall_const, oneCellS, litOne, flat1, Kd.isSca, flat, TYB]
      refine ⟨by omega, fun h0 => ?_, fun h0 cap junk hj => ?_⟩
      · have hz : rcN R i = 0 := by rw [ern]; rw [h0] at hn; simp at hn; omega
        rw [if_pos hz] at es
        (try (and_intros <;> try (first | omega | (unfold In64; omega) | trivial | assumption)))
        refine ⟨(i + 1, s), ?_, ?_, Sub.mk_id ?_ ?_ ?_ ?_ ?_⟩
        all_goals (try (simp only [es, LB, subS, subH, wfS, wfH, SV.ren, renL, SObj.ren, SV.wf, SObj.wf, wfL, SV.known, Nat.reduceEqDiff, ↓reduceIte, if_true, if_false, eq_self, Nat.reduceAdd, Nat.reduceLT, Nat.reduceLeDiff, implies_true, reduceCtorEq, forall_const]; done))
        all_goals (try (simp only [es, LB, subS, subH, wfS, wfH, SV.ren, renL, SObj.ren, SV.wf, SObj.wf, wfL, SV.known, Nat.reduceEqDiff, ↓reduceIte, if_true, if_false, eq_self, Nat.reduceAdd, Nat.reduceLT, Nat.reduceLeDiff, implies_true, reduceCtorEq, forall_const]; simp; done))
        all_goals (try (simp only [es, LB, subS, subH, wfS, wfH, SV.ren, renL, SObj.ren, SV.wf, SObj.wf, wfL, SV.known, Nat.reduceEqDiff, ↓reduceIte, if_true, if_false, eq_self, Nat.reduceAdd, Nat.reduceLT, Nat.reduceLeDiff, implies_true, reduceCtorEq, forall_const]; (and_intros <;> (first | omega | rfl | (simp; done) | (simp; omega))); done))
        all_goals (try dsimp only)
        all_goals (and_intros <;> try (first | omega | (unfold In64; omega) | trivial | assumption))
        all_goals (try exact es)
      · have hp : 0 < rcN R i := by
          rcases Nat.eq_zero_or_pos n with hz | hz
          · exact absurd (List.length_eq_zero_iff.1 (by rw [hn, hz])) h0
          · omega
        rw [if_neg (by omega)] at es
        have rc := rc_facts hR hr hlt hp
        have g0 := gd junk hp
        have sg := seenL_getD s (rcC R i) rc
        have sw := seenL_set s (rcC R i) rc
        have lj : 0 < (runsL (tubeAt R i) ++ junk).length := by rw [List.length_append]; omega
        refine ⟨fun hz => absurd hz (by omega), fun _ => ⟨fun h1 => ?_, fun h1 => ?_⟩⟩
        · rw [if_pos (by omega)] at es
          rw [sort_false es (by omega)]
        · cases hd : decide (rcC R i ∈ s)
          · rw [if_neg (fun hx => hx.elim (fun h => by omega) (of_decide_eq_false hd))] at es
            simp -implicitDefEqProofs only [lk_normal, g0, sg, sw, hd, sl, lj, ZB, Int.reduceToNat, Nat.reduceLT, Nat.reduceLeDiff, Int.reduceLE, Int.reduceLT, Nat.reduceEqDiff, Nat.reduceSub, SB, SV.known, packR, ne_eq, reduceCtorEq, Nat.reduceEqDiff, ↓reduceIte, if_true, if_false, eq_self, Nat.reduceAdd, Nat.reduceMul, Nat.reduceSub, forall_const, oneCellS, litOne, flat1, Kd.isSca, flat, TYB]
            (try (and_intros <;> try (first | omega | (unfold In64; omega) | trivial | assumption)))
            refine ⟨(i + 1, s ++ [rcC R i]), ?_, ?_, Sub.mk_id ?_ ?_ ?_ ?_ ?_⟩
            all_goals (try (simp only [es, LB, subS, subH, wfS, wfH, SV.ren, renL, SObj.ren, SV.wf, SObj.wf, wfL, SV.known, Nat.reduceEqDiff, ↓reduceIte, if_true, if_false, eq_self, Nat.reduceAdd, Nat.reduceLT, Nat.reduceLeDiff, implies_true, reduceCtorEq, forall_const]; done))
            all_goals (try (simp only [es, LB, subS, subH, wfS, wfH, SV.ren, renL, SObj.ren, SV.wf, SObj.wf, wfL, SV.known, Nat.reduceEqDiff, ↓reduceIte, if_true, if_false, eq_self, Nat.reduceAdd, Nat.reduceLT, Nat.reduceLeDiff, implies_true, reduceCtorEq, forall_const]; simp; done))
            all_goals (try (simp only [es, LB, subS, subH, wfS, wfH, SV.ren, renL, SObj.ren, SV.wf, SObj.wf, wfL, SV.known, Nat.reduceEqDiff, ↓reduceIte, if_true, if_false, eq_self, Nat.reduceAdd, Nat.reduceLT, Nat.reduceLeDiff, implies_true, reduceCtorEq, forall_const]; (and_intros <;> (first | omega | rfl | (simp; done) | (simp; omega))); done))
            all_goals (try dsimp only)
            all_goals (and_intros <;> try (first | omega | (unfold In64; omega) | trivial | assumption))
          · rw [if_pos (.inr (of_decide_eq_true hd))] at es
            simp -implicitDefEqProofs only [lk_normal, g0, sg, sw, hd, sl, lj, ZB, Int.reduceToNat, Nat.reduceLT, Nat.reduceLeDiff, Int.reduceLE, Int.reduceLT, Nat.reduceEqDiff, Nat.reduceSub, SB, SV.known, packR, ne_eq, reduceCtorEq, Nat.reduceEqDiff, ↓reduceIte, if_true, if_false, eq_self, Nat.reduceAdd, Nat.reduceMul, Nat.reduceSub, forall_const, oneCellS, litOne, flat1, Kd.isSca, flat, TYB]
            rw [sort_false es (by omega)]
            (try (and_intros <;> try (first | omega | (unfold In64; omega) | trivial | assumption)))
    · have hil : ¬ (i : Int) < 6 := by omega
      obtain rfl : i = 6 := by omega
      simp -implicitDefEqProofs only [lk_normal, hil, ZB, Int.reduceToNat, Nat.reduceLT, Nat.reduceLeDiff, Int.reduceLE, Int.reduceLT, Nat.reduceEqDiff, Nat.reduceSub, SB, SV.known, packR, ne_eq, reduceCtorEq, Nat.reduceEqDiff, ↓reduceIte, if_true, if_false, eq_self, Nat.reduceAdd, Nat.reduceMul, Nat.reduceSub, forall_const, oneCellS, litOne, flat1, Kd.isSca, flat, TYB]
      simp [sortB, hs]
theorem l1Has_ok (L : List Int) (e cap len : Nat) (c : Int) (hl : len ≤ L.length) (hm : len ≤ 1000000) : PureH Tryz.prog 157 [.slice 0 0 len cap, .int c] [(0, .ints L e)] (.bool (decide (c ∈ L.take len))) := by
  refine pure_of_vc (X := ⟨Tryz.prog, tys, [], [], true, true, 1, [], []⟩) fn_157 ⟨tys_ok, .nil, .nil, mixed⟩ (n0 := 1) (Nat.le_of_ble_eq_true rfl) (by simp [wfL, SV.wf]) (wfH_spec (by simp [wfH, SObj.wf])) (Nat.le_refl _) (fun _ => by simp [SV.wf, wfL]) ?_
  simp -implicitDefEqProofs only [Tryz.f157, Option.getD_some, argS, ZB, Int.reduceToNat, Nat.reduceLT, Nat.reduceLeDiff, Int.reduceLE, Int.reduceLT, Nat.reduceEqDiff, Nat.reduceSub, SB, SV.known, packR, ne_eq, reduceCtorEq, Nat.reduceEqDiff, ↓reduceIte, if_true, if_false, eq_self, Nat.reduceAdd, Nat.reduceMul, Nat.reduceSub, forall_const, oneCellS, litOne, flat1, Kd.isSca, flat, TYB]
  refine loop_intro (fun i : Nat => [(5, .int i), (0, .slice 0 0 len cap), (1, .int c)]) (fun _ => [(0, .ints L e)]) 1 (fun i => i ≤ len ∧ ∀ k, k < i → ¬ L.getD k 0 = c) (fun i => len - i) ?_ ?_
  · refine ⟨0, ?_, Sub.mk_id ?_ ?_ ?_ ?_ ?_⟩
    all_goals (try (simp only [LB, subS, subH, wfS, wfH, SV.ren, renL, SObj.ren, SV.wf, SObj.wf, wfL, SV.known, Nat.reduceEqDiff, ↓reduceIte, if_true, if_false, eq_self, Nat.reduceAdd, Nat.reduceLT, Nat.reduceLeDiff, implies_true, reduceCtorEq, forall_const]; done))
    all_goals (try (simp only [LB, subS, subH, wfS, wfH, SV.ren, renL, SObj.ren, SV.wf, SObj.wf, wfL, SV.known, Nat.reduceEqDiff, ↓reduceIte, if_true, if_false, eq_self, Nat.reduceAdd, Nat.reduceLT, Nat.reduceLeDiff, implies_true, reduceCtorEq, forall_const]; simp; done))
    all_goals (try (simp only [LB, subS, subH, wfS, wfH, SV.ren, renL, SObj.ren, SV.wf, SObj.wf, wfL, SV.known, Nat.reduceEqDiff, ↓reduceIte, if_true, if_false, eq_self, Nat.reduceAdd, Nat.reduceLT, Nat.reduceLeDiff, implies_true, reduceCtorEq, forall_const]; (and_intros <;> (first | omega | rfl | (simp; done) | (simp; omega))); done))
    all_goals (try dsimp only)
    all_goals (and_intros <;> try (first | omega | (unfold In64; omega) | trivial | assumption))
  · rintro i ⟨hi, hn⟩
    by_cases hlt : i < len
    · have hil : (i : Int) < len := by omega
      simp -implicitDefEqProofs only [lk_normal, hil, ZB, Int.reduceToNat, Nat.reduceLT, Nat.reduceLeDiff, Int.reduceLE, Int.reduceLT, Nat.reduceEqDiff, Nat.reduceSub, SB, SV.known, packR, ne_eq, reduceCtorEq, Nat.reduceEqDiff, ↓reduceIte, if_true, if_false, eq_self, Nat.reduceAdd, Nat.reduceMul, Nat.reduceSub, forall_const, oneCellS, litOne, flat1, Kd.isSca, flat, TYB]
      refine ⟨by omega, by omega, fun h => ?_, fun h => ?_⟩
      · have : c ∈ L.take len := List.mem_take_iff_getElem.2 ⟨i, by omega, by rw [← h]; simp [List.getD, List.getElem?_eq_getElem (show i < L.length by omega)]⟩
        simp [this]
      · (try (and_intros <;> try (first | omega | (unfold In64; omega) | trivial | assumption)))
        refine ⟨i + 1, ?_, ?_, Sub.mk_id ?_ ?_ ?_ ?_ ?_⟩
        all_goals (try (simp only [LB, subS, subH, wfS, wfH, SV.ren, renL, SObj.ren, SV.wf, SObj.wf, wfL, SV.known, Nat.reduceEqDiff, ↓reduceIte, if_true, if_false, eq_self, Nat.reduceAdd, Nat.reduceLT, Nat.reduceLeDiff, implies_true, reduceCtorEq, forall_const]; done))
        all_goals (try (simp only [LB, subS, subH, wfS, wfH, SV.ren, renL, SObj.ren, SV.wf, SObj.wf, wfL, SV.known, Nat.reduceEqDiff, ↓reduceIte, if_true, if_false, eq_self, Nat.reduceAdd, Nat.reduceLT, Nat.reduceLeDiff, implies_true, reduceCtorEq, forall_const]; simp; done))
        all_goals (try (simp only [LB, subS, subH, wfS, wfH, SV.ren, renL, SObj.ren, SV.wf, SObj.wf, wfL, SV.known, Nat.reduceEqDiff, ↓reduceIte, if_true, if_false, eq_self, Nat.reduceAdd, Nat.reduceLT, Nat.reduceLeDiff, implies_true, reduceCtorEq, forall_const]; (and_intros <;> (first | omega | rfl | (simp; done) | (simp; omega))); done))
        all_goals (try dsimp only)
        all_goals (and_intros <;> try (first | omega | (unfold In64; omega) | trivial | assumption))
        intro k hk
        by_cases hki : k = i
        · subst hki; exact h
        · exact hn k (by omega)
    · have hil : ¬ (i : Int) < len := by omega
      obtain rfl : i = len := by omega
      simp -implicitDefEqProofs only [lk_normal, hil, ZB, Int.reduceToNat, Nat.reduceLT, Nat.reduceLeDiff, Int.reduceLE, Int.reduceLT, Nat.reduceEqDiff, Nat.reduceSub, SB, SV.known, packR, ne_eq, reduceCtorEq, Nat.reduceEqDiff, ↓reduceIte, if_true, if_false, eq_self, Nat.reduceAdd, Nat.reduceMul, Nat.reduceSub, forall_const, oneCellS, litOne, flat1, Kd.isSca, flat, TYB]
      have : ¬ c ∈ L.take i := fun hc => by
        obtain ⟨k, hk, he⟩ := List.mem_take_iff_getElem.1 hc
        refine hn k (by omega) ?_
        simp only [List.getD, List.getElem?_eq_getElem (show k < L.length by omega), Option.getD_some]
        exact he
      simp [this]
def l1Has_F : List SV → Heap → Option (Prop × SV)
  | [.slice b 0 len _, .int c], H => match hget H b with
    | some (.ints L _) => some (len ≤ L.length ∧ len ≤ 1000000, .bool (decide (c ∈ L.take len)))
    | _ => none
  | _, _ => none
theorem l1Has_T : ∀ args H p v, l1Has_F args H = some (p, v) → p → PureH Tryz.prog 157 args H v := by
  intro args H p v h hp
  unfold l1Has_F at h
  split at h
  · rename_i b len cap c
    split at h
    · rename_i L e hb
      cases h
      exact one_block (l1Has_ok L e cap len c hp.1 hp.2) hb rfl (fun _ => trivial)
    · cases h
  · cases h
--@tbl l2Sorted = spec.l2Sorted
theorem l2Sorted_ok (R : List Int) (hR : R.length = 24) (hr : rackB R = true) : PureH Tryz.prog 130 [.arr R] [] (.bool (sortB R)) := by
  have tkR : R.take 24 = R := List.take_of_length_le (by omega)
  refine pure_of_vc (X := ⟨Tryz.prog, tys, [(157, l1Has_F)], [(156, l2Runs_F)], true, true, 0, [], []⟩) fn_130 ⟨tys_ok, (.cons l1Has_T .nil), (.cons l2Runs_T .nil), mixed⟩ (n0 := 0) (Nat.le_of_ble_eq_true rfl) (by simp [wfL, SV.wf]) (wfH_spec (by simp [wfH, SObj.wf])) (Nat.le_refl _) (fun _ => by simp [SV.wf, wfL]) ?_
  simp -implicitDefEqProofs only [Tryz.f130, Option.getD_some, argS, l1Has_F, l2Runs_F, hR, tkR, ZB, Int.reduceToNat, Nat.reduceLT, Nat.reduceLeDiff, Int.reduceLE, Int.reduceLT, Nat.reduceEqDiff, Nat.reduceSub, SB, SV.known, packR, ne_eq, reduceCtorEq, Nat.reduceEqDiff, ↓reduceIte, if_true, if_false, eq_self, Nat.reduceAdd, Nat.reduceMul, Nat.reduceSub, forall_const, oneCellS, litOne, flat1, Kd.isSca, flat, TYB]
  refine loop_intro (fun s : Nat × List Int × Nat × List Int => [(4, .int s.1), (3, .slice 1 0 s.2.1.length s.2.2.1), (2, .bool false), (1, .ptr 0 0)]) (fun s => [(1, .ints (s.2.1 ++ s.2.2.2) 3), (0, .ints R 27)]) 2 (fun s => s.1 ≤ 6 ∧ srtF R s.1 = some s.2.1 ∧ s.2.2.2.length + s.2.1.length = s.2.2.1) (fun s => 6 - s.1) ?_ ?_
  · refine ⟨(0, [], 0, []), ⟨by omega, rfl, rfl⟩, Sub.mk_id ?_ ?_ ?_ ?_ ?_⟩
    all_goals simp only [LB, subS, subH, wfS, wfH, SV.ren, renL, SObj.ren, SV.wf, SObj.wf, wfL, SV.known, Nat.reduceEqDiff, ↓reduceIte, if_true, if_false, eq_self, Nat.reduceAdd, Nat.reduceLT, Nat.reduceLeDiff, implies_true, reduceCtorEq, forall_const]
    all_goals simp
  · rintro ⟨i, s, cap, junk⟩ ⟨hi, hs, hj⟩
    simp only at hi hs hj
    have eT : List.take 4 (List.drop (i * 4) R) = tubeAt R i := rfl
    have sle := srt_len hs
    have tks : (s ++ junk).take s.length = s := List.take_left' rfl
    have lsj : (s ++ junk).length = cap := by rw [List.length_append]; omega
    by_cases hlt : i < 6
    · have hil : (i : Int) < 6 := by omega
      have hl := tubeAt_len hR hlt
      have hb := tubeAt_ok hr hlt
      have es := srt_step hs
      have en : (runsL (tubeAt R i)).length / 2 = rcN R i := rfl
      obtain ⟨n, hn, hn4, _⟩ := runsL_even _ hl
      have ern : rcN R i = n := by unfold rcN; omega
      have gd : ∀ J : List Int, 0 < rcN R i → (runsL (tubeAt R i) ++ J).getD 0 0 = rcC R i := fun J h => getD_app _ _ _ (by omega)
      simp -implicitDefEqProofs only [lk_normal, l1Has_F, l2Runs_F, freshK, Wrap.ap, hil, hR, eT, hl, hb, en, tks, lsj, ZB, Int.reduceToNat, Nat.reduceLT, Nat.reduceLeDiff, Int.reduceLE, Int.reduceLT, Nat.reduceEqDiff, Nat.reduceSub, SB, SV.known, packR, ne_eq, reduceCtorEq, Nat.reduceEqDiff, ↓reduceIte, if_true, if_false, eq_self, Nat.reduceAdd, Nat.reduceMul, Nat.reduceSub, forall_const, oneCellS, litOne, flat1, Kd.isSca, flat, TYB]
      have r1 : (List.replicate 1 (0 : Int)) = [0] := rfl
      refine ⟨by omega, by omega, fun cap1 junk1 hj1 => ⟨fun h1 => ?_, fun h1 => ?_⟩⟩
      · rw [if_neg (by omega), if_pos (.inl (by omega))] at es
        rw [sort_false es (by omega)]
      · refine ⟨fun h2 => ?_, fun h2 => ?_⟩
        · rw [gd junk1 (by omega)]
          rw [if_neg (by omega)] at es
          refine ⟨by omega, by rw [List.length_append]; omega, ⟨by omega, by omega⟩, fun hm => ?_, fun hm => ⟨fun _ => ?_, fun hx => absurd h2 hx⟩⟩
          · rw [if_pos (.inr hm)] at es
            rw [sort_false es (by omega)]
          · rw [if_neg (fun hx => hx.elim (fun h => by omega) hm)] at es
            refine ⟨by omega, by rw [List.length_append]; omega, by omega, by omega, by omega, fun junk2 cap2 hj2 => ?_⟩
            (try (and_intros <;> try (first | omega | (unfold In64; omega) | trivial | assumption)))
            refine ⟨(i + 1, s ++ [rcC R i], cap2, junk2), ?_, ?_, Sub.mk_to 1 4 ?_ ?_ ?_ ?_ ?_ ?_ ?_⟩
            all_goals (try (simp only [es, r1, List.set_cons_zero, List.take_succ_cons, List.take_zero, List.length_append, List.length_cons, List.length_nil, List.append_nil, LB, subS, subH, wfS, wfH, SV.ren, renL, SObj.ren, SV.wf, SObj.wf, wfL, SV.known, Nat.reduceEqDiff, ↓reduceIte, if_true, if_false, eq_self, Nat.reduceAdd, Nat.reduceLT, Nat.reduceLeDiff, implies_true, reduceCtorEq, forall_const]; done))
            all_goals (try (simp only [es, r1, List.set_cons_zero, List.take_succ_cons, List.take_zero, List.length_append, List.length_cons, List.length_nil, List.append_nil, LB, subS, subH, wfS, wfH, SV.ren, renL, SObj.ren, SV.wf, SObj.wf, wfL, SV.known, Nat.reduceEqDiff, ↓reduceIte, if_true, if_false, eq_self, Nat.reduceAdd, Nat.reduceLT, Nat.reduceLeDiff, implies_true, reduceCtorEq, forall_const]; simp; done))
            all_goals (try (simp only [es, r1, List.set_cons_zero, List.take_succ_cons, List.take_zero, List.length_append, List.length_cons, List.length_nil, List.append_nil, LB, subS, subH, wfS, wfH, SV.ren, renL, SObj.ren, SV.wf, SObj.wf, wfL, SV.known, Nat.reduceEqDiff, ↓reduceIte, if_true, if_false, eq_self, Nat.reduceAdd, Nat.reduceLT, Nat.reduceLeDiff, implies_true, reduceCtorEq, forall_const]; (and_intros <;> (first | omega | rfl | (simp; done) | (simp; omega))); done))
            all_goals (try dsimp only)
            all_goals (and_intros <;> try (first | omega | (unfold In64; omega) | trivial | assumption))
            all_goals (try simp)
            all_goals (try omega)
        · refine ⟨fun hx => absurd hx h2, fun _ => ?_⟩
          rw [if_pos (by omega)] at es
          (try (and_intros <;> try (first | omega | (unfold In64; omega) | trivial | assumption)))
          refine ⟨(i + 1, s, cap, junk), ?_, ?_, Sub.mk_id ?_ ?_ ?_ ?_ ?_⟩
          all_goals (try (simp only [es, LB, subS, subH, wfS, wfH, SV.ren, renL, SObj.ren, SV.wf, SObj.wf, wfL, SV.known, Nat.reduceEqDiff, ↓reduceIte, if_true, if_false, eq_self, Nat.reduceAdd, Nat.reduceLT, Nat.reduceLeDiff, implies_true, reduceCtorEq, forall_const]; done))
          all_goals (try (simp only [es, LB, subS, subH, wfS, wfH, SV.ren, renL, SObj.ren, SV.wf, SObj.wf, wfL, SV.known, Nat.reduceEqDiff, ↓reduceIte, if_true, if_false, eq_self, Nat.reduceAdd, Nat.reduceLT, Nat.reduceLeDiff, implies_true, reduceCtorEq, forall_const]; simp; done))
          all_goals (try (simp only [es, LB, subS, subH, wfS, wfH, SV.ren, renL, SObj.ren, SV.wf, SObj.wf, wfL, SV.known, Nat.reduceEqDiff, ↓reduceIte, if_true, if_false, eq_self, Nat.reduceAdd, Nat.reduceLT, Nat.reduceLeDiff, implies_true, reduceCtorEq, forall_const]; (and_intros <;> (first | omega | rfl | (simp; done) | (simp; omega))); done))
          all_goals (try dsimp only)
          all_goals (and_intros <;> try (first | omega | (unfold In64; omega) | trivial | assumption))
    · have hil : ¬ (i : Int) < 6 := by omega
      obtain rfl : i = 6 := by omega
      simp -implicitDefEqProofs only [lk_normal, hil, ZB, Int.reduceToNat, Nat.reduceLT, Nat.reduceLeDiff, Int.reduceLE, Int.reduceLT, Nat.reduceEqDiff, Nat.reduceSub, SB, SV.known, packR, ne_eq, reduceCtorEq, Nat.reduceEqDiff, ↓reduceIte, if_true, if_false, eq_self, Nat.reduceAdd, Nat.reduceMul, Nat.reduceSub, forall_const, oneCellS, litOne, flat1, Kd.isSca, flat, TYB]
      simp [sortB, hs]
def l2Sorted_F : List SV → Heap → Option (Prop × SV)
  | [.arr R], _ => some (R.length = 24 ∧ rackB R = true, .bool (sortB R))
  | _, _ => none
theorem l2Sorted_T : ∀ args H p v, l2Sorted_F args H = some (p, v) → p → PureH Tryz.prog 130 args H v := by
  intro args H p v h hp
  unfold l2Sorted_F at h
  split at h
  · cases h; exact (l2Sorted_ok _ hp.1 hp.2).any _
  · cases h
/-! IsStuck. -/
end Go.Proofs.YtmccafjblhbmkaaGreat
set_option maxRecDepth 100000
set_option linter.unusedSimpArgs false
set_option linter.unusedVariables false
namespace Go.Proofs.YtmccafjblhbmkaaGreat
open Go Go.RowKit
/-- Depths that a rack fits. -/
def forB (R D : List Int) : Bool := rackB R && D.all isDep && fitF R D
/-! Moved layers. -/
end Go.Proofs.YtmccafjblhbmkaaGreat
set_option maxRecDepth 100000
set_option linter.unusedSimpArgs false
set_option linter.unusedVariables false
namespace Go.Proofs.YtmccafjblhbmkaaGreat
open Go Go.RowKit
/-! CountRules. -/
end Go.Proofs.YtmccafjblhbmkaaGreat
set_option maxRecDepth 100000
set_option linter.unusedSimpArgs false
set_option linter.unusedVariables false
namespace Go.Proofs.YtmccafjblhbmkaaGreat
open Go Go.RowKit
theorem GL_pair' (c : Nat → Nat → Bool) (i : Nat) (junk : List Int) (h : i * 2 + 2 ≤ (GL c 36).length) : ∃ a b : Nat, a < 6 ∧ b < 6 ∧ c a b = true ∧ (((GL c 36) ++ junk).drop (i * 2)).take 2 = [(a : Int), (b : Int)] := by
  obtain ⟨a, b, h1, h2, h3, h4⟩ := GL_pair c 36 (by omega) i h
  refine ⟨a, b, h1, h2, h3, ?_⟩
  rw [List.drop_append_of_le_length (by omega), List.take_append_of_le_length (by rw [List.length_drop]; omega)]
  exact h4
/-! DeleteFunc with a closure over a rack and depths. -/
/-! The lists. -/
end Go.Proofs.YtmccafjblhbmkaaGreat
set_option maxRecDepth 100000
set_option linter.unusedSimpArgs false
set_option linter.unusedVariables false
namespace Go.Proofs.YtmccafjblhbmkaaGreat
open Go Go.RowKit
def goodF (R p : List Int) : Bool := decide (bndF (pourF R (p.getD 0 0).toNat (p.getD 1 0).toNat) < bndF R)
def qCan (R p : List Int) : Prop := rackB R = true ∧ okP p ∧ canF R (p.getD 0 0) (p.getD 1 0) = true
theorem qCan_of {R : List Int} (hr : rackB R = true) (i : Nat) (junk : List Int) (h : i * 2 + 2 ≤ (PL R 36).length) : qCan R (List.take 2 (List.drop (i * 2) (PL R 36 ++ junk))) := by
  obtain ⟨a, b, h1, h2, h3, h4⟩ := GL_pair' (fun i j => canF R i j) i junk h
  rw [PL_GL, h4]
  exact ⟨hr, ⟨rfl, by simp only [List.getD_cons_zero]; omega, by simp only [List.getD_cons_succ, List.getD_cons_zero]; omega⟩, h3⟩
theorem qCan_pair {R : List Int} (hr : rackB R = true) (i : Nat) (h : i * 2 + 2 ≤ (PL R 36).length) : canF R ((PL R 36).getD (i * 2) 0) ((PL R 36).getD (i * 2 + 1) 0) = true := by
  have h1 := (qCan_of hr i [] h).2.2
  rw [List.append_nil, take2_drop _ _ (by omega)] at h1
  exact h1
--@tbl isGood = impl.isGood
--@tbl gDel = slices.DeleteFunc[[][2]int,[2]int]
def gdL (R : List Int) : List Int := kept (fun p => goodF R p) (PL R 36) ((PL R 36).length / 2)
end Go.Proofs.YtmccafjblhbmkaaGreat
set_option maxRecDepth 100000
set_option linter.unusedSimpArgs false
set_option linter.unusedVariables false
namespace Go.Proofs.YtmccafjblhbmkaaGreat
open Go Go.RowKit
/-- Forms one pour behind. -/
def sucC (x : List Int) : Nat := (ulF x).length / 2
def sucU (x : List Int) : List (List Int) := (List.range (sucC x)).map (diX x)
theorem sucU_len (x : List Int) : (sucU x).length = sucC x := by simp [sucU]
theorem sucU_getD (x : List Int) {j : Nat} (hj : j < sucC x) : (sucU x).getD j [] = diX x j := by simp [sucU, List.getD, hj]
theorem sucC_le (x : List Int) : sucC x ≤ 36 := by
  obtain ⟨k, h1, h2⟩ := ulF_even x
  unfold sucC; omega
theorem ulF_sucC (x : List Int) : (ulF x).length = sucC x * 2 := by
  obtain ⟨k, h1, h2⟩ := ulF_even x
  unfold sucC; omega
/-- A list of valid racks. -/
def okU (Q : List (List Int)) : Prop := ∀ x ∈ Q, x.length = 24 ∧ rackB x = true
theorem okU.all24 {Q : List (List Int)} (h : okU Q) : all24 Q := fun x hx => (h x hx).1
theorem okU_app {P Q : List (List Int)} (h1 : okU P) (h2 : okU Q) : okU (P ++ Q) := fun x hx => by
  rcases List.mem_append.1 hx with hx | hx
  · exact h1 x hx
  · exact h2 x hx
theorem okU_nw {K xs : List (List Int)} (h : okU xs) : okU (nwF K xs) := fun x hx => h x (nwF_sub K xs x hx).1
theorem flat_getW {w : Nat} : ∀ {Q : List (List Int)}, (∀ x ∈ Q, x.length = w) → ∀ {i : Nat}, i < Q.length → (Q.flatten.drop (i * w)).take w = Q.getD i []
  | [], _, i, hi => by simp at hi
  | x :: Q, h, i, hi => by
    have hx := h x (List.mem_cons_self ..)
    rw [List.flatten_cons]
    cases i with
    | zero => rw [Nat.zero_mul, List.drop_zero, List.take_left' hx]; rfl
    | succ i =>
      rw [show (i + 1) * w = w + i * w by rw [Nat.add_mul]; omega, ← List.drop_drop, List.drop_left' hx, flat_getW (fun y hy => h y (List.mem_cons_of_mem _ hy)) (by simpa using hi)]
      rfl
theorem rack_frm {R : List Int} (hR : R.length = 24) (hr : rackB R = true) : rackB (frm R) = true := by
  have h4 : ∀ y ∈ srtT (tubs R), y.length = 4 := fun y hy => tubs_len hR y ((srtT_perm _).mem_iff.1 hy)
  have hl : (srtT (tubs R)).length = 6 := by rw [(srtT_perm _).length_eq]; simp [tubs]
  have e : tubesOf (frm R) 0 6 = srtT (tubs R) := by
    refine List.ext_getElem (by rw [tubesOf_len, hl]) fun i h1 h2 => ?_
    have e1 := flat_getW h4 h2
    simp only [tubesOf, List.getElem_map, List.getElem_range, Nat.zero_add]
    unfold frm
    rw [e1, List.getD_eq_getElem?_getD, List.getElem?_eq_getElem h2]; rfl
  have e2 : tubesOf R 0 6 = tubs R := by
    unfold tubesOf tubs tubeAt
    simp
  unfold rackB at hr ⊢
  rw [e, List.all_eq_true]
  intro x hx
  exact List.all_eq_true.1 hr x (by rw [e2]; exact (srtT_perm _).mem_iff.1 hx)
theorem ul_can {R : List Int} (hr : rackB R = true) {q : Nat} (hq : q < sucC R) : canF R ((ulF R).getD (q * 2) 0) ((ulF R).getD (q * 2 + 1) 0) = true := by
  have hl := ulF_sucC R
  obtain ⟨m, hm, _⟩ := PL_even R 36
  obtain ⟨j, h1, h2, _⟩ := kept_pair (np := fun p => !idleF R p) (L := PL R 36) ((PL R 36).length / 2) (by omega) q (by show q * 2 + 2 ≤ (ulF R).length; omega)
  have h2' : ((ulF R).drop (q * 2)).take 2 = ((PL R 36).drop (j * 2)).take 2 := h2
  rw [take2_drop _ _ (by omega), take2_drop _ _ (by omega)] at h2'
  simp only [List.cons.injEq, and_true] at h2'
  rw [h2'.1, h2'.2]
  exact qCan_pair hr j (by omega)
theorem diX_rack {R : List Int} (hR : R.length = 24) (hr : rackB R = true) {q : Nat} (hq : q < sucC R) : rackB (diX R q) = true := by
  have hl := ulF_sucC R
  obtain ⟨a0, b0⟩ := ul_bd (R := R) (q := q) (by omega)
  exact rack_frm (pourF_len hR _ _) (pour_rack hR hr a0 b0 (ul_can hr hq))
theorem okU_suc {Q : List (List Int)} (h : okU Q) : okU (Q.flatMap sucU) := fun x hx => by
  obtain ⟨y, hy, hx⟩ := List.mem_flatMap.1 hx
  obtain ⟨q, hq, rfl⟩ := List.mem_map.1 hx
  obtain ⟨y24, yr⟩ := h y hy
  exact ⟨diX_len y24 q, diX_rack y24 yr (List.mem_range.1 hq)⟩
/-- Up to some racks, and up to some pours of the next one. -/
def upU (Q : List (List Int)) (i j : Nat) : List (List Int) := (Q.take i).flatMap sucU ++ (sucU (Q.getD i [])).take j
theorem upU_zero (Q : List (List Int)) : upU Q 0 0 = [] := by simp [upU]
theorem upU_next (Q : List (List Int)) {i : Nat} (hi : i < Q.length) : upU Q i (sucC (Q.getD i [])) = upU Q (i + 1) 0 := by
  unfold upU
  have e : (sucU (Q.getD i [])).take (sucC (Q.getD i [])) = sucU (Q.getD i []) := List.take_of_length_le (by rw [sucU_len]; omega)
  rw [e, take_succ_getD Q i hi, List.flatMap_append, List.take_zero, List.append_nil, List.flatMap_cons, List.flatMap_nil, List.append_nil]
theorem upU_snoc (Q : List (List Int)) {i j : Nat} (hj : j < sucC (Q.getD i [])) : upU Q i (j + 1) = upU Q i j ++ [diX (Q.getD i []) j] := by
  unfold upU
  rw [take_succ_getD _ _ (by rw [sucU_len]; exact hj), List.append_assoc, sucU_getD _ hj]
theorem upU_end (Q : List (List Int)) : upU Q Q.length 0 = Q.flatMap sucU := by
  unfold upU
  rw [List.take_of_length_le (by omega), List.take_zero, List.append_nil]
theorem upU_ok {Q : List (List Int)} (h : okU Q) {i j : Nat} (hi : i < Q.length ∨ j = 0) : okU (upU Q i j) := by
  unfold upU
  refine okU_app (okU_suc fun x hx => h x (List.mem_of_mem_take hx)) fun x hx => ?_
  rcases hi with hi | hj
  · exact okU_suc h x (List.mem_flatMap.2 ⟨Q.getD i [], getD_mem hi, List.mem_of_mem_take hx⟩)
  · subst hj; simp at hx
theorem fmU_len : ∀ Q : List (List Int), (Q.flatMap sucU).length ≤ 36 * Q.length
  | [] => by simp
  | x :: Q => by
    rw [List.flatMap_cons, List.length_append, sucU_len, List.length_cons]
    have := fmU_len Q
    have := sucC_le x
    omega
theorem upU_len (Q : List (List Int)) (i j : Nat) : (upU Q i j).length ≤ 36 * i + j := by
  unfold upU
  rw [List.length_append, List.length_take]
  have := fmU_len (Q.take i)
  have h2 := List.length_take (i := i) (l := Q)
  omega
/-! Layers. -/
def lk (R : List Int) : Nat → List (List Int) × List (List Int)
  | 0 => ([frm R], [frm R])
  | d + 1 => ((lk R d).1 ++ nwF (lk R d).1 ((lk R d).2.flatMap sucU), nwF (lk R d).1 ((lk R d).2.flatMap sucU))
def kn (R : List Int) (d : Nat) : List (List Int) := (lk R d).1
def lay (R : List Int) (d : Nat) : List (List Int) := (lk R d).2
theorem kn_zero (R : List Int) : kn R 0 = [frm R] := rfl
theorem lay_zero (R : List Int) : lay R 0 = [frm R] := rfl
theorem lay_succ (R : List Int) (d : Nat) : lay R (d + 1) = nwF (kn R d) ((lay R d).flatMap sucU) := rfl
theorem kn_succ (R : List Int) (d : Nat) : kn R (d + 1) = kn R d ++ lay R (d + 1) := rfl
theorem lk_ok {R : List Int} (hR : R.length = 24) (hr : rackB R = true) : ∀ d, okU (kn R d) ∧ okU (lay R d)
  | 0 => by
    have : okU [frm R] := fun x hx => by
      rw [List.mem_singleton] at hx; subst hx; exact ⟨frm_len hR, rack_frm hR hr⟩
    exact ⟨this, this⟩
  | d + 1 => by
    obtain ⟨h1, h2⟩ := lk_ok hR hr d
    have h3 : okU (lay R (d + 1)) := okU_nw (okU_suc h2)
    exact ⟨okU_app h1 h3, h3⟩
theorem kn_len (R : List Int) (d : Nat) : (kn R (d + 1)).length = (kn R d).length + (lay R (d + 1)).length := by rw [kn_succ, List.length_append]
theorem lay_kn (R : List Int) : ∀ d, (lay R d).length ≤ (kn R d).length
  | 0 => Nat.le_refl _
  | d + 1 => by rw [kn_len]; omega
theorem kn_mono (R : List Int) {d : Nat} : ∀ {e : Nat}, d ≤ e → (kn R d).length ≤ (kn R e).length
  | 0, h => by obtain rfl : d = 0 := by omega
               exact Nat.le_refl _
  | e + 1, h => by
    by_cases he : d ≤ e
    · have := kn_mono R (d := d) he
      rw [kn_len]; omega
    · obtain rfl : d = e + 1 := by omega
      exact Nat.le_refl _
/-- Nothing new any more. -/
theorem lay_nil (R : List Int) {d : Nat} (h : lay R d = []) : ∀ e, d ≤ e → lay R e = [] ∧ kn R e = kn R d := by
  intro e he
  induction e with
  | zero => obtain rfl : d = 0 := by omega
            exact ⟨h, rfl⟩
  | succ e ih =>
    by_cases hd : d ≤ e
    · obtain ⟨h1, h2⟩ := ih hd
      have h3 : lay R (e + 1) = [] := by rw [lay_succ, h1]; rfl
      exact ⟨h3, by rw [kn_succ, h3, h2, List.append_nil]⟩
    · obtain rfl : d = e + 1 := by omega
      exact ⟨h, rfl⟩
/-! When a search stops. -/
def ovf (R : List Int) (d : Nat) : Bool := decide (600 < (kn R d).length)
def stp (pr : List Int → Bool) (R : List Int) (d : Nat) : Bool := ovf R d || ((lay R d).any pr || (lay R d).isEmpty)
def fsN (p : Nat → Bool) : Nat → Nat → Nat
  | 0, d => d
  | f + 1, d => if p d = true then d else fsN p f (d + 1)
theorem fsN_eq {p : Nat → Bool} : ∀ {f d e : Nat}, d ≤ e → e ≤ d + f → p e = true → (∀ k, d ≤ k → k < e → p k = false) → fsN p f d = e
  | 0, d, e, h1, h2, h3, h4 => by show d = e; omega
  | f + 1, d, e, h1, h2, h3, h4 => by
    unfold fsN
    by_cases hde : d = e
    · subst hde; rw [if_pos h3]
    · have := h4 d (by omega) (by omega)
      rw [if_neg (by rw [this]; simp)]
      exact fsN_eq (by omega) (by omega) h3 fun k hk1 hk2 => h4 k (by omega) hk2
/-- The depth at which a search stops. -/
def dep (pr : List Int → Bool) (R : List Int) : Nat := fsN (stp pr R) 700 0
theorem pass_len {pr : List Int → Bool} {R : List Int} : ∀ {d : Nat}, (∀ k, k < d → stp pr R k = false) → d + 1 ≤ (kn R d).length + (if (lay R d).isEmpty = true then 1 else 0)
  | 0, _ => by rw [kn_zero]; simp
  | d + 1, h => by
    have ih := pass_len (d := d) fun k hk => h k (by omega)
    have hd := h d (by omega)
    unfold stp at hd
    simp only [Bool.or_eq_false_iff] at hd
    have e1 := hd.2.2
    rw [e1] at ih
    simp only [Bool.false_eq_true, if_false, Nat.add_zero] at ih
    rw [kn_len]
    by_cases he : (lay R (d + 1)).isEmpty = true
    · rw [if_pos he]; omega
    · rw [if_neg he]
      have : 0 < (lay R (d + 1)).length := by
        rcases Nat.eq_zero_or_pos (lay R (d + 1)).length with h0 | h0
        · exact absurd (by rw [List.length_eq_zero_iff.1 h0]; rfl) he
        · exact h0
      omega
theorem dep_eq {pr : List Int → Bool} {R : List Int} {d : Nat} (h1 : stp pr R d = true) (h2 : ∀ k, k < d → stp pr R k = false) : dep pr R = d := by
  have hd : d ≤ 700 := by
    cases d with
    | zero => omega
    | succ d =>
      have h3 := h2 d (by omega)
      have := pass_len (d := d) fun k hk => h2 k (by omega)
      unfold stp at h3
      simp only [Bool.or_eq_false_iff] at h3
      have e1 := h3.2.2
      have e2 := h3.1
      unfold ovf at e2
      have e3 := of_decide_eq_false e2
      rw [e1] at this
      simp only [Bool.false_eq_true, if_false] at this
      omega
  exact fsN_eq (Nat.zero_le _) (by omega) h1 fun k _ hk => h2 k hk
theorem pass_bound {pr : List Int → Bool} {R : List Int} {d : Nat} (h : ∀ k, k ≤ d → stp pr R k = false) : d ≤ 600 ∧ (kn R d).length ≤ 600 ∧ (lay R d).any pr = false ∧ lay R d ≠ [] := by
  have h3 := h d (Nat.le_refl _)
  have := pass_len (d := d) fun k hk => h k (by omega)
  unfold stp at h3
  simp only [Bool.or_eq_false_iff] at h3
  have e2 := h3.1
  unfold ovf at e2
  have e3 := of_decide_eq_false e2
  rw [h3.2.2] at this
  simp only [Bool.false_eq_true, if_false] at this
  refine ⟨by omega, by omega, h3.2.1, fun h0 => ?_⟩
  have := h3.2.2
  rw [h0] at this
  cases this
/-! Levels. -/
def lvl (R : List Int) : Nat → List Int
  | 0 => [0]
  | d + 1 => lvl R d ++ List.replicate (lay R (d + 1)).length ((d + 1 : Nat) : Int)
theorem lvl_zero (R : List Int) : lvl R 0 = [0] := rfl
theorem lvl_succ (R : List Int) (d : Nat) : lvl R (d + 1) = lvl R d ++ List.replicate (lay R (d + 1)).length ((d + 1 : Nat) : Int) := rfl
theorem lvl_len (R : List Int) : ∀ d, (lvl R d).length = (kn R d).length
  | 0 => rfl
  | d + 1 => by rw [lvl_succ, List.length_append, List.length_replicate, lvl_len R d, kn_len]
/-! Maps from racks to numbers. -/
theorem zip_len {K : List (List Int)} {P : List Int} (h : K.length = P.length) : (K.zip P).length = K.length := by rw [List.length_zip]; omega
theorem zip_keys {K : List (List Int)} (P : List Int) (h : all24 K) : keysOK (K.zip P) 24 := fun q hq => h _ (List.of_mem_zip hq).1
theorem mhas_zip (x : List Int) : ∀ {K : List (List Int)} {P : List Int}, K.length = P.length → mhas (K.zip P) x = decide (x ∈ K)
  | [], _, _ => rfl
  | k :: K, [], h => by simp at h
  | k :: K, p :: P, h => by
    show (if x = k then true else mhas (K.zip P) x) = _
    rw [mhas_zip x (by simpa using h)]
    by_cases hk : x = k
    · simp [hk]
    · simp [hk]
theorem mset_zip {x : List Int} {v : Int} : ∀ {K : List (List Int)} {P : List Int}, K.length = P.length → x ∉ K → mset (K.zip P) x v = (K ++ [x]).zip (P ++ [v])
  | [], [], _, _ => rfl
  | [], _ :: _, h, _ => by simp at h
  | k :: K, [], h, _ => by simp at h
  | k :: K, p :: P, h, hx => by
    have h1 : ¬ x = k := fun e => hx (e ▸ List.mem_cons_self ..)
    have ih := mset_zip (x := x) (v := v) (K := K) (P := P) (by simpa using h) fun hh => hx (List.mem_cons_of_mem _ hh)
    show (if x = k then (k, v) :: K.zip P else (k, p) :: mset (K.zip P) x v) = _
    rw [if_neg h1, ih]; rfl
end Go.Proofs.YtmccafjblhbmkaaGreat
set_option maxRecDepth 100000
set_option linter.unusedSimpArgs false
set_option linter.unusedVariables false
namespace Go.Proofs.YtmccafjblhbmkaaGreat
open Go Go.RowKit
def upF (R : List Int) : List Int := if rackB R = true then ulF R else []
theorem UsefulPours_ok (R : List Int) (hR : R.length = 24) : FreshP Tryz.prog 21 [.arr R] [] (upF R) ((upF R).length / 2) 2 65 (decide (rackB R = false ∨ PL R 36 = [])) (.more [.bool (rackB R)]) := by
  have tkR : R.take 24 = R := List.take_of_length_le (by omega)
  unfold upF
  cases hr : rackB R
  · refine fresh_of_vc (X := ⟨Tryz.prog, tys, [(62, IsRack_F)], [(84, useful_F)], true, true, 0, [], []⟩) fn_21 ⟨tys_ok, (.cons IsRack_T .nil), (.cons useful_T .nil), mixed⟩ (n0 := 0) rfl (Nat.le_of_ble_eq_true rfl) (by simp [wfL, SV.wf]) (wfH_spec (by simp [wfH, SObj.wf])) (Nat.le_refl _) ?_
    simp -implicitDefEqProofs only [Tryz.f21, Option.getD_some, argS, IsRack_F, useful_F, hR, tkR, hr, freshK, Wrap.ap, ZB, Int.reduceToNat, Nat.reduceLT, Nat.reduceLeDiff, Int.reduceLE, Int.reduceLT, Nat.reduceEqDiff, Nat.reduceSub, SB, SV.known, packR, ne_eq, reduceCtorEq, Nat.reduceEqDiff, ↓reduceIte, if_true, if_false, eq_self, Nat.reduceAdd, Nat.reduceMul, Nat.reduceSub, forall_const, oneCellS, litOne, flat1, Kd.isSca, flat, TYB]
    exact .inl ⟨by simp, rfl, rfl⟩
  · refine fresh_of_vc (X := ⟨Tryz.prog, tys, [(62, IsRack_F)], [(84, useful_F)], true, true, 0, [], []⟩) fn_21 ⟨tys_ok, (.cons IsRack_T .nil), (.cons useful_T .nil), mixed⟩ (n0 := 0) rfl (Nat.le_of_ble_eq_true rfl) (by simp [wfL, SV.wf]) (wfH_spec (by simp [wfH, SObj.wf])) (Nat.le_refl _) ?_
    simp -implicitDefEqProofs only [Tryz.f21, Option.getD_some, argS, IsRack_F, useful_F, hR, tkR, hr, freshK, Wrap.ap, ZB, Int.reduceToNat, Nat.reduceLT, Nat.reduceLeDiff, Int.reduceLE, Int.reduceLT, Nat.reduceEqDiff, Nat.reduceSub, SB, SV.known, packR, ne_eq, reduceCtorEq, Nat.reduceEqDiff, ↓reduceIte, if_true, if_false, eq_self, Nat.reduceAdd, Nat.reduceMul, Nat.reduceSub, forall_const, oneCellS, litOne, flat1, Kd.isSca, flat, TYB]
    exact ⟨fun h1 h2 => .inl ⟨by simp [h1], h2, rfl⟩, fun h cap junk hj => .inr ⟨1, cap, junk, rfl, by simp [hget_cons], by omega, hj, by simpa using h⟩⟩
def UsefulPours_F : List SV → Heap → Nat → Nat → K1 → Prop
  | [.arr R], H, n, _, κ => R.length = 24 ∧ freshK (.more [.bool (rackB R)]) (upF R) ((upF R).length / 2) 2 65 (decide (rackB R = false ∨ PL R 36 = [])) H n κ
  | _, _, _, _, _ => False
theorem UsefulPours_T : ∀ args H n m κ, UsefulPours_F args H n m κ → GenOK Tryz.prog 21 args H n m κ := by
  intro args H n m κ h
  unfold UsefulPours_F at h
  split at h
  · exact gen_of_fresh (UsefulPours_ok _ h.1) (fun k o hk => by cases hk) h.2
  · exact h.elim
end Go.Proofs.YtmccafjblhbmkaaGreat
set_option maxRecDepth 100000
set_option linter.unusedSimpArgs false
set_option linter.unusedVariables false
namespace Go.Proofs.YtmccafjblhbmkaaGreat
open Go Go.RowKit
/-! Colors counted. -/
--@tbl countColors = impl.countColors
--@tbl l2Counts = spec.l2Counts
theorem cnt_step {R : List Int} (hR : R.length = 24) (hr : rackB R = true) {i j : Nat} (hi : i < 6) (hj : j < 4) : cntL (R.take (i * 4 + (j + 1))) = incr (cntL (R.take (i * 4 + j))) (R.getD (i * 4 + j) 0).toNat ∧ (0 ≤ R.getD (i * 4 + j) 0 ∧ R.getD (i * 4 + j) 0 ≤ 5) ∧
    0 ≤ (cntL (R.take (i * 4 + j))).getD (R.getD (i * 4 + j) 0).toNat 0 ∧ (cntL (R.take (i * 4 + j))).getD (R.getD (i * 4 + j) 0).toNat 0 ≤ 24 := by
  have := cntL_take_succ R (i * 4 + j) (by omega)
  have rc := rack_cell hR hr (k := i * 4 + j) (by omega)
  have cb := cntL_bd (R.take (i * 4 + j)) (R.getD (i * 4 + j) 0).toNat
  have : (R.take (i * 4 + j)).length ≤ 24 := by rw [List.length_take]; omega
  refine ⟨by rw [← Nat.add_assoc]; assumption, rc, by omega, by omega⟩
theorem countColors_ok (R : List Int) (hR : R.length = 24) (hr : rackB R = true) : PureH Tryz.prog 82 [.arr R] [] (.arr (cntL R)) := by
  have tkR : R.take 24 = R := List.take_of_length_le (by omega)
  refine pure_of_vc (X := ⟨Tryz.prog, tys, [], [], true, true, 0, [], []⟩) fn_82 ⟨tys_ok, .nil, .nil, mixed⟩ (n0 := 0) (Nat.le_of_ble_eq_true rfl) (by simp [wfL, SV.wf]) (wfH_spec (by simp [wfH, SObj.wf])) (Nat.le_refl _) (fun _ => by simp [SV.wf, wfL]) ?_
  simp -implicitDefEqProofs only [Tryz.f82, Option.getD_some, argS, hR, tkR, ZB, Int.reduceToNat, Nat.reduceLT, Nat.reduceLeDiff, Int.reduceLE, Int.reduceLT, Nat.reduceEqDiff, Nat.reduceSub, SB, SV.known, packR, ne_eq, reduceCtorEq, Nat.reduceEqDiff, ↓reduceIte, if_true, if_false, eq_self, Nat.reduceAdd, Nat.reduceMul, Nat.reduceSub, forall_const, oneCellS, litOne, flat1, Kd.isSca, flat, TYB]
  refine loop_intro (fun i : Nat => [(10, .int i), (9, .arr R), (3, .ptr 2 0), (2, .ptr 1 0), (1, .ptr 0 0)]) (fun i => [(0, .ints R 27), (1, .ints (List.replicate 6 0) 40), (2, .ints (cntL (R.take (i * 4))) 40)]) 3 (fun i => i ≤ 6) (fun i => 6 - i) ?_ ?_
  · refine ⟨0, ?_, Sub.mk_id ?_ ?_ ?_ ?_ ?_⟩
    all_goals (try (simp only [List.take_zero, Nat.zero_mul, cntL_nil, LB, subS, subH, wfS, wfH, SV.ren, renL, SObj.ren, SV.wf, SObj.wf, wfL, SV.known, Nat.reduceEqDiff, ↓reduceIte, if_true, if_false, eq_self, Nat.reduceAdd, Nat.reduceLT, Nat.reduceLeDiff, implies_true, reduceCtorEq, forall_const]; done))
    all_goals (try (simp only [List.take_zero, Nat.zero_mul, cntL_nil, LB, subS, subH, wfS, wfH, SV.ren, renL, SObj.ren, SV.wf, SObj.wf, wfL, SV.known, Nat.reduceEqDiff, ↓reduceIte, if_true, if_false, eq_self, Nat.reduceAdd, Nat.reduceLT, Nat.reduceLeDiff, implies_true, reduceCtorEq, forall_const]; simp; done))
    all_goals (try (simp only [List.take_zero, Nat.zero_mul, cntL_nil, LB, subS, subH, wfS, wfH, SV.ren, renL, SObj.ren, SV.wf, SObj.wf, wfL, SV.known, Nat.reduceEqDiff, ↓reduceIte, if_true, if_false, eq_self, Nat.reduceAdd, Nat.reduceLT, Nat.reduceLeDiff, implies_true, reduceCtorEq, forall_const]; (and_intros <;> (first | omega | rfl | (simp; done) | (simp; omega))); done))
    all_goals (try dsimp only)
    all_goals (and_intros <;> try (first | omega | (unfold In64; omega) | trivial | assumption))
  · intro i hi
    have eT : List.take 4 (List.drop (i * 4) R) = tubeAt R i := rfl
    by_cases hlt : i < 6
    · have hil : (i : Int) < 6 := by omega
      have hl := tubeAt_len hR hlt
      have tk4 : (tubeAt R i).take 4 = tubeAt R i := List.take_of_length_le (by omega)
      simp -implicitDefEqProofs only [lk_normal, hil, hR, eT, hl, tk4, ZB, Int.reduceToNat, Nat.reduceLT, Nat.reduceLeDiff, Int.reduceLE, Int.reduceLT, Nat.reduceEqDiff, Nat.reduceSub, SB, SV.known, packR, ne_eq, reduceCtorEq, Nat.reduceEqDiff, ↓reduceIte, if_true, if_false, eq_self, Nat.reduceAdd, Nat.reduceMul, Nat.reduceSub, forall_const, oneCellS, litOne, flat1, Kd.isSca, flat, TYB]
      refine ⟨by omega, ?_⟩
      refine loop_intro (fun j : Nat => [(14, .int j), (13, .arr (tubeAt R i)), (10, .int i), (9, .arr R), (3, .ptr 2 0), (2, .ptr 1 0), (1, .ptr 0 0)]) (fun j => [(0, .ints R 27), (1, .ints (List.replicate 6 0) 40), (2, .ints (cntL (R.take (i * 4 + j))) 40)]) 3 (fun j => j ≤ 4) (fun j => 4 - j) ?_ ?_
      · refine ⟨0, ?_, Sub.mk_id ?_ ?_ ?_ ?_ ?_⟩
        all_goals (try (simp only [Nat.add_zero, LB, subS, subH, wfS, wfH, SV.ren, renL, SObj.ren, SV.wf, SObj.wf, wfL, SV.known, Nat.reduceEqDiff, ↓reduceIte, if_true, if_false, eq_self, Nat.reduceAdd, Nat.reduceLT, Nat.reduceLeDiff, implies_true, reduceCtorEq, forall_const]; done))
        all_goals (try (simp only [Nat.add_zero, LB, subS, subH, wfS, wfH, SV.ren, renL, SObj.ren, SV.wf, SObj.wf, wfL, SV.known, Nat.reduceEqDiff, ↓reduceIte, if_true, if_false, eq_self, Nat.reduceAdd, Nat.reduceLT, Nat.reduceLeDiff, implies_true, reduceCtorEq, forall_const]; simp; done))
        all_goals (try (simp only [Nat.add_zero, LB, subS, subH, wfS, wfH, SV.ren, renL, SObj.ren, SV.wf, SObj.wf, wfL, SV.known, Nat.reduceEqDiff, ↓reduceIte, if_true, if_false, eq_self, Nat.reduceAdd, Nat.reduceLT, Nat.reduceLeDiff, implies_true, reduceCtorEq, forall_const]; (and_intros <;> (first | omega | rfl | (simp; done) | (simp; omega))); done))
        all_goals (try dsimp only)
        all_goals (and_intros <;> try (first | omega | (unfold In64; omega) | trivial | assumption))
      · intro j hj
        by_cases hjt : j < 4
        · have hjl : (j : Int) < 4 := by omega
          have cs := cnt_step hR hr hlt hjt
          have cl := cntL_len (R.take (i * 4 + j))
          have eg : (tubeAt R i).getD j 0 = R.getD (i * 4 + j) 0 := tubeAt_getD R i j hjt
          simp -implicitDefEqProofs only [lk_normal, hil, hjl, hR, cl, hl, eg, ZB, Int.reduceToNat, Nat.reduceLT, Nat.reduceLeDiff, Int.reduceLE, Int.reduceLT, Nat.reduceEqDiff, Nat.reduceSub, SB, SV.known, packR, ne_eq, reduceCtorEq, Nat.reduceEqDiff, ↓reduceIte, if_true, if_false, eq_self, Nat.reduceAdd, Nat.reduceMul, Nat.reduceSub, forall_const, oneCellS, litOne, flat1, Kd.isSca, flat, TYB]
          (try (and_intros <;> try (first | omega | (unfold In64; omega) | trivial | assumption)))
          refine ⟨j + 1, ?_, ?_, Sub.mk_id ?_ ?_ ?_ ?_ ?_⟩
          all_goals (try (simp only [cs.1, incr, LB, subS, subH, wfS, wfH, SV.ren, renL, SObj.ren, SV.wf, SObj.wf, wfL, SV.known, Nat.reduceEqDiff, ↓reduceIte, if_true, if_false, eq_self, Nat.reduceAdd, Nat.reduceLT, Nat.reduceLeDiff, implies_true, reduceCtorEq, forall_const]; done))
          all_goals (try (simp only [cs.1, incr, LB, subS, subH, wfS, wfH, SV.ren, renL, SObj.ren, SV.wf, SObj.wf, wfL, SV.known, Nat.reduceEqDiff, ↓reduceIte, if_true, if_false, eq_self, Nat.reduceAdd, Nat.reduceLT, Nat.reduceLeDiff, implies_true, reduceCtorEq, forall_const]; simp; done))
          all_goals (try (simp only [cs.1, incr, LB, subS, subH, wfS, wfH, SV.ren, renL, SObj.ren, SV.wf, SObj.wf, wfL, SV.known, Nat.reduceEqDiff, ↓reduceIte, if_true, if_false, eq_self, Nat.reduceAdd, Nat.reduceLT, Nat.reduceLeDiff, implies_true, reduceCtorEq, forall_const]; (and_intros <;> (first | omega | rfl | (simp; done) | (simp; omega))); done))
          all_goals (try dsimp only)
          all_goals (and_intros <;> try (first | omega | (unfold In64; omega) | trivial | assumption))
        · have hjl : ¬ (j : Int) < 4 := by omega
          obtain rfl : j = 4 := by omega
          simp -implicitDefEqProofs only [lk_normal, hjl, ZB, Int.reduceToNat, Nat.reduceLT, Nat.reduceLeDiff, Int.reduceLE, Int.reduceLT, Nat.reduceEqDiff, Nat.reduceSub, SB, SV.known, packR, ne_eq, reduceCtorEq, Nat.reduceEqDiff, ↓reduceIte, if_true, if_false, eq_self, Nat.reduceAdd, Nat.reduceMul, Nat.reduceSub, forall_const, oneCellS, litOne, flat1, Kd.isSca, flat, TYB]
          (try (and_intros <;> try (first | omega | (unfold In64; omega) | trivial | assumption)))
          have e2 : (i + 1) * 4 = i * 4 + 4 := by omega
          refine ⟨i + 1, ?_, ?_, Sub.mk_id ?_ ?_ ?_ ?_ ?_⟩
          all_goals (try (simp only [e2, LB, subS, subH, wfS, wfH, SV.ren, renL, SObj.ren, SV.wf, SObj.wf, wfL, SV.known, Nat.reduceEqDiff, ↓reduceIte, if_true, if_false, eq_self, Nat.reduceAdd, Nat.reduceLT, Nat.reduceLeDiff, implies_true, reduceCtorEq, forall_const]; done))
          all_goals (try (simp only [e2, LB, subS, subH, wfS, wfH, SV.ren, renL, SObj.ren, SV.wf, SObj.wf, wfL, SV.known, Nat.reduceEqDiff, ↓reduceIte, if_true, if_false, eq_self, Nat.reduceAdd, Nat.reduceLT, Nat.reduceLeDiff, implies_true, reduceCtorEq, forall_const]; simp; done))
          all_goals (try (simp only [e2, LB, subS, subH, wfS, wfH, SV.ren, renL, SObj.ren, SV.wf, SObj.wf, wfL, SV.known, Nat.reduceEqDiff, ↓reduceIte, if_true, if_false, eq_self, Nat.reduceAdd, Nat.reduceLT, Nat.reduceLeDiff, implies_true, reduceCtorEq, forall_const]; (and_intros <;> (first | omega | rfl | (simp; done) | (simp; omega))); done))
          all_goals (try dsimp only)
          all_goals (and_intros <;> try (first | omega | (unfold In64; omega) | trivial | assumption))
    · have hil : ¬ (i : Int) < 6 := by omega
      obtain rfl : i = 6 := by omega
      have cl2 := cntL_len R
      have tkc : (cntL R).take 6 = cntL R := List.take_of_length_le (by omega)
      simp -implicitDefEqProofs only [lk_normal, hil, hR, tkR, cl2, tkc, ZB, Int.reduceToNat, Nat.reduceLT, Nat.reduceLeDiff, Int.reduceLE, Int.reduceLT, Nat.reduceEqDiff, Nat.reduceSub, SB, SV.known, packR, ne_eq, reduceCtorEq, Nat.reduceEqDiff, ↓reduceIte, if_true, if_false, eq_self, Nat.reduceAdd, Nat.reduceMul, Nat.reduceSub, forall_const, oneCellS, litOne, flat1, Kd.isSca, flat, TYB]
      (try (and_intros <;> try (first | omega | (unfold In64; omega) | trivial | assumption)))
def countColors_F : List SV → Heap → Option (Prop × SV)
  | [.arr R], _ => some (R.length = 24 ∧ rackB R = true, .arr (cntL R))
  | _, _ => none
theorem countColors_T : ∀ args H p v, countColors_F args H = some (p, v) → p → PureH Tryz.prog 82 args H v := by
  intro args H p v h hp
  unfold countColors_F at h
  split at h
  · cases h; exact (countColors_ok _ hp.1 hp.2).any _
  · cases h
/-! Views. -/
end Go.Proofs.YtmccafjblhbmkaaGreat
set_option maxRecDepth 100000
set_option linter.unusedSimpArgs false
set_option linter.unusedVariables false
namespace Go.Proofs.YtmccafjblhbmkaaGreat
open Go Go.RowKit
def ccF (R : List Int) : List Int := if rackB R = true then cntL R else List.replicate 6 0
--@tbl CountColors = impl.CountColors
--@tbl sCountColors = spec.CountColors
theorem CountColors_ok (R : List Int) (hR : R.length = 24) : PureH Tryz.prog 19 [.arr R] [] (.tup [.arr (ccF R), .bool (rackB R)]) := by
  have tkR : R.take 24 = R := List.take_of_length_le (by omega)
  have tkc : (cntL R).take 6 = cntL R := List.take_of_length_le (by rw [cntL_len]; omega)
  have lc := cntL_len R
  have r6 : List.take 6 (List.replicate 6 (0 : Int)) = List.replicate 6 0 := rfl
  unfold ccF
  cases hr : rackB R
  all_goals
    refine pure_of_vc (X := ⟨Tryz.prog, tys, [(62, IsRack_F), (82, countColors_F)], [], true, true, 0, [], []⟩) fn_19 ⟨tys_ok, (.cons IsRack_T (.cons countColors_T .nil)), .nil, mixed⟩ (n0 := 0) (Nat.le_of_ble_eq_true rfl) (by simp [wfL, SV.wf]) (wfH_spec (by simp [wfH, SObj.wf])) (Nat.le_refl _) (fun _ => by simp [SV.wf, wfL]) ?_
    simp -implicitDefEqProofs only [Tryz.f19, Option.getD_some, argS, IsRack_F, countColors_F, hR, tkR, hr, tkc, lc, r6, ZB, Int.reduceToNat, Nat.reduceLT, Nat.reduceLeDiff, Int.reduceLE, Int.reduceLT, Nat.reduceEqDiff, Nat.reduceSub, SB, SV.known, packR, ne_eq, reduceCtorEq, Nat.reduceEqDiff, ↓reduceIte, if_true, if_false, eq_self, Nat.reduceAdd, Nat.reduceMul, Nat.reduceSub, forall_const, oneCellS, litOne, flat1, Kd.isSca, flat, TYB]
def CountColors_F : List SV → Heap → Option (Prop × SV)
  | [.arr R], _ => some (R.length = 24, .tup [.arr (ccF R), .bool (rackB R)])
  | _, _ => none
theorem CountColors_T : ∀ args H p v, CountColors_F args H = some (p, v) → p → PureH Tryz.prog 19 args H v := by
  intro args H p v h hp
  unfold CountColors_F at h
  split at h
  · cases h; exact (CountColors_ok _ hp).any _
  · cases h
end Go.Proofs.YtmccafjblhbmkaaGreat
set_option maxRecDepth 100000
set_option linter.unusedSimpArgs false
set_option linter.unusedVariables false
namespace Go.Proofs.YtmccafjblhbmkaaGreat
open Go Go.RowKit
/-! A pour exchanges cells. -/
theorem incr_comm (L : List Int) (a b : Nat) : incr (incr L a) b = incr (incr L b) a := by
  apply List.ext_getElem (by simp [incr])
  intro k h1 h2
  simp only [incr, List.length_set] at h1
  simp only [incr, List.getElem_set, List.getD_eq_getElem?_getD, List.getElem?_set]
  by_cases hab : a = b
  · subst hab; rfl
  · by_cases hak : a = k
    · subst hak
      by_cases hbk : b = a
      · exact absurd hbk.symm hab
      · simp [hbk, Ne.symm hbk, h1]
    · by_cases hbk : b = k
      · subst hbk; simp [hab, h1]
      · simp [hak, hbk]
theorem cntL_perm {L M : List Int} (h : L.Perm M) : cntL L = cntL M := by
  unfold cntL
  refine List.Perm.foldl_eq' h (fun x _ y _ z => incr_comm _ _ _) _
/-! Sorted racks. -/
end Go.Proofs.YtmccafjblhbmkaaGreat
set_option maxRecDepth 100000
set_option linter.unusedSimpArgs false
set_option linter.unusedVariables false
namespace Go.Proofs.YtmccafjblhbmkaaGreat
open Go Go.RowKit
theorem tubs_get {R : List Int} {i : Nat} (hi : i < 6) : (tubs R)[i]? = some (tubeAt R i) := by simp [tubs, hi]
theorem tubs_frm {R : List Int} (hR : R.length = 24) : tubs (frm R) = srtT (tubs R) := by
  have h4 : ∀ y ∈ srtT (tubs R), y.length = 4 := fun y hy => tubs_len hR y ((srtT_perm _).mem_iff.1 hy)
  have hl : (srtT (tubs R)).length = 6 := by rw [(srtT_perm _).length_eq]; simp [tubs]
  refine List.ext_getElem (by rw [hl]; simp [tubs]) fun i h1 h2 => ?_
  have e1 := flat_getW h4 h2
  rw [List.getD_eq_getElem?_getD, List.getElem?_eq_getElem h2] at e1
  simp only [tubs, List.getElem_map, List.getElem_range]
  exact e1
theorem frm_perm {A B : List Int} (hA : A.length = 24) (hB : B.length = 24) (h : (tubs A).Perm (tubs B)) : frm A = frm B :=
  frm_of hB (frm_len hA) (by rw [tubs_frm hA]; exact (srtT_perm _).trans h) (by rw [tubs_frm hA]; exact srtT_pw (tubs_len hA))
theorem frm_frm {R : List Int} (hR : R.length = 24) : frm (frm R) = frm R :=
  frm_perm (frm_len hR) hR (by rw [tubs_frm hR]; exact srtT_perm _)
theorem flat_perm {A B : List Int} (hA : A.length = 24) (hB : B.length = 24) (h : (tubs A).Perm (tubs B)) : A.Perm B := by
  have := h.flatten
  rwa [tubs_flat hA, tubs_flat hB] at this
theorem cnt_frm {R : List Int} (hR : R.length = 24) : cntL (frm R) = cntL R :=
  cntL_perm (flat_perm (frm_len hR) hR (by rw [tubs_frm hR]; exact srtT_perm _))
/-! Searches. -/
theorem fsN_low {p : Nat → Bool} : ∀ (f d k : Nat), d ≤ k → k < fsN p f d → p k = false
  | 0, d, k, h1, h2 => by unfold fsN at h2; omega
  | f + 1, d, k, h1, h2 => by
    unfold fsN at h2
    split at h2
    · omega
    · rename_i hp
      by_cases hk : k = d
      · subst hk; simpa using hp
      · exact fsN_low f (d + 1) k (by omega) h2
theorem fsN_end {p : Nat → Bool} : ∀ (f d : Nat), p (fsN p f d) = true ∨ fsN p f d = d + f
  | 0, d => .inr rfl
  | f + 1, d => by
    unfold fsN
    split
    · rename_i hp; exact .inl hp
    · rcases fsN_end f (d + 1) with h | h
      · exact .inl h
      · exact .inr (by omega)
theorem dep_low {pr : List Int → Bool} {R : List Int} {k : Nat} (h : k < dep pr R) : stp pr R k = false := fsN_low 700 0 k (Nat.zero_le _) h
theorem stp_dep (pr : List Int → Bool) (R : List Int) : stp pr R (dep pr R) = true := by
  cases hs : stp pr R (dep pr R) with
  | true => rfl
  | false =>
    have hb := pass_bound (d := dep pr R) fun k hk => by
      by_cases hkd : k = dep pr R
      · subst hkd; exact hs
      · exact dep_low (by omega)
    rcases fsN_end (p := stp pr R) 700 0 with h | h
    · have : stp pr R (dep pr R) = true := h
      rw [this] at hs; cases hs
    · have : dep pr R = 0 + 700 := h
      omega
theorem reach_pos (R : List Int) (d : Nat) : 1 ≤ (kn R d).length := by
  have := kn_mono R (Nat.zero_le d)
  rw [kn_zero] at this
  exact this
/-- All that is reached is reached by then. -/
theorem reach_all {R : List Int} (h : ovf R (dep (fun _ => false) R) = false) (n : Nat) : (kn R n).length ≤ (kn R (dep (fun _ => false) R)).length := by
  have hs := stp_dep (fun _ => false) R
  unfold stp at hs
  rw [h] at hs
  have he : lay R (dep (fun _ => false) R) = [] := by
    simp at hs
    exact hs
  rcases Nat.le_total n (dep (fun _ => false) R) with hn | hn
  · exact kn_mono R hn
  · rw [(lay_nil R he n hn).2]; exact Nat.le_refl _
/-- The depth at which a form is found. -/
theorem few_zero {A F : List Int} (h : (lay A (dep (fun x => decide (x = F)) A)).any (fun x => decide (x = F)) = true) : (dep (fun x => decide (x = F)) A = 0) ↔ frm A = F := by
  constructor
  · intro h0
    rw [h0, lay_zero] at h
    simpa using h
  · intro hf
    refine dep_eq ?_ fun k hk => by omega
    unfold stp
    rw [lay_zero]
    simp [hf]
theorem few_more {A : List Int} {pr : List Int → Bool} {d : Nat} (h : (lay A (dep pr A)).any pr = true) (hd : dep pr A = d + 1) : ovf A d = false ∧ (kn A d).length < (kn A (d + 1)).length := by
  have h1 := dep_low (pr := pr) (R := A) (k := d) (by omega)
  unfold stp at h1
  simp only [Bool.or_eq_false_iff] at h1
  refine ⟨h1.1, ?_⟩
  rw [kn_len]
  rw [hd] at h
  have : 0 < (lay A (d + 1)).length := by
    rcases Nat.eq_zero_or_pos (lay A (d + 1)).length with h0 | h0
    · rw [List.length_eq_zero_iff.1 h0] at h; cases h
    · exact h0
  omega
theorem reach_one (R : List Int) : (kn R 1).length ≤ 1 + sucC (frm R) := by
  have h1 : (kn R 1).length = (kn R 0).length + (lay R 1).length := kn_len R 0
  have h2 : (lay R 1).length ≤ ((lay R 0).flatMap sucU).length := by rw [lay_succ]; exact nwF_len _ _
  rw [lay_zero] at h2
  rw [kn_zero] at h1
  simp only [List.flatMap_cons, List.flatMap_nil, List.append_nil, sucU_len, List.length_cons, List.length_nil] at h1 h2
  omega
end Go.Proofs.YtmccafjblhbmkaaGreat
set_option maxRecDepth 100000
set_option linter.unusedSimpArgs false
set_option linter.unusedVariables false
namespace Go.Proofs.YtmccafjblhbmkaaGreat
open Go Go.RowKit
def gU (x y : List Int) : Bool := decide (0 < (topF x).1) && decide ((layN y : Int) < 4) && (decide ((topF y).1 = 0) || decide ((topF y).1 = (topF x).1)) && !(decide ((runsL x).length / 2 = 1) && decide (layN y = 0))
def uC (R : List Int) (i j : Nat) : Bool := canF R i j && !idleF R [(i : Int), (j : Int)]
theorem uC_eq (R : List Int) (i j : Nat) : uC R i j = (!decide (i = j) && gU (tubeAt R i) (tubeAt R j)) := by
  unfold uC canF idleF gU
  have e : decide ((i : Int) = (j : Int)) = decide (i = j) := by
    by_cases h : i = j
    · rw [decide_eq_true h, decide_eq_true (by omega)]
    · rw [decide_eq_false h, decide_eq_false (by omega)]
  simp only [e, Int.toNat_natCast, List.getD_cons_zero, List.getD_cons_succ, Bool.and_assoc]
theorem GL_cnt (c : Nat → Nat → Bool) : ∀ m, (GL c m).length = 2 * ((List.range m).countP fun k => c (k / 6) (k % 6))
  | 0 => rfl
  | m + 1 => by
    rw [GL_succ, List.length_append, GL_cnt c m, List.range_succ, List.countP_append]
    unfold prG
    by_cases h : c (m / 6) (m % 6) = true
    · rw [if_pos h]; simp [h]; omega
    · rw [if_neg h]; simp [h]
theorem sum_perm {l m : List Nat} (h : l.Perm m) : l.sum = m.sum := by
  induction h with
  | nil => rfl
  | cons x _ ih => simp [ih]
  | swap x y l => simp only [List.sum_cons]; omega
  | trans _ _ h1 h2 => exact h1.trans h2
def tot (T : List (List Int)) : Nat := (T.map fun x => T.countP (gU x)).sum
def dia (T : List (List Int)) : Nat := T.countP fun x => gU x x
theorem tot_perm {T U : List (List Int)} (h : T.Perm U) : tot T = tot U ∧ dia T = dia U := by
  refine ⟨?_, h.countP_eq _⟩
  unfold tot
  have e : (T.map fun x => T.countP (gU x)) = T.map fun x => U.countP (gU x) := List.map_congr_left fun x _ => h.countP_eq _
  rw [e]
  exact sum_perm (h.map _)
theorem pairs_tot (f : Nat → List Int) : ((List.range 36).countP fun k => (!decide (k / 6 = k % 6) && gU (f (k / 6)) (f (k % 6)))) + dia ((List.range 6).map f) = tot ((List.range 6).map f) := by
  have e36 : List.range 36 = [0, 1, 2, 3, 4, 5, 6, 7, 8, 9, 10, 11, 12, 13, 14, 15, 16, 17, 18, 19, 20, 21, 22, 23, 24, 25, 26, 27, 28, 29, 30, 31, 32, 33, 34, 35] := by decide
  have e6 : List.range 6 = [0, 1, 2, 3, 4, 5] := by decide
  unfold tot dia
  rw [e36, e6]
  simp only [List.map_cons, List.map_nil, List.countP_cons, List.countP_nil, List.sum_cons, List.sum_nil, Nat.reduceDiv, Nat.reduceMod]
  simp only [Nat.reduceEqDiff, decide_true, decide_false, Bool.not_true, Bool.not_false, Bool.false_and, Bool.true_and, Bool.false_eq_true, if_false]
  omega
theorem ulF_GL {R : List Int} : ulF R = GL (uC R) 36 := by
  obtain ⟨n, h1, h2⟩ := kept_GL (fun i j => canF R i j) (uC R) (fun p => !idleF R p) (fun i j _ _ hc => by
    unfold uC; rw [show canF R i j = true from hc]; simp) (fun i j _ _ h => by unfold uC at h; simp at h; exact h.1) 36 (Nat.le_refl _)
  have e : PL R 36 = GL (fun i j => canF R i j) 36 := rfl
  unfold ulF
  rw [e, show (GL (fun i j => canF R i j) 36).length / 2 = n by omega]
  exact h2
theorem ul_order {A B : List Int} (h : (tubs A).Perm (tubs B)) : (ulF A).length = (ulF B).length := by
  have key : ∀ R : List Int, (ulF R).length + 2 * dia (tubs R) = 2 * tot (tubs R) := fun R => by
    rw [ulF_GL, GL_cnt]
    have e : ((List.range 36).countP fun k => uC R (k / 6) (k % 6)) = (List.range 36).countP fun k => (!decide (k / 6 = k % 6) && gU (tubeAt R (k / 6)) (tubeAt R (k % 6))) := by
      congr 1; funext k; exact uC_eq R _ _
    have := pairs_tot (tubeAt R)
    rw [e]
    unfold tubs
    omega
  have h1 := key A
  have h2 := key B
  obtain ⟨h3, h4⟩ := tot_perm h
  rw [h3, h4] at h1
  omega
/-- Two tubes change their places. -/
def exT (R : List Int) (i j : Nat) : List Int := putT (putT R i (tubeAt R j)) j (tubeAt R i)
theorem exT_len {R : List Int} (hR : R.length = 24) {i j : Nat} (hi : i < 6) (hj : j < 6) : (exT R i j).length = 24 :=
  putT_len (putT_len hR (tubeAt_len hR hj) hi) (tubeAt_len hR hi) hj
theorem exT_perm {R : List Int} (hR : R.length = 24) : (tubs (exT R 1 4)).Perm (tubs R) := by
  have h1 := putT_len hR (tubeAt_len hR (show 4 < 6 by omega)) (show 1 < 6 by omega)
  have e : ∀ q, q < 6 → tubeAt (exT R 1 4) q = if q = 4 then tubeAt R 1 else if q = 1 then tubeAt R 4 else tubeAt R q := fun q hq => by
    unfold exT
    rw [tubeAt_put h1 (tubeAt_len hR (by omega)) (by omega) hq, tubeAt_put hR (tubeAt_len hR (by omega)) (by omega) hq]
  have e6 : List.range 6 = [0, 1, 2, 3, 4, 5] := by decide
  have e7 : tubs (exT R 1 4) = [tubeAt R 0, tubeAt R 4, tubeAt R 2, tubeAt R 3, tubeAt R 1, tubeAt R 5] := by
    unfold tubs
    rw [e6]
    simp only [List.map_cons, List.map_nil]
    rw [e 0 (by omega), e 1 (by omega), e 2 (by omega), e 3 (by omega), e 4 (by omega), e 5 (by omega)]
    rfl
  have e8 : tubs R = [tubeAt R 0, tubeAt R 1, tubeAt R 2, tubeAt R 3, tubeAt R 4, tubeAt R 5] := by unfold tubs; rw [e6]; rfl
  rw [e7, e8, List.perm_iff_count]
  intro a
  simp only [List.count_cons, List.count_nil]
  omega
end Go.Proofs.YtmccafjblhbmkaaGreat
set_option maxRecDepth 100000
set_option linter.unusedSimpArgs false
set_option linter.unusedVariables false
namespace Go.Proofs.YtmccafjblhbmkaaGreat
open Go Go.RowKit
theorem reach_useful {R : List Int} (hR : R.length = 24) : (kn R 1).length ≤ 1 + (ulF R).length / 2 := by
  have h1 := reach_one R
  have h2 := ul_order (A := frm R) (B := R) (by rw [tubs_frm hR]; exact srtT_perm _)
  unfold sucC at h1
  rw [h2] at h1
  exact h1
theorem frm_ex {R : List Int} (hR : R.length = 24) : frm (exT R 1 4) = frm R := frm_perm (exT_len hR (by omega) (by omega)) hR (exT_perm hR)
end Go.Proofs.YtmccafjblhbmkaaGreat
set_option maxRecDepth 100000
set_option linter.unusedSimpArgs false
set_option linter.unusedVariables false
namespace Go.Proofs.YtmccafjblhbmkaaGreat
open Go Go.RowKit
def foF (R : List Int) : List Int := if rackB R = true then frm R else List.replicate 24 0
theorem foF_len {R : List Int} (hR : R.length = 24) : (foF R).length = 24 := by
  unfold foF; split
  · exact frm_len hR
  · simp
--@tbl sFormOf = spec.FormOf
theorem sFormOf_ok (R : List Int) (hR : R.length = 24) : PureH Tryz.prog 9 [.arr R] [] (.tup [.arr (foF R), .bool (rackB R)]) := by
  have tkR : R.take 24 = R := List.take_of_length_le (by omega)
  have lf := frm_len hR
  have tkf : (frm R).take 24 = frm R := List.take_of_length_le (by omega)
  have r24 : List.take 24 (List.replicate 24 (0 : Int)) = List.replicate 24 0 := rfl
  unfold foF
  cases hr : rackB R
  · refine pure_of_vc (X := ⟨Tryz.prog, tys, [(64, l2Rack_F), (65, l3Form_F)], [], true, true, 0, [], []⟩) fn_9 ⟨tys_ok, (.cons l2Rack_T (.cons l3Form_T .nil)), .nil, mixed⟩ (n0 := 0) (Nat.le_of_ble_eq_true rfl) (by simp [wfL, SV.wf]) (wfH_spec (by simp [wfH, SObj.wf])) (Nat.le_refl _) (fun _ => by simp [SV.wf, wfL]) ?_
    simp -implicitDefEqProofs only [Tryz.f9, Option.getD_some, argS, l2Rack_F, l3Form_F, hR, tkR, hr, r24, ZB, Int.reduceToNat, Nat.reduceLT, Nat.reduceLeDiff, Int.reduceLE, Int.reduceLT, Nat.reduceEqDiff, Nat.reduceSub, SB, SV.known, packR, ne_eq, reduceCtorEq, Nat.reduceEqDiff, ↓reduceIte, if_true, if_false, eq_self, Nat.reduceAdd, Nat.reduceMul, Nat.reduceSub, forall_const, oneCellS, litOne, flat1, Kd.isSca, flat, TYB]
  · refine pure_of_vc (X := ⟨Tryz.prog, tys, [(64, l2Rack_F), (65, l3Form_F)], [], true, true, 0, [], []⟩) fn_9 ⟨tys_ok, (.cons l2Rack_T (.cons l3Form_T .nil)), .nil, mixed⟩ (n0 := 0) (Nat.le_of_ble_eq_true rfl) (by simp [wfL, SV.wf]) (wfH_spec (by simp [wfH, SObj.wf])) (Nat.le_refl _) (fun _ => by simp [SV.wf, wfL]) ?_
    simp -implicitDefEqProofs only [Tryz.f9, Option.getD_some, argS, l2Rack_F, l3Form_F, hR, tkR, hr, lf, tkf, ZB, Int.reduceToNat, Nat.reduceLT, Nat.reduceLeDiff, Int.reduceLE, Int.reduceLT, Nat.reduceEqDiff, Nat.reduceSub, SB, SV.known, packR, ne_eq, reduceCtorEq, Nat.reduceEqDiff, ↓reduceIte, if_true, if_false, eq_self, Nat.reduceAdd, Nat.reduceMul, Nat.reduceSub, forall_const, oneCellS, litOne, flat1, Kd.isSca, flat, TYB]
def sFormOf_F : List SV → Heap → Option (Prop × SV)
  | [.arr R], _ => some (R.length = 24, .tup [.arr (foF R), .bool (rackB R)])
  | _, _ => none
theorem sFormOf_T : ∀ args H p v, sFormOf_F args H = some (p, v) → p → PureH Tryz.prog 9 args H v := by
  intro args H p v h hp
  unfold sFormOf_F at h
  split at h
  · cases h; exact (sFormOf_ok _ hp).any _
  · cases h
def swF (R : List Int) : List Int := if rackB R = true then exT R 1 4 else List.replicate 24 0
--@tbl SwapTubes = impl.SwapTubes
theorem SwapTubes_ok (R : List Int) (hR : R.length = 24) : PureH Tryz.prog 20 [.arr R, .int 1, .int 4] [] (.tup [.arr (swF R), .bool (rackB R)]) := by
  have tkR : R.take 24 = R := List.take_of_length_le (by omega)
  have lx := exT_len hR (show 1 < 6 by omega) (show 4 < 6 by omega)
  have tkx : (exT R 1 4).take 24 = exT R 1 4 := List.take_of_length_le (by omega)
  have r24 : List.take 24 (List.replicate 24 (0 : Int)) = List.replicate 24 0 := rfl
  have p1 : plF 1 = true := by decide
  have p4 : plF 4 = true := by decide
  have l16 : (List.take 4 (List.drop 16 R)).length = 4 := by rw [List.length_take, List.length_drop]; omega
  have l4 : (List.take 4 (List.drop 4 R)).length = 4 := by rw [List.length_take, List.length_drop]; omega
  have ex : List.take 16 (List.take 4 R ++ List.take 4 (List.drop 16 R) ++ List.drop 8 R) ++ List.take 4 (List.drop 4 R) ++ List.drop 20 (List.take 4 R ++ List.take 4 (List.drop 16 R) ++ List.drop 8 R) = exT R 1 4 := rfl
  have l8 : (List.take 4 R ++ List.take 4 (List.drop 16 R) ++ List.drop 8 R).length = 24 := by
    rw [List.length_append, List.length_append, l16, List.length_take, List.length_drop]; omega
  unfold swF
  cases hr : rackB R
  · refine pure_of_vc (X := ⟨Tryz.prog, tys, [(83, isAt_F)], [], true, true, 0, [], []⟩) fn_20 ⟨tys_ok, (.cons isAt_T .nil), .nil, mixed⟩ (n0 := 0) (Nat.le_of_ble_eq_true rfl) (by simp [wfL, SV.wf]) (wfH_spec (by simp [wfH, SObj.wf])) (Nat.le_refl _) (fun _ => by simp [SV.wf, wfL]) ?_
    simp -implicitDefEqProofs only [Tryz.f20, Option.getD_some, argS, isAt_F, hR, tkR, hr, r24, p1, p4, ZB, Int.reduceToNat, Nat.reduceLT, Nat.reduceLeDiff, Int.reduceLE, Int.reduceLT, Nat.reduceEqDiff, Nat.reduceSub, SB, SV.known, packR, ne_eq, reduceCtorEq, Nat.reduceEqDiff, ↓reduceIte, if_true, if_false, eq_self, Nat.reduceAdd, Nat.reduceMul, Nat.reduceSub, forall_const, oneCellS, litOne, flat1, Kd.isSca, flat, TYB]
  · refine pure_of_vc (X := ⟨Tryz.prog, tys, [(83, isAt_F)], [], true, true, 0, [], []⟩) fn_20 ⟨tys_ok, (.cons isAt_T .nil), .nil, mixed⟩ (n0 := 0) (Nat.le_of_ble_eq_true rfl) (by simp [wfL, SV.wf]) (wfH_spec (by simp [wfH, SObj.wf])) (Nat.le_refl _) (fun _ => by simp [SV.wf, wfL]) ?_
    simp -implicitDefEqProofs only [Tryz.f20, Option.getD_some, argS, isAt_F, hR, tkR, hr, l16, l4, ex, l8, lx, tkx, p1, p4, ZB, Int.reduceToNat, Nat.reduceLT, Nat.reduceLeDiff, Int.reduceLE, Int.reduceLT, Nat.reduceEqDiff, Nat.reduceSub, SB, SV.known, packR, ne_eq, reduceCtorEq, Nat.reduceEqDiff, ↓reduceIte, if_true, if_false, eq_self, Nat.reduceAdd, Nat.reduceMul, Nat.reduceSub, forall_const, oneCellS, litOne, flat1, Kd.isSca, flat, TYB]
def SwapTubes_F : List SV → Heap → Option (Prop × SV)
  | [.arr R, .int i, .int j], _ => some ((R.length = 24 ∧ i = 1) ∧ j = 4, .tup [.arr (swF R), .bool (rackB R)])
  | _, _ => none
theorem SwapTubes_T : ∀ args H p v, SwapTubes_F args H = some (p, v) → p → PureH Tryz.prog 20 args H v := by
  intro args H p v h hp
  unfold SwapTubes_F at h
  split at h
  · cases h; exact (by obtain ⟨⟨h1, rfl⟩, rfl⟩ := hp; exact (SwapTubes_ok _ h1).any _)
  · cases h
end Go.Proofs.YtmccafjblhbmkaaGreat
set_option maxRecDepth 100000
set_option linter.unusedSimpArgs false
set_option linter.unusedVariables false
namespace Go.Proofs.YtmccafjblhbmkaaGreat
open Go Go.RowKit
def chkR (L : List Int) (off len : Nat) : List (List Int) := (List.range len).map fun i => (L.drop (off + i * 24)).take 24
theorem chkR_len (L : List Int) (off len : Nat) : (chkR L off len).length = len := by simp [chkR]
theorem chkR_getD (L : List Int) (off len k : Nat) (h : k < len) : (chkR L off len).getD k [] = (L.drop (off + k * 24)).take 24 := by simp [chkR, List.getD, h]
theorem indexFuncR_ok (g : Nat) (caps : List SV) (H Hc : Heap) (pr : List Int → Bool) (n0 b : Nat) (L : List Int) (e len cap : Nat) (hb : hget H b = some (.ints L e)) (hl : len * 24 ≤ L.length) (hm : len ≤ 9223372036854775806)
    (Q : List Int → Prop) (hQ : ∀ i, i < len → Q ((L.drop (i * 24)).take 24)) (hc : ∀ x : List Int, Q x → PureH Tryz.prog g (.arr x :: caps) Hc (.bool (pr x))) (hE : Ext Hc H) (hw : wfL n0 caps) (hwH : hwf n0 H) :
    PureH Tryz.prog 142 [.slice b 0 len cap, .fn g caps] H (.int (idxG pr (chkR L 0 len))) := by
  have hE2 := chkR_len L 0 len
  have h00 : b < n0 := (hwH b _ hb).1
  refine pure_of_vc (X := ⟨Tryz.prog, tys, [(g, fun args H' => match args with | .arr x :: r => some (r = caps ∧ Ext Hc H' ∧ Q x, .bool (pr x)) | _ => none)], [], true, true, n0, [], []⟩) fn_142
    ⟨tys_ok, .cons (fun args H' p v h hp => ?_) .nil, .nil, mixed⟩ (n0 := n0) (Nat.le_of_ble_eq_true rfl) ⟨by simpa [SV.wf] using h00, by simpa [SV.wf] using hw, trivial⟩ hwH (Nat.le_refl _) (fun _ => trivial) ?_
  · split at h
    · cases h
      obtain ⟨rfl, hx1, hx⟩ := hp
      exact (hc _ hx).weaken hx1 (fun _ => trivial)
    · cases h
  simp -implicitDefEqProofs only [Tryz.f142, Option.getD_some, argS, hb, SB, SV.known, packR, ne_eq, reduceCtorEq, Nat.reduceEqDiff, ↓reduceIte, if_true, if_false, eq_self, Nat.reduceAdd, Nat.reduceMul, Nat.reduceSub, forall_const, oneCellS, litOne, flat1, Kd.isSca, flat, TYB]
  refine loop_intro (fun i : Nat => [(0, .slice b 0 len cap), (1, .fn g caps), (7, .int len), (8, .int i)]) (fun i => H) n0 (fun i => i ≤ len ∧ ∀ k, k < i → pr ((chkR L 0 len).getD k []) = false) (fun i => len - i) ?_ ?_
  · refine ⟨0, ⟨by omega, by simp⟩, Sub.same ?_ ?_ hwH (Nat.le_refl _)⟩
    · simp [subS, subH, wfS, wfH, SV.ren, renL, SObj.ren, SV.wf, SObj.wf, wfL, sget_cons, hget_cons, SV.known, renL_id]
    · simp [subS, subH, wfS, wfH, SV.ren, renL, SObj.ren, SV.wf, SObj.wf, wfL, sget_cons, hget_cons, hw, h00]
  · intro i hi
    obtain ⟨hi1, hi2⟩ := hi
    simp -implicitDefEqProofs only [lk_normal, hb, SB, SV.known, packR, ne_eq, reduceCtorEq, Nat.reduceEqDiff, ↓reduceIte, if_true, if_false, eq_self, Nat.reduceAdd, Nat.reduceMul, Nat.reduceSub, forall_const, oneCellS, litOne, flat1, Kd.isSca, flat, TYB]
    refine ⟨fun h => ?_, fun h => ?_⟩
    · have hlt : i < len := by omega
      have e1 : 0 + (i : Int).toNat * 24 = i * 24 := by simp
      have e2 : (L.drop (i * 24)).take 24 = (chkR L 0 len).getD i [] := by rw [chkR_getD L 0 len i hlt, Nat.zero_add]
      have e3 : Q ((chkR L 0 len).getD i []) := by rw [← e2]; exact hQ i hlt
      simp only [Int.toNat_natCast, Nat.zero_add, e2]
      refine ⟨by omega, by omega, by omega, ⟨hE, e3⟩, ?_⟩
      cases hp : pr ((chkR L 0 len).getD i []) with
      | true =>
        simp -implicitDefEqProofs only [SB, SV.known, packR, ne_eq, reduceCtorEq, Nat.reduceEqDiff, ↓reduceIte, if_true, if_false, eq_self, Nat.reduceAdd, Nat.reduceMul, Nat.reduceSub, forall_const, oneCellS, litOne, flat1, Kd.isSca, flat, TYB]
        rw [idxG_hit (by omega) hp hi2]
      | false =>
        simp -implicitDefEqProofs only [lk_normal, SB, SV.known, packR, ne_eq, reduceCtorEq, Nat.reduceEqDiff, ↓reduceIte, if_true, if_false, eq_self, Nat.reduceAdd, Nat.reduceMul, Nat.reduceSub, forall_const, oneCellS, litOne, flat1, Kd.isSca, flat, TYB]
        refine ⟨by unfold In64; omega, i + 1, ⟨by omega, fun k hk => ?_⟩, by omega, Sub.same ?_ ?_ hwH (Nat.le_refl _)⟩
        · by_cases hki : k = i
          · subst hki; exact hp
          · exact hi2 k (by omega)
        · simp [subS, subH, wfS, wfH, SV.ren, renL, SObj.ren, SV.wf, SObj.wf, wfL, sget_cons, hget_cons, SV.known, renL_id]
        · simp [subS, subH, wfS, wfH, SV.ren, renL, SObj.ren, SV.wf, SObj.wf, wfL, sget_cons, hget_cons, hw, h00]
    · obtain rfl : i = len := by omega
      rw [idxG_none (by rw [hE2]; exact hi2)]
end Go.Proofs.YtmccafjblhbmkaaGreat
set_option maxRecDepth 100000
set_option linter.unusedSimpArgs false
set_option linter.unusedVariables false
namespace Go.Proofs.YtmccafjblhbmkaaGreat
open Go Go.RowKit
--@tbl eqSR = laws.eqRackS
/-! Marks: nothing in a rack can be marked. -/
--@tbl markR = laws.markRackS
--@tbl heldR = laws.heldRackS
end Go.Proofs.YtmccafjblhbmkaaGreat
