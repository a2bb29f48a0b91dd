/- Walks: sorted racks. -/
import Derived.Test.YtnlbljikbonioaaUse
set_option maxRecDepth 100000
set_option linter.unusedSimpArgs false
set_option linter.unusedVariables false
namespace Go.Proofs.Ytnlbljikbonioaa
open Go Go.RowKit
theorem runs_head (t : List Int) (ht : t.length = 4) (h : 0 < layN t) : (runsL t).getD 0 0 = t.getD 0 0 := by
  have key : ∀ i, 0 < i → i ≤ 4 → (RL t i).getD 0 0 = t.getD 0 0 ∧ 2 ≤ (RL t i).length := by
    intro i
    induction i with
    | zero => intro h; omega
    | succ i ih =>
      intro _ hi
      rw [RL_succ t i (by omega)]
      by_cases hi0 : i = 0
      · subst hi0
        rw [RL_zero]
        simp [stepR]
      · obtain ⟨h1, h2⟩ := ih (by omega) (by omega)
        unfold stepR
        split
        · refine ⟨?_, by simpa using h2⟩
          rw [getD_set' _ _ _ _ (by omega), if_neg (by omega), h1]
        · refine ⟨?_, by rw [List.length_append]; omega⟩
          rw [getD_app _ _ _ (by omega), h1]
  exact (key (layN t) h (lay_le t ht)).1
def rcN (R : List Int) (k : Nat) : Nat := (runsL (tubeAt R k)).length / 2
def rcC (R : List Int) (k : Nat) : Int := (runsL (tubeAt R k)).getD 0 0
def srtF (R : List Int) : Nat → Option (List Int)
  | 0 => some []
  | k + 1 => match srtF R k with
    | none => none
    | some s => if rcN R k = 0 then some s else if 1 < rcN R k ∨ rcC R k ∈ s then none else some (s ++ [rcC R k])
def sortB (R : List Int) : Bool := (srtF R 6).isSome
theorem srt_none {R : List Int} {k : Nat} (h : srtF R k = none) : ∀ j, srtF R (k + j) = none
  | 0 => h
  | j + 1 => by
    have := srt_none h j
    show srtF R (k + j + 1) = none
    simp only [srtF, this]
theorem sort_false {R : List Int} {k : Nat} (h : srtF R k = none) (hk : k ≤ 6) : sortB R = false := by
  have := srt_none h (6 - k)
  rw [show k + (6 - k) = 6 by omega] at this
  simp [sortB, this]
theorem srt_step {R : List Int} {k : Nat} {s : List Int} (h : srtF R k = some s) : srtF R (k + 1) = if rcN R k = 0 then some s else if 1 < rcN R k ∨ rcC R k ∈ s then none else some (s ++ [rcC R k]) := by
  simp only [srtF, h]
theorem srt_len {R : List Int} : ∀ {k : Nat} {s : List Int}, srtF R k = some s → s.length ≤ k
  | 0, s, h => by cases h; simp
  | k + 1, s, h => by
    cases hk : srtF R k with
    | none => simp [srtF, hk] at h
    | some s' =>
      have := srt_len hk
      rw [srt_step hk] at h
      split at h
      · cases h; omega
      · split at h
        · cases h
        · cases h; simp; omega
def seenL (s : List Int) : List Bool := (List.range 6).map fun c : Nat => decide ((c : Int) ∈ s)
theorem seenL_len (s : List Int) : (seenL s).length = 6 := by simp [seenL]
theorem seenL_nil : seenL [] = List.replicate 6 false := by simp [seenL, List.range, List.range.loop]
theorem seenL_getD (s : List Int) (c : Int) (h : 0 ≤ c ∧ c ≤ 5) : (seenL s).getD c.toNat false = decide (c ∈ s) := by
  have : ((c.toNat : Nat) : Int) = c := by omega
  simp [seenL, List.getD, show c.toNat < 6 by omega, this]
theorem seenL_set (s : List Int) (c : Int) (h : 0 ≤ c ∧ c ≤ 5) : (seenL s).set c.toNat true = seenL (s ++ [c]) := by
  apply List.ext_getElem (by simp [seenL])
  intro k h1 h2
  simp only [List.getElem_set, seenL, List.getElem_map, List.getElem_range]
  by_cases hk : c.toNat = k
  · rw [if_pos hk]
    have : (k : Int) = c := by omega
    simp [this]
  · rw [if_neg hk]
    have : ¬ (k : Int) = c := by omega
    simp [this]
theorem rc_facts {R : List Int} (hR : R.length = 24) (hr : rackB R = true) {k : Nat} (hk : k < 6) (h : 0 < rcN R k) : 0 ≤ rcC R k ∧ rcC R k ≤ 5 := by
  have hl := tubeAt_len hR hk
  have hb := tubeAt_ok hr hk
  have h0 : 0 < layN (tubeAt R k) := (runs_bottom _ hl hb).1.2 (by unfold crN; unfold rcN at h; omega)
  unfold rcC
  rw [runs_head _ hl h0]
  have := (tube_cells hl hb).1 0 h0
  omega
--@tbl isSorted = impl.isSorted
theorem isSorted_ok (R : List Int) (hR : R.length = 24) (hr : rackB R = true) : PureH Try.prog 69 [.arr R] [] (.bool (sortB R)) := by
  have tkR : R.take 24 = R := List.take_of_length_le (by omega)
  refine pure_of_vc (X := ⟨Try.prog, tys, [], [(121, runs_F)], true, true, 0, [], []⟩) fn_69 ⟨tys_ok, .nil, (.cons runs_T .nil), mixed⟩ (n0 := 0) (Nat.le_of_ble_eq_true rfl) (by simp [wfL, SV.wf]) (wfH_spec (by simp [wfH, SObj.wf])) (Nat.le_refl _) (fun _ => by simp [SV.wf, wfL]) ?_
  simp -implicitDefEqProofs only [Try.f69, Option.getD_some, argS, runs_F, hR, tkR, ZB, Int.reduceToNat, Nat.reduceLT, Nat.reduceLeDiff, Int.reduceLE, Int.reduceLT, Nat.reduceEqDiff, Nat.reduceSub, SB, SV.known, packR, ne_eq, reduceCtorEq, Nat.reduceEqDiff, ↓reduceIte, if_true, if_false, eq_self, Nat.reduceAdd, Nat.reduceMul, Nat.reduceSub, forall_const, oneCellS, litOne, flat1, Kd.isSca, flat, TYB]
  refine loop_intro (fun s : Nat × List Int => [(9, .int s.1), (8, .arr R), (3, .ptr 1 0), (2, .bool false), (1, .ptr 0 0)]) (fun s => [(1, .bls (seenL s.2) 108), (0, .ints R 27)]) 2 (fun s => s.1 ≤ 6 ∧ srtF R s.1 = some s.2) (fun s => 6 - s.1) ?_ ?_
  · refine ⟨(0, []), ⟨by omega, rfl⟩, Sub.mk_id ?_ ?_ ?_ ?_ ?_⟩
    all_goals simp only [seenL_nil, LB, subS, subH, wfS, wfH, SV.ren, renL, SObj.ren, SV.wf, SObj.wf, wfL, SV.known, Nat.reduceEqDiff, ↓reduceIte, if_true, if_false, eq_self, Nat.reduceAdd, Nat.reduceLT, Nat.reduceLeDiff, implies_true, reduceCtorEq, forall_const]
  · rintro ⟨i, s⟩ ⟨hi, hs⟩
    simp only at hi hs
    have eT : List.take 4 (List.drop (i * 4) R) = tubeAt R i := rfl
    have sl := seenL_len s
    by_cases hlt : i < 6
    · have hil : (i : Int) < 6 := by omega
      have hl := tubeAt_len hR hlt
      have tk4 : (tubeAt R i).take 4 = tubeAt R i := List.take_of_length_le (by omega)
      have es := srt_step hs
      have en : (runsL (tubeAt R i)).length / 2 = rcN R i := rfl
      obtain ⟨n, hn, hn4, _⟩ := runsL_even _ hl
      have ern : rcN R i = n := by unfold rcN; omega
      have gd : ∀ J : List Int, 0 < rcN R i → (runsL (tubeAt R i) ++ J).getD 0 0 = rcC R i := fun J h => getD_app _ _ _ (by omega)
      simp -implicitDefEqProofs only [lk_normal, runs_F, freshK, Wrap.ap, hil, hR, eT, hl, tk4, en, sl, ZB, Int.reduceToNat, Nat.reduceLT, Nat.reduceLeDiff, Int.reduceLE, Int.reduceLT, Nat.reduceEqDiff, Nat.reduceSub, SB, SV.known, packR, ne_eq, reduceCtorEq, Nat.reduceEqDiff, ↓reduceIte, if_true, if_false, eq_self, Nat.reduceAdd, Nat.reduceMul, Nat.reduceSub, forall_const, oneCellS, litOne, flat1, Kd.isSca, flat, TYB]
      refine ⟨by omega, fun h0 => ?_, fun h0 cap junk hj => ?_⟩
      · have hz : rcN R i = 0 := by rw [ern]; rw [h0] at hn; simp at hn; omega
        rw [if_pos hz] at es
        (try (and_intros <;> try (first | omega | (unfold In64; omega) | trivial | assumption)))
        refine ⟨(i + 1, s), ?_, ?_, Sub.mk_id ?_ ?_ ?_ ?_ ?_⟩
        all_goals (try (simp only [es, LB, subS, subH, wfS, wfH, SV.ren, renL, SObj.ren, SV.wf, SObj.wf, wfL, SV.known, Nat.reduceEqDiff, ↓reduceIte, if_true, if_false, eq_self, Nat.reduceAdd, Nat.reduceLT, Nat.reduceLeDiff, implies_true, reduceCtorEq, forall_const]; done))
        all_goals (try (simp only [es, LB, subS, subH, wfS, wfH, SV.ren, renL, SObj.ren, SV.wf, SObj.wf, wfL, SV.known, Nat.reduceEqDiff, ↓reduceIte, if_true, if_false, eq_self, Nat.reduceAdd, Nat.reduceLT, Nat.reduceLeDiff, implies_true, reduceCtorEq, forall_const]; simp; done))
        all_goals (try (simp only [es, LB, subS, subH, wfS, wfH, SV.ren, renL, SObj.ren, SV.wf, SObj.wf, wfL, SV.known, Nat.reduceEqDiff, ↓reduceIte, if_true, if_false, eq_self, Nat.reduceAdd, Nat.reduceLT, Nat.reduceLeDiff, implies_true, reduceCtorEq, forall_const]; (and_intros <;> (first | omega | rfl | (simp; done) | (simp; omega))); done))
        all_goals (try dsimp only)
        all_goals (and_intros <;> try (first | omega | (unfold In64; omega) | trivial | assumption))
        all_goals (try exact es)
      · have hp : 0 < rcN R i := by
          rcases Nat.eq_zero_or_pos n with hz | hz
          · exact absurd (List.length_eq_zero_iff.1 (by rw [hn, hz])) h0
          · omega
        rw [if_neg (by omega)] at es
        have rc := rc_facts hR hr hlt hp
        have g0 := gd junk hp
        have sg := seenL_getD s (rcC R i) rc
        have sw := seenL_set s (rcC R i) rc
        have lj : 0 < (runsL (tubeAt R i) ++ junk).length := by rw [List.length_append]; omega
        refine ⟨fun hz => absurd hz (by omega), fun _ => ⟨fun h1 => ?_, fun h1 => ?_⟩⟩
        · rw [if_pos (by omega)] at es
          rw [sort_false es (by omega)]
        · cases hd : decide (rcC R i ∈ s)
          · rw [if_neg (fun hx => hx.elim (fun h => by omega) (of_decide_eq_false hd))] at es
            simp -implicitDefEqProofs only [lk_normal, g0, sg, sw, hd, sl, lj, ZB, Int.reduceToNat, Nat.reduceLT, Nat.reduceLeDiff, Int.reduceLE, Int.reduceLT, Nat.reduceEqDiff, Nat.reduceSub, SB, SV.known, packR, ne_eq, reduceCtorEq, Nat.reduceEqDiff, ↓reduceIte, if_true, if_false, eq_self, Nat.reduceAdd, Nat.reduceMul, Nat.reduceSub, forall_const, oneCellS, litOne, flat1, Kd.isSca, flat, TYB]
            (try (and_intros <;> try (first | omega | (unfold In64; omega) | trivial | assumption)))
            refine ⟨(i + 1, s ++ [rcC R i]), ?_, ?_, Sub.mk_id ?_ ?_ ?_ ?_ ?_⟩
            all_goals (try (simp only [es, LB, subS, subH, wfS, wfH, SV.ren, renL, SObj.ren, SV.wf, SObj.wf, wfL, SV.known, Nat.reduceEqDiff, ↓reduceIte, if_true, if_false, eq_self, Nat.reduceAdd, Nat.reduceLT, Nat.reduceLeDiff, implies_true, reduceCtorEq, forall_const]; done))
            all_goals (try (simp only [es, LB, subS, subH, wfS, wfH, SV.ren, renL, SObj.ren, SV.wf, SObj.wf, wfL, SV.known, Nat.reduceEqDiff, ↓reduceIte, if_true, if_false, eq_self, Nat.reduceAdd, Nat.reduceLT, Nat.reduceLeDiff, implies_true, reduceCtorEq, forall_const]; simp; done))
            all_goals (try (simp only [es, LB, subS, subH, wfS, wfH, SV.ren, renL, SObj.ren, SV.wf, SObj.wf, wfL, SV.known, Nat.reduceEqDiff, ↓reduceIte, if_true, if_false, eq_self, Nat.reduceAdd, Nat.reduceLT, Nat.reduceLeDiff, implies_true, reduceCtorEq, forall_const]; (and_intros <;> (first | omega | rfl | (simp; done) | (simp; omega))); done))
            all_goals (try dsimp only)
            all_goals (and_intros <;> try (first | omega | (unfold In64; omega) | trivial | assumption))
          · rw [if_pos (.inr (of_decide_eq_true hd))] at es
            simp -implicitDefEqProofs only [lk_normal, g0, sg, sw, hd, sl, lj, ZB, Int.reduceToNat, Nat.reduceLT, Nat.reduceLeDiff, Int.reduceLE, Int.reduceLT, Nat.reduceEqDiff, Nat.reduceSub, SB, SV.known, packR, ne_eq, reduceCtorEq, Nat.reduceEqDiff, ↓reduceIte, if_true, if_false, eq_self, Nat.reduceAdd, Nat.reduceMul, Nat.reduceSub, forall_const, oneCellS, litOne, flat1, Kd.isSca, flat, TYB]
            rw [sort_false es (by omega)]
            (try (and_intros <;> try (first | omega | (unfold In64; omega) | trivial | assumption)))
    · have hil : ¬ (i : Int) < 6 := by omega
      obtain rfl : i = 6 := by omega
      simp -implicitDefEqProofs only [lk_normal, hil, ZB, Int.reduceToNat, Nat.reduceLT, Nat.reduceLeDiff, Int.reduceLE, Int.reduceLT, Nat.reduceEqDiff, Nat.reduceSub, SB, SV.known, packR, ne_eq, reduceCtorEq, Nat.reduceEqDiff, ↓reduceIte, if_true, if_false, eq_self, Nat.reduceAdd, Nat.reduceMul, Nat.reduceSub, forall_const, oneCellS, litOne, flat1, Kd.isSca, flat, TYB]
      simp [sortB, hs]
def isSorted_F : List SV → Heap → Option (Prop × SV)
  | [.arr R], _ => some (R.length = 24 ∧ rackB R = true, .bool (sortB R))
  | _, _ => none
theorem isSorted_T : ∀ args H p v, isSorted_F args H = some (p, v) → p → PureH Try.prog 69 args H v := by
  intro args H p v h hp
  unfold isSorted_F at h
  split at h
  · cases h; exact (isSorted_ok _ hp.1 hp.2).any _
  · cases h
--@tbl l1Has = spec.l1Has
theorem l1Has_ok (L : List Int) (e cap len : Nat) (c : Int) (hl : len ≤ L.length) (hm : len ≤ 1000000) : PureH Try.prog 123 [.slice 0 0 len cap, .int c] [(0, .ints L e)] (.bool (decide (c ∈ L.take len))) := by
  refine pure_of_vc (X := ⟨Try.prog, tys, [], [], true, true, 1, [], []⟩) fn_123 ⟨tys_ok, .nil, .nil, mixed⟩ (n0 := 1) (Nat.le_of_ble_eq_true rfl) (by simp [wfL, SV.wf]) (wfH_spec (by simp [wfH, SObj.wf])) (Nat.le_refl _) (fun _ => by simp [SV.wf, wfL]) ?_
  simp -implicitDefEqProofs only [Try.f123, Option.getD_some, argS, ZB, Int.reduceToNat, Nat.reduceLT, Nat.reduceLeDiff, Int.reduceLE, Int.reduceLT, Nat.reduceEqDiff, Nat.reduceSub, SB, SV.known, packR, ne_eq, reduceCtorEq, Nat.reduceEqDiff, ↓reduceIte, if_true, if_false, eq_self, Nat.reduceAdd, Nat.reduceMul, Nat.reduceSub, forall_const, oneCellS, litOne, flat1, Kd.isSca, flat, TYB]
  refine loop_intro (fun i : Nat => [(5, .int i), (0, .slice 0 0 len cap), (1, .int c)]) (fun _ => [(0, .ints L e)]) 1 (fun i => i ≤ len ∧ ∀ k, k < i → ¬ L.getD k 0 = c) (fun i => len - i) ?_ ?_
  · refine ⟨0, ?_, Sub.mk_id ?_ ?_ ?_ ?_ ?_⟩
    all_goals (try (simp only [LB, subS, subH, wfS, wfH, SV.ren, renL, SObj.ren, SV.wf, SObj.wf, wfL, SV.known, Nat.reduceEqDiff, ↓reduceIte, if_true, if_false, eq_self, Nat.reduceAdd, Nat.reduceLT, Nat.reduceLeDiff, implies_true, reduceCtorEq, forall_const]; done))
    all_goals (try (simp only [LB, subS, subH, wfS, wfH, SV.ren, renL, SObj.ren, SV.wf, SObj.wf, wfL, SV.known, Nat.reduceEqDiff, ↓reduceIte, if_true, if_false, eq_self, Nat.reduceAdd, Nat.reduceLT, Nat.reduceLeDiff, implies_true, reduceCtorEq, forall_const]; simp; done))
    all_goals (try (simp only [LB, subS, subH, wfS, wfH, SV.ren, renL, SObj.ren, SV.wf, SObj.wf, wfL, SV.known, Nat.reduceEqDiff, ↓reduceIte, if_true, if_false, eq_self, Nat.reduceAdd, Nat.reduceLT, Nat.reduceLeDiff, implies_true, reduceCtorEq, forall_const]; (and_intros <;> (first | omega | rfl | (simp; done) | (simp; omega))); done))
    all_goals (try dsimp only)
    all_goals (and_intros <;> try (first | omega | (unfold In64; omega) | trivial | assumption))
  · rintro i ⟨hi, hn⟩
    by_cases hlt : i < len
    · have hil : (i : Int) < len := by omega
      simp -implicitDefEqProofs only [lk_normal, hil, ZB, Int.reduceToNat, Nat.reduceLT, Nat.reduceLeDiff, Int.reduceLE, Int.reduceLT, Nat.reduceEqDiff, Nat.reduceSub, SB, SV.known, packR, ne_eq, reduceCtorEq, Nat.reduceEqDiff, ↓reduceIte, if_true, if_false, eq_self, Nat.reduceAdd, Nat.reduceMul, Nat.reduceSub, forall_const, oneCellS, litOne, flat1, Kd.isSca, flat, TYB]
      refine ⟨by omega, by omega, fun h => ?_, fun h => ?_⟩
      · have : c ∈ L.take len := List.mem_take_iff_getElem.2 ⟨i, by omega, by rw [← h]; simp [List.getD, List.getElem?_eq_getElem (show i < L.length by omega)]⟩
        simp [this]
      · (try (and_intros <;> try (first | omega | (unfold In64; omega) | trivial | assumption)))
        refine ⟨i + 1, ?_, ?_, Sub.mk_id ?_ ?_ ?_ ?_ ?_⟩
        all_goals (try (simp only [LB, subS, subH, wfS, wfH, SV.ren, renL, SObj.ren, SV.wf, SObj.wf, wfL, SV.known, Nat.reduceEqDiff, ↓reduceIte, if_true, if_false, eq_self, Nat.reduceAdd, Nat.reduceLT, Nat.reduceLeDiff, implies_true, reduceCtorEq, forall_const]; done))
        all_goals (try (simp only [LB, subS, subH, wfS, wfH, SV.ren, renL, SObj.ren, SV.wf, SObj.wf, wfL, SV.known, Nat.reduceEqDiff, ↓reduceIte, if_true, if_false, eq_self, Nat.reduceAdd, Nat.reduceLT, Nat.reduceLeDiff, implies_true, reduceCtorEq, forall_const]; simp; done))
        all_goals (try (simp only [LB, subS, subH, wfS, wfH, SV.ren, renL, SObj.ren, SV.wf, SObj.wf, wfL, SV.known, Nat.reduceEqDiff, ↓reduceIte, if_true, if_false, eq_self, Nat.reduceAdd, Nat.reduceLT, Nat.reduceLeDiff, implies_true, reduceCtorEq, forall_const]; (and_intros <;> (first | omega | rfl | (simp; done) | (simp; omega))); done))
        all_goals (try dsimp only)
        all_goals (and_intros <;> try (first | omega | (unfold In64; omega) | trivial | assumption))
        intro k hk
        by_cases hki : k = i
        · subst hki; exact h
        · exact hn k (by omega)
    · have hil : ¬ (i : Int) < len := by omega
      obtain rfl : i = len := by omega
      simp -implicitDefEqProofs only [lk_normal, hil, ZB, Int.reduceToNat, Nat.reduceLT, Nat.reduceLeDiff, Int.reduceLE, Int.reduceLT, Nat.reduceEqDiff, Nat.reduceSub, SB, SV.known, packR, ne_eq, reduceCtorEq, Nat.reduceEqDiff, ↓reduceIte, if_true, if_false, eq_self, Nat.reduceAdd, Nat.reduceMul, Nat.reduceSub, forall_const, oneCellS, litOne, flat1, Kd.isSca, flat, TYB]
      have : ¬ c ∈ L.take i := fun hc => by
        obtain ⟨k, hk, he⟩ := List.mem_take_iff_getElem.1 hc
        refine hn k (by omega) ?_
        simp only [List.getD, List.getElem?_eq_getElem (show k < L.length by omega), Option.getD_some]
        exact he
      simp [this]
def l1Has_F : List SV → Heap → Option (Prop × SV)
  | [.slice b 0 len _, .int c], H => match hget H b with
    | some (.ints L _) => some (len ≤ L.length ∧ len ≤ 1000000, .bool (decide (c ∈ L.take len)))
    | _ => none
  | _, _ => none
theorem l1Has_T : ∀ args H p v, l1Has_F args H = some (p, v) → p → PureH Try.prog 123 args H v := by
  intro args H p v h hp
  unfold l1Has_F at h
  split at h
  · rename_i b len cap c
    split at h
    · rename_i L e hb
      cases h
      exact one_block (l1Has_ok L e cap len c hp.1 hp.2) hb rfl (fun _ => trivial)
    · cases h
  · cases h
--@tbl l2Sorted = spec.l2Sorted
theorem l2Sorted_ok (R : List Int) (hR : R.length = 24) (hr : rackB R = true) : PureH Try.prog 70 [.arr R] [] (.bool (sortB R)) := by
  have tkR : R.take 24 = R := List.take_of_length_le (by omega)
  refine pure_of_vc (X := ⟨Try.prog, tys, [(123, l1Has_F)], [(122, l2Runs_F)], true, true, 0, [], []⟩) fn_70 ⟨tys_ok, (.cons l1Has_T .nil), (.cons l2Runs_T .nil), mixed⟩ (n0 := 0) (Nat.le_of_ble_eq_true rfl) (by simp [wfL, SV.wf]) (wfH_spec (by simp [wfH, SObj.wf])) (Nat.le_refl _) (fun _ => by simp [SV.wf, wfL]) ?_
  simp -implicitDefEqProofs only [Try.f70, Option.getD_some, argS, l1Has_F, l2Runs_F, hR, tkR, ZB, Int.reduceToNat, Nat.reduceLT, Nat.reduceLeDiff, Int.reduceLE, Int.reduceLT, Nat.reduceEqDiff, Nat.reduceSub, SB, SV.known, packR, ne_eq, reduceCtorEq, Nat.reduceEqDiff, ↓reduceIte, if_true, if_false, eq_self, Nat.reduceAdd, Nat.reduceMul, Nat.reduceSub, forall_const, oneCellS, litOne, flat1, Kd.isSca, flat, TYB]
  refine loop_intro (fun s : Nat × List Int × Nat × List Int => [(4, .int s.1), (3, .slice 1 0 s.2.1.length s.2.2.1), (2, .bool false), (1, .ptr 0 0)]) (fun s => [(1, .ints (s.2.1 ++ s.2.2.2) 3), (0, .ints R 27)]) 2 (fun s => s.1 ≤ 6 ∧ srtF R s.1 = some s.2.1 ∧ s.2.2.2.length + s.2.1.length = s.2.2.1) (fun s => 6 - s.1) ?_ ?_
  · refine ⟨(0, [], 0, []), ⟨by omega, rfl, rfl⟩, Sub.mk_id ?_ ?_ ?_ ?_ ?_⟩
    all_goals simp only [LB, subS, subH, wfS, wfH, SV.ren, renL, SObj.ren, SV.wf, SObj.wf, wfL, SV.known, Nat.reduceEqDiff, ↓reduceIte, if_true, if_false, eq_self, Nat.reduceAdd, Nat.reduceLT, Nat.reduceLeDiff, implies_true, reduceCtorEq, forall_const]
    all_goals simp
  · rintro ⟨i, s, cap, junk⟩ ⟨hi, hs, hj⟩
    simp only at hi hs hj
    have eT : List.take 4 (List.drop (i * 4) R) = tubeAt R i := rfl
    have sle := srt_len hs
    have tks : (s ++ junk).take s.length = s := List.take_left' rfl
    have lsj : (s ++ junk).length = cap := by rw [List.length_append]; omega
    by_cases hlt : i < 6
    · have hil : (i : Int) < 6 := by omega
      have hl := tubeAt_len hR hlt
      have hb := tubeAt_ok hr hlt
      have es := srt_step hs
      have en : (runsL (tubeAt R i)).length / 2 = rcN R i := rfl
      obtain ⟨n, hn, hn4, _⟩ := runsL_even _ hl
      have ern : rcN R i = n := by unfold rcN; omega
      have gd : ∀ J : List Int, 0 < rcN R i → (runsL (tubeAt R i) ++ J).getD 0 0 = rcC R i := fun J h => getD_app _ _ _ (by omega)
      simp -implicitDefEqProofs only [lk_normal, l1Has_F, l2Runs_F, freshK, Wrap.ap, hil, hR, eT, hl, hb, en, tks, lsj, ZB, Int.reduceToNat, Nat.reduceLT, Nat.reduceLeDiff, Int.reduceLE, Int.reduceLT, Nat.reduceEqDiff, Nat.reduceSub, SB, SV.known, packR, ne_eq, reduceCtorEq, Nat.reduceEqDiff, ↓reduceIte, if_true, if_false, eq_self, Nat.reduceAdd, Nat.reduceMul, Nat.reduceSub, forall_const, oneCellS, litOne, flat1, Kd.isSca, flat, TYB]
      have r1 : (List.replicate 1 (0 : Int)) = [0] := rfl
      refine ⟨by omega, by omega, fun cap1 junk1 hj1 => ⟨fun h1 => ?_, fun h1 => ?_⟩⟩
      · rw [if_neg (by omega), if_pos (.inl (by omega))] at es
        rw [sort_false es (by omega)]
      · refine ⟨fun h2 => ?_, fun h2 => ?_⟩
        · rw [gd junk1 (by omega)]
          rw [if_neg (by omega)] at es
          refine ⟨by omega, by rw [List.length_append]; omega, ⟨by omega, by omega⟩, fun hm => ?_, fun hm => ⟨fun _ => ?_, fun hx => absurd h2 hx⟩⟩
          · rw [if_pos (.inr hm)] at es
            rw [sort_false es (by omega)]
          · rw [if_neg (fun hx => hx.elim (fun h => by omega) hm)] at es
            refine ⟨by omega, by rw [List.length_append]; omega, by omega, by omega, by omega, fun junk2 cap2 hj2 => ?_⟩
            (try (and_intros <;> try (first | omega | (unfold In64; omega) | trivial | assumption)))
            refine ⟨(i + 1, s ++ [rcC R i], cap2, junk2), ?_, ?_, Sub.mk_to 1 4 ?_ ?_ ?_ ?_ ?_ ?_ ?_⟩
            all_goals (try (simp only [es, r1, List.set_cons_zero, List.take_succ_cons, List.take_zero, List.length_append, List.length_cons, List.length_nil, List.append_nil, LB, subS, subH, wfS, wfH, SV.ren, renL, SObj.ren, SV.wf, SObj.wf, wfL, SV.known, Nat.reduceEqDiff, ↓reduceIte, if_true, if_false, eq_self, Nat.reduceAdd, Nat.reduceLT, Nat.reduceLeDiff, implies_true, reduceCtorEq, forall_const]; done))
            all_goals (try (simp only [es, r1, List.set_cons_zero, List.take_succ_cons, List.take_zero, List.length_append, List.length_cons, List.length_nil, List.append_nil, LB, subS, subH, wfS, wfH, SV.ren, renL, SObj.ren, SV.wf, SObj.wf, wfL, SV.known, Nat.reduceEqDiff, ↓reduceIte, if_true, if_false, eq_self, Nat.reduceAdd, Nat.reduceLT, Nat.reduceLeDiff, implies_true, reduceCtorEq, forall_const]; simp; done))
            all_goals (try (simp only [es, r1, List.set_cons_zero, List.take_succ_cons, List.take_zero, List.length_append, List.length_cons, List.length_nil, List.append_nil, LB, subS, subH, wfS, wfH, SV.ren, renL, SObj.ren, SV.wf, SObj.wf, wfL, SV.known, Nat.reduceEqDiff, ↓reduceIte, if_true, if_false, eq_self, Nat.reduceAdd, Nat.reduceLT, Nat.reduceLeDiff, implies_true, reduceCtorEq, forall_const]; (and_intros <;> (first | omega | rfl | (simp; done) | (simp; omega))); done))
            all_goals (try dsimp only)
            all_goals (and_intros <;> try (first | omega | (unfold In64; omega) | trivial | assumption))
            all_goals (try simp)
            all_goals (try omega)
        · refine ⟨fun hx => absurd hx h2, fun _ => ?_⟩
          rw [if_pos (by omega)] at es
          (try (and_intros <;> try (first | omega | (unfold In64; omega) | trivial | assumption)))
          refine ⟨(i + 1, s, cap, junk), ?_, ?_, Sub.mk_id ?_ ?_ ?_ ?_ ?_⟩
          all_goals (try (simp only [es, LB, subS, subH, wfS, wfH, SV.ren, renL, SObj.ren, SV.wf, SObj.wf, wfL, SV.known, Nat.reduceEqDiff, ↓reduceIte, if_true, if_false, eq_self, Nat.reduceAdd, Nat.reduceLT, Nat.reduceLeDiff, implies_true, reduceCtorEq, forall_const]; done))
          all_goals (try (simp only [es, LB, subS, subH, wfS, wfH, SV.ren, renL, SObj.ren, SV.wf, SObj.wf, wfL, SV.known, Nat.reduceEqDiff, ↓reduceIte, if_true, if_false, eq_self, Nat.reduceAdd, Nat.reduceLT, Nat.reduceLeDiff, implies_true, reduceCtorEq, forall_const]; simp; done))
          all_goals (try (simp only [es, LB, subS, subH, wfS, wfH, SV.ren, renL, SObj.ren, SV.wf, SObj.wf, wfL, SV.known, Nat.reduceEqDiff, ↓reduceIte, if_true, if_false, eq_self, Nat.reduceAdd, Nat.reduceLT, Nat.reduceLeDiff, implies_true, reduceCtorEq, forall_const]; (and_intros <;> (first | omega | rfl | (simp; done) | (simp; omega))); done))
          all_goals (try dsimp only)
          all_goals (and_intros <;> try (first | omega | (unfold In64; omega) | trivial | assumption))
    · have hil : ¬ (i : Int) < 6 := by omega
      obtain rfl : i = 6 := by omega
      simp -implicitDefEqProofs only [lk_normal, hil, ZB, Int.reduceToNat, Nat.reduceLT, Nat.reduceLeDiff, Int.reduceLE, Int.reduceLT, Nat.reduceEqDiff, Nat.reduceSub, SB, SV.known, packR, ne_eq, reduceCtorEq, Nat.reduceEqDiff, ↓reduceIte, if_true, if_false, eq_self, Nat.reduceAdd, Nat.reduceMul, Nat.reduceSub, forall_const, oneCellS, litOne, flat1, Kd.isSca, flat, TYB]
      simp [sortB, hs]
def l2Sorted_F : List SV → Heap → Option (Prop × SV)
  | [.arr R], _ => some (R.length = 24 ∧ rackB R = true, .bool (sortB R))
  | _, _ => none
theorem l2Sorted_T : ∀ args H p v, l2Sorted_F args H = some (p, v) → p → PureH Try.prog 70 args H v := by
  intro args H p v h hp
  unfold l2Sorted_F at h
  split at h
  · cases h; exact (l2Sorted_ok _ hp.1 hp.2).any _
  · cases h
/-! IsStuck. -/
def stuckB (R : List Int) : Bool := !sortB R && decide (ulF R = [])
--@tbl isStuck = impl.isStuck
--@tbl IsStuck = impl.IsStuck
--@tbl sIsStuck = spec.IsStuck
end Go.Proofs.Ytnlbljikbonioaa
