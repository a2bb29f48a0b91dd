/- Texts of this claim, joined (Sort, Rule, RulC, Com, Good, Bfs, DelR, SlR, SeA). -/
import Derived.Test.YtaopbefklkbmeaaQ1
import Derived.Test.YtaopbefklkbmeaaQ2
import Derived.Test.YtaopbefklkbmeaaQ3
import Derived.Test.YtaopbefklkbmeaaQ4
import Derived.Test.YtaopbefklkbmeaaQ5
set_option maxRecDepth 100000
set_option linter.unusedSimpArgs false
set_option linter.unusedVariables false
namespace Go.Proofs.Ytaopbefklkbmeaa
open Go Go.RowKit
theorem runs_head (t : List Int) (ht : t.length = 4) (h : 0 < layN t) : (runsL t).getD 0 0 = t.getD 0 0 := by
  have key : ∀ i, 0 < i → i ≤ 4 → (RL t i).getD 0 0 = t.getD 0 0 ∧ 2 ≤ (RL t i).length := by
    intro i
    induction i with
    | zero => intro h; omega
    | succ i ih =>
      intro _ hi
      rw [RL_succ t i (by omega)]
      by_cases hi0 : i = 0
      · subst hi0
        rw [RL_zero]
        simp [stepR]
      · obtain ⟨h1, h2⟩ := ih (by omega) (by omega)
        unfold stepR
        split
        · refine ⟨?_, by simpa using h2⟩
          rw [getD_set' _ _ _ _ (by omega), if_neg (by omega), h1]
        · refine ⟨?_, by rw [List.length_append]; omega⟩
          rw [getD_app _ _ _ (by omega), h1]
  exact (key (layN t) h (lay_le t ht)).1
def rcN (R : List Int) (k : Nat) : Nat := (runsL (tubeAt R k)).length / 2
def rcC (R : List Int) (k : Nat) : Int := (runsL (tubeAt R k)).getD 0 0
def srtF (R : List Int) : Nat → Option (List Int)
  | 0 => some []
  | k + 1 => match srtF R k with
    | none => none
    | some s => if rcN R k = 0 then some s else if 1 < rcN R k ∨ rcC R k ∈ s then none else some (s ++ [rcC R k])
def sortB (R : List Int) : Bool := (srtF R 6).isSome
theorem srt_none {R : List Int} {k : Nat} (h : srtF R k = none) : ∀ j, srtF R (k + j) = none
  | 0 => h
  | j + 1 => by
    have := srt_none h j
    show srtF R (k + j + 1) = none
    simp only [srtF, this]
theorem sort_false {R : List Int} {k : Nat} (h : srtF R k = none) (hk : k ≤ 6) : sortB R = false := by
  have := srt_none h (6 - k)
  rw [show k + (6 - k) = 6 by omega] at this
  simp [sortB, this]
theorem srt_step {R : List Int} {k : Nat} {s : List Int} (h : srtF R k = some s) : srtF R (k + 1) = if rcN R k = 0 then some s else if 1 < rcN R k ∨ rcC R k ∈ s then none else some (s ++ [rcC R k]) := by
  simp only [srtF, h]
theorem srt_len {R : List Int} : ∀ {k : Nat} {s : List Int}, srtF R k = some s → s.length ≤ k
  | 0, s, h => by cases h; simp
  | k + 1, s, h => by
    cases hk : srtF R k with
    | none => simp [srtF, hk] at h
    | some s' =>
      have := srt_len hk
      rw [srt_step hk] at h
      split at h
      · cases h; omega
      · split at h
        · cases h
        · cases h; simp; omega
def seenL (s : List Int) : List Bool := (List.range 6).map fun c : Nat => decide ((c : Int) ∈ s)
theorem seenL_len (s : List Int) : (seenL s).length = 6 := by simp [seenL]
theorem seenL_nil : seenL [] = List.replicate 6 false := by simp [seenL, List.range, List.range.loop]
theorem seenL_getD (s : List Int) (c : Int) (h : 0 ≤ c ∧ c ≤ 5) : (seenL s).getD c.toNat false = decide (c ∈ s) := by
  have : ((c.toNat : Nat) : Int) = c := by omega
  simp [seenL, List.getD, show c.toNat < 6 by omega, this]
theorem seenL_set (s : List Int) (c : Int) (h : 0 ≤ c ∧ c ≤ 5) : (seenL s).set c.toNat true = seenL (s ++ [c]) := by
  apply List.ext_getElem (by simp [seenL])
  intro k h1 h2
  simp only [List.getElem_set, seenL, List.getElem_map, List.getElem_range]
  by_cases hk : c.toNat = k
  · rw [if_pos hk]
    have : (k : Int) = c := by omega
    simp [this]
  · rw [if_neg hk]
    have : ¬ (k : Int) = c := by omega
    simp [this]
theorem rc_facts {R : List Int} (hR : R.length = 24) (hr : rackB R = true) {k : Nat} (hk : k < 6) (h : 0 < rcN R k) : 0 ≤ rcC R k ∧ rcC R k ≤ 5 := by
  have hl := tubeAt_len hR hk
  have hb := tubeAt_ok hr hk
  have h0 : 0 < layN (tubeAt R k) := (runs_bottom _ hl hb).1.2 (by unfold crN; unfold rcN at h; omega)
  unfold rcC
  rw [runs_head _ hl h0]
  have := (tube_cells hl hb).1 0 h0
  omega
--@tbl isSorted = impl.isSorted
theorem isSorted_ok (R : List Int) (hR : R.length = 24) (hr : rackB R = true) : PureH Try.prog 26 [.arr R] [] (.bool (sortB R)) := by
  have tkR : R.take 24 = R := List.take_of_length_le (by omega)
  refine pure_of_vc (X := ⟨Try.prog, tys, [], [(55, runs_F)], true, true, 0, [], []⟩) fn_26 ⟨tys_ok, .nil, (.cons runs_T .nil), mixed⟩ (n0 := 0) (Nat.le_of_ble_eq_true rfl) (by simp [wfL, SV.wf]) (wfH_spec (by simp [wfH, SObj.wf, wfL, SV.wf])) (Nat.le_refl _) (fun _ => by simp [SV.wf, wfL]) ?_
  simp -implicitDefEqProofs only [Try.f26, Option.getD_some, argS, runs_F, hR, tkR, ZB, Int.reduceToNat, Nat.reduceLT, Nat.reduceLeDiff, Int.reduceLE, Int.reduceLT, Nat.reduceEqDiff, Nat.reduceSub, SB, SV.known, packR, ne_eq, reduceCtorEq, Nat.reduceEqDiff, ↓reduceIte, if_true, if_false, eq_self, Nat.reduceAdd, Nat.reduceMul, Nat.reduceSub, forall_const, oneCellS, litOne, flat1, Kd.isSca, flat, TYB]
  refine loop_intro (fun s : Nat × List Int => [(9, .int s.1), (8, .arr R), (3, .ptr 1 0), (2, .bool false), (1, .ptr 0 0)]) (fun s => [(1, .bls (seenL s.2) 85), (0, .ints R 29)]) 2 (fun s => s.1 ≤ 6 ∧ srtF R s.1 = some s.2) (fun s => 6 - s.1) ?_ ?_
  · refine ⟨(0, []), ⟨by omega, rfl⟩, Sub.mk_id ?_ ?_ ?_ ?_ ?_⟩
    all_goals simp only [seenL_nil, LB, subS, subH, wfS, wfH, SV.ren, renL, SObj.ren, SV.wf, SObj.wf, wfL, SV.known, Nat.reduceEqDiff, ↓reduceIte, if_true, if_false, eq_self, Nat.reduceAdd, Nat.reduceLT, Nat.reduceLeDiff, implies_true, reduceCtorEq, forall_const]
  · rintro ⟨i, s⟩ ⟨hi, hs⟩
    simp only at hi hs
    have eT : List.take 4 (List.drop (i * 4) R) = tubeAt R i := rfl
    have sl := seenL_len s
    by_cases hlt : i < 6
    · have hil : (i : Int) < 6 := by omega
      have hl := tubeAt_len hR hlt
      have tk4 : (tubeAt R i).take 4 = tubeAt R i := List.take_of_length_le (by omega)
      have es := srt_step hs
      have en : (runsL (tubeAt R i)).length / 2 = rcN R i := rfl
      obtain ⟨n, hn, hn4, _⟩ := runsL_even _ hl
      have ern : rcN R i = n := by unfold rcN; omega
      have gd : ∀ J : List Int, 0 < rcN R i → (runsL (tubeAt R i) ++ J).getD 0 0 = rcC R i := fun J h => getD_app _ _ _ (by omega)
      simp -implicitDefEqProofs only [lk_normal, runs_F, freshK, Wrap.ap, hil, hR, eT, hl, tk4, en, sl, ZB, Int.reduceToNat, Nat.reduceLT, Nat.reduceLeDiff, Int.reduceLE, Int.reduceLT, Nat.reduceEqDiff, Nat.reduceSub, SB, SV.known, packR, ne_eq, reduceCtorEq, Nat.reduceEqDiff, ↓reduceIte, if_true, if_false, eq_self, Nat.reduceAdd, Nat.reduceMul, Nat.reduceSub, forall_const, oneCellS, litOne, flat1, Kd.isSca, flat, TYB]
      refine ⟨by omega, fun h0 => ?_, fun h0 cap junk hj => ?_⟩
      · have hz : rcN R i = 0 := by rw [ern]; rw [h0] at hn; simp at hn; omega
        rw [if_pos hz] at es
        (try (and_intros <;> try (first | omega | (unfold In64; omega) | trivial | assumption)))
        refine ⟨(i + 1, s), ?_, ?_, Sub.mk_id ?_ ?_ ?_ ?_ ?_⟩
        all_goals (try (simp only [es, LB, subS, subH, wfS, wfH, SV.ren, renL, SObj.ren, SV.wf, SObj.wf, wfL, SV.known, Nat.reduceEqDiff, ↓reduceIte, if_true, if_false, eq_self, Nat.reduceAdd, Nat.reduceLT, Nat.reduceLeDiff, implies_true, reduceCtorEq, forall_const]; done))
        all_goals (try (simp only [es, LB, subS, subH, wfS, wfH, SV.ren, renL, SObj.ren, SV.wf, SObj.wf, wfL, SV.known, Nat.reduceEqDiff, ↓reduceIte, if_true, if_false, eq_self, Nat.reduceAdd, Nat.reduceLT, Nat.reduceLeDiff, implies_true, reduceCtorEq, forall_const]; simp; done))
        all_goals (try (simp only [es, LB, subS, subH, wfS, wfH, SV.ren, renL, SObj.ren, SV.wf, SObj.wf, wfL, SV.known, Nat.reduceEqDiff, ↓reduceIte, if_true, if_false, eq_self, Nat.reduceAdd, Nat.reduceLT, Nat.reduceLeDiff, implies_true, reduceCtorEq, forall_const]; (and_intros <;> (first | omega | rfl | (simp; done) | (simp; omega))); done))
        all_goals (try dsimp only)
        all_goals (and_intros <;> try (first | omega | (unfold In64; omega) | trivial | assumption))
        all_goals (try exact es)
      · have hp : 0 < rcN R i := by
          rcases Nat.eq_zero_or_pos n with hz | hz
          · exact absurd (List.length_eq_zero_iff.1 (by rw [hn, hz])) h0
          · omega
        rw [if_neg (by omega)] at es
        have rc := rc_facts hR hr hlt hp
        have g0 := gd junk hp
        have sg := seenL_getD s (rcC R i) rc
        have sw := seenL_set s (rcC R i) rc
        have lj : 0 < (runsL (tubeAt R i) ++ junk).length := by rw [List.length_append]; omega
        refine ⟨fun hz => absurd hz (by omega), fun _ => ⟨fun h1 => ?_, fun h1 => ?_⟩⟩
        · rw [if_pos (by omega)] at es
          rw [sort_false es (by omega)]
        · cases hd : decide (rcC R i ∈ s)
          · rw [if_neg (fun hx => hx.elim (fun h => by omega) (of_decide_eq_false hd))] at es
            simp -implicitDefEqProofs only [lk_normal, g0, sg, sw, hd, sl, lj, ZB, Int.reduceToNat, Nat.reduceLT, Nat.reduceLeDiff, Int.reduceLE, Int.reduceLT, Nat.reduceEqDiff, Nat.reduceSub, SB, SV.known, packR, ne_eq, reduceCtorEq, Nat.reduceEqDiff, ↓reduceIte, if_true, if_false, eq_self, Nat.reduceAdd, Nat.reduceMul, Nat.reduceSub, forall_const, oneCellS, litOne, flat1, Kd.isSca, flat, TYB]
            (try (and_intros <;> try (first | omega | (unfold In64; omega) | trivial | assumption)))
            refine ⟨(i + 1, s ++ [rcC R i]), ?_, ?_, Sub.mk_id ?_ ?_ ?_ ?_ ?_⟩
            all_goals (try (simp only [es, LB, subS, subH, wfS, wfH, SV.ren, renL, SObj.ren, SV.wf, SObj.wf, wfL, SV.known, Nat.reduceEqDiff, ↓reduceIte, if_true, if_false, eq_self, Nat.reduceAdd, Nat.reduceLT, Nat.reduceLeDiff, implies_true, reduceCtorEq, forall_const]; done))
            all_goals (try (simp only [es, LB, subS, subH, wfS, wfH, SV.ren, renL, SObj.ren, SV.wf, SObj.wf, wfL, SV.known, Nat.reduceEqDiff, ↓reduceIte, if_true, if_false, eq_self, Nat.reduceAdd, Nat.reduceLT, Nat.reduceLeDiff, implies_true, reduceCtorEq, forall_const]; simp; done))
            all_goals (try (simp only [es, LB, subS, subH, wfS, wfH, SV.ren, renL, SObj.ren, SV.wf, SObj.wf, wfL, SV.known, Nat.reduceEqDiff, ↓reduceIte, if_true, if_false, eq_self, Nat.reduceAdd, Nat.reduceLT, Nat.reduceLeDiff, implies_true, reduceCtorEq, forall_const]; (and_intros <;> (first | omega | rfl | (simp; done) | (simp; omega))); done))
            all_goals (try dsimp only)
            all_goals (and_intros <;> try (first | omega | (unfold In64; omega) | trivial | assumption))
          · rw [if_pos (.inr (of_decide_eq_true hd))] at es
            simp -implicitDefEqProofs only [lk_normal, g0, sg, sw, hd, sl, lj, ZB, Int.reduceToNat, Nat.reduceLT, Nat.reduceLeDiff, Int.reduceLE, Int.reduceLT, Nat.reduceEqDiff, Nat.reduceSub, SB, SV.known, packR, ne_eq, reduceCtorEq, Nat.reduceEqDiff, ↓reduceIte, if_true, if_false, eq_self, Nat.reduceAdd, Nat.reduceMul, Nat.reduceSub, forall_const, oneCellS, litOne, flat1, Kd.isSca, flat, TYB]
            rw [sort_false es (by omega)]
            (try (and_intros <;> try (first | omega | (unfold In64; omega) | trivial | assumption)))
    · have hil : ¬ (i : Int) < 6 := by omega
      obtain rfl : i = 6 := by omega
      simp -implicitDefEqProofs only [lk_normal, hil, ZB, Int.reduceToNat, Nat.reduceLT, Nat.reduceLeDiff, Int.reduceLE, Int.reduceLT, Nat.reduceEqDiff, Nat.reduceSub, SB, SV.known, packR, ne_eq, reduceCtorEq, Nat.reduceEqDiff, ↓reduceIte, if_true, if_false, eq_self, Nat.reduceAdd, Nat.reduceMul, Nat.reduceSub, forall_const, oneCellS, litOne, flat1, Kd.isSca, flat, TYB]
      simp [sortB, hs]
def isSorted_F : List SV → Heap → Option (Prop × SV)
  | [.arr R], _ => some (R.length = 24 ∧ rackB R = true, .bool (sortB R))
  | _, _ => none
theorem isSorted_T : ∀ args H p v, isSorted_F args H = some (p, v) → p → PureH Try.prog 26 args H v := by
  intro args H p v h hp
  unfold isSorted_F at h
  split at h
  · cases h; exact (isSorted_ok _ hp.1 hp.2).any _
  · cases h
--@tbl l1Has = spec.l1Has
theorem l1Has_ok (L : List Int) (e cap len : Nat) (c : Int) (hl : len ≤ L.length) (hm : len ≤ 1000000) : PureH Try.prog 68 [.slice 0 0 len cap, .int c] [(0, .ints L e)] (.bool (decide (c ∈ L.take len))) := by
  refine pure_of_vc (X := ⟨Try.prog, tys, [], [], true, true, 1, [], []⟩) fn_68 ⟨tys_ok, .nil, .nil, mixed⟩ (n0 := 1) (Nat.le_of_ble_eq_true rfl) (by simp [wfL, SV.wf]) (wfH_spec (by simp [wfH, SObj.wf, wfL, SV.wf])) (Nat.le_refl _) (fun _ => by simp [SV.wf, wfL]) ?_
  simp -implicitDefEqProofs only [Try.f68, Option.getD_some, argS, ZB, Int.reduceToNat, Nat.reduceLT, Nat.reduceLeDiff, Int.reduceLE, Int.reduceLT, Nat.reduceEqDiff, Nat.reduceSub, SB, SV.known, packR, ne_eq, reduceCtorEq, Nat.reduceEqDiff, ↓reduceIte, if_true, if_false, eq_self, Nat.reduceAdd, Nat.reduceMul, Nat.reduceSub, forall_const, oneCellS, litOne, flat1, Kd.isSca, flat, TYB]
  refine loop_intro (fun i : Nat => [(5, .int i), (0, .slice 0 0 len cap), (1, .int c)]) (fun _ => [(0, .ints L e)]) 1 (fun i => i ≤ len ∧ ∀ k, k < i → ¬ L.getD k 0 = c) (fun i => len - i) ?_ ?_
  · refine ⟨0, ?_, Sub.mk_id ?_ ?_ ?_ ?_ ?_⟩
    all_goals (try (simp only [LB, subS, subH, wfS, wfH, SV.ren, renL, SObj.ren, SV.wf, SObj.wf, wfL, SV.known, Nat.reduceEqDiff, ↓reduceIte, if_true, if_false, eq_self, Nat.reduceAdd, Nat.reduceLT, Nat.reduceLeDiff, implies_true, reduceCtorEq, forall_const]; done))
    all_goals (try (simp only [LB, subS, subH, wfS, wfH, SV.ren, renL, SObj.ren, SV.wf, SObj.wf, wfL, SV.known, Nat.reduceEqDiff, ↓reduceIte, if_true, if_false, eq_self, Nat.reduceAdd, Nat.reduceLT, Nat.reduceLeDiff, implies_true, reduceCtorEq, forall_const]; simp; done))
    all_goals (try (simp only [LB, subS, subH, wfS, wfH, SV.ren, renL, SObj.ren, SV.wf, SObj.wf, wfL, SV.known, Nat.reduceEqDiff, ↓reduceIte, if_true, if_false, eq_self, Nat.reduceAdd, Nat.reduceLT, Nat.reduceLeDiff, implies_true, reduceCtorEq, forall_const]; (and_intros <;> (first | omega | rfl | (simp; done) | (simp; omega))); done))
    all_goals (try dsimp only)
    all_goals (and_intros <;> try (first | omega | (unfold In64; omega) | trivial | assumption))
  · rintro i ⟨hi, hn⟩
    by_cases hlt : i < len
    · have hil : (i : Int) < len := by omega
      simp -implicitDefEqProofs only [lk_normal, hil, ZB, Int.reduceToNat, Nat.reduceLT, Nat.reduceLeDiff, Int.reduceLE, Int.reduceLT, Nat.reduceEqDiff, Nat.reduceSub, SB, SV.known, packR, ne_eq, reduceCtorEq, Nat.reduceEqDiff, ↓reduceIte, if_true, if_false, eq_self, Nat.reduceAdd, Nat.reduceMul, Nat.reduceSub, forall_const, oneCellS, litOne, flat1, Kd.isSca, flat, TYB]
      refine ⟨by omega, by omega, fun h => ?_, fun h => ?_⟩
      · have : c ∈ L.take len := List.mem_take_iff_getElem.2 ⟨i, by omega, by rw [← h]; simp [List.getD, List.getElem?_eq_getElem (show i < L.length by omega)]⟩
        simp [this]
      · (try (and_intros <;> try (first | omega | (unfold In64; omega) | trivial | assumption)))
        refine ⟨i + 1, ?_, ?_, Sub.mk_id ?_ ?_ ?_ ?_ ?_⟩
        all_goals (try (simp only [LB, subS, subH, wfS, wfH, SV.ren, renL, SObj.ren, SV.wf, SObj.wf, wfL, SV.known, Nat.reduceEqDiff, ↓reduceIte, if_true, if_false, eq_self, Nat.reduceAdd, Nat.reduceLT, Nat.reduceLeDiff, implies_true, reduceCtorEq, forall_const]; done))
        all_goals (try (simp only [LB, subS, subH, wfS, wfH, SV.ren, renL, SObj.ren, SV.wf, SObj.wf, wfL, SV.known, Nat.reduceEqDiff, ↓reduceIte, if_true, if_false, eq_self, Nat.reduceAdd, Nat.reduceLT, Nat.reduceLeDiff, implies_true, reduceCtorEq, forall_const]; simp; done))
        all_goals (try (simp only [LB, subS, subH, wfS, wfH, SV.ren, renL, SObj.ren, SV.wf, SObj.wf, wfL, SV.known, Nat.reduceEqDiff, ↓reduceIte, if_true, if_false, eq_self, Nat.reduceAdd, Nat.reduceLT, Nat.reduceLeDiff, implies_true, reduceCtorEq, forall_const]; (and_intros <;> (first | omega | rfl | (simp; done) | (simp; omega))); done))
        all_goals (try dsimp only)
        all_goals (and_intros <;> try (first | omega | (unfold In64; omega) | trivial | assumption))
        intro k hk
        by_cases hki : k = i
        · subst hki; exact h
        · exact hn k (by omega)
    · have hil : ¬ (i : Int) < len := by omega
      obtain rfl : i = len := by omega
      simp -implicitDefEqProofs only [lk_normal, hil, ZB, Int.reduceToNat, Nat.reduceLT, Nat.reduceLeDiff, Int.reduceLE, Int.reduceLT, Nat.reduceEqDiff, Nat.reduceSub, SB, SV.known, packR, ne_eq, reduceCtorEq, Nat.reduceEqDiff, ↓reduceIte, if_true, if_false, eq_self, Nat.reduceAdd, Nat.reduceMul, Nat.reduceSub, forall_const, oneCellS, litOne, flat1, Kd.isSca, flat, TYB]
      have : ¬ c ∈ L.take i := fun hc => by
        obtain ⟨k, hk, he⟩ := List.mem_take_iff_getElem.1 hc
        refine hn k (by omega) ?_
        simp only [List.getD, List.getElem?_eq_getElem (show k < L.length by omega), Option.getD_some]
        exact he
      simp [this]
def l1Has_F : List SV → Heap → Option (Prop × SV)
  | [.slice b 0 len _, .int c], H => match hget H b with
    | some (.ints L _) => some (len ≤ L.length ∧ len ≤ 1000000, .bool (decide (c ∈ L.take len)))
    | _ => none
  | _, _ => none
theorem l1Has_T : ∀ args H p v, l1Has_F args H = some (p, v) → p → PureH Try.prog 68 args H v := by
  intro args H p v h hp
  unfold l1Has_F at h
  split at h
  · rename_i b len cap c
    split at h
    · rename_i L e hb
      cases h
      exact one_block (l1Has_ok L e cap len c hp.1 hp.2) hb rfl (fun _ => trivial)
    · cases h
  · cases h
--@tbl l2Sorted = spec.l2Sorted
theorem l2Sorted_ok (R : List Int) (hR : R.length = 24) (hr : rackB R = true) : PureH Try.prog 42 [.arr R] [] (.bool (sortB R)) := by
  have tkR : R.take 24 = R := List.take_of_length_le (by omega)
  refine pure_of_vc (X := ⟨Try.prog, tys, [(68, l1Has_F)], [(67, l2Runs_F)], true, true, 0, [], []⟩) fn_42 ⟨tys_ok, (.cons l1Has_T .nil), (.cons l2Runs_T .nil), mixed⟩ (n0 := 0) (Nat.le_of_ble_eq_true rfl) (by simp [wfL, SV.wf]) (wfH_spec (by simp [wfH, SObj.wf, wfL, SV.wf])) (Nat.le_refl _) (fun _ => by simp [SV.wf, wfL]) ?_
  simp -implicitDefEqProofs only [Try.f42, Option.getD_some, argS, l1Has_F, l2Runs_F, hR, tkR, ZB, Int.reduceToNat, Nat.reduceLT, Nat.reduceLeDiff, Int.reduceLE, Int.reduceLT, Nat.reduceEqDiff, Nat.reduceSub, SB, SV.known, packR, ne_eq, reduceCtorEq, Nat.reduceEqDiff, ↓reduceIte, if_true, if_false, eq_self, Nat.reduceAdd, Nat.reduceMul, Nat.reduceSub, forall_const, oneCellS, litOne, flat1, Kd.isSca, flat, TYB]
  refine loop_intro (fun s : Nat × List Int × Nat × List Int => [(4, .int s.1), (3, .slice 1 0 s.2.1.length s.2.2.1), (2, .bool false), (1, .ptr 0 0)]) (fun s => [(1, .ints (s.2.1 ++ s.2.2.2) 3), (0, .ints R 29)]) 2 (fun s => s.1 ≤ 6 ∧ srtF R s.1 = some s.2.1 ∧ s.2.2.2.length + s.2.1.length = s.2.2.1) (fun s => 6 - s.1) ?_ ?_
  · refine ⟨(0, [], 0, []), ⟨by omega, rfl, rfl⟩, Sub.mk_id ?_ ?_ ?_ ?_ ?_⟩
    all_goals simp only [LB, subS, subH, wfS, wfH, SV.ren, renL, SObj.ren, SV.wf, SObj.wf, wfL, SV.known, Nat.reduceEqDiff, ↓reduceIte, if_true, if_false, eq_self, Nat.reduceAdd, Nat.reduceLT, Nat.reduceLeDiff, implies_true, reduceCtorEq, forall_const]
    all_goals simp
  · rintro ⟨i, s, cap, junk⟩ ⟨hi, hs, hj⟩
    simp only at hi hs hj
    have eT : List.take 4 (List.drop (i * 4) R) = tubeAt R i := rfl
    have sle := srt_len hs
    have tks : (s ++ junk).take s.length = s := List.take_left' rfl
    have lsj : (s ++ junk).length = cap := by rw [List.length_append]; omega
    by_cases hlt : i < 6
    · have hil : (i : Int) < 6 := by omega
      have hl := tubeAt_len hR hlt
      have hb := tubeAt_ok hr hlt
      have es := srt_step hs
      have en : (runsL (tubeAt R i)).length / 2 = rcN R i := rfl
      obtain ⟨n, hn, hn4, _⟩ := runsL_even _ hl
      have ern : rcN R i = n := by unfold rcN; omega
      have gd : ∀ J : List Int, 0 < rcN R i → (runsL (tubeAt R i) ++ J).getD 0 0 = rcC R i := fun J h => getD_app _ _ _ (by omega)
      simp -implicitDefEqProofs only [lk_normal, l1Has_F, l2Runs_F, freshK, Wrap.ap, hil, hR, eT, hl, hb, en, tks, lsj, ZB, Int.reduceToNat, Nat.reduceLT, Nat.reduceLeDiff, Int.reduceLE, Int.reduceLT, Nat.reduceEqDiff, Nat.reduceSub, SB, SV.known, packR, ne_eq, reduceCtorEq, Nat.reduceEqDiff, ↓reduceIte, if_true, if_false, eq_self, Nat.reduceAdd, Nat.reduceMul, Nat.reduceSub, forall_const, oneCellS, litOne, flat1, Kd.isSca, flat, TYB]
      have r1 : (List.replicate 1 (0 : Int)) = [0] := rfl
      refine ⟨by omega, by omega, fun cap1 junk1 hj1 => ⟨fun h1 => ?_, fun h1 => ?_⟩⟩
      · rw [if_neg (by omega), if_pos (.inl (by omega))] at es
        rw [sort_false es (by omega)]
      · refine ⟨fun h2 => ?_, fun h2 => ?_⟩
        · rw [gd junk1 (by omega)]
          rw [if_neg (by omega)] at es
          refine ⟨by omega, by rw [List.length_append]; omega, ⟨by omega, by omega⟩, fun hm => ?_, fun hm => ⟨fun _ => ?_, fun hx => absurd h2 hx⟩⟩
          · rw [if_pos (.inr hm)] at es
            rw [sort_false es (by omega)]
          · rw [if_neg (fun hx => hx.elim (fun h => by omega) hm)] at es
            refine ⟨by omega, by rw [List.length_append]; omega, by omega, by omega, by omega, fun junk2 cap2 hj2 => ?_⟩
            (try (and_intros <;> try (first | omega | (unfold In64; omega) | trivial | assumption)))
            refine ⟨(i + 1, s ++ [rcC R i], cap2, junk2), ?_, ?_, Sub.mk_to 1 4 ?_ ?_ ?_ ?_ ?_ ?_ ?_⟩
            all_goals (try (simp only [es, r1, List.set_cons_zero, List.take_succ_cons, List.take_zero, List.length_append, List.length_cons, List.length_nil, List.append_nil, LB, subS, subH, wfS, wfH, SV.ren, renL, SObj.ren, SV.wf, SObj.wf, wfL, SV.known, Nat.reduceEqDiff, ↓reduceIte, if_true, if_false, eq_self, Nat.reduceAdd, Nat.reduceLT, Nat.reduceLeDiff, implies_true, reduceCtorEq, forall_const]; done))
            all_goals (try (simp only [es, r1, List.set_cons_zero, List.take_succ_cons, List.take_zero, List.length_append, List.length_cons, List.length_nil, List.append_nil, LB, subS, subH, wfS, wfH, SV.ren, renL, SObj.ren, SV.wf, SObj.wf, wfL, SV.known, Nat.reduceEqDiff, ↓reduceIte, if_true, if_false, eq_self, Nat.reduceAdd, Nat.reduceLT, Nat.reduceLeDiff, implies_true, reduceCtorEq, forall_const]; simp; done))
            all_goals (try (simp only [es, r1, List.set_cons_zero, List.take_succ_cons, List.take_zero, List.length_append, List.length_cons, List.length_nil, List.append_nil, LB, subS, subH, wfS, wfH, SV.ren, renL, SObj.ren, SV.wf, SObj.wf, wfL, SV.known, Nat.reduceEqDiff, ↓reduceIte, if_true, if_false, eq_self, Nat.reduceAdd, Nat.reduceLT, Nat.reduceLeDiff, implies_true, reduceCtorEq, forall_const]; (and_intros <;> (first | omega | rfl | (simp; done) | (simp; omega))); done))
            all_goals (try dsimp only)
            all_goals (and_intros <;> try (first | omega | (unfold In64; omega) | trivial | assumption))
            all_goals (try simp)
            all_goals (try omega)
        · refine ⟨fun hx => absurd hx h2, fun _ => ?_⟩
          rw [if_pos (by omega)] at es
          (try (and_intros <;> try (first | omega | (unfold In64; omega) | trivial | assumption)))
          refine ⟨(i + 1, s, cap, junk), ?_, ?_, Sub.mk_id ?_ ?_ ?_ ?_ ?_⟩
          all_goals (try (simp only [es, LB, subS, subH, wfS, wfH, SV.ren, renL, SObj.ren, SV.wf, SObj.wf, wfL, SV.known, Nat.reduceEqDiff, ↓reduceIte, if_true, if_false, eq_self, Nat.reduceAdd, Nat.reduceLT, Nat.reduceLeDiff, implies_true, reduceCtorEq, forall_const]; done))
          all_goals (try (simp only [es, LB, subS, subH, wfS, wfH, SV.ren, renL, SObj.ren, SV.wf, SObj.wf, wfL, SV.known, Nat.reduceEqDiff, ↓reduceIte, if_true, if_false, eq_self, Nat.reduceAdd, Nat.reduceLT, Nat.reduceLeDiff, implies_true, reduceCtorEq, forall_const]; simp; done))
          all_goals (try (simp only [es, LB, subS, subH, wfS, wfH, SV.ren, renL, SObj.ren, SV.wf, SObj.wf, wfL, SV.known, Nat.reduceEqDiff, ↓reduceIte, if_true, if_false, eq_self, Nat.reduceAdd, Nat.reduceLT, Nat.reduceLeDiff, implies_true, reduceCtorEq, forall_const]; (and_intros <;> (first | omega | rfl | (simp; done) | (simp; omega))); done))
          all_goals (try dsimp only)
          all_goals (and_intros <;> try (first | omega | (unfold In64; omega) | trivial | assumption))
    · have hil : ¬ (i : Int) < 6 := by omega
      obtain rfl : i = 6 := by omega
      simp -implicitDefEqProofs only [lk_normal, hil, ZB, Int.reduceToNat, Nat.reduceLT, Nat.reduceLeDiff, Int.reduceLE, Int.reduceLT, Nat.reduceEqDiff, Nat.reduceSub, SB, SV.known, packR, ne_eq, reduceCtorEq, Nat.reduceEqDiff, ↓reduceIte, if_true, if_false, eq_self, Nat.reduceAdd, Nat.reduceMul, Nat.reduceSub, forall_const, oneCellS, litOne, flat1, Kd.isSca, flat, TYB]
      simp [sortB, hs]
def l2Sorted_F : List SV → Heap → Option (Prop × SV)
  | [.arr R], _ => some (R.length = 24 ∧ rackB R = true, .bool (sortB R))
  | _, _ => none
theorem l2Sorted_T : ∀ args H p v, l2Sorted_F args H = some (p, v) → p → PureH Try.prog 42 args H v := by
  intro args H p v h hp
  unfold l2Sorted_F at h
  split at h
  · cases h; exact (l2Sorted_ok _ hp.1 hp.2).any _
  · cases h
/-! IsStuck. -/
end Go.Proofs.Ytaopbefklkbmeaa
set_option maxRecDepth 100000
set_option linter.unusedSimpArgs false
set_option linter.unusedVariables false
namespace Go.Proofs.Ytaopbefklkbmeaa
open Go Go.RowKit
/-! Moved layers. -/
end Go.Proofs.Ytaopbefklkbmeaa
set_option maxRecDepth 100000
set_option linter.unusedSimpArgs false
set_option linter.unusedVariables false
namespace Go.Proofs.Ytaopbefklkbmeaa
open Go Go.RowKit
/-! CountRules. -/
end Go.Proofs.Ytaopbefklkbmeaa
set_option maxRecDepth 100000
set_option linter.unusedSimpArgs false
set_option linter.unusedVariables false
namespace Go.Proofs.Ytaopbefklkbmeaa
open Go Go.RowKit
theorem GL_pair' (c : Nat → Nat → Bool) (i : Nat) (junk : List Int) (h : i * 2 + 2 ≤ (GL c 36).length) : ∃ a b : Nat, a < 6 ∧ b < 6 ∧ c a b = true ∧ (((GL c 36) ++ junk).drop (i * 2)).take 2 = [(a : Int), (b : Int)] := by
  obtain ⟨a, b, h1, h2, h3, h4⟩ := GL_pair c 36 (by omega) i h
  refine ⟨a, b, h1, h2, h3, ?_⟩
  rw [List.drop_append_of_le_length (by omega), List.take_append_of_le_length (by rw [List.length_drop]; omega)]
  exact h4
/-! DeleteFunc with a closure over a rack and depths. -/
/-! The lists. -/
end Go.Proofs.Ytaopbefklkbmeaa
set_option maxRecDepth 100000
set_option linter.unusedSimpArgs false
set_option linter.unusedVariables false
namespace Go.Proofs.Ytaopbefklkbmeaa
open Go Go.RowKit
def qCan (R p : List Int) : Prop := rackB R = true ∧ okP p ∧ canF R (p.getD 0 0) (p.getD 1 0) = true
theorem qCan_of {R : List Int} (hr : rackB R = true) (i : Nat) (junk : List Int) (h : i * 2 + 2 ≤ (PL R 36).length) : qCan R (List.take 2 (List.drop (i * 2) (PL R 36 ++ junk))) := by
  obtain ⟨a, b, h1, h2, h3, h4⟩ := GL_pair' (fun i j => canF R i j) i junk h
  rw [PL_GL, h4]
  exact ⟨hr, ⟨rfl, by simp only [List.getD_cons_zero]; omega, by simp only [List.getD_cons_succ, List.getD_cons_zero]; omega⟩, h3⟩
theorem qCan_pair {R : List Int} (hr : rackB R = true) (i : Nat) (h : i * 2 + 2 ≤ (PL R 36).length) : canF R ((PL R 36).getD (i * 2) 0) ((PL R 36).getD (i * 2 + 1) 0) = true := by
  have h1 := (qCan_of hr i [] h).2.2
  rw [List.append_nil, take2_drop _ _ (by omega)] at h1
  exact h1
--@tbl isGood = impl.isGood
--@tbl gDel = slices.DeleteFunc[[][2]int,[2]int]
end Go.Proofs.Ytaopbefklkbmeaa
set_option maxRecDepth 100000
set_option linter.unusedSimpArgs false
set_option linter.unusedVariables false
namespace Go.Proofs.Ytaopbefklkbmeaa
open Go Go.RowKit
/-- Forms one pour behind. -/
def sucC (x : List Int) : Nat := (ulF x).length / 2
def sucU (x : List Int) : List (List Int) := (List.range (sucC x)).map (diX x)
theorem sucU_len (x : List Int) : (sucU x).length = sucC x := by simp [sucU]
theorem sucU_getD (x : List Int) {j : Nat} (hj : j < sucC x) : (sucU x).getD j [] = diX x j := by simp [sucU, List.getD, hj]
theorem sucC_le (x : List Int) : sucC x ≤ 36 := by
  obtain ⟨k, h1, h2⟩ := ulF_even x
  unfold sucC; omega
theorem ulF_sucC (x : List Int) : (ulF x).length = sucC x * 2 := by
  obtain ⟨k, h1, h2⟩ := ulF_even x
  unfold sucC; omega
/-- A list of valid racks. -/
def okU (Q : List (List Int)) : Prop := ∀ x ∈ Q, x.length = 24 ∧ rackB x = true
theorem okU.all24 {Q : List (List Int)} (h : okU Q) : all24 Q := fun x hx => (h x hx).1
theorem okU_app {P Q : List (List Int)} (h1 : okU P) (h2 : okU Q) : okU (P ++ Q) := fun x hx => by
  rcases List.mem_append.1 hx with hx | hx
  · exact h1 x hx
  · exact h2 x hx
theorem okU_nw {K xs : List (List Int)} (h : okU xs) : okU (nwF K xs) := fun x hx => h x (nwF_sub K xs x hx).1
theorem flat_getW {w : Nat} : ∀ {Q : List (List Int)}, (∀ x ∈ Q, x.length = w) → ∀ {i : Nat}, i < Q.length → (Q.flatten.drop (i * w)).take w = Q.getD i []
  | [], _, i, hi => by simp at hi
  | x :: Q, h, i, hi => by
    have hx := h x (List.mem_cons_self ..)
    rw [List.flatten_cons]
    cases i with
    | zero => rw [Nat.zero_mul, List.drop_zero, List.take_left' hx]; rfl
    | succ i =>
      rw [show (i + 1) * w = w + i * w by rw [Nat.add_mul]; omega, ← List.drop_drop, List.drop_left' hx, flat_getW (fun y hy => h y (List.mem_cons_of_mem _ hy)) (by simpa using hi)]
      rfl
theorem rack_frm {R : List Int} (hR : R.length = 24) (hr : rackB R = true) : rackB (frm R) = true := by
  have h4 : ∀ y ∈ srtT (tubs R), y.length = 4 := fun y hy => tubs_len hR y ((srtT_perm _).mem_iff.1 hy)
  have hl : (srtT (tubs R)).length = 6 := by rw [(srtT_perm _).length_eq]; simp [tubs]
  have e : tubesOf (frm R) 0 6 = srtT (tubs R) := by
    refine List.ext_getElem (by rw [tubesOf_len, hl]) fun i h1 h2 => ?_
    have e1 := flat_getW h4 h2
    simp only [tubesOf, List.getElem_map, List.getElem_range, Nat.zero_add]
    unfold frm
    rw [e1, List.getD_eq_getElem?_getD, List.getElem?_eq_getElem h2]; rfl
  have e2 : tubesOf R 0 6 = tubs R := by
    unfold tubesOf tubs tubeAt
    simp
  unfold rackB at hr ⊢
  rw [e, List.all_eq_true]
  intro x hx
  exact List.all_eq_true.1 hr x (by rw [e2]; exact (srtT_perm _).mem_iff.1 hx)
theorem ul_can {R : List Int} (hr : rackB R = true) {q : Nat} (hq : q < sucC R) : canF R ((ulF R).getD (q * 2) 0) ((ulF R).getD (q * 2 + 1) 0) = true := by
  have hl := ulF_sucC R
  obtain ⟨m, hm, _⟩ := PL_even R 36
  obtain ⟨j, h1, h2, _⟩ := kept_pair (np := fun p => !idleF R p) (L := PL R 36) ((PL R 36).length / 2) (by omega) q (by show q * 2 + 2 ≤ (ulF R).length; omega)
  have h2' : ((ulF R).drop (q * 2)).take 2 = ((PL R 36).drop (j * 2)).take 2 := h2
  rw [take2_drop _ _ (by omega), take2_drop _ _ (by omega)] at h2'
  simp only [List.cons.injEq, and_true] at h2'
  rw [h2'.1, h2'.2]
  exact qCan_pair hr j (by omega)
theorem diX_rack {R : List Int} (hR : R.length = 24) (hr : rackB R = true) {q : Nat} (hq : q < sucC R) : rackB (diX R q) = true := by
  have hl := ulF_sucC R
  obtain ⟨a0, b0⟩ := ul_bd (R := R) (q := q) (by omega)
  exact rack_frm (pourF_len hR _ _) (pour_rack hR hr a0 b0 (ul_can hr hq))
theorem okU_suc {Q : List (List Int)} (h : okU Q) : okU (Q.flatMap sucU) := fun x hx => by
  obtain ⟨y, hy, hx⟩ := List.mem_flatMap.1 hx
  obtain ⟨q, hq, rfl⟩ := List.mem_map.1 hx
  obtain ⟨y24, yr⟩ := h y hy
  exact ⟨diX_len y24 q, diX_rack y24 yr (List.mem_range.1 hq)⟩
/-- Up to some racks, and up to some pours of the next one. -/
def upU (Q : List (List Int)) (i j : Nat) : List (List Int) := (Q.take i).flatMap sucU ++ (sucU (Q.getD i [])).take j
theorem upU_zero (Q : List (List Int)) : upU Q 0 0 = [] := by simp [upU]
theorem upU_next (Q : List (List Int)) {i : Nat} (hi : i < Q.length) : upU Q i (sucC (Q.getD i [])) = upU Q (i + 1) 0 := by
  unfold upU
  have e : (sucU (Q.getD i [])).take (sucC (Q.getD i [])) = sucU (Q.getD i []) := List.take_of_length_le (by rw [sucU_len]; omega)
  rw [e, take_succ_getD Q i hi, List.flatMap_append, List.take_zero, List.append_nil, List.flatMap_cons, List.flatMap_nil, List.append_nil]
theorem upU_snoc (Q : List (List Int)) {i j : Nat} (hj : j < sucC (Q.getD i [])) : upU Q i (j + 1) = upU Q i j ++ [diX (Q.getD i []) j] := by
  unfold upU
  rw [take_succ_getD _ _ (by rw [sucU_len]; exact hj), List.append_assoc, sucU_getD _ hj]
theorem upU_end (Q : List (List Int)) : upU Q Q.length 0 = Q.flatMap sucU := by
  unfold upU
  rw [List.take_of_length_le (by omega), List.take_zero, List.append_nil]
theorem upU_ok {Q : List (List Int)} (h : okU Q) {i j : Nat} (hi : i < Q.length ∨ j = 0) : okU (upU Q i j) := by
  unfold upU
  refine okU_app (okU_suc fun x hx => h x (List.mem_of_mem_take hx)) fun x hx => ?_
  rcases hi with hi | hj
  · exact okU_suc h x (List.mem_flatMap.2 ⟨Q.getD i [], getD_mem hi, List.mem_of_mem_take hx⟩)
  · subst hj; simp at hx
theorem fmU_len : ∀ Q : List (List Int), (Q.flatMap sucU).length ≤ 36 * Q.length
  | [] => by simp
  | x :: Q => by
    rw [List.flatMap_cons, List.length_append, sucU_len, List.length_cons]
    have := fmU_len Q
    have := sucC_le x
    omega
theorem upU_len (Q : List (List Int)) (i j : Nat) : (upU Q i j).length ≤ 36 * i + j := by
  unfold upU
  rw [List.length_append, List.length_take]
  have := fmU_len (Q.take i)
  have h2 := List.length_take (i := i) (l := Q)
  omega
/-! Layers. -/
def lk (R : List Int) : Nat → List (List Int) × List (List Int)
  | 0 => ([frm R], [frm R])
  | d + 1 => ((lk R d).1 ++ nwF (lk R d).1 ((lk R d).2.flatMap sucU), nwF (lk R d).1 ((lk R d).2.flatMap sucU))
def kn (R : List Int) (d : Nat) : List (List Int) := (lk R d).1
def lay (R : List Int) (d : Nat) : List (List Int) := (lk R d).2
theorem kn_zero (R : List Int) : kn R 0 = [frm R] := rfl
theorem lay_zero (R : List Int) : lay R 0 = [frm R] := rfl
theorem lay_succ (R : List Int) (d : Nat) : lay R (d + 1) = nwF (kn R d) ((lay R d).flatMap sucU) := rfl
theorem kn_succ (R : List Int) (d : Nat) : kn R (d + 1) = kn R d ++ lay R (d + 1) := rfl
theorem lk_ok {R : List Int} (hR : R.length = 24) (hr : rackB R = true) : ∀ d, okU (kn R d) ∧ okU (lay R d)
  | 0 => by
    have : okU [frm R] := fun x hx => by
      rw [List.mem_singleton] at hx; subst hx; exact ⟨frm_len hR, rack_frm hR hr⟩
    exact ⟨this, this⟩
  | d + 1 => by
    obtain ⟨h1, h2⟩ := lk_ok hR hr d
    have h3 : okU (lay R (d + 1)) := okU_nw (okU_suc h2)
    exact ⟨okU_app h1 h3, h3⟩
theorem kn_len (R : List Int) (d : Nat) : (kn R (d + 1)).length = (kn R d).length + (lay R (d + 1)).length := by rw [kn_succ, List.length_append]
theorem lay_kn (R : List Int) : ∀ d, (lay R d).length ≤ (kn R d).length
  | 0 => Nat.le_refl _
  | d + 1 => by rw [kn_len]; omega
theorem kn_mono (R : List Int) {d : Nat} : ∀ {e : Nat}, d ≤ e → (kn R d).length ≤ (kn R e).length
  | 0, h => by obtain rfl : d = 0 := by omega
               exact Nat.le_refl _
  | e + 1, h => by
    by_cases he : d ≤ e
    · have := kn_mono R (d := d) he
      rw [kn_len]; omega
    · obtain rfl : d = e + 1 := by omega
      exact Nat.le_refl _
/-- Nothing new any more. -/
theorem lay_nil (R : List Int) {d : Nat} (h : lay R d = []) : ∀ e, d ≤ e → lay R e = [] ∧ kn R e = kn R d := by
  intro e he
  induction e with
  | zero => obtain rfl : d = 0 := by omega
            exact ⟨h, rfl⟩
  | succ e ih =>
    by_cases hd : d ≤ e
    · obtain ⟨h1, h2⟩ := ih hd
      have h3 : lay R (e + 1) = [] := by rw [lay_succ, h1]; rfl
      exact ⟨h3, by rw [kn_succ, h3, h2, List.append_nil]⟩
    · obtain rfl : d = e + 1 := by omega
      exact ⟨h, rfl⟩
/-! When a search stops. -/
def ovf (R : List Int) (d : Nat) : Bool := decide (600 < (kn R d).length)
def stp (pr : List Int → Bool) (R : List Int) (d : Nat) : Bool := ovf R d || ((lay R d).any pr || (lay R d).isEmpty)
def fsN (p : Nat → Bool) : Nat → Nat → Nat
  | 0, d => d
  | f + 1, d => if p d = true then d else fsN p f (d + 1)
theorem fsN_eq {p : Nat → Bool} : ∀ {f d e : Nat}, d ≤ e → e ≤ d + f → p e = true → (∀ k, d ≤ k → k < e → p k = false) → fsN p f d = e
  | 0, d, e, h1, h2, h3, h4 => by show d = e; omega
  | f + 1, d, e, h1, h2, h3, h4 => by
    unfold fsN
    by_cases hde : d = e
    · subst hde; rw [if_pos h3]
    · have := h4 d (by omega) (by omega)
      rw [if_neg (by rw [this]; simp)]
      exact fsN_eq (by omega) (by omega) h3 fun k hk1 hk2 => h4 k (by omega) hk2
/-- The depth at which a search stops. -/
def dep (pr : List Int → Bool) (R : List Int) : Nat := fsN (stp pr R) 700 0
theorem pass_len {pr : List Int → Bool} {R : List Int} : ∀ {d : Nat}, (∀ k, k < d → stp pr R k = false) → d + 1 ≤ (kn R d).length + (if (lay R d).isEmpty = true then 1 else 0)
  | 0, _ => by rw [kn_zero]; simp
  | d + 1, h => by
    have ih := pass_len (d := d) fun k hk => h k (by omega)
    have hd := h d (by omega)
    unfold stp at hd
    simp only [Bool.or_eq_false_iff] at hd
    have e1 := hd.2.2
    rw [e1] at ih
    simp only [Bool.false_eq_true, if_false, Nat.add_zero] at ih
    rw [kn_len]
    by_cases he : (lay R (d + 1)).isEmpty = true
    · rw [if_pos he]; omega
    · rw [if_neg he]
      have : 0 < (lay R (d + 1)).length := by
        rcases Nat.eq_zero_or_pos (lay R (d + 1)).length with h0 | h0
        · exact absurd (by rw [List.length_eq_zero_iff.1 h0]; rfl) he
        · exact h0
      omega
theorem dep_eq {pr : List Int → Bool} {R : List Int} {d : Nat} (h1 : stp pr R d = true) (h2 : ∀ k, k < d → stp pr R k = false) : dep pr R = d := by
  have hd : d ≤ 700 := by
    cases d with
    | zero => omega
    | succ d =>
      have h3 := h2 d (by omega)
      have := pass_len (d := d) fun k hk => h2 k (by omega)
      unfold stp at h3
      simp only [Bool.or_eq_false_iff] at h3
      have e1 := h3.2.2
      have e2 := h3.1
      unfold ovf at e2
      have e3 := of_decide_eq_false e2
      rw [e1] at this
      simp only [Bool.false_eq_true, if_false] at this
      omega
  exact fsN_eq (Nat.zero_le _) (by omega) h1 fun k _ hk => h2 k hk
theorem pass_bound {pr : List Int → Bool} {R : List Int} {d : Nat} (h : ∀ k, k ≤ d → stp pr R k = false) : d ≤ 600 ∧ (kn R d).length ≤ 600 ∧ (lay R d).any pr = false ∧ lay R d ≠ [] := by
  have h3 := h d (Nat.le_refl _)
  have := pass_len (d := d) fun k hk => h k (by omega)
  unfold stp at h3
  simp only [Bool.or_eq_false_iff] at h3
  have e2 := h3.1
  unfold ovf at e2
  have e3 := of_decide_eq_false e2
  rw [h3.2.2] at this
  simp only [Bool.false_eq_true, if_false] at this
  refine ⟨by omega, by omega, h3.2.1, fun h0 => ?_⟩
  have := h3.2.2
  rw [h0] at this
  cases this
/-! Levels. -/
def lvl (R : List Int) : Nat → List Int
  | 0 => [0]
  | d + 1 => lvl R d ++ List.replicate (lay R (d + 1)).length ((d + 1 : Nat) : Int)
theorem lvl_zero (R : List Int) : lvl R 0 = [0] := rfl
theorem lvl_succ (R : List Int) (d : Nat) : lvl R (d + 1) = lvl R d ++ List.replicate (lay R (d + 1)).length ((d + 1 : Nat) : Int) := rfl
theorem lvl_len (R : List Int) : ∀ d, (lvl R d).length = (kn R d).length
  | 0 => rfl
  | d + 1 => by rw [lvl_succ, List.length_append, List.length_replicate, lvl_len R d, kn_len]
/-! Maps from racks to numbers. -/
theorem zip_len {K : List (List Int)} {P : List Int} (h : K.length = P.length) : (K.zip P).length = K.length := by rw [List.length_zip]; omega
theorem zip_keys {K : List (List Int)} (P : List Int) (h : all24 K) : keysOK (K.zip P) 24 := fun q hq => h _ (List.of_mem_zip hq).1
theorem mhas_zip (x : List Int) : ∀ {K : List (List Int)} {P : List Int}, K.length = P.length → mhas (K.zip P) x = decide (x ∈ K)
  | [], _, _ => rfl
  | k :: K, [], h => by simp at h
  | k :: K, p :: P, h => by
    show (if x = k then true else mhas (K.zip P) x) = _
    rw [mhas_zip x (by simpa using h)]
    by_cases hk : x = k
    · simp [hk]
    · simp [hk]
theorem mset_zip {x : List Int} {v : Int} : ∀ {K : List (List Int)} {P : List Int}, K.length = P.length → x ∉ K → mset (K.zip P) x v = (K ++ [x]).zip (P ++ [v])
  | [], [], _, _ => rfl
  | [], _ :: _, h, _ => by simp at h
  | k :: K, [], h, _ => by simp at h
  | k :: K, p :: P, h, hx => by
    have h1 : ¬ x = k := fun e => hx (e ▸ List.mem_cons_self ..)
    have ih := mset_zip (x := x) (v := v) (K := K) (P := P) (by simpa using h) fun hh => hx (List.mem_cons_of_mem _ hh)
    show (if x = k then (k, v) :: K.zip P else (k, p) :: mset (K.zip P) x v) = _
    rw [if_neg h1, ih]; rfl
end Go.Proofs.Ytaopbefklkbmeaa
set_option maxRecDepth 100000
set_option linter.unusedSimpArgs false
set_option linter.unusedVariables false
namespace Go.Proofs.Ytaopbefklkbmeaa
open Go Go.RowKit
def chkR (L : List Int) (off len : Nat) : List (List Int) := (List.range len).map fun i => (L.drop (off + i * 24)).take 24
theorem chkR_len (L : List Int) (off len : Nat) : (chkR L off len).length = len := by simp [chkR]
theorem chkR_getD (L : List Int) (off len k : Nat) (h : k < len) : (chkR L off len).getD k [] = (L.drop (off + k * 24)).take 24 := by simp [chkR, List.getD, h]
theorem indexFuncR_ok (g : Nat) (caps : List SV) (H Hc : Heap) (pr : List Int → Bool) (n0 b : Nat) (L : List Int) (e len cap : Nat) (hb : hget H b = some (.ints L e)) (hl : len * 24 ≤ L.length) (hm : len ≤ 9223372036854775806)
    (Q : List Int → Prop) (hQ : ∀ i, i < len → Q ((L.drop (i * 24)).take 24)) (hc : ∀ x : List Int, Q x → PureH Try.prog g (.arr x :: caps) Hc (.bool (pr x))) (hE : Ext Hc H) (hw : wfL n0 caps) (hwH : hwf n0 H) :
    PureH Try.prog 76 [.slice b 0 len cap, .fn g caps] H (.int (idxG pr (chkR L 0 len))) := by
  have hE2 := chkR_len L 0 len
  have h00 : b < n0 := (hwH b _ hb).1
  refine pure_of_vc (X := ⟨Try.prog, tys, [(g, fun args H' => match args with | .arr x :: r => some (r = caps ∧ Ext Hc H' ∧ Q x, .bool (pr x)) | _ => none)], [], true, true, n0, [], []⟩) fn_76
    ⟨tys_ok, .cons (fun args H' p v h hp => ?_) .nil, .nil, mixed⟩ (n0 := n0) (Nat.le_of_ble_eq_true rfl) ⟨by simpa [SV.wf] using h00, by simpa [SV.wf] using hw, trivial⟩ hwH (Nat.le_refl _) (fun _ => trivial) ?_
  · split at h
    · cases h
      obtain ⟨rfl, hx1, hx⟩ := hp
      exact (hc _ hx).weaken hx1 (fun _ => trivial)
    · cases h
  simp -implicitDefEqProofs only [Try.f76, Option.getD_some, argS, hb, SB, SV.known, packR, ne_eq, reduceCtorEq, Nat.reduceEqDiff, ↓reduceIte, if_true, if_false, eq_self, Nat.reduceAdd, Nat.reduceMul, Nat.reduceSub, forall_const, oneCellS, litOne, flat1, Kd.isSca, flat, TYB]
  refine loop_intro (fun i : Nat => [(0, .slice b 0 len cap), (1, .fn g caps), (7, .int len), (8, .int i)]) (fun i => H) n0 (fun i => i ≤ len ∧ ∀ k, k < i → pr ((chkR L 0 len).getD k []) = false) (fun i => len - i) ?_ ?_
  · refine ⟨0, ⟨by omega, by simp⟩, Sub.same ?_ ?_ hwH (Nat.le_refl _)⟩
    · simp [subS, subH, wfS, wfH, SV.ren, renL, SObj.ren, SV.wf, SObj.wf, wfL, sget_cons, hget_cons, SV.known, renL_id]
    · simp [subS, subH, wfS, wfH, SV.ren, renL, SObj.ren, SV.wf, SObj.wf, wfL, sget_cons, hget_cons, hw, h00]
  · intro i hi
    obtain ⟨hi1, hi2⟩ := hi
    simp -implicitDefEqProofs only [lk_normal, hb, SB, SV.known, packR, ne_eq, reduceCtorEq, Nat.reduceEqDiff, ↓reduceIte, if_true, if_false, eq_self, Nat.reduceAdd, Nat.reduceMul, Nat.reduceSub, forall_const, oneCellS, litOne, flat1, Kd.isSca, flat, TYB]
    refine ⟨fun h => ?_, fun h => ?_⟩
    · have hlt : i < len := by omega
      have e1 : 0 + (i : Int).toNat * 24 = i * 24 := by simp
      have e2 : (L.drop (i * 24)).take 24 = (chkR L 0 len).getD i [] := by rw [chkR_getD L 0 len i hlt, Nat.zero_add]
      have e3 : Q ((chkR L 0 len).getD i []) := by rw [← e2]; exact hQ i hlt
      simp only [Int.toNat_natCast, Nat.zero_add, e2]
      refine ⟨by omega, by omega, by omega, ⟨hE, e3⟩, ?_⟩
      cases hp : pr ((chkR L 0 len).getD i []) with
      | true =>
        simp -implicitDefEqProofs only [SB, SV.known, packR, ne_eq, reduceCtorEq, Nat.reduceEqDiff, ↓reduceIte, if_true, if_false, eq_self, Nat.reduceAdd, Nat.reduceMul, Nat.reduceSub, forall_const, oneCellS, litOne, flat1, Kd.isSca, flat, TYB]
        rw [idxG_hit (by omega) hp hi2]
      | false =>
        simp -implicitDefEqProofs only [lk_normal, SB, SV.known, packR, ne_eq, reduceCtorEq, Nat.reduceEqDiff, ↓reduceIte, if_true, if_false, eq_self, Nat.reduceAdd, Nat.reduceMul, Nat.reduceSub, forall_const, oneCellS, litOne, flat1, Kd.isSca, flat, TYB]
        refine ⟨by unfold In64; omega, i + 1, ⟨by omega, fun k hk => ?_⟩, by omega, Sub.same ?_ ?_ hwH (Nat.le_refl _)⟩
        · by_cases hki : k = i
          · subst hki; exact hp
          · exact hi2 k (by omega)
        · simp [subS, subH, wfS, wfH, SV.ren, renL, SObj.ren, SV.wf, SObj.wf, wfL, sget_cons, hget_cons, SV.known, renL_id]
        · simp [subS, subH, wfS, wfH, SV.ren, renL, SObj.ren, SV.wf, SObj.wf, wfL, sget_cons, hget_cons, hw, h00]
    · obtain rfl : i = len := by omega
      rw [idxG_none (by rw [hE2]; exact hi2)]
end Go.Proofs.Ytaopbefklkbmeaa
set_option maxRecDepth 100000
set_option linter.unusedSimpArgs false
set_option linter.unusedVariables false
namespace Go.Proofs.Ytaopbefklkbmeaa
open Go Go.RowKit
--@tbl eqSR = laws.eqRackS
/-! Marks: nothing in a rack can be marked. -/
--@tbl markR = laws.markRackS
--@tbl heldR = laws.heldRackS
end Go.Proofs.Ytaopbefklkbmeaa
set_option maxRecDepth 100000
set_option linter.unusedSimpArgs false
set_option linter.unusedVariables false
namespace Go.Proofs.Ytaopbefklkbmeaa
open Go Go.RowKit
theorem chkR_of {Q : List (List Int)} (h : all24 Q) (J : List Int) : chkR (Q.flatten ++ J) 0 Q.length = Q := by
  refine List.ext_getElem (by rw [chkR_len]) fun i h1 h2 => ?_
  have e := flat_get h h2 J
  simp only [chkR, List.getElem_map, List.getElem_range, Nat.zero_add]
  rw [e, List.getD_eq_getElem?_getD, List.getElem?_eq_getElem h2]; rfl
/-- A walk that makes all it hands back. -/
theorem gen_new {X : Cx} {f : FuncId} {fn : Func} {c : Code} (hf : FnOK X.P f fn c X.sx X.hr) (hX : CxOK X) (hm0 : X.m = 0) {args : List SV} {ψ : SV → Heap → Nat → Prop} (hN : args.length ≤ fn.ntmps) (hwa : wfL 0 args)
    (h : codeVC X 0 c (argS 0 args) [] 0 (retK X.τ fn.results.toList (finK 0 X.m ψ))) {H : Heap} {n m : Nat} {κ : K1}
    (hk : ∀ v H' n', ψ v H' n' → κ (v.ren (fun k => n + k)) (renH (fun k => n + k) H' ++ H) (n + n')) : GenOK X.P f (renL (fun k => k) args) H n m κ := by
  have e : ext (fun k => k) 0 n = fun k => n + k := by funext k; rw [ext_ge (Nat.zero_le _), Nat.sub_zero]
  refine gen_of_vc hf hX (n0 := 0) hN hwa (hwf_nil 0) (by omega) h (fun k => k) (fun k hk => by omega) (fun a b h => by omega) (fun k o hk => nomatch hk) (fun k o hk => nomatch hk) (fun v H' n' _ => ⟨fun k o hk => (nomatch hk), fun k o hk _ hlt => by omega⟩) fun v H' n' hψ _ => ?_
  rw [e, Nat.sub_zero]
  exact hk v H' n' hψ
theorem Sub.mk_fn (ρ : Nat → Nat) {p m : Nat} {S S' : Env} {H H' : Heap} {n' : Nat} (h1 : subS ρ S S') (h2 : subH ρ m H H') (h3 : wfS n' S') (h4 : wfH n' H') (h5 : p ≤ n') (h6 : ∀ k, k < p → ρ k = k)
    (h7 : ∀ x ∈ H'.map (·.1), ∀ y ∈ H'.map (·.1), ρ x = ρ y → x = y) : Sub p m S H S' H' n' := ⟨ρ, h1, subH_spec h2, h3, wfH_spec h4, h7, h6, h5⟩
theorem searchFrom_vc (R : List Int) (hR : R.length = 24) :
    codeVC (⟨Try.prog, tys, [(52, formOf_F)], [], true, true, 0, [], [(2, .tree (.one 1 (.alt 0 (.alt 2 (.one 3 (.one 4 (.one 5 (.one 6 (.one 7 (.one 8 .done)))))) (.alt 4 (.alt 2 (.one 3 (.one 5 (.one 6 (.one 7 (.one 8 .done))))) (.alt 5 (.one 2 (.one 3 (.one 6 (.one 7 (.one 8 .done))))) .stop)) .stop)) (.alt 4 (.alt 0 (.alt 2 (.one 3 (.one 5 (.one 6 (.one 7 (.one 8 .done))))) (.alt 5 (.one 2 (.one 3 (.one 6 (.one 7 (.one 8 .done))))) .stop)) (.alt 5 (.one 0 (.one 2 (.one 3 (.one 6 (.one 7 (.one 8 .done)))))) .stop)) .stop))))]⟩ : Cx) 0 (Try.f22.body.getD .skip) (argS 0 [.arr R]) [] 0
      (retK tys Try.f22.results.toList (finK 0 0 fun v H' n' => v = .ptr 2 0 ∧ H' = [(2, .cells [.mp 0, .slice 1 0 1 1, .int 0] 82), (0, .mp false ([frm R].zip [0])), (1, .ints (frm R) 29)] ∧ n' = 3)) := by
  have tkR : R.take 24 = R := List.take_of_length_le (by omega)
  have fl : (frm R).length = 24 := frm_len hR
  have tkf : (frm R).take 24 = frm R := List.take_of_length_le (by omega)
  have kI := keyI_rack
  simp -implicitDefEqProofs only [Try.f22, Option.getD_some, argS, formOf_F, hR, tkR, fl, tkf, kI, ZB, Int.reduceToNat, Nat.reduceLT, Nat.reduceLeDiff, Int.reduceLE, Int.reduceLT, Nat.reduceEqDiff, Nat.reduceSub, SB, SV.known, packR, ne_eq, reduceCtorEq, Nat.reduceEqDiff, ↓reduceIte, if_true, if_false, eq_self, Nat.reduceAdd, Nat.reduceMul, Nat.reduceSub, forall_const, oneCellS, litOne, flat1, Kd.isSca, flat, TYB]
  refine ⟨Unit, fun _ => [(2, .ptr 4 0)], fun _ => [(4, .cells [.mp 2, .slice 3 0 1 1, .int 0] 82), (2, .mp false ([frm R].zip [0])), (3, .ints (frm R) 29)], fun _ => 5, ?_, fun _ => ?_⟩
  · have ko : keysOK [] 24 := fun q hq => nomatch hq
    have ms : mset [] (frm R) 0 = [frm R].zip [0] := rfl
    simp -implicitDefEqProofs only [tkR, fl, tkf, kI, ko, ms, ZB, Int.reduceToNat, Nat.reduceLT, Nat.reduceLeDiff, Int.reduceLE, Int.reduceLT, Nat.reduceEqDiff, Nat.reduceSub, SB, SV.known, packR, ne_eq, reduceCtorEq, Nat.reduceEqDiff, ↓reduceIte, if_true, if_false, eq_self, Nat.reduceAdd, Nat.reduceMul, Nat.reduceSub, forall_const, oneCellS, litOne, flat1, Kd.isSca, flat, TYB]
    repeat' apply And.intro
    all_goals (first
      | (refine ⟨(), Sub.mk_id ?_ ?_ ?_ ?_ ?_⟩ <;> ((try simp only [LB, subS, subH, wfS, wfH, SV.ren, renL, SObj.ren, SV.wf, SObj.wf, wfL, SV.known, Nat.reduceEqDiff, ↓reduceIte, if_true, if_false, eq_self, Nat.reduceAdd, Nat.reduceLT, Nat.reduceLeDiff, implies_true, reduceCtorEq, forall_const]) <;> simp) <;> done)
      | (refine ⟨(), Sub.mk_to2 2 3 3 2 ?_ ?_ ?_ ?_ ?_ ?_ ?_ ?_⟩ <;> ((try simp only [LB, subS, subH, wfS, wfH, SV.ren, renL, SObj.ren, SV.wf, SObj.wf, wfL, SV.known, Nat.reduceEqDiff, ↓reduceIte, if_true, if_false, eq_self, Nat.reduceAdd, Nat.reduceLT, Nat.reduceLeDiff, implies_true, reduceCtorEq, forall_const]) <;> simp) <;> done)
)
  · simp -implicitDefEqProofs only [lk_normal, ZB, Int.reduceToNat, Nat.reduceLT, Nat.reduceLeDiff, Int.reduceLE, Int.reduceLT, Nat.reduceEqDiff, Nat.reduceSub, SB, SV.known, packR, ne_eq, reduceCtorEq, Nat.reduceEqDiff, ↓reduceIte, if_true, if_false, eq_self, Nat.reduceAdd, Nat.reduceMul, Nat.reduceSub, forall_const, oneCellS, litOne, flat1, Kd.isSca, flat, TYB]
    refine ⟨.ptr 2 0, [(2, .cells [.mp 0, .slice 1 0 1 1, .int 0] 82), (0, .mp false ([frm R].zip [0])), (1, .ints (frm R) 29)], 3, Sub.mk_fn (fun k => k + 2) ?_ ?_ ?_ ?_ (by omega) (fun k hk => by omega) (fun x _ y _ h => by omega), rfl, rfl, rfl⟩
    all_goals ((try simp only [LB, subS, subH, wfS, wfH, SV.ren, renL, SObj.ren, SV.wf, SObj.wf, wfL, SV.known, Nat.reduceEqDiff, ↓reduceIte, if_true, if_false, eq_self, Nat.reduceAdd, Nat.reduceLT, Nat.reduceLeDiff, implies_true, reduceCtorEq, forall_const]) <;> simp)
def searchFrom_F : List SV → Heap → Nat → Nat → K1 → Prop
  | [.arr R], H, n, _, κ => R.length = 24 ∧ κ (.ptr (n + 2) 0) ((n + 2, .cells [.mp n, .slice (n + 1) 0 1 1, .int 0] 82) :: (n, .mp false ([frm R].zip [0])) :: (n + 1, .ints (frm R) 29) :: H) (n + 3)
  | _, _, _, _, _ => False
--@tbl searchFrom = impl.searchFrom
theorem searchFrom_T : ∀ args H n m κ, searchFrom_F args H n m κ → GenOK Try.prog 22 args H n m κ := by
  intro args H n m κ h
  unfold searchFrom_F at h
  split at h
  · rename_i R
    have := gen_new (H := H) (n := n) (m := m) (κ := κ) fn_22 ⟨tys_ok, .cons formOf_T .nil, .nil, mixed⟩ rfl (Nat.le_of_ble_eq_true rfl) (by simp [wfL, SV.wf]) (searchFrom_vc R h.1) (fun v H' n' hψ => by
      obtain ⟨rfl, rfl, rfl⟩ := hψ
      simpa [SV.ren, renH, SObj.ren, renL] using h.2)
    simpa [renL, SV.ren] using this
  · exact h.elim
theorem step_vc (d : Nat) (Q K : List (List Int)) (P J : List Int) (e e2 len cap : Nat) (hQ : okU Q) (hK : all24 K) (hP : K.length = P.length) (hl : Q.length = len) (hsm : len ≤ 600) (hk : K.length ≤ 600) (hd : d ≤ 100000) :
    codeVC (⟨Try.prog, tys, [(30, pour_F), (52, formOf_F)], [(28, useful_F)], true, true, 0, [], []⟩ : Cx) 3 (Try.f54.body.getD .skip) (argS 0 [.ptr 0 0]) [(0, .cells [.mp 1, .slice 2 0 len cap, .int d] e), (1, .mp false (K.zip P)), (2, .ints (Q.flatten ++ J) e2)] 3
      (retK tys Try.f54.results.toList (finK 3 0 fun v H' n' => ∃ c j, v = .bool (decide ((K ++ nwF K (Q.flatMap sucU)).length ≤ 600)) ∧ H' = outHn 3 (nwF K (Q.flatMap sucU)).length ((nwF K (Q.flatMap sucU)).flatten ++ j) 29 [(0, .cells [.mp 1, outVn 3 (nwF K (Q.flatMap sucU)).length (nwF K (Q.flatMap sucU)).length c, .int ((d : Int) + 1)] e), (1, .mp false ((K ++ nwF K (Q.flatMap sucU)).zip (P ++ List.replicate (nwF K (Q.flatMap sucU)).length ((d : Int) + 1)))), (2, .ints (Q.flatten ++ J) e2)] ∧ n' = 4 ∧ j.length + (nwF K (Q.flatMap sucU)).length * 24 = c * 24)) := by
  have hA := hQ.all24
  have hfl := flat_len hA
  simp -implicitDefEqProofs only [Try.f54, Option.getD_some, argS, pour_F, formOf_F, useful_F, ZB, Int.reduceToNat, Nat.reduceLT, Nat.reduceLeDiff, Int.reduceLE, Int.reduceLT, Nat.reduceEqDiff, Nat.reduceSub, SB, SV.known, packR, ne_eq, reduceCtorEq, Nat.reduceEqDiff, ↓reduceIte, if_true, if_false, eq_self, Nat.reduceAdd, Nat.reduceMul, Nat.reduceSub, forall_const, oneCellS, litOne, flat1, Kd.isSca, flat, TYB]
  refine ⟨by unfold In64; omega, ?_⟩
  generalize hX : Q.flatMap sucU = X at *
  generalize hDD : (d : Int) + 1 = D at *
  refine loop_intro (fun s : Nat × Nat × List Int => [(25, .int s.1), (24, .int len), (23, .slice 2 0 len cap), (3, outVn 3 (nwF K (upU Q s.1 0)).length (nwF K (upU Q s.1 0)).length s.2.1), (0, .ptr 0 0)])
    (fun s => outHn 3 (nwF K (upU Q s.1 0)).length ((nwF K (upU Q s.1 0)).flatten ++ s.2.2) 29 [(0, .cells [.mp 1, .slice 2 0 len cap, .int D] e), (1, .mp false ((K ++ nwF K (upU Q s.1 0)).zip (P ++ List.replicate (nwF K (upU Q s.1 0)).length D))), (2, .ints (Q.flatten ++ J) e2)]) 4
    (fun s => s.1 ≤ len ∧ s.2.2.length + (nwF K (upU Q s.1 0)).length * 24 = s.2.1 * 24) (fun s => len - s.1) ?_ ?_
  · refine ⟨(0, 0, []), ⟨by simp, by simp [upU_zero, nwF_nil]⟩, Sub.mk_id ?_ ?_ ?_ ?_ ?_⟩
    all_goals simp only [upU_zero, nwF_nil, List.length_nil, outVn_zero, outHn_zero, List.append_nil, List.replicate_zero, LB, subS, subH, wfS, wfH, SV.ren, renL, SObj.ren, SV.wf, SObj.wf, wfL, SV.known, Nat.reduceEqDiff, ↓reduceIte, if_true, if_false, eq_self, Nat.reduceAdd, Nat.reduceLT, Nat.reduceLeDiff, implies_true, reduceCtorEq, forall_const]
    all_goals (try simp)
  · rintro ⟨i, c, j⟩ ⟨hi, hj⟩
    simp only at hi hj
    by_cases hlt : i < len
    · have hil : (i : Int) < len := by omega
      have hiQ : i < Q.length := by omega
      have eR : List.take 24 (List.drop (i * 24) (Q.flatten ++ J)) = Q.getD i [] := flat_get hA hiQ J
      obtain ⟨r24, rr⟩ := hQ _ (getD_mem hiQ)
      have tkR : List.take 24 (Q.getD i []) = Q.getD i [] := List.take_of_length_le (by omega)
      have lQ : i * 24 + 24 ≤ (Q.flatten ++ J).length := by rw [List.length_append, hfl]; omega
      have unext := upU_next Q hiQ
      have usn := fun q (hq : q < sucC (Q.getD i [])) => upU_snoc Q hq
      have okUp := fun q => upU_ok hQ (j := q) (.inl hiQ)
      have lenU := upU_len Q i
      generalize hR : Q.getD i [] = R at *
      have hnp := ulF_sucC R
      have hnp36 := sucC_le R
      generalize hsc : sucC R = np at *
      have ehp : (ulF R).length / 2 = np := by omega
      simp -implicitDefEqProofs only [lk_normal, useful_F, hget_outHn, known_outVn, hil, eR, r24, tkR, lQ, ehp, freshK, Wrap.ap, ZB, Int.reduceToNat, Nat.reduceLT, Nat.reduceLeDiff, Int.reduceLE, Int.reduceLT, Nat.reduceEqDiff, Nat.reduceSub, SB, SV.known, packR, ne_eq, reduceCtorEq, Nat.reduceEqDiff, ↓reduceIte, if_true, if_false, eq_self, Nat.reduceAdd, Nat.reduceMul, Nat.reduceSub, forall_const, oneCellS, litOne, flat1, Kd.isSca, flat, TYB]
      refine ⟨by omega, fun _ hP0 => ?_, fun hP1 cp jp hjp => ?_⟩
      · have hnp0 : np = 0 := by rw [hP0] at hnp; simp at hnp; omega
        subst hnp0
        refine loop_intro (fun _ : Unit => [(32, .int 0), (31, .int 0), (30, .nils), (25, .int i), (24, .int len), (23, .slice 2 0 len cap), (3, outVn 3 (nwF K (upU Q i 0)).length (nwF K (upU Q i 0)).length c), (0, .ptr 0 0)])
          (fun _ => outHn 3 (nwF K (upU Q i 0)).length ((nwF K (upU Q i 0)).flatten ++ j) 29 [(0, .cells [.mp 1, .slice 2 0 len cap, .int D] e), (1, .mp false ((K ++ nwF K (upU Q i 0)).zip (P ++ List.replicate (nwF K (upU Q i 0)).length D))), (2, .ints (Q.flatten ++ J) e2)]) 5 (fun _ => True) (fun _ => 0) ?_ ?_
        · refine ⟨(), trivial, Sub.mk_id ?_ ?_ ?_ ?_ ?_⟩
          all_goals (cases (nwF K (upU Q i 0)).length <;> simp only [outVn_zero, outVn_succ, outHn_zero, outHn_succ, LB, subS, subH, wfS, wfH, SV.ren, renL, SObj.ren, SV.wf, SObj.wf, wfL, SV.known, Nat.reduceEqDiff, ↓reduceIte, if_true, if_false, eq_self, Nat.reduceAdd, Nat.reduceLT, Nat.reduceLeDiff, implies_true, reduceCtorEq, forall_const] <;> simp)
        · intro _ _
          simp -implicitDefEqProofs only [lk_normal, hget_outHn, known_outVn, ZB, Int.reduceToNat, Nat.reduceLT, Nat.reduceLeDiff, Int.reduceLE, Int.reduceLT, Nat.reduceEqDiff, Nat.reduceSub, SB, SV.known, packR, ne_eq, reduceCtorEq, Nat.reduceEqDiff, ↓reduceIte, if_true, if_false, eq_self, Nat.reduceAdd, Nat.reduceMul, Nat.reduceSub, forall_const, oneCellS, litOne, flat1, Kd.isSca, flat, TYB]
          refine ⟨by unfold In64; omega, (i + 1, c, j), ⟨by simp only; omega, by simp only [← unext]; exact hj⟩, by simp only; omega, Sub.mk_id ?_ ?_ ?_ ?_ ?_⟩
          all_goals (try simp only [← unext])
          all_goals (cases (nwF K (upU Q i 0)).length <;> simp only [outVn_zero, outVn_succ, outHn_zero, outHn_succ, LB, subS, subH, wfS, wfH, SV.ren, renL, SObj.ren, SV.wf, SObj.wf, wfL, SV.known, Nat.reduceEqDiff, ↓reduceIte, if_true, if_false, eq_self, Nat.reduceAdd, Nat.reduceLT, Nat.reduceLeDiff, implies_true, reduceCtorEq, forall_const] <;> simp)
      · have lenP : (ulF R ++ jp).length = cp * 2 := by rw [List.length_append]; omega
        refine loop_intro (fun s : Nat × Nat × List Int => [(32, .int s.1), (31, .int np), (30, .slice 5 0 np cp), (5, .ptr 4 0), (25, .int i), (24, .int len), (23, .slice 2 0 len cap), (3, outVn 3 (nwF K (upU Q i s.1)).length (nwF K (upU Q i s.1)).length s.2.1), (0, .ptr 0 0)])
          (fun s => outHn 3 (nwF K (upU Q i s.1)).length ((nwF K (upU Q i s.1)).flatten ++ s.2.2) 29 [(5, .ints (ulF R ++ jp) 49), (4, .ints R 29), (0, .cells [.mp 1, .slice 2 0 len cap, .int D] e), (1, .mp false ((K ++ nwF K (upU Q i s.1)).zip (P ++ List.replicate (nwF K (upU Q i s.1)).length D))), (2, .ints (Q.flatten ++ J) e2)]) 6
          (fun s => s.1 ≤ np ∧ s.2.2.length + (nwF K (upU Q i s.1)).length * 24 = s.2.1 * 24) (fun s => np - s.1) ?_ ?_
        · refine ⟨(0, c, j), ⟨by simp only; omega, by simp only; exact hj⟩, Sub.mk_id ?_ ?_ ?_ ?_ ?_⟩
          all_goals (cases (nwF K (upU Q i 0)).length <;> simp only [outVn_zero, outVn_succ, outHn_zero, outHn_succ, LB, subS, subH, wfS, wfH, SV.ren, renL, SObj.ren, SV.wf, SObj.wf, wfL, SV.known, Nat.reduceEqDiff, ↓reduceIte, if_true, if_false, eq_self, Nat.reduceAdd, Nat.reduceLT, Nat.reduceLeDiff, implies_true, reduceCtorEq, forall_const] <;> simp)
        · rintro ⟨q, c, j⟩ ⟨hq, hj⟩
          simp only at hq hj
          have hNk := (okU_nw (K := K) (okUp q)).all24
          have hfO := flat_len hNk
          by_cases hqn : q < np
          · have hql : (q : Int) < np := by omega
            obtain ⟨a0, b0⟩ := ul_bd (R := R) (q := q) (by omega)
            have eP : List.take 2 (List.drop (q * 2) (ulF R ++ jp)) = [(ulF R).getD (q * 2) 0, (ulF R).getD (q * 2 + 1) 0] := by
              rw [take2_drop _ _ (by rw [List.length_append]; omega), getD_app _ _ _ (by omega), getD_app _ _ _ (by omega)]
            have pl := pourF_len r24 ((ulF R).getD (q * 2) 0).toNat ((ulF R).getD (q * 2 + 1) 0).toNat
            have tkp := List.take_of_length_le (Nat.le_of_eq pl)
            have xl := diX_len r24 q
            have tkx := List.take_of_length_le (Nat.le_of_eq xl)
            have ex : frm (pourF R ((ulF R).getD (q * 2) 0).toNat ((ulF R).getD (q * 2 + 1) 0).toNat) = diX R q := rfl
            have us := usn q hqn
            have hKN : all24 (K ++ nwF K (upU Q i q)) := fun y hy => by
              rcases List.mem_append.1 hy with hy | hy
              · exact hK y hy
              · exact hNk y hy
            have hLP : (K ++ nwF K (upU Q i q)).length = (P ++ List.replicate (nwF K (upU Q i q)).length D).length := by rw [List.length_append, List.length_append, List.length_replicate, hP]
            have kI := keyI_rack
            have kOK := zip_keys (P ++ List.replicate (nwF K (upU Q i q)).length D) hKN
            have mh := mhas_zip (diX R q) hLP
            have bound : (nwF K (upU Q i q)).length ≤ 100000 := by
              have := nwF_len K (upU Q i q)
              have := lenU q
              omega
            generalize hx : diX R q = x at *
            by_cases hin : x ∈ K ++ nwF K (upU Q i q)
            · have eo := nwF_old hin
              rw [← us] at eo
              rw [decide_eq_true hin] at mh
              simp -implicitDefEqProofs only [lk_normal, pour_F, formOf_F, hget_outHn, known_outVn, hql, eP, lenP, r24, tkR, a0, b0, pl, tkp, ex, xl, tkx, kI, kOK, mh, List.getD_cons_zero, List.getD_cons_succ, ZB, Int.reduceToNat, Nat.reduceLT, Nat.reduceLeDiff, Int.reduceLE, Int.reduceLT, Nat.reduceEqDiff, Nat.reduceSub, SB, SV.known, packR, ne_eq, reduceCtorEq, Nat.reduceEqDiff, ↓reduceIte, if_true, if_false, eq_self, Nat.reduceAdd, Nat.reduceMul, Nat.reduceSub, forall_const, oneCellS, litOne, flat1, Kd.isSca, flat, TYB]
              refine ⟨by omega, by omega, by unfold In64; omega, (q + 1, c, j), ⟨by simp only; omega, by simp only [eo]; exact hj⟩, by simp only; omega, Sub.mk_id ?_ ?_ ?_ ?_ ?_⟩
              all_goals (try simp only [eo])
              all_goals (cases (nwF K (upU Q i q)).length <;> simp only [outVn_zero, outVn_succ, outHn_zero, outHn_succ, LB, subS, subH, wfS, wfH, SV.ren, renL, SObj.ren, SV.wf, SObj.wf, wfL, SV.known, Nat.reduceEqDiff, ↓reduceIte, if_true, if_false, eq_self, Nat.reduceAdd, Nat.reduceLT, Nat.reduceLeDiff, implies_true, reduceCtorEq, forall_const] <;> simp)
            · have eo := nwF_new hin
              rw [← us] at eo
              rw [decide_eq_false hin] at mh
              have ms := mset_zip (v := D) hLP hin
              have e5 : (K ++ nwF K (upU Q i q) ++ [x]).zip (P ++ List.replicate (nwF K (upU Q i q)).length D ++ [D]) = (K ++ nwF K (upU Q i (q + 1))).zip (P ++ List.replicate (nwF K (upU Q i (q + 1))).length D) := by
                rw [eo, List.length_append, List.length_singleton, List.replicate_succ', List.append_assoc, List.append_assoc]
              rw [e5] at ms
              cases hn : (nwF K (upU Q i q)).length with
              | zero =>
                have hN : nwF K (upU Q i q) = [] := List.length_eq_zero_iff.1 hn
                simp only [hN, List.length_nil, List.replicate_zero, List.append_nil] at kOK mh ms hj eo
                simp -implicitDefEqProofs only [lk_normal, pour_F, formOf_F, hql, eP, lenP, r24, tkR, a0, b0, pl, tkp, ex, xl, tkx, kI, kOK, mh, ms, hN, List.length_nil, outVn_zero, outHn_zero, List.getD_cons_zero, List.getD_cons_succ, ZB, Int.reduceToNat, Nat.reduceLT, Nat.reduceLeDiff, Int.reduceLE, Int.reduceLT, Nat.reduceEqDiff, Nat.reduceSub, SB, SV.known, packR, ne_eq, reduceCtorEq, Nat.reduceEqDiff, ↓reduceIte, if_true, if_false, eq_self, Nat.reduceAdd, Nat.reduceMul, Nat.reduceSub, forall_const, oneCellS, litOne, flat1, Kd.isSca, flat, TYB]
                refine ⟨by omega, by omega, fun junk' cap' hj' => ⟨by unfold In64; omega, (q + 1, cap', junk'), ⟨by simp only; omega, by simp only [eo]; simpa using hj'⟩, by simp only; omega, Sub.mk_to 3 10 ?_ ?_ ?_ ?_ ?_ ?_ ?_⟩⟩
                all_goals (try simp only [eo, List.append_nil, List.nil_append, List.length_cons, List.length_nil, List.flatten_cons, List.flatten_nil])
                all_goals (simp only [outVn_succ, outHn_succ, LB, subS, subH, wfS, wfH, SV.ren, renL, SObj.ren, SV.wf, SObj.wf, wfL, SV.known, Nat.reduceEqDiff, ↓reduceIte, if_true, if_false, eq_self, Nat.reduceAdd, Nat.reduceLT, Nat.reduceLeDiff, implies_true, reduceCtorEq, forall_const] <;> simp)
              | succ n =>
                have hj2 : ((nwF K (upU Q i q)).flatten ++ j).length = c * 24 := by rw [List.length_append, hfO, hn]; rw [hn] at hj; omega
                have gL : ((nwF K (upU Q i q)).flatten).length = (n + 1) * 24 := by rw [hfO, hn]
                have tkO : List.take ((n + 1) * 24) ((nwF K (upU Q i q)).flatten ++ j) = (nwF K (upU Q i q)).flatten := List.take_left' gL
                rw [hn] at kOK mh ms hj bound
                simp -implicitDefEqProofs only [lk_normal, pour_F, formOf_F, hql, eP, lenP, r24, tkR, a0, b0, pl, tkp, ex, xl, tkx, kI, kOK, mh, ms, hj2, tkO, outVn_succ, outHn_succ, List.getD_cons_zero, List.getD_cons_succ, ZB, Int.reduceToNat, Nat.reduceLT, Nat.reduceLeDiff, Int.reduceLE, Int.reduceLT, Nat.reduceEqDiff, Nat.reduceSub, SB, SV.known, packR, ne_eq, reduceCtorEq, Nat.reduceEqDiff, ↓reduceIte, if_true, if_false, eq_self, Nat.reduceAdd, Nat.reduceMul, Nat.reduceSub, forall_const, oneCellS, litOne, flat1, Kd.isSca, flat, TYB]
                refine ⟨by omega, by omega, by omega, by omega, by omega, fun junk' cap' hj' => ⟨by unfold In64; omega, (q + 1, cap', junk'), ⟨by simp only; omega, by simp only [eo, List.length_append, hn]; simpa using hj'⟩, by simp only; omega, Sub.mk_to 3 10 ?_ ?_ ?_ ?_ ?_ ?_ ?_⟩⟩
                all_goals (try simp only [eo, List.length_append, hn, List.length_cons, List.length_nil, List.flatten_append, List.flatten_cons, List.flatten_nil, List.append_nil, ← List.append_assoc])
                all_goals (simp only [outVn_succ, outHn_succ, LB, subS, subH, wfS, wfH, SV.ren, renL, SObj.ren, SV.wf, SObj.wf, wfL, SV.known, Nat.reduceEqDiff, ↓reduceIte, if_true, if_false, eq_self, Nat.reduceAdd, Nat.reduceLT, Nat.reduceLeDiff, implies_true, reduceCtorEq, forall_const] <;> simp)
          · have hql : ¬ (q : Int) < np := by omega
            obtain rfl : q = np := by omega
            simp -implicitDefEqProofs only [lk_normal, hget_outHn, known_outVn, hql, ZB, Int.reduceToNat, Nat.reduceLT, Nat.reduceLeDiff, Int.reduceLE, Int.reduceLT, Nat.reduceEqDiff, Nat.reduceSub, SB, SV.known, packR, ne_eq, reduceCtorEq, Nat.reduceEqDiff, ↓reduceIte, if_true, if_false, eq_self, Nat.reduceAdd, Nat.reduceMul, Nat.reduceSub, forall_const, oneCellS, litOne, flat1, Kd.isSca, flat, TYB]
            refine ⟨by unfold In64; omega, (i + 1, c, j), ⟨by simp only; omega, by simp only [← unext]; exact hj⟩, by simp only; omega, Sub.mk_id ?_ ?_ ?_ ?_ ?_⟩
            all_goals (try simp only [← unext])
            all_goals (cases (nwF K (upU Q i q)).length <;> simp only [outVn_zero, outVn_succ, outHn_zero, outHn_succ, LB, subS, subH, wfS, wfH, SV.ren, renL, SObj.ren, SV.wf, SObj.wf, wfL, SV.known, Nat.reduceEqDiff, ↓reduceIte, if_true, if_false, eq_self, Nat.reduceAdd, Nat.reduceLT, Nat.reduceLeDiff, implies_true, reduceCtorEq, forall_const] <;> simp)
    · have hil : ¬ (i : Int) < len := by omega
      obtain rfl : i = len := by omega
      simp -implicitDefEqProofs only [lk_normal, hget_outHn, known_outVn, hil, ZB, Int.reduceToNat, Nat.reduceLT, Nat.reduceLeDiff, Int.reduceLE, Int.reduceLT, Nat.reduceEqDiff, Nat.reduceSub, SB, SV.known, packR, ne_eq, reduceCtorEq, Nat.reduceEqDiff, ↓reduceIte, if_true, if_false, eq_self, Nat.reduceAdd, Nat.reduceMul, Nat.reduceSub, forall_const, oneCellS, litOne, flat1, Kd.isSca, flat, TYB]
      have ue : upU Q i 0 = X := by rw [← hX, ← upU_end, hl]
      rw [ue] at hj ⊢
      have hXl : (nwF K X).length ≤ 21600 := by
        have := nwF_len K X
        have := fmU_len Q
        rw [hX] at this
        omega
      have hzl : ((K ++ nwF K X).zip (P ++ List.replicate (nwF K X).length D)).length = (K ++ nwF K X).length := zip_len (by rw [List.length_append, List.length_append, List.length_replicate, hP])
      have hle : ∀ a : Nat, decide ((a : Int) ≤ 600) = decide (a ≤ 600) := fun a => by
        by_cases h : a ≤ 600
        · rw [decide_eq_true h, decide_eq_true (by omega)]
        · rw [decide_eq_false h, decide_eq_false (by omega)]
      cases hn : (nwF K X).length with
      | zero =>
        rw [hn, List.replicate_zero, List.append_nil] at hzl
        simp -implicitDefEqProofs only [lk_normal, outVn_zero, outHn_zero, List.replicate_zero, List.append_nil, hzl, hle, ZB, Int.reduceToNat, Nat.reduceLT, Nat.reduceLeDiff, Int.reduceLE, Int.reduceLT, Nat.reduceEqDiff, Nat.reduceSub, SB, SV.known, packR, ne_eq, reduceCtorEq, Nat.reduceEqDiff, ↓reduceIte, if_true, if_false, eq_self, Nat.reduceAdd, Nat.reduceMul, Nat.reduceSub, forall_const, oneCellS, litOne, flat1, Kd.isSca, flat, TYB]
        refine ⟨_, _, 4, Sub.mk_id ?_ ?_ ?_ ?_ ?_, 0, [], rfl, rfl, rfl, by simp⟩
        all_goals ((try simp only [LB, subS, subH, wfS, wfH, SV.ren, renL, SObj.ren, SV.wf, SObj.wf, wfL, SV.known, Nat.reduceEqDiff, ↓reduceIte, if_true, if_false, eq_self, Nat.reduceAdd, Nat.reduceLT, Nat.reduceLeDiff, implies_true, reduceCtorEq, forall_const]) <;> simp)
      | succ n =>
        rw [hn] at hzl
        simp -implicitDefEqProofs only [lk_normal, outVn_succ, outHn_succ, hzl, hle, ZB, Int.reduceToNat, Nat.reduceLT, Nat.reduceLeDiff, Int.reduceLE, Int.reduceLT, Nat.reduceEqDiff, Nat.reduceSub, SB, SV.known, packR, ne_eq, reduceCtorEq, Nat.reduceEqDiff, ↓reduceIte, if_true, if_false, eq_self, Nat.reduceAdd, Nat.reduceMul, Nat.reduceSub, forall_const, oneCellS, litOne, flat1, Kd.isSca, flat, TYB]
        rw [hn] at hj
        refine ⟨_, _, 4, Sub.mk_id ?_ ?_ ?_ ?_ ?_, c, j, rfl, rfl, rfl, hj⟩
        all_goals ((try simp only [LB, subS, subH, wfS, wfH, SV.ren, renL, SObj.ren, SV.wf, SObj.wf, wfL, SV.known, Nat.reduceEqDiff, ↓reduceIte, if_true, if_false, eq_self, Nat.reduceAdd, Nat.reduceLT, Nat.reduceLeDiff, implies_true, reduceCtorEq, forall_const]) <;> simp)
theorem step_nil (d : Nat) (l : List (List Int × Int)) (e : Nat) (hl : l.length ≤ 1000000) (hd : d ≤ 100000) :
    codeVC (⟨Try.prog, tys, [(30, pour_F), (52, formOf_F)], [(28, useful_F)], true, true, 0, [], []⟩ : Cx) 2 (Try.f54.body.getD .skip) (argS 0 [.ptr 0 0]) [(0, .cells [.mp 1, .nils, .int d] e), (1, .mp false l)] 2
      (retK tys Try.f54.results.toList (finK 2 0 fun v H' n' => v = .bool (decide (l.length ≤ 600)) ∧ H' = [(0, .cells [.mp 1, .nils, .int ((d : Int) + 1)] e), (1, .mp false l)] ∧ n' = 2)) := by
  simp -implicitDefEqProofs only [Try.f54, Option.getD_some, argS, ZB, Int.reduceToNat, Nat.reduceLT, Nat.reduceLeDiff, Int.reduceLE, Int.reduceLT, Nat.reduceEqDiff, Nat.reduceSub, SB, SV.known, packR, ne_eq, reduceCtorEq, Nat.reduceEqDiff, ↓reduceIte, if_true, if_false, eq_self, Nat.reduceAdd, Nat.reduceMul, Nat.reduceSub, forall_const, oneCellS, litOne, flat1, Kd.isSca, flat, TYB]
  refine ⟨by unfold In64; omega, ?_⟩
  refine loop_intro (fun _ : Unit => [(25, .int 0), (24, .int 0), (23, .nils), (3, .nils), (0, .ptr 0 0)]) (fun _ => [(0, .cells [.mp 1, .nils, .int ((d : Int) + 1)] e), (1, .mp false l)]) 2 (fun _ => True) (fun _ => 0) ?_ ?_
  · refine ⟨(), trivial, Sub.mk_id ?_ ?_ ?_ ?_ ?_⟩
    all_goals ((try simp only [LB, subS, subH, wfS, wfH, SV.ren, renL, SObj.ren, SV.wf, SObj.wf, wfL, SV.known, Nat.reduceEqDiff, ↓reduceIte, if_true, if_false, eq_self, Nat.reduceAdd, Nat.reduceLT, Nat.reduceLeDiff, implies_true, reduceCtorEq, forall_const]) <;> simp)
  · intro _ _
    have hle : decide ((l.length : Int) ≤ 600) = decide (l.length ≤ 600) := by
      by_cases h : l.length ≤ 600
      · rw [decide_eq_true h, decide_eq_true (by omega)]
      · rw [decide_eq_false h, decide_eq_false (by omega)]
    simp -implicitDefEqProofs only [lk_normal, Int.lt_irrefl, hle, ZB, Int.reduceToNat, Nat.reduceLT, Nat.reduceLeDiff, Int.reduceLE, Int.reduceLT, Nat.reduceEqDiff, Nat.reduceSub, SB, SV.known, packR, ne_eq, reduceCtorEq, Nat.reduceEqDiff, ↓reduceIte, if_true, if_false, eq_self, Nat.reduceAdd, Nat.reduceMul, Nat.reduceSub, forall_const, oneCellS, litOne, flat1, Kd.isSca, flat, TYB]
    refine ⟨_, _, 2, Sub.mk_id ?_ ?_ ?_ ?_ ?_, rfl, rfl, rfl⟩
    all_goals ((try simp only [LB, subS, subH, wfS, wfH, SV.ren, renL, SObj.ren, SV.wf, SObj.wf, wfL, SV.known, Nat.reduceEqDiff, ↓reduceIte, if_true, if_false, eq_self, Nat.reduceAdd, Nat.reduceLT, Nat.reduceLeDiff, implies_true, reduceCtorEq, forall_const]) <;> simp)
def nwU (K Q : List (List Int)) : List (List Int) := nwF K (Q.flatMap sucU)
def step_F : List SV → Heap → Nat → Nat → K1 → Prop
  | [.ptr p 0], H, n, m, κ => match hget H p with
    | some (.cells [.mp k, .slice b 0 len cap, .int D] e) => match hget H k, hget H b with
      | some (.mp false l), some (.ints L e2) => (p ≠ k ∧ p ≠ b ∧ k ≠ b ∧ m ≤ p ∧ m ≤ k ∧ m ≤ b) ∧ ∃ (d : Nat) (Q K : List (List Int)) (P J : List Int), D = d ∧ l = K.zip P ∧ L = Q.flatten ++ J ∧ okU Q ∧ all24 K ∧ K.length = P.length ∧ Q.length = len ∧ len ≤ 600 ∧ K.length ≤ 600 ∧ d ≤ 100000 ∧
          ∀ c j, j.length + (nwU K Q).length * 24 = c * 24 → κ (.bool (decide ((K ++ nwU K Q).length ≤ 600))) (outHn n (nwU K Q).length ((nwU K Q).flatten ++ j) 29 ((p, .cells [.mp k, outVn n (nwU K Q).length (nwU K Q).length c, .int ((d : Int) + 1)] e) :: (k, .mp false ((K ++ nwU K Q).zip (P ++ List.replicate (nwU K Q).length ((d : Int) + 1)))) :: (b, .ints L e2) :: H)) (n + 1)
      | _, _ => False
    | some (.cells [.mp k, .nils, .int D] e) => match hget H k with
      | some (.mp false l) => (p ≠ k ∧ m ≤ p ∧ m ≤ k) ∧ ∃ d : Nat, D = d ∧ l.length ≤ 1000000 ∧ d ≤ 100000 ∧ κ (.bool (decide (l.length ≤ 600))) ((p, .cells [.mp k, .nils, .int ((d : Int) + 1)] e) :: (k, .mp false l) :: H) n
      | _ => False
    | _ => False
  | _, _, _, _, _ => False
--@tbl step = (*impl.search).step
theorem ext3 (ρ : Nat → Nat) (n : Nat) : ext ρ 3 n 0 = ρ 0 ∧ ext ρ 3 n 1 = ρ 1 ∧ ext ρ 3 n 2 = ρ 2 ∧ ext ρ 3 n 3 = n := ⟨rfl, rfl, rfl, rfl⟩
theorem ext2 (ρ : Nat → Nat) (n : Nat) : ext ρ 2 n 0 = ρ 0 ∧ ext ρ 2 n 1 = ρ 1 ∧ ext ρ 2 n 2 = n := ⟨rfl, rfl, rfl⟩
theorem outHn_ren (ρ : Nat → Nat) (b a : Nat) (L : List Int) (e : Nat) (base : Heap) : renH ρ (outHn b a L e base) = outHn (ρ b) a L e (renH ρ base) := by cases a <;> rfl
theorem outVn_renG (ρ : Nat → Nat) (b a l c : Nat) : (outVn b a l c).ren ρ = outVn (ρ b) a l c := by cases a <;> rfl
theorem outHn_app (b a : Nat) (L : List Int) (e : Nat) (base H : Heap) : outHn b a L e base ++ H = outHn b a L e (base ++ H) := by cases a <;> rfl
theorem step_T : ∀ args H n m κ, step_F args H n m κ → GenOK Try.prog 54 args H n m κ := by
  intro args H n m κ h
  unfold step_F at h
  split at h
  · rename_i p
    split at h
    · rename_i k b len cap D e h0
      split at h
      · rename_i l L e2 h1 h2
        obtain ⟨⟨n1, n2, n3, m0, m1, m2⟩, d, Q, K, P, J, rfl, rfl, rfl, hQ, hK, hP, hl, hsm, hk, hd, h⟩ := h
        have hw := step_vc d Q K P J e e2 len cap hQ hK hP hl hsm hk hd
        have := gen_of_vc (H := H) (n := n) (m := m) (κ := κ) fn_54 ⟨tys_ok, .cons pour_T (.cons formOf_T .nil), .cons useful_T .nil, mixed⟩ (Nat.le_of_ble_eq_true rfl) (by simp [wfL, SV.wf]) (wfH_spec (by simp [wfH, SObj.wf, SV.wf, wfL])) (by show 0 ≤ 3; omega) hw
          (fun j => if j = 0 then p else if j = 1 then k else b) (fun j hj => by
            obtain rfl | rfl | rfl : j = 0 ∨ j = 1 ∨ j = 2 := by omega
            · exact ⟨_, rfl⟩
            · exact ⟨_, rfl⟩
            · exact ⟨_, rfl⟩) (fun a1 a2 h3 h4 he => by
            obtain rfl | rfl | rfl : a1 = 0 ∨ a1 = 1 ∨ a1 = 2 := by omega
            all_goals obtain rfl | rfl | rfl : a2 = 0 ∨ a2 = 1 ∨ a2 = 2 := by omega
            all_goals simp at he ⊢
            all_goals omega) ?_ ?_ ?_ ?_
        · simpa [renL, SV.ren] using this
        · intro j o hj
          simp only [hget_cons] at hj
          split at hj
          · rename_i h0; cases hj; subst h0; exact h0
          · split at hj
            · rename_i h0; cases hj; subst h0; exact h1
            · split at hj
              · rename_i h0; cases hj; subst h0; exact h2
              · cases hj
        · intro j o hj _
          simp only [hget_cons] at hj
          split at hj
          · rename_i h0; subst h0; exact m0
          · split at hj
            · rename_i h0; subst h0; exact m1
            · split at hj
              · rename_i h0; subst h0; exact m2
              · cases hj
        · rintro v H' n' ⟨c, j, rfl, rfl, rfl, _⟩
          refine ⟨fun i o hi _ _ => ?_, fun i o _ _ h1i => absurd h1i (by show ¬ i < 0; omega)⟩
          simp only [hget_cons] at hi
          split at hi
          · rename_i h0; subst h0; rw [hget_outHn, if_neg (by omega)]; rfl
          · split at hi
            · rename_i h0; subst h0; rw [hget_outHn, if_neg (by omega)]; rfl
            · split at hi
              · rename_i h0; subst h0; rw [hget_outHn, if_neg (by omega)]; rfl
              · cases hi
        · rintro v H' n' ⟨c, j, rfl, rfl, rfl, hj⟩ _
          have := h c j hj
          rw [outHn_ren, outHn_app]
          simpa [renH, SObj.ren, renL, SV.ren, outVn_renG, ext3, nwU] using this
      · exact h.elim
    · rename_i k D e h0
      split at h
      · rename_i l h1
        obtain ⟨⟨n1, m0, m1⟩, d, rfl, hl, hd, h⟩ := h
        have hw := step_nil d l e hl hd
        have := gen_of_vc (H := H) (n := n) (m := m) (κ := κ) fn_54 ⟨tys_ok, .cons pour_T (.cons formOf_T .nil), .cons useful_T .nil, mixed⟩ (Nat.le_of_ble_eq_true rfl) (by simp [wfL, SV.wf]) (wfH_spec (by simp [wfH, SObj.wf, SV.wf, wfL])) (by show 0 ≤ 2; omega) hw
          (fun j => if j = 0 then p else k) (fun j hj => by
            obtain rfl | rfl : j = 0 ∨ j = 1 := by omega
            · exact ⟨_, rfl⟩
            · exact ⟨_, rfl⟩) (fun a1 a2 h3 h4 he => by
            obtain rfl | rfl : a1 = 0 ∨ a1 = 1 := by omega
            all_goals obtain rfl | rfl : a2 = 0 ∨ a2 = 1 := by omega
            all_goals simp at he ⊢
            all_goals omega) ?_ ?_ ?_ ?_
        · simpa [renL, SV.ren] using this
        · intro j o hj
          simp only [hget_cons] at hj
          split at hj
          · rename_i h0; cases hj; subst h0; exact h0
          · split at hj
            · rename_i h0; cases hj; subst h0; exact h1
            · cases hj
        · intro j o hj _
          simp only [hget_cons] at hj
          split at hj
          · rename_i h0; subst h0; exact m0
          · split at hj
            · rename_i h0; subst h0; exact m1
            · cases hj
        · rintro v H' n' ⟨rfl, rfl, rfl⟩
          refine ⟨fun i o hi _ _ => ?_, fun i o _ _ h1i => absurd h1i (by show ¬ i < 0; omega)⟩
          simp only [hget_cons] at hi
          split at hi
          · rename_i h0; subst h0; rfl
          · split at hi
            · rename_i h0; subst h0; rfl
            · cases hi
        · rintro v H' n' ⟨rfl, rfl, rfl⟩ _
          simpa [renH, SObj.ren, renL, SV.ren, ext2] using h
      · exact h.elim
    · exact h.elim
  · exact h.elim
/-! Names enough. -/
mutual
theorem ex_wf : ∀ v : SV, ∃ n, v.wf n
  | .non => ⟨0, trivial⟩
  | .und => ⟨0, trivial⟩
  | .int _ => ⟨0, trivial⟩
  | .bool _ => ⟨0, trivial⟩
  | .arr _ => ⟨0, trivial⟩
  | .barr _ => ⟨0, trivial⟩
  | .lit _ => ⟨0, trivial⟩
  | .nils => ⟨0, trivial⟩
  | .ptr b _ => ⟨b + 1, by simp [SV.wf]⟩
  | .slice b _ _ _ => ⟨b + 1, by simp [SV.wf]⟩
  | .mp b => ⟨b + 1, by simp [SV.wf]⟩
  | .fn _ caps => by obtain ⟨n, h⟩ := ex_wfL caps; exact ⟨n, by simpa [SV.wf] using h⟩
  | .tup l => by obtain ⟨n, h⟩ := ex_wfL l; exact ⟨n, by simpa [SV.wf] using h⟩
  | .stc l => by obtain ⟨n, h⟩ := ex_wfL l; exact ⟨n, by simpa [SV.wf] using h⟩
theorem ex_wfL : ∀ l : List SV, ∃ n, wfL n l
  | [] => ⟨0, trivial⟩
  | v :: r => by
    obtain ⟨a, ha⟩ := ex_wf v
    obtain ⟨b, hb⟩ := ex_wfL r
    exact ⟨max a b, SV.wf_mono (by omega) v ha, wfL_mono (by omega) r hb⟩
end
theorem ex_hwf : ∀ H : Heap, ∃ n, hwf n H
  | [] => ⟨0, hwf_nil 0⟩
  | (b, o) :: H => by
    obtain ⟨a, ha⟩ := ex_hwf H
    have : ∃ c, o.wf c := by
      cases o
      case cells l e => obtain ⟨n, h⟩ := ex_wfL l; exact ⟨n, h⟩
      all_goals exact ⟨0, trivial⟩
    obtain ⟨c, hc⟩ := this
    refine ⟨max a (max (b + 1) c), ?_⟩
    exact hwf_cons (hwf_mono (by omega) ha) (by omega) (SObj.wf_mono (by omega) o hc)
/-! ContainsFunc over racks. -/
theorem cntR_ok (g : Nat) (caps : List SV) (H Hc : Heap) (pr : List Int → Bool) (b : Nat) (L : List Int) (e len cap : Nat) (hb : hget H b = some (.ints L e)) (hl : len * 24 ≤ L.length) (hm : len ≤ 9223372036854775806)
    (Q : List Int → Prop) (hQ : ∀ i, i < len → Q ((L.drop (i * 24)).take 24)) (hc : ∀ x : List Int, Q x → PureH Try.prog g (.arr x :: caps) Hc (.bool (pr x))) (hE : Ext Hc H) :
    PureH Try.prog 53 [.slice b 0 len cap, .fn g caps] H (.bool ((chkR L 0 len).any pr)) := by
  obtain ⟨n1, hwH1⟩ := ex_hwf H
  obtain ⟨n2, hw2⟩ := ex_wfL caps
  have hwH : hwf (max n1 n2) H := hwf_mono (by omega) hwH1
  have hw : wfL (max n1 n2) caps := wfL_mono (by omega) caps hw2
  have h00 : b < max n1 n2 := (hwH b _ hb).1
  refine pure_of_vc (X := ⟨Try.prog, tys, [(76, fun args H' => some (args = [.slice b 0 len cap, .fn g caps] ∧ H' = H, .int (idxG pr (chkR L 0 len))))], [], true, true, max n1 n2, [], []⟩) fn_53
    ⟨tys_ok, .cons (fun args H p v h hp => ?_) .nil, .nil, mixed⟩ (n0 := max n1 n2) (Nat.le_of_ble_eq_true rfl) ⟨by simpa [SV.wf] using h00, by simpa [SV.wf] using hw, trivial⟩ hwH (Nat.le_refl _) (fun _ => trivial) ?_
  · cases h
    obtain ⟨rfl, rfl⟩ := hp
    exact indexFuncR_ok g caps _ Hc pr (max n1 n2) b L e len cap hb hl hm Q hQ hc hE hw hwH
  simp -implicitDefEqProofs only [Try.f53, Option.getD_some, argS, SB, SV.known, packR, ne_eq, reduceCtorEq, Nat.reduceEqDiff, ↓reduceIte, if_true, if_false, eq_self, Nat.reduceAdd, Nat.reduceMul, Nat.reduceSub, forall_const, oneCellS, litOne, flat1, Kd.isSca, flat, TYB, idxG_any]
theorem cntR_nil (g : Nat) (caps : List SV) (H : Heap) : PureH Try.prog 53 [.nils, .fn g caps] H (.bool false) := by
  obtain ⟨n0, hw⟩ := ex_wfL caps
  refine PureH.any ?_ H
  have h1 : PureH Try.prog 76 [.nils, .fn g caps] [] (.int (-1)) := by
    refine pure_of_vc (X := ⟨Try.prog, tys, [], [], true, true, n0, [], []⟩) fn_76 ⟨tys_ok, .nil, .nil, mixed⟩ (n0 := n0) (Nat.le_of_ble_eq_true rfl) ⟨trivial, by simpa [SV.wf] using hw, trivial⟩ (hwf_nil _) (Nat.le_refl _) (fun _ => trivial) ?_
    simp -implicitDefEqProofs only [Try.f76, Option.getD_some, argS, SB, SV.known, packR, ne_eq, reduceCtorEq, Nat.reduceEqDiff, ↓reduceIte, if_true, if_false, eq_self, Nat.reduceAdd, Nat.reduceMul, Nat.reduceSub, forall_const, oneCellS, litOne, flat1, Kd.isSca, flat, TYB]
    refine loop_intro (fun i : Unit => [(0, .nils), (1, .fn g caps), (7, .int 0), (8, .int 0)]) (fun i => []) n0 (fun i => True) (fun i => 0) ?_ ?_
    · refine ⟨(), trivial, Sub.same ?_ ?_ (hwf_nil _) (Nat.le_refl _)⟩
      · simp [subS, subH, wfS, wfH, SV.ren, renL, SObj.ren, SV.wf, SObj.wf, wfL, sget_cons, hget_cons, SV.known, renL_id]
      · simp [subS, subH, wfS, wfH, SV.ren, renL, SObj.ren, SV.wf, SObj.wf, wfL, sget_cons, hget_cons, hw]
    · intro _ _
      simp -implicitDefEqProofs only [lk_normal, SB, SV.known, packR, ne_eq, reduceCtorEq, Nat.reduceEqDiff, ↓reduceIte, if_true, if_false, eq_self, Nat.reduceAdd, Nat.reduceMul, Nat.reduceSub, forall_const, oneCellS, litOne, flat1, Kd.isSca, flat, TYB]
      simp
  refine pure_of_vc (X := ⟨Try.prog, tys, [(76, fun args H' => some (args = [.nils, .fn g caps], .int (-1)))], [], true, true, n0, [], []⟩) fn_53 ⟨tys_ok, .cons (fun args H' p v h hp => ?_) .nil, .nil, mixed⟩ (n0 := n0) (Nat.le_of_ble_eq_true rfl) ⟨trivial, by simpa [SV.wf] using hw, trivial⟩ (hwf_nil _) (Nat.le_refl _) (fun _ => trivial) ?_
  · cases h
    subst hp
    exact h1.any _
  simp -implicitDefEqProofs only [Try.f53, Option.getD_some, argS, SB, SV.known, packR, ne_eq, reduceCtorEq, Nat.reduceEqDiff, ↓reduceIte, if_true, if_false, eq_self, Nat.reduceAdd, Nat.reduceMul, Nat.reduceSub, forall_const, oneCellS, litOne, flat1, Kd.isSca, flat, TYB]
  all_goals simp
def cnt_F (g : Nat) (caps : List SV) (Hc : Heap) (pr : List Int → Bool) : List SV → Heap → Option (Prop × SV)
  | [.slice b 0 len _, f], H => match hget H b with
    | some (.ints L _) => some (f = .fn g caps ∧ Ext Hc H ∧ len * 24 ≤ L.length ∧ len ≤ 600 ∧ (∀ i, i < len → (List.take 24 (List.drop (i * 24) L)).length = 24 ∧ rackB (List.take 24 (List.drop (i * 24) L)) = true), .bool ((chkR L 0 len).any pr))
    | _ => none
  | [.nils, f], _ => some (f = .fn g caps, .bool false)
  | _, _ => none
theorem cnt_T (g : Nat) (caps : List SV) (Hc : Heap) (pr : List Int → Bool) (hc : ∀ x : List Int, x.length = 24 ∧ rackB x = true → PureH Try.prog g (.arr x :: caps) Hc (.bool (pr x))) : ∀ args H p v, cnt_F g caps Hc pr args H = some (p, v) → p → PureH Try.prog 53 args H v := by
  intro args H p v h hp
  unfold cnt_F at h
  split at h
  · rename_i b len cap f
    split at h
    · rename_i L e hb
      cases h
      obtain ⟨rfl, hE, hl, hm, hr⟩ := hp
      exact cntR_ok g caps H Hc pr b L e len cap hb hl (by omega) (fun x => x.length = 24 ∧ rackB x = true) hr hc hE
    · cases h
  · cases h
    subst hp
    exact cntR_nil g caps H
  · cases h
theorem until_plain (g : Nat) (pr : List Int → Bool) (R : List Int) (e : Nat) (hR : R.length = 24) (hr : rackB R = true) :
    codeVC (⟨Try.prog, tys, [(53, cnt_F g [] ([]) pr)], [(54, step_F)], true, true, 0, [], []⟩ : Cx) 3 (Try.f23.body.getD .skip) (argS 0 [.ptr 0 0, .fn g []]) ((0, .cells [.mp 1, .slice 2 0 1 1, .int 0] e) :: (1, .mp false ([frm R].zip [0])) :: (2, .ints (frm R) 29) :: []) 3
      (retK tys Try.f23.results.toList (finK 3 0 fun v H' n' => ∃ lv : SV, lv.wf 4 ∧ v = .tup [.bool (!ovf R (dep pr R) && (lay R (dep pr R)).any pr), .bool (!ovf R (dep pr R))] ∧ H' = (0, .cells [.mp 1, lv, .int (dep pr R : Nat)] e) :: (1, .mp false ((kn R (dep pr R)).zip (lvl R (dep pr R)))) :: (2, .ints (frm R) 29) :: [] ∧ n' = 4)) := by
  have fl : (frm R).length = 24 := frm_len hR
  simp -implicitDefEqProofs only [Try.f23, Option.getD_some, argS, ZB, Int.reduceToNat, Nat.reduceLT, Nat.reduceLeDiff, Int.reduceLE, Int.reduceLT, Nat.reduceEqDiff, Nat.reduceSub, SB, SV.known, packR, ne_eq, reduceCtorEq, Nat.reduceEqDiff, ↓reduceIte, if_true, if_false, eq_self, Nat.reduceAdd, Nat.reduceMul, Nat.reduceSub, forall_const, oneCellS, litOne, flat1, Kd.isSca, flat, TYB]
  refine loop_intro (fun _ : Nat × Nat × Nat × List Int => [(0, .ptr 0 0), (1, .fn g [])])
    (fun s => outHn s.2.1 (lay R s.1).length ((lay R s.1).flatten ++ s.2.2.2) 29 ((0, .cells [.mp 1, outVn s.2.1 (lay R s.1).length (lay R s.1).length s.2.2.1, .int s.1] e) :: (1, .mp false ((kn R s.1).zip (lvl R s.1))) :: (2, .ints (frm R) 29) :: [])) 4
    (fun s => (∀ k, k < s.1 → stp pr R k = false) ∧ (kn R s.1).length ≤ 600 ∧ s.2.2.2.length + (lay R s.1).length * 24 = s.2.2.1 * 24 ∧ (s.2.1 = 3 ∨ (s.2.1 = 2 ∧ s.1 = 0 ∧ s.2.2.2 = []))) (fun s => 700 - s.1) ?_ ?_
  · refine ⟨(0, 2, 1, []), ⟨by simp, by simp [kn_zero], by simp [lay_zero], .inr ⟨rfl, rfl, rfl⟩⟩, Sub.mk_id ?_ ?_ ?_ ?_ ?_⟩
    all_goals simp only [lay_zero, kn_zero, lvl_zero, List.length_singleton, outVn_succ, outHn_succ, List.flatten_cons, List.flatten_nil, List.append_nil, outVn, outHn, LB, subS, subH, wfS, wfH, SV.ren, renL, SObj.ren, SV.wf, SObj.wf, wfL, SV.known, Nat.reduceEqDiff, ↓reduceIte, if_true, if_false, eq_self, Nat.reduceAdd, Nat.reduceLT, Nat.reduceLeDiff, implies_true, reduceCtorEq, forall_const]
    all_goals (try simp)
  · rintro ⟨d, b, c, j⟩ ⟨hps, hk6, hj, hb⟩
    simp only at hps hk6 hj hb
    obtain ⟨hkO, hlO⟩ := lk_ok hR hr d
    have hfl := flat_len hlO.all24
    have hno : ovf R d = false := decide_eq_false (by omega)
    have b0 : (0 = b) = False := by simp; omega
    have b1 : (1 = b) = False := by simp; omega
    have hd7 : d ≤ 601 := by
      cases d with
      | zero => omega
      | succ d => have := (pass_bound (pr := pr) (R := R) (d := d) fun k hk => hps k (by omega)).1; omega
    have hlk := lay_kn R d
    cases hn : (lay R d).length with
    | zero =>
      have hN : lay R d = [] := List.length_eq_zero_iff.1 hn
      have hst : stp pr R d = true := by unfold stp; rw [hN]; simp
      have hdep := dep_eq hst hps
      simp -implicitDefEqProofs only [lk_normal, cnt_F, outVn_zero, outHn_zero, ZB, Int.reduceToNat, Nat.reduceLT, Nat.reduceLeDiff, Int.reduceLE, Int.reduceLT, Nat.reduceEqDiff, Nat.reduceSub, SB, SV.known, packR, ne_eq, reduceCtorEq, Nat.reduceEqDiff, ↓reduceIte, if_true, if_false, eq_self, Nat.reduceAdd, Nat.reduceMul, Nat.reduceSub, forall_const, oneCellS, litOne, flat1, Kd.isSca, flat, TYB]
      refine ⟨.tup [.bool false, .bool true], _, 4, Sub.mk_id ?_ ?_ ?_ ?_ ?_, .nils, trivial, by simp [hdep, hno, hN], by rw [hdep], rfl⟩
      all_goals ((try simp only [LB, subS, subH, wfS, wfH, SV.ren, renL, SObj.ren, SV.wf, SObj.wf, wfL, SV.known, Nat.reduceEqDiff, ↓reduceIte, if_true, if_false, eq_self, Nat.reduceAdd, Nat.reduceLT, Nat.reduceLeDiff, implies_true, reduceCtorEq, forall_const]) <;> simp)
    | succ n =>
      rw [hn] at hj hlk
      have lL : (n + 1) * 24 ≤ ((lay R d).flatten ++ j).length := by rw [List.length_append, hfl, hn]; omega
      have ck : chkR ((lay R d).flatten ++ j) 0 (n + 1) = lay R d := by rw [← hn]; exact chkR_of hlO.all24 j
      have okE : ∀ i, i < n + 1 → (List.take 24 (List.drop (i * 24) ((lay R d).flatten ++ j))).length = 24 ∧ rackB (List.take 24 (List.drop (i * 24) ((lay R d).flatten ++ j))) = true := fun i hi => by
        rw [flat_get hlO.all24 (by omega) j]; exact hlO _ (getD_mem (by omega))
      have hE : Ext ([]) (outHn b (n + 1) ((lay R d).flatten ++ j) 29 ((0, .cells [.mp 1, .slice b 0 (n + 1) c, .int d] e) :: (1, .mp false ((kn R d).zip (lvl R d))) :: (2, .ints (frm R) 29) :: [])) := by
        intro k o hk
        cases hk
      have hlz : (kn R d).length = (lvl R d).length := (lvl_len R d).symm
      have n0 : ¬ ((n + 1 : Nat) : Int) = 0 := by omega
      have n600 : n + 1 ≤ 600 := by omega
      rw [outHn_succ] at hE
      simp only [outVn_succ, outHn_succ]
      cases ha : (lay R d).any pr with
      | true =>
        have hst : stp pr R d = true := by unfold stp; rw [ha]; simp
        have hdep := dep_eq hst hps
        simp -implicitDefEqProofs only [lk_normal, cnt_F, lL, ck, ha, hE, okE, n600, b0, b1, ZB, Int.reduceToNat, Nat.reduceLT, Nat.reduceLeDiff, Int.reduceLE, Int.reduceLT, Nat.reduceEqDiff, Nat.reduceSub, SB, SV.known, packR, ne_eq, reduceCtorEq, Nat.reduceEqDiff, ↓reduceIte, if_true, if_false, eq_self, Nat.reduceAdd, Nat.reduceMul, Nat.reduceSub, forall_const, oneCellS, litOne, flat1, Kd.isSca, flat, TYB]
        refine ⟨okE, .tup [.bool true, .bool true], _, 4, Sub.mk_id ?_ ?_ ?_ ?_ ?_, .slice b 0 (n + 1) c, by simp only [SV.wf]; omega, by simp [hdep, hno, ha], by rw [hdep], rfl⟩
        all_goals (clear hE okE; rcases hb with rfl | ⟨rfl, rfl, rfl⟩)
        all_goals ((try simp only [lay_zero, LB, subS, subH, wfS, wfH, SV.ren, renL, SObj.ren, SV.wf, SObj.wf, wfL, SV.known, Nat.reduceEqDiff, ↓reduceIte, if_true, if_false, eq_self, Nat.reduceAdd, Nat.reduceLT, Nat.reduceLeDiff, implies_true, reduceCtorEq, forall_const]) <;> simp)
      | false =>
        simp -implicitDefEqProofs only [lk_normal, cnt_F, step_F, lL, ck, ha, hE, okE, n600, n0, b0, b1, ZB, Int.reduceToNat, Nat.reduceLT, Nat.reduceLeDiff, Int.reduceLE, Int.reduceLT, Nat.reduceEqDiff, Nat.reduceSub, SB, SV.known, packR, ne_eq, reduceCtorEq, Nat.reduceEqDiff, ↓reduceIte, if_true, if_false, eq_self, Nat.reduceAdd, Nat.reduceMul, Nat.reduceSub, forall_const, oneCellS, litOne, flat1, Kd.isSca, flat, TYB]
        refine ⟨okE, d, lay R d, kn R d, lvl R d, j, rfl, rfl, rfl, hlO, hkO.all24, hlz, hn, hk6, by omega, fun c' j' hj' => ?_⟩
        have el : nwU (kn R d) (lay R d) = lay R (d + 1) := rfl
        have ek : kn R d ++ lay R (d + 1) = kn R (d + 1) := rfl
        have ev : lvl R d ++ List.replicate (lay R (d + 1)).length ((d : Int) + 1) = lvl R (d + 1) := by rw [lvl_succ, Int.natCast_add]; rfl
        have hst0 : stp pr R d = false := by
          unfold stp
          rw [hno, ha]
          cases hq : lay R d with
          | nil => rw [hq] at hn; simp at hn
          | cons x l => rfl
        have hps1 : ∀ k, k < d + 1 → stp pr R k = false := fun k hk => by
          by_cases hkd : k = d
          · subst hkd; exact hst0
          · exact hps k (by omega)
        rw [el] at hj' ⊢
        rw [ek, ev]
        clear hE okE
        refine ⟨fun h6 => ⟨(d + 1, 3, c', j'), ⟨hps1, h6, hj', .inl rfl⟩, by simp only; omega, Sub.mk_to 3 4 ?_ ?_ ?_ ?_ ?_ ?_ ?_⟩, fun h6 => ?_⟩
        all_goals rcases hb with rfl | ⟨rfl, rfl, rfl⟩
        all_goals (try (cases (lay R (d + 1)).length <;> simp only [outVn_zero, outVn_succ, outHn_zero, outHn_succ, LB, subS, subH, wfS, wfH, SV.ren, renL, SObj.ren, SV.wf, SObj.wf, wfL, SV.known, Nat.reduceEqDiff, ↓reduceIte, if_true, if_false, eq_self, Nat.reduceAdd, Nat.reduceLT, Nat.reduceLeDiff, implies_true, reduceCtorEq, forall_const] <;> simp; done))
        all_goals (try (cases (lay R (0 + 1)).length <;> simp only [lay_zero, outVn_zero, outVn_succ, outHn_zero, outHn_succ, LB, subS, subH, wfS, wfH, SV.ren, renL, SObj.ren, SV.wf, SObj.wf, wfL, SV.known, Nat.reduceEqDiff, ↓reduceIte, if_true, if_false, eq_self, Nat.reduceAdd, Nat.reduceLT, Nat.reduceLeDiff, implies_true, reduceCtorEq, forall_const] <;> simp; done))
        · have hst : stp pr R (d + 1) = true := by unfold stp ovf; rw [decide_eq_true (by omega)]; rfl
          have hdep := dep_eq hst hps1
          have hov : ovf R (d + 1) = true := decide_eq_true (by omega)
          refine ⟨.tup [.bool false, .bool false], (0, .cells [.mp 1, outVn 3 (lay R (d + 1)).length (lay R (d + 1)).length c', .int ((d + 1 : Nat) : Int)] e) :: (1, .mp false ((kn R (d + 1)).zip (lvl R (d + 1)))) :: (2, .ints (frm R) 29) :: [], 4, Sub.mk_to 3 4 ?_ ?_ ?_ ?_ ?_ ?_ ?_, outVn 3 (lay R (d + 1)).length (lay R (d + 1)).length c', by cases (lay R (d + 1)).length <;> simp [outVn, SV.wf], by rw [hdep, hov]; rfl, by rw [hdep], rfl⟩
          all_goals (cases (lay R (d + 1)).length <;> simp only [lay_zero, outVn_zero, outVn_succ, outHn_zero, outHn_succ, LB, subS, subH, wfS, wfH, SV.ren, renL, SObj.ren, SV.wf, SObj.wf, wfL, SV.known, Nat.reduceEqDiff, ↓reduceIte, if_true, if_false, eq_self, Nat.reduceAdd, Nat.reduceLT, Nat.reduceLeDiff, implies_true, reduceCtorEq, forall_const] <;> simp)
        · have hst : stp pr R (0 + 1) = true := by unfold stp ovf; rw [decide_eq_true (by omega)]; rfl
          have hdep := dep_eq hst hps1
          have hov : ovf R (0 + 1) = true := decide_eq_true (by omega)
          refine ⟨.tup [.bool false, .bool false], (0, .cells [.mp 1, outVn 3 (lay R (0 + 1)).length (lay R (0 + 1)).length c', .int ((0 + 1 : Nat) : Int)] e) :: (1, .mp false ((kn R (0 + 1)).zip (lvl R (0 + 1)))) :: (2, .ints (frm R) 29) :: [], 4, Sub.mk_to 3 4 ?_ ?_ ?_ ?_ ?_ ?_ ?_, outVn 3 (lay R (0 + 1)).length (lay R (0 + 1)).length c', by cases (lay R (0 + 1)).length <;> simp [outVn, SV.wf], by rw [hdep, hov]; rfl, by rw [hdep], rfl⟩
          all_goals (cases (lay R (0 + 1)).length <;> simp only [lay_zero, outVn_zero, outVn_succ, outHn_zero, outHn_succ, LB, subS, subH, wfS, wfH, SV.ren, renL, SObj.ren, SV.wf, SObj.wf, wfL, SV.known, Nat.reduceEqDiff, ↓reduceIte, if_true, if_false, eq_self, Nat.reduceAdd, Nat.reduceLT, Nat.reduceLeDiff, implies_true, reduceCtorEq, forall_const] <;> simp)
theorem until_form (g : Nat) (pr : List Int → Bool) (R : List Int) (e : Nat) (F : List Int) (e3 : Nat) (hR : R.length = 24) (hr : rackB R = true) :
    codeVC (⟨Try.prog, tys, [(53, cnt_F g [.ptr 3 0] ([(3, .ints F e3)]) pr)], [(54, step_F)], true, true, 0, [], []⟩ : Cx) 4 (Try.f23.body.getD .skip) (argS 0 [.ptr 0 0, .fn g [.ptr 3 0]]) ((0, .cells [.mp 1, .slice 2 0 1 1, .int 0] e) :: (1, .mp false ([frm R].zip [0])) :: (2, .ints (frm R) 29) :: [(3, .ints F e3)]) 4
      (retK tys Try.f23.results.toList (finK 4 0 fun v H' n' => ∃ lv : SV, lv.wf 5 ∧ v = .tup [.bool (!ovf R (dep pr R) && (lay R (dep pr R)).any pr), .bool (!ovf R (dep pr R))] ∧ H' = (0, .cells [.mp 1, lv, .int (dep pr R : Nat)] e) :: (1, .mp false ((kn R (dep pr R)).zip (lvl R (dep pr R)))) :: (2, .ints (frm R) 29) :: [(3, .ints F e3)] ∧ n' = 5)) := by
  have fl : (frm R).length = 24 := frm_len hR
  simp -implicitDefEqProofs only [Try.f23, Option.getD_some, argS, ZB, Int.reduceToNat, Nat.reduceLT, Nat.reduceLeDiff, Int.reduceLE, Int.reduceLT, Nat.reduceEqDiff, Nat.reduceSub, SB, SV.known, packR, ne_eq, reduceCtorEq, Nat.reduceEqDiff, ↓reduceIte, if_true, if_false, eq_self, Nat.reduceAdd, Nat.reduceMul, Nat.reduceSub, forall_const, oneCellS, litOne, flat1, Kd.isSca, flat, TYB]
  refine loop_intro (fun _ : Nat × Nat × Nat × List Int => [(0, .ptr 0 0), (1, .fn g [.ptr 3 0])])
    (fun s => outHn s.2.1 (lay R s.1).length ((lay R s.1).flatten ++ s.2.2.2) 29 ((0, .cells [.mp 1, outVn s.2.1 (lay R s.1).length (lay R s.1).length s.2.2.1, .int s.1] e) :: (1, .mp false ((kn R s.1).zip (lvl R s.1))) :: (2, .ints (frm R) 29) :: [(3, .ints F e3)])) 5
    (fun s => (∀ k, k < s.1 → stp pr R k = false) ∧ (kn R s.1).length ≤ 600 ∧ s.2.2.2.length + (lay R s.1).length * 24 = s.2.2.1 * 24 ∧ (s.2.1 = 4 ∨ (s.2.1 = 2 ∧ s.1 = 0 ∧ s.2.2.2 = []))) (fun s => 700 - s.1) ?_ ?_
  · refine ⟨(0, 2, 1, []), ⟨by simp, by simp [kn_zero], by simp [lay_zero], .inr ⟨rfl, rfl, rfl⟩⟩, Sub.mk_id ?_ ?_ ?_ ?_ ?_⟩
    all_goals simp only [lay_zero, kn_zero, lvl_zero, List.length_singleton, outVn_succ, outHn_succ, List.flatten_cons, List.flatten_nil, List.append_nil, outVn, outHn, LB, subS, subH, wfS, wfH, SV.ren, renL, SObj.ren, SV.wf, SObj.wf, wfL, SV.known, Nat.reduceEqDiff, ↓reduceIte, if_true, if_false, eq_self, Nat.reduceAdd, Nat.reduceLT, Nat.reduceLeDiff, implies_true, reduceCtorEq, forall_const]
    all_goals (try simp)
  · rintro ⟨d, b, c, j⟩ ⟨hps, hk6, hj, hb⟩
    simp only at hps hk6 hj hb
    obtain ⟨hkO, hlO⟩ := lk_ok hR hr d
    have hfl := flat_len hlO.all24
    have hno : ovf R d = false := decide_eq_false (by omega)
    have b0 : (0 = b) = False := by simp; omega
    have b1 : (1 = b) = False := by simp; omega
    have hd7 : d ≤ 601 := by
      cases d with
      | zero => omega
      | succ d => have := (pass_bound (pr := pr) (R := R) (d := d) fun k hk => hps k (by omega)).1; omega
    have hlk := lay_kn R d
    cases hn : (lay R d).length with
    | zero =>
      have hN : lay R d = [] := List.length_eq_zero_iff.1 hn
      have hst : stp pr R d = true := by unfold stp; rw [hN]; simp
      have hdep := dep_eq hst hps
      simp -implicitDefEqProofs only [lk_normal, cnt_F, outVn_zero, outHn_zero, ZB, Int.reduceToNat, Nat.reduceLT, Nat.reduceLeDiff, Int.reduceLE, Int.reduceLT, Nat.reduceEqDiff, Nat.reduceSub, SB, SV.known, packR, ne_eq, reduceCtorEq, Nat.reduceEqDiff, ↓reduceIte, if_true, if_false, eq_self, Nat.reduceAdd, Nat.reduceMul, Nat.reduceSub, forall_const, oneCellS, litOne, flat1, Kd.isSca, flat, TYB]
      refine ⟨.tup [.bool false, .bool true], _, 5, Sub.mk_id ?_ ?_ ?_ ?_ ?_, .nils, trivial, by simp [hdep, hno, hN], by rw [hdep], rfl⟩
      all_goals ((try simp only [LB, subS, subH, wfS, wfH, SV.ren, renL, SObj.ren, SV.wf, SObj.wf, wfL, SV.known, Nat.reduceEqDiff, ↓reduceIte, if_true, if_false, eq_self, Nat.reduceAdd, Nat.reduceLT, Nat.reduceLeDiff, implies_true, reduceCtorEq, forall_const]) <;> simp)
    | succ n =>
      rw [hn] at hj hlk
      have lL : (n + 1) * 24 ≤ ((lay R d).flatten ++ j).length := by rw [List.length_append, hfl, hn]; omega
      have ck : chkR ((lay R d).flatten ++ j) 0 (n + 1) = lay R d := by rw [← hn]; exact chkR_of hlO.all24 j
      have okE : ∀ i, i < n + 1 → (List.take 24 (List.drop (i * 24) ((lay R d).flatten ++ j))).length = 24 ∧ rackB (List.take 24 (List.drop (i * 24) ((lay R d).flatten ++ j))) = true := fun i hi => by
        rw [flat_get hlO.all24 (by omega) j]; exact hlO _ (getD_mem (by omega))
      have hE : Ext ([(3, .ints F e3)]) (outHn b (n + 1) ((lay R d).flatten ++ j) 29 ((0, .cells [.mp 1, .slice b 0 (n + 1) c, .int d] e) :: (1, .mp false ((kn R d).zip (lvl R d))) :: (2, .ints (frm R) 29) :: [(3, .ints F e3)])) := by
        intro k o hk
        simp only [hget_cons] at hk
        split at hk
        · rename_i h3; subst h3
          rw [hget_outHn, if_neg (by omega)]
          simp only [hget_cons]
          exact hk
        · cases hk
      have hlz : (kn R d).length = (lvl R d).length := (lvl_len R d).symm
      have n0 : ¬ ((n + 1 : Nat) : Int) = 0 := by omega
      have n600 : n + 1 ≤ 600 := by omega
      rw [outHn_succ] at hE
      simp only [outVn_succ, outHn_succ]
      cases ha : (lay R d).any pr with
      | true =>
        have hst : stp pr R d = true := by unfold stp; rw [ha]; simp
        have hdep := dep_eq hst hps
        simp -implicitDefEqProofs only [lk_normal, cnt_F, lL, ck, ha, hE, okE, n600, b0, b1, ZB, Int.reduceToNat, Nat.reduceLT, Nat.reduceLeDiff, Int.reduceLE, Int.reduceLT, Nat.reduceEqDiff, Nat.reduceSub, SB, SV.known, packR, ne_eq, reduceCtorEq, Nat.reduceEqDiff, ↓reduceIte, if_true, if_false, eq_self, Nat.reduceAdd, Nat.reduceMul, Nat.reduceSub, forall_const, oneCellS, litOne, flat1, Kd.isSca, flat, TYB]
        refine ⟨okE, .tup [.bool true, .bool true], _, 5, Sub.mk_id ?_ ?_ ?_ ?_ ?_, .slice b 0 (n + 1) c, by simp only [SV.wf]; omega, by simp [hdep, hno, ha], by rw [hdep], rfl⟩
        all_goals (clear hE okE; rcases hb with rfl | ⟨rfl, rfl, rfl⟩)
        all_goals ((try simp only [lay_zero, LB, subS, subH, wfS, wfH, SV.ren, renL, SObj.ren, SV.wf, SObj.wf, wfL, SV.known, Nat.reduceEqDiff, ↓reduceIte, if_true, if_false, eq_self, Nat.reduceAdd, Nat.reduceLT, Nat.reduceLeDiff, implies_true, reduceCtorEq, forall_const]) <;> simp)
      | false =>
        simp -implicitDefEqProofs only [lk_normal, cnt_F, step_F, lL, ck, ha, hE, okE, n600, n0, b0, b1, ZB, Int.reduceToNat, Nat.reduceLT, Nat.reduceLeDiff, Int.reduceLE, Int.reduceLT, Nat.reduceEqDiff, Nat.reduceSub, SB, SV.known, packR, ne_eq, reduceCtorEq, Nat.reduceEqDiff, ↓reduceIte, if_true, if_false, eq_self, Nat.reduceAdd, Nat.reduceMul, Nat.reduceSub, forall_const, oneCellS, litOne, flat1, Kd.isSca, flat, TYB]
        refine ⟨okE, d, lay R d, kn R d, lvl R d, j, rfl, rfl, rfl, hlO, hkO.all24, hlz, hn, hk6, by omega, fun c' j' hj' => ?_⟩
        have el : nwU (kn R d) (lay R d) = lay R (d + 1) := rfl
        have ek : kn R d ++ lay R (d + 1) = kn R (d + 1) := rfl
        have ev : lvl R d ++ List.replicate (lay R (d + 1)).length ((d : Int) + 1) = lvl R (d + 1) := by rw [lvl_succ, Int.natCast_add]; rfl
        have hst0 : stp pr R d = false := by
          unfold stp
          rw [hno, ha]
          cases hq : lay R d with
          | nil => rw [hq] at hn; simp at hn
          | cons x l => rfl
        have hps1 : ∀ k, k < d + 1 → stp pr R k = false := fun k hk => by
          by_cases hkd : k = d
          · subst hkd; exact hst0
          · exact hps k (by omega)
        rw [el] at hj' ⊢
        rw [ek, ev]
        clear hE okE
        refine ⟨fun h6 => ⟨(d + 1, 4, c', j'), ⟨hps1, h6, hj', .inl rfl⟩, by simp only; omega, Sub.mk_to 4 5 ?_ ?_ ?_ ?_ ?_ ?_ ?_⟩, fun h6 => ?_⟩
        all_goals rcases hb with rfl | ⟨rfl, rfl, rfl⟩
        all_goals (try (cases (lay R (d + 1)).length <;> simp only [outVn_zero, outVn_succ, outHn_zero, outHn_succ, LB, subS, subH, wfS, wfH, SV.ren, renL, SObj.ren, SV.wf, SObj.wf, wfL, SV.known, Nat.reduceEqDiff, ↓reduceIte, if_true, if_false, eq_self, Nat.reduceAdd, Nat.reduceLT, Nat.reduceLeDiff, implies_true, reduceCtorEq, forall_const] <;> simp; done))
        all_goals (try (cases (lay R (0 + 1)).length <;> simp only [lay_zero, outVn_zero, outVn_succ, outHn_zero, outHn_succ, LB, subS, subH, wfS, wfH, SV.ren, renL, SObj.ren, SV.wf, SObj.wf, wfL, SV.known, Nat.reduceEqDiff, ↓reduceIte, if_true, if_false, eq_self, Nat.reduceAdd, Nat.reduceLT, Nat.reduceLeDiff, implies_true, reduceCtorEq, forall_const] <;> simp; done))
        · have hst : stp pr R (d + 1) = true := by unfold stp ovf; rw [decide_eq_true (by omega)]; rfl
          have hdep := dep_eq hst hps1
          have hov : ovf R (d + 1) = true := decide_eq_true (by omega)
          refine ⟨.tup [.bool false, .bool false], (0, .cells [.mp 1, outVn 4 (lay R (d + 1)).length (lay R (d + 1)).length c', .int ((d + 1 : Nat) : Int)] e) :: (1, .mp false ((kn R (d + 1)).zip (lvl R (d + 1)))) :: (2, .ints (frm R) 29) :: [(3, .ints F e3)], 5, Sub.mk_to 4 5 ?_ ?_ ?_ ?_ ?_ ?_ ?_, outVn 4 (lay R (d + 1)).length (lay R (d + 1)).length c', by cases (lay R (d + 1)).length <;> simp [outVn, SV.wf], by rw [hdep, hov]; rfl, by rw [hdep], rfl⟩
          all_goals (cases (lay R (d + 1)).length <;> simp only [lay_zero, outVn_zero, outVn_succ, outHn_zero, outHn_succ, LB, subS, subH, wfS, wfH, SV.ren, renL, SObj.ren, SV.wf, SObj.wf, wfL, SV.known, Nat.reduceEqDiff, ↓reduceIte, if_true, if_false, eq_self, Nat.reduceAdd, Nat.reduceLT, Nat.reduceLeDiff, implies_true, reduceCtorEq, forall_const] <;> simp)
        · have hst : stp pr R (0 + 1) = true := by unfold stp ovf; rw [decide_eq_true (by omega)]; rfl
          have hdep := dep_eq hst hps1
          have hov : ovf R (0 + 1) = true := decide_eq_true (by omega)
          refine ⟨.tup [.bool false, .bool false], (0, .cells [.mp 1, outVn 4 (lay R (0 + 1)).length (lay R (0 + 1)).length c', .int ((0 + 1 : Nat) : Int)] e) :: (1, .mp false ((kn R (0 + 1)).zip (lvl R (0 + 1)))) :: (2, .ints (frm R) 29) :: [(3, .ints F e3)], 5, Sub.mk_to 4 5 ?_ ?_ ?_ ?_ ?_ ?_ ?_, outVn 4 (lay R (0 + 1)).length (lay R (0 + 1)).length c', by cases (lay R (0 + 1)).length <;> simp [outVn, SV.wf], by rw [hdep, hov]; rfl, by rw [hdep], rfl⟩
          all_goals (cases (lay R (0 + 1)).length <;> simp only [lay_zero, outVn_zero, outVn_succ, outHn_zero, outHn_succ, LB, subS, subH, wfS, wfH, SV.ren, renL, SObj.ren, SV.wf, SObj.wf, wfL, SV.known, Nat.reduceEqDiff, ↓reduceIte, if_true, if_false, eq_self, Nat.reduceAdd, Nat.reduceLT, Nat.reduceLeDiff, implies_true, reduceCtorEq, forall_const] <;> simp)
--@tbl never = impl.never
theorem never_ok (x : List Int) (hx : x.length = 24) : PureH Try.prog 24 [.arr x] [] (.bool false) := by
  refine pure_of_vc (X := ⟨Try.prog, tys, [], [], true, true, 0, [], []⟩) fn_24 ⟨tys_ok, .nil, .nil, mixed⟩ (n0 := 0) (Nat.le_of_ble_eq_true rfl) (by simp [wfL, SV.wf]) (wfH_spec (by simp [wfH, SObj.wf, wfL, SV.wf])) (Nat.le_refl _) (fun _ => by simp [SV.wf, wfL]) ?_
  simp -implicitDefEqProofs only [Try.f24, Option.getD_some, argS, hx, ZB, Int.reduceToNat, Nat.reduceLT, Nat.reduceLeDiff, Int.reduceLE, Int.reduceLT, Nat.reduceEqDiff, Nat.reduceSub, SB, SV.known, packR, ne_eq, reduceCtorEq, Nat.reduceEqDiff, ↓reduceIte, if_true, if_false, eq_self, Nat.reduceAdd, Nat.reduceMul, Nat.reduceSub, forall_const, oneCellS, litOne, flat1, Kd.isSca, flat, TYB]
/-- A closure that compares with one rack. -/
def eqG (g : Nat) : Prop := ∀ (x F : List Int) (e : Nat), x.length = 24 → F.length = 24 → PureH Try.prog g [.arr x, .ptr 3 0] [(3, .ints F e)] (.bool (decide (x = F)))
def unB (pr : List Int → Bool) (R : List Int) : Bool := !ovf R (dep pr R) && (lay R (dep pr R)).any pr
def unO (pr : List Int → Bool) (R : List Int) : Bool := !ovf R (dep pr R)
def until_F : List SV → Heap → Nat → Nat → K1 → Prop
  | [.ptr p 0, .fn g []], H, n, m, κ => match hget H p with
    | some (.cells [.mp k, .slice b 0 1 1, .int 0] e) => match hget H k, hget H b with
      | some (.mp false l), some (.ints L e2) => (p ≠ k ∧ p ≠ b ∧ k ≠ b ∧ m ≤ p ∧ m ≤ k ∧ m ≤ b) ∧ ∃ (R : List Int) (pr : List Int → Bool), (g = 26 ∧ pr = sortB ∨ g = 24 ∧ pr = fun _ => false) ∧ R.length = 24 ∧ rackB R = true ∧ l = [frm R].zip [0] ∧ L = frm R ∧ e2 = 29 ∧
          ∀ lv : SV, lv.wf (n + 1) → κ (.tup [.bool (unB pr R), .bool (unO pr R)]) ((p, .cells [.mp k, lv, .int (dep pr R : Nat)] e) :: (k, .mp false ((kn R (dep pr R)).zip (lvl R (dep pr R)))) :: (b, .ints L e2) :: H) (n + 1)
      | _, _ => False
    | _ => False
  | [.ptr p 0, .fn g [.ptr f 0]], H, n, m, κ => match hget H p with
    | some (.cells [.mp k, .slice b 0 1 1, .int 0] e) => match hget H k, hget H b, hget H f with
      | some (.mp false l), some (.ints L e2), some (.ints F e3) => (p ≠ k ∧ p ≠ b ∧ k ≠ b ∧ m ≤ p ∧ m ≤ k ∧ m ≤ b) ∧ (f ≠ p ∧ f ≠ k ∧ f ≠ b ∧ m ≤ f) ∧ eqG g ∧ F.length = 24 ∧ ∃ (R : List Int), R.length = 24 ∧ rackB R = true ∧ l = [frm R].zip [0] ∧ L = frm R ∧ e2 = 29 ∧
          ∀ lv : SV, lv.wf (n + 1) → κ (.tup [.bool (unB (fun x => decide (x = F)) R), .bool (unO (fun x => decide (x = F)) R)]) ((p, .cells [.mp k, lv, .int (dep (fun x => decide (x = F)) R : Nat)] e) :: (k, .mp false ((kn R (dep (fun x => decide (x = F)) R)).zip (lvl R (dep (fun x => decide (x = F)) R)))) :: (b, .ints L e2) :: (f, .ints F e3) :: H) (n + 1)
      | _, _, _ => False
    | _ => False
  | _, _, _, _, _ => False
--@tbl until = (*impl.search).until
theorem until_T : ∀ args H n m κ, until_F args H n m κ → GenOK Try.prog 23 args H n m κ := by
  intro args H n m κ h
  unfold until_F at h
  split at h
  · rename_i p g
    split at h
    · rename_i k b e h0
      split at h
      · rename_i l L e2 h1 h2
        obtain ⟨⟨n1, n2, n3, m0, m1, m2⟩, R, pr, hg, hR, hr, rfl, rfl, rfl, h⟩ := h
        have hc : ∀ x : List Int, x.length = 24 ∧ rackB x = true → PureH Try.prog g [.arr x] [] (.bool (pr x)) := by
          intro x hx
          rcases hg with ⟨rfl, rfl⟩ | ⟨rfl, rfl⟩
          · exact isSorted_ok x hx.1 hx.2
          · exact never_ok x hx.1
        have hw := until_plain g pr R e hR hr
        refine ⟨(fn_23).ent, fun B M w hH hwHH hwa hown hM => ?_⟩
        have p1 := (hwHH p _ h0).1
        have p2 := (hwHH k _ h1).1
        have p3 := (hwHH b _ h2).1
        have hwi : ∀ i, i < 4 → ext (fun j => if j = 0 then p else if j = 1 then k else b) 3 n i < n + 1 := fun i hi => by
          obtain rfl | rfl | rfl | rfl : i = 0 ∨ i = 1 ∨ i = 2 ∨ i = 3 := by omega
          · show p < n + 1; omega
          · show k < n + 1; omega
          · show b < n + 1; omega
          · show n + 0 < n + 1; omega
        refine GenOK.call (n := n) (m := m) (κ := κ) ?_ B M w hH hwHH hwa hown hM
        have := gen_of_vc (H := H) (n := n) (m := m) (κ := κ) fn_23 ⟨tys_ok, .cons (cnt_T g [] [] pr hc) .nil, .cons step_T .nil, mixed⟩ (Nat.le_of_ble_eq_true rfl) (by simp [wfL, SV.wf]) (wfH_spec (by simp [wfH, SObj.wf, SV.wf, wfL])) (by show 0 ≤ 3; omega) hw
          (fun j => if j = 0 then p else if j = 1 then k else b) (fun j hj => by
            obtain rfl | rfl | rfl : j = 0 ∨ j = 1 ∨ j = 2 := by omega
            · exact ⟨_, rfl⟩
            · exact ⟨_, rfl⟩
            · exact ⟨_, rfl⟩) (fun a1 a2 h3 h4 he => by
            obtain rfl | rfl | rfl : a1 = 0 ∨ a1 = 1 ∨ a1 = 2 := by omega
            all_goals obtain rfl | rfl | rfl : a2 = 0 ∨ a2 = 1 ∨ a2 = 2 := by omega
            all_goals simp at he ⊢
            all_goals omega) ?_ ?_ ?_ ?_
        · simpa [renL, SV.ren] using this
        · intro j o hj
          simp only [hget_cons] at hj
          split at hj
          · rename_i h0; cases hj; subst h0; exact h0
          · split at hj
            · rename_i h0; cases hj; subst h0; exact h1
            · split at hj
              · rename_i h0; cases hj; subst h0; exact h2
              · cases hj
        · intro j o hj _
          simp only [hget_cons] at hj
          split at hj
          · rename_i h0; subst h0; exact m0
          · split at hj
            · rename_i h0; subst h0; exact m1
            · split at hj
              · rename_i h0; subst h0; exact m2
              · cases hj
        · rintro v H' n' ⟨lv, hlv, rfl, rfl, rfl⟩
          refine ⟨fun i o hi _ _ => ?_, fun i o _ _ h1i => absurd h1i (by show ¬ i < 0; omega)⟩
          simp only [hget_cons] at hi
          split at hi
          · rename_i h0; subst h0; rfl
          · split at hi
            · rename_i h0; subst h0; rfl
            · split at hi
              · rename_i h0; subst h0; rfl
              · cases hi
        · rintro v H' n' ⟨lv, hlv, rfl, rfl, rfl⟩ _
          simpa [renH, SObj.ren, renL, SV.ren, ext3, unB, unO] using h (lv.ren (ext (fun j => if j = 0 then p else if j = 1 then k else b) 3 n)) (SV.wf_ren (n := 4) (fun i hi => hwi i hi) lv hlv)
      · exact h.elim
    · exact h.elim
  · rename_i p g f
    split at h
    · rename_i k b e h0
      split at h
      · rename_i l L e2 F e3 h1 h2 h3
        obtain ⟨⟨n1, n2, n3, m0, m1, m2⟩, ⟨q1, q2, q3, q4⟩, hg, hF, R, hR, hr, rfl, rfl, rfl, h⟩ := h
        have hc : ∀ x : List Int, x.length = 24 ∧ rackB x = true → PureH Try.prog g [.arr x, .ptr 3 0] [(3, .ints F e3)] (.bool (decide (x = F))) := fun x hx => hg x F e3 hx.1 hF
        have hw := until_form g (fun x => decide (x = F)) R e F e3 hR hr
        refine ⟨(fn_23).ent, fun B M w hH hwHH hwa hown hM => ?_⟩
        have p1 := (hwHH p _ h0).1
        have p2 := (hwHH k _ h1).1
        have p3 := (hwHH b _ h2).1
        have p4 := (hwHH f _ h3).1
        have hwi : ∀ i, i < 5 → ext (fun j => if j = 0 then p else if j = 1 then k else if j = 2 then b else f) 4 n i < n + 1 := fun i hi => by
          obtain rfl | rfl | rfl | rfl | rfl : i = 0 ∨ i = 1 ∨ i = 2 ∨ i = 3 ∨ i = 4 := by omega
          · show p < n + 1; omega
          · show k < n + 1; omega
          · show b < n + 1; omega
          · show f < n + 1; omega
          · show n + 0 < n + 1; omega
        refine GenOK.call (n := n) (m := m) (κ := κ) ?_ B M w hH hwHH hwa hown hM
        have := gen_of_vc (H := H) (n := n) (m := m) (κ := κ) fn_23 ⟨tys_ok, .cons (cnt_T _ [.ptr 3 0] [(3, .ints F e3)] _ hc) .nil, .cons step_T .nil, mixed⟩ (Nat.le_of_ble_eq_true rfl) (by simp [wfL, SV.wf]) (wfH_spec (by simp [wfH, SObj.wf, SV.wf, wfL])) (by show 0 ≤ 4; omega) hw
          (fun j => if j = 0 then p else if j = 1 then k else if j = 2 then b else f) (fun j hj => by
            obtain rfl | rfl | rfl | rfl : j = 0 ∨ j = 1 ∨ j = 2 ∨ j = 3 := by omega
            · exact ⟨_, rfl⟩
            · exact ⟨_, rfl⟩
            · exact ⟨_, rfl⟩
            · exact ⟨_, rfl⟩) (fun a1 a2 h3 h4 he => by
            obtain rfl | rfl | rfl | rfl : a1 = 0 ∨ a1 = 1 ∨ a1 = 2 ∨ a1 = 3 := by omega
            all_goals obtain rfl | rfl | rfl | rfl : a2 = 0 ∨ a2 = 1 ∨ a2 = 2 ∨ a2 = 3 := by omega
            all_goals simp at he ⊢
            all_goals omega) ?_ ?_ ?_ ?_
        · simpa [renL, SV.ren] using this
        · intro j o hj
          simp only [hget_cons] at hj
          split at hj
          · rename_i h0; cases hj; subst h0; exact h0
          · split at hj
            · rename_i h0; cases hj; subst h0; exact h1
            · split at hj
              · rename_i h0; cases hj; subst h0; exact h2
              · split at hj
                · rename_i h0; cases hj; subst h0; exact h3
                · cases hj
        · intro j o hj _
          simp only [hget_cons] at hj
          split at hj
          · rename_i h0; subst h0; exact m0
          · split at hj
            · rename_i h0; subst h0; exact m1
            · split at hj
              · rename_i h0; subst h0; exact m2
              · split at hj
                · rename_i h0; subst h0; exact q4
                · cases hj
        · rintro v H' n' ⟨lv, hlv, rfl, rfl, rfl⟩
          refine ⟨fun i o hi _ _ => ?_, fun i o _ _ h1i => absurd h1i (by show ¬ i < 0; omega)⟩
          simp only [hget_cons] at hi
          split at hi
          · rename_i h0; subst h0; rfl
          · split at hi
            · rename_i h0; subst h0; rfl
            · split at hi
              · rename_i h0; subst h0; rfl
              · split at hi
                · rename_i h0; subst h0; rfl
                · cases hi
        · rintro v H' n' ⟨lv, hlv, rfl, rfl, rfl⟩ _
          have e4 : ∀ ρ : Nat → Nat, ext ρ 4 n 0 = ρ 0 ∧ ext ρ 4 n 1 = ρ 1 ∧ ext ρ 4 n 2 = ρ 2 ∧ ext ρ 4 n 3 = ρ 3 := fun ρ => ⟨rfl, rfl, rfl, rfl⟩
          simpa [renH, SObj.ren, renL, SV.ren, e4, unB, unO] using h (lv.ren (ext (fun j => if j = 0 then p else if j = 1 then k else if j = 2 then b else f) 4 n)) (SV.wf_ren (n := 5) (fun i hi => hwi i hi) lv hlv)
      · exact h.elim
    · exact h.elim
  · exact h.elim
--@tbl CanBeSorted = impl.CanBeSorted
def nev : List Int → Bool := fun _ => false
def eqB (F : List Int) : List Int → Bool := fun x => decide (x = F)
theorem unB_unO {pr : List Int → Bool} {R : List Int} (h : unB pr R = true) : unO pr R = true := by
  unfold unB at h
  rw [Bool.and_eq_true] at h
  exact h.1
--@tbl FewestTo = impl.FewestTo
/-! The search for shortest ways. -/
theorem ev_pnil (S : Env) : ev S (.const (.pointer none)) = .lit (.pointer none) := rfl
theorem sortingOf_vc (R : List Int) (hR : R.length = 24) :
    codeVC (⟨Try.prog, tys, [(21, IsRack_F)], [(22, searchFrom_F), (23, until_F)], true, true, 0, [], []⟩ : Cx) 0 (Try.f34.body.getD .skip) (argS 0 [.arr R]) [] 0
      (retK tys Try.f34.results.toList (finK 0 0 fun v H' n' => (rackB R = false ∧ v = .tup [.lit (.pointer none), .bool false] ∧ H' = [] ∧ n' = 0) ∨ (rackB R = true ∧ ∃ lv : SV, lv.wf 7 ∧ v = .tup [.ptr 6 0, .bool (unB sortB R)] ∧ H' = [(6, .cells [.ptr 3 0, .mp 5] 91), (3, .cells [.mp 1, lv, .int (dep sortB R : Nat)] 82), (1, .mp false ((kn R (dep sortB R)).zip (lvl R (dep sortB R)))), (5, .mp false [])] ∧ n' = 7))) := by
  have tkR : R.take 24 = R := List.take_of_length_le (by omega)
  cases hr : rackB R
  · simp -implicitDefEqProofs only [Try.f34, Option.getD_some, argS, IsRack_F, searchFrom_F, until_F, hR, tkR, hr, ev_pnil, ZB, Int.reduceToNat, Nat.reduceLT, Nat.reduceLeDiff, Int.reduceLE, Int.reduceLT, Nat.reduceEqDiff, Nat.reduceSub, SB, SV.known, packR, ne_eq, reduceCtorEq, Nat.reduceEqDiff, ↓reduceIte, if_true, if_false, eq_self, Nat.reduceAdd, Nat.reduceMul, Nat.reduceSub, forall_const, oneCellS, litOne, flat1, Kd.isSca, flat, TYB]
    refine ⟨_, [], 0, Sub.mk_id ?_ ?_ ?_ ?_ ?_, .inl ⟨rfl, rfl, rfl⟩⟩
    all_goals ((try simp only [LB, subS, subH, wfS, wfH, SV.ren, renL, SObj.ren, SV.wf, SObj.wf, wfL, SV.known, Nat.reduceEqDiff, ↓reduceIte, if_true, if_false, eq_self, Nat.reduceAdd, Nat.reduceLT, Nat.reduceLeDiff, implies_true, reduceCtorEq, forall_const]) <;> simp)
  · simp -implicitDefEqProofs only [Try.f34, Option.getD_some, argS, IsRack_F, searchFrom_F, until_F, hR, tkR, hr, ev_pnil, ZB, Int.reduceToNat, Nat.reduceLT, Nat.reduceLeDiff, Int.reduceLE, Int.reduceLT, Nat.reduceEqDiff, Nat.reduceSub, SB, SV.known, packR, ne_eq, reduceCtorEq, Nat.reduceEqDiff, ↓reduceIte, if_true, if_false, eq_self, Nat.reduceAdd, Nat.reduceMul, Nat.reduceSub, forall_const, oneCellS, litOne, flat1, Kd.isSca, flat, TYB]
    refine ⟨R, sortB, .inl rfl, hR, hr, rfl, rfl, fun lv hlv => ?_⟩
    have ho := unB_unO (pr := sortB) (R := R)
    cases hu : unB sortB R
    · simp -implicitDefEqProofs only [hu, ev_pnil, ZB, Int.reduceToNat, Nat.reduceLT, Nat.reduceLeDiff, Int.reduceLE, Int.reduceLT, Nat.reduceEqDiff, Nat.reduceSub, SB, SV.known, packR, ne_eq, reduceCtorEq, Nat.reduceEqDiff, ↓reduceIte, if_true, if_false, eq_self, Nat.reduceAdd, Nat.reduceMul, Nat.reduceSub, forall_const, oneCellS, litOne, flat1, Kd.isSca, flat, TYB]
      have hl7 : lv.wf 7 := SV.wf_mono (by omega) lv hlv
      refine ⟨_, _, 7, Sub.mk_id ?_ ?_ ?_ ?_ ?_, .inr ⟨lv, hl7, rfl, rfl, rfl⟩⟩
      all_goals ((try simp only [SV.ren_id, hl7, LB, subS, subH, wfS, wfH, SV.ren, renL, SObj.ren, SV.wf, SObj.wf, wfL, SV.known, Nat.reduceEqDiff, ↓reduceIte, if_true, if_false, eq_self, Nat.reduceAdd, Nat.reduceLT, Nat.reduceLeDiff, implies_true, reduceCtorEq, forall_const]) <;> simp)
    · simp -implicitDefEqProofs only [hu, ho hu, ev_pnil, ZB, Int.reduceToNat, Nat.reduceLT, Nat.reduceLeDiff, Int.reduceLE, Int.reduceLT, Nat.reduceEqDiff, Nat.reduceSub, SB, SV.known, packR, ne_eq, reduceCtorEq, Nat.reduceEqDiff, ↓reduceIte, if_true, if_false, eq_self, Nat.reduceAdd, Nat.reduceMul, Nat.reduceSub, forall_const, oneCellS, litOne, flat1, Kd.isSca, flat, TYB]
      have hl7 : lv.wf 7 := SV.wf_mono (by omega) lv hlv
      refine ⟨_, _, 7, Sub.mk_id ?_ ?_ ?_ ?_ ?_, .inr ⟨lv, hl7, rfl, rfl, rfl⟩⟩
      all_goals ((try simp only [SV.ren_id, hl7, LB, subS, subH, wfS, wfH, SV.ren, renL, SObj.ren, SV.wf, SObj.wf, wfL, SV.known, Nat.reduceEqDiff, ↓reduceIte, if_true, if_false, eq_self, Nat.reduceAdd, Nat.reduceLT, Nat.reduceLeDiff, implies_true, reduceCtorEq, forall_const]) <;> simp)
def sortingOf_F : List SV → Heap → Nat → Nat → K1 → Prop
  | [.arr R], H, n, _, κ => R.length = 24 ∧ (rackB R = false → κ (.tup [.lit (.pointer none), .bool false]) H n) ∧ (rackB R = true → ∀ lv : SV, lv.wf (n + 7) → κ (.tup [.ptr (n + 6) 0, .bool (unB sortB R)]) ((n + 6, .cells [.ptr (n + 3) 0, .mp (n + 5)] 91) :: (n + 3, .cells [.mp (n + 1), lv, .int (dep sortB R : Nat)] 82) :: (n + 1, .mp false ((kn R (dep sortB R)).zip (lvl R (dep sortB R)))) :: (n + 5, .mp false []) :: H) (n + 7))
  | _, _, _, _, _ => False
--@tbl sortingOf = impl.sortingOf
theorem sortingOf_T : ∀ args H n m κ, sortingOf_F args H n m κ → GenOK Try.prog 34 args H n m κ := by
  intro args H n m κ h
  unfold sortingOf_F at h
  split at h
  · rename_i R
    obtain ⟨hR, h1, h2⟩ := h
    have := gen_new (H := H) (n := n) (m := m) (κ := κ) fn_34 ⟨tys_ok, .cons IsRack_T .nil, .cons searchFrom_T (.cons until_T .nil), mixed⟩ rfl (Nat.le_of_ble_eq_true rfl) (by simp [wfL, SV.wf]) (sortingOf_vc R hR) (fun v H' n' hψ => by
      rcases hψ with ⟨hr, rfl, rfl, rfl⟩ | ⟨hr, lv, hlv, rfl, rfl, rfl⟩
      · simpa [SV.ren, renH, SObj.ren, renL] using h1 hr
      · simpa [SV.ren, renH, SObj.ren, renL] using h2 hr (lv.ren fun k => n + k) (SV.wf_ren (fun k hk => by omega) lv hlv))
    simpa [renL, SV.ren] using this
  · exact h.elim
def fpB (R : List Int) : Bool := rackB R && unB sortB R
def fpF (R : List Int) : Int := if fpB R = true then ((dep sortB R : Nat) : Int) else 0
--@tbl FewestPours = impl.FewestPours
theorem ovf_mono {R : List Int} {d e : Nat} (h : d ≤ e) (ho : ovf R d = true) : ovf R e = true := by
  unfold ovf at *
  have := kn_mono R h
  exact decide_eq_true (by have := of_decide_eq_true ho; omega)
--@tbl CountReached = impl.CountReached
end Go.Proofs.Ytaopbefklkbmeaa
