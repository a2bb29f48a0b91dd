/- Texts of this claim, joined (Sort, EqR, CS, Vw0, GL, Cert, Sl). -/
import Derived.Test.YtckcojgfgcjamaaQ1
import Derived.Test.YtckcojgfgcjamaaQ2
import Derived.Test.YtckcojgfgcjamaaQ3
import Derived.Test.YtckcojgfgcjamaaQ4
import Derived.Test.YtckcojgfgcjamaaQ5
import Derived.ChangeKeysEq
import Derived.Laws.StructEq
set_option maxRecDepth 100000
set_option linter.unusedSimpArgs false
set_option linter.unusedVariables false
namespace Go.Proofs.Ytckcojgfgcjamaa
open Go Go.RowKit
theorem runs_head (t : List Int) (ht : t.length = 4) (h : 0 < layN t) : (runsL t).getD 0 0 = t.getD 0 0 := by
  have key : ∀ i, 0 < i → i ≤ 4 → (RL t i).getD 0 0 = t.getD 0 0 ∧ 2 ≤ (RL t i).length := by
    intro i
    induction i with
    | zero => intro h; omega
    | succ i ih =>
      intro _ hi
      rw [RL_succ t i (by omega)]
      by_cases hi0 : i = 0
      · subst hi0
        rw [RL_zero]
        simp [stepR]
      · obtain ⟨h1, h2⟩ := ih (by omega) (by omega)
        unfold stepR
        split
        · refine ⟨?_, by simpa using h2⟩
          rw [getD_set' _ _ _ _ (by omega), if_neg (by omega), h1]
        · refine ⟨?_, by rw [List.length_append]; omega⟩
          rw [getD_app _ _ _ (by omega), h1]
  exact (key (layN t) h (lay_le t ht)).1
def rcN (R : List Int) (k : Nat) : Nat := (runsL (tubeAt R k)).length / 2
def rcC (R : List Int) (k : Nat) : Int := (runsL (tubeAt R k)).getD 0 0
def srtF (R : List Int) : Nat → Option (List Int)
  | 0 => some []
  | k + 1 => match srtF R k with
    | none => none
    | some s => if rcN R k = 0 then some s else if 1 < rcN R k ∨ rcC R k ∈ s then none else some (s ++ [rcC R k])
def sortB (R : List Int) : Bool := (srtF R 6).isSome
theorem srt_none {R : List Int} {k : Nat} (h : srtF R k = none) : ∀ j, srtF R (k + j) = none
  | 0 => h
  | j + 1 => by
    have := srt_none h j
    show srtF R (k + j + 1) = none
    simp only [srtF, this]
theorem sort_false {R : List Int} {k : Nat} (h : srtF R k = none) (hk : k ≤ 6) : sortB R = false := by
  have := srt_none h (6 - k)
  rw [show k + (6 - k) = 6 by omega] at this
  simp [sortB, this]
theorem srt_step {R : List Int} {k : Nat} {s : List Int} (h : srtF R k = some s) : srtF R (k + 1) = if rcN R k = 0 then some s else if 1 < rcN R k ∨ rcC R k ∈ s then none else some (s ++ [rcC R k]) := by
  simp only [srtF, h]
theorem srt_len {R : List Int} : ∀ {k : Nat} {s : List Int}, srtF R k = some s → s.length ≤ k
  | 0, s, h => by cases h; simp
  | k + 1, s, h => by
    cases hk : srtF R k with
    | none => simp [srtF, hk] at h
    | some s' =>
      have := srt_len hk
      rw [srt_step hk] at h
      split at h
      · cases h; omega
      · split at h
        · cases h
        · cases h; simp; omega
def seenL (s : List Int) : List Bool := (List.range 6).map fun c : Nat => decide ((c : Int) ∈ s)
theorem seenL_len (s : List Int) : (seenL s).length = 6 := by simp [seenL]
theorem seenL_nil : seenL [] = List.replicate 6 false := by simp [seenL, List.range, List.range.loop]
theorem seenL_getD (s : List Int) (c : Int) (h : 0 ≤ c ∧ c ≤ 5) : (seenL s).getD c.toNat false = decide (c ∈ s) := by
  have : ((c.toNat : Nat) : Int) = c := by omega
  simp [seenL, List.getD, show c.toNat < 6 by omega, this]
theorem seenL_set (s : List Int) (c : Int) (h : 0 ≤ c ∧ c ≤ 5) : (seenL s).set c.toNat true = seenL (s ++ [c]) := by
  apply List.ext_getElem (by simp [seenL])
  intro k h1 h2
  simp only [List.getElem_set, seenL, List.getElem_map, List.getElem_range]
  by_cases hk : c.toNat = k
  · rw [if_pos hk]
    have : (k : Int) = c := by omega
    simp [this]
  · rw [if_neg hk]
    have : ¬ (k : Int) = c := by omega
    simp [this]
theorem rc_facts {R : List Int} (hR : R.length = 24) (hr : rackB R = true) {k : Nat} (hk : k < 6) (h : 0 < rcN R k) : 0 ≤ rcC R k ∧ rcC R k ≤ 5 := by
  have hl := tubeAt_len hR hk
  have hb := tubeAt_ok hr hk
  have h0 : 0 < layN (tubeAt R k) := (runs_bottom _ hl hb).1.2 (by unfold crN; unfold rcN at h; omega)
  unfold rcC
  rw [runs_head _ hl h0]
  have := (tube_cells hl hb).1 0 h0
  omega
--@tbl isSorted = impl.isSorted
theorem isSorted_ok (R : List Int) (hR : R.length = 24) (hr : rackB R = true) : PureH Try.prog 90 [.arr R] [] (.bool (sortB R)) := by
  have tkR : R.take 24 = R := List.take_of_length_le (by omega)
  refine pure_of_vc (X := ⟨Try.prog, tys, [], [(114, runs_F)], true, true, 0, [], []⟩) fn_90 ⟨tys_ok, .nil, (.cons runs_T .nil), mixed⟩ (n0 := 0) (Nat.le_of_ble_eq_true rfl) (by simp [wfL, SV.wf]) (wfH_spec (by simp [wfH, SObj.wf, wfL, SV.wf])) (Nat.le_refl _) (fun _ => by simp [SV.wf, wfL]) ?_
  simp -implicitDefEqProofs only [Try.f90, Option.getD_some, argS, runs_F, hR, tkR, ZB, Int.reduceToNat, Nat.reduceLT, Nat.reduceLeDiff, Int.reduceLE, Int.reduceLT, Nat.reduceEqDiff, Nat.reduceSub, SB, SV.known, packR, ne_eq, reduceCtorEq, Nat.reduceEqDiff, ↓reduceIte, if_true, if_false, eq_self, Nat.reduceAdd, Nat.reduceMul, Nat.reduceSub, forall_const, oneCellS, litOne, flat1, Kd.isSca, flat, TYB]
  refine loop_intro (fun s : Nat × List Int => [(9, .int s.1), (8, .arr R), (3, .ptr 1 0), (2, .bool false), (1, .ptr 0 0)]) (fun s => [(1, .bls (seenL s.2) 116), (0, .ints R 27)]) 2 (fun s => s.1 ≤ 6 ∧ srtF R s.1 = some s.2) (fun s => 6 - s.1) ?_ ?_
  · refine ⟨(0, []), ⟨by omega, rfl⟩, Sub.mk_id ?_ ?_ ?_ ?_ ?_⟩
    all_goals simp only [seenL_nil, LB, subS, subH, wfS, wfH, SV.ren, renL, SObj.ren, SV.wf, SObj.wf, wfL, SV.known, Nat.reduceEqDiff, ↓reduceIte, if_true, if_false, eq_self, Nat.reduceAdd, Nat.reduceLT, Nat.reduceLeDiff, implies_true, reduceCtorEq, forall_const]
  · rintro ⟨i, s⟩ ⟨hi, hs⟩
    simp only at hi hs
    have eT : List.take 4 (List.drop (i * 4) R) = tubeAt R i := rfl
    have sl := seenL_len s
    by_cases hlt : i < 6
    · have hil : (i : Int) < 6 := by omega
      have hl := tubeAt_len hR hlt
      have tk4 : (tubeAt R i).take 4 = tubeAt R i := List.take_of_length_le (by omega)
      have es := srt_step hs
      have en : (runsL (tubeAt R i)).length / 2 = rcN R i := rfl
      obtain ⟨n, hn, hn4, _⟩ := runsL_even _ hl
      have ern : rcN R i = n := by unfold rcN; omega
      have gd : ∀ J : List Int, 0 < rcN R i → (runsL (tubeAt R i) ++ J).getD 0 0 = rcC R i := fun J h => getD_app _ _ _ (by omega)
      simp -implicitDefEqProofs only [lk_normal, runs_F, freshK, Wrap.ap, hil, hR, eT, hl, tk4, en, sl, ZB, Int.reduceToNat, Nat.reduceLT, Nat.reduceLeDiff, Int.reduceLE, Int.reduceLT, Nat.reduceEqDiff, Nat.reduceSub, SB, SV.known, packR, ne_eq, reduceCtorEq, Nat.reduceEqDiff, ↓reduceIte, if_true, if_false, eq_self, Nat.reduceAdd, Nat.reduceMul, Nat.reduceSub, forall_const, oneCellS, litOne, flat1, Kd.isSca, flat, TYB]
      refine ⟨by omega, fun h0 => ?_, fun h0 cap junk hj => ?_⟩
      · have hz : rcN R i = 0 := by rw [ern]; rw [h0] at hn; simp at hn; omega
        rw [if_pos hz] at es
        (try (and_intros <;> try (first | omega | (unfold In64; omega) | trivial | assumption)))
        refine ⟨(i + 1, s), ?_, ?_, Sub.mk_id ?_ ?_ ?_ ?_ ?_⟩
        all_goals (try (simp only [es, LB, subS, subH, wfS, wfH, SV.ren, renL, SObj.ren, SV.wf, SObj.wf, wfL, SV.known, Nat.reduceEqDiff, ↓reduceIte, if_true, if_false, eq_self, Nat.reduceAdd, Nat.reduceLT, Nat.reduceLeDiff, implies_true, reduceCtorEq, forall_const]; done))
        all_goals (try (simp only [es, LB, subS, subH, wfS, wfH, SV.ren, renL, SObj.ren, SV.wf, SObj.wf, wfL, SV.known, Nat.reduceEqDiff, ↓reduceIte, if_true, if_false, eq_self, Nat.reduceAdd, Nat.reduceLT, Nat.reduceLeDiff, implies_true, reduceCtorEq, forall_const]; simp; done))
        all_goals (try (simp only [es, LB, subS, subH, wfS, wfH, SV.ren, renL, SObj.ren, SV.wf, SObj.wf, wfL, SV.known, Nat.reduceEqDiff, ↓reduceIte, if_true, if_false, eq_self, Nat.reduceAdd, Nat.reduceLT, Nat.reduceLeDiff, implies_true, reduceCtorEq, forall_const]; (and_intros <;> (first | omega | rfl | (simp; done) | (simp; omega))); done))
        all_goals (try dsimp only)
        all_goals (and_intros <;> try (first | omega | (unfold In64; omega) | trivial | assumption))
        all_goals (try exact es)
      · have hp : 0 < rcN R i := by
          rcases Nat.eq_zero_or_pos n with hz | hz
          · exact absurd (List.length_eq_zero_iff.1 (by rw [hn, hz])) h0
          · omega
        rw [if_neg (by omega)] at es
        have rc := rc_facts hR hr hlt hp
        have g0 := gd junk hp
        have sg := seenL_getD s (rcC R i) rc
        have sw := seenL_set s (rcC R i) rc
        have lj : 0 < (runsL (tubeAt R i) ++ junk).length := by rw [List.length_append]; omega
        refine ⟨fun hz => absurd hz (by omega), fun _ => ⟨fun h1 => ?_, fun h1 => ?_⟩⟩
        · rw [if_pos (by omega)] at es
          rw [sort_false es (by omega)]
        · cases hd : decide (rcC R i ∈ s)
          · rw [if_neg (fun hx => hx.elim (fun h => by omega) (of_decide_eq_false hd))] at es
            simp -implicitDefEqProofs only [lk_normal, g0, sg, sw, hd, sl, lj, ZB, Int.reduceToNat, Nat.reduceLT, Nat.reduceLeDiff, Int.reduceLE, Int.reduceLT, Nat.reduceEqDiff, Nat.reduceSub, SB, SV.known, packR, ne_eq, reduceCtorEq, Nat.reduceEqDiff, ↓reduceIte, if_true, if_false, eq_self, Nat.reduceAdd, Nat.reduceMul, Nat.reduceSub, forall_const, oneCellS, litOne, flat1, Kd.isSca, flat, TYB]
            (try (and_intros <;> try (first | omega | (unfold In64; omega) | trivial | assumption)))
            refine ⟨(i + 1, s ++ [rcC R i]), ?_, ?_, Sub.mk_id ?_ ?_ ?_ ?_ ?_⟩
            all_goals (try (simp only [es, LB, subS, subH, wfS, wfH, SV.ren, renL, SObj.ren, SV.wf, SObj.wf, wfL, SV.known, Nat.reduceEqDiff, ↓reduceIte, if_true, if_false, eq_self, Nat.reduceAdd, Nat.reduceLT, Nat.reduceLeDiff, implies_true, reduceCtorEq, forall_const]; done))
            all_goals (try (simp only [es, LB, subS, subH, wfS, wfH, SV.ren, renL, SObj.ren, SV.wf, SObj.wf, wfL, SV.known, Nat.reduceEqDiff, ↓reduceIte, if_true, if_false, eq_self, Nat.reduceAdd, Nat.reduceLT, Nat.reduceLeDiff, implies_true, reduceCtorEq, forall_const]; simp; done))
            all_goals (try (simp only [es, LB, subS, subH, wfS, wfH, SV.ren, renL, SObj.ren, SV.wf, SObj.wf, wfL, SV.known, Nat.reduceEqDiff, ↓reduceIte, if_true, if_false, eq_self, Nat.reduceAdd, Nat.reduceLT, Nat.reduceLeDiff, implies_true, reduceCtorEq, forall_const]; (and_intros <;> (first | omega | rfl | (simp; done) | (simp; omega))); done))
            all_goals (try dsimp only)
            all_goals (and_intros <;> try (first | omega | (unfold In64; omega) | trivial | assumption))
          · rw [if_pos (.inr (of_decide_eq_true hd))] at es
            simp -implicitDefEqProofs only [lk_normal, g0, sg, sw, hd, sl, lj, ZB, Int.reduceToNat, Nat.reduceLT, Nat.reduceLeDiff, Int.reduceLE, Int.reduceLT, Nat.reduceEqDiff, Nat.reduceSub, SB, SV.known, packR, ne_eq, reduceCtorEq, Nat.reduceEqDiff, ↓reduceIte, if_true, if_false, eq_self, Nat.reduceAdd, Nat.reduceMul, Nat.reduceSub, forall_const, oneCellS, litOne, flat1, Kd.isSca, flat, TYB]
            rw [sort_false es (by omega)]
            (try (and_intros <;> try (first | omega | (unfold In64; omega) | trivial | assumption)))
    · have hil : ¬ (i : Int) < 6 := by omega
      obtain rfl : i = 6 := by omega
      simp -implicitDefEqProofs only [lk_normal, hil, ZB, Int.reduceToNat, Nat.reduceLT, Nat.reduceLeDiff, Int.reduceLE, Int.reduceLT, Nat.reduceEqDiff, Nat.reduceSub, SB, SV.known, packR, ne_eq, reduceCtorEq, Nat.reduceEqDiff, ↓reduceIte, if_true, if_false, eq_self, Nat.reduceAdd, Nat.reduceMul, Nat.reduceSub, forall_const, oneCellS, litOne, flat1, Kd.isSca, flat, TYB]
      simp [sortB, hs]
def isSorted_F : List SV → Heap → Option (Prop × SV)
  | [.arr R], _ => some (R.length = 24 ∧ rackB R = true, .bool (sortB R))
  | _, _ => none
theorem isSorted_T : ∀ args H p v, isSorted_F args H = some (p, v) → p → PureH Try.prog 90 args H v := by
  intro args H p v h hp
  unfold isSorted_F at h
  split at h
  · cases h; exact (isSorted_ok _ hp.1 hp.2).any _
  · cases h
--@tbl l1Has = spec.l1Has
theorem l1Has_ok (L : List Int) (e cap len : Nat) (c : Int) (hl : len ≤ L.length) (hm : len ≤ 1000000) : PureH Try.prog 116 [.slice 0 0 len cap, .int c] [(0, .ints L e)] (.bool (decide (c ∈ L.take len))) := by
  refine pure_of_vc (X := ⟨Try.prog, tys, [], [], true, true, 1, [], []⟩) fn_116 ⟨tys_ok, .nil, .nil, mixed⟩ (n0 := 1) (Nat.le_of_ble_eq_true rfl) (by simp [wfL, SV.wf]) (wfH_spec (by simp [wfH, SObj.wf, wfL, SV.wf])) (Nat.le_refl _) (fun _ => by simp [SV.wf, wfL]) ?_
  simp -implicitDefEqProofs only [Try.f116, Option.getD_some, argS, ZB, Int.reduceToNat, Nat.reduceLT, Nat.reduceLeDiff, Int.reduceLE, Int.reduceLT, Nat.reduceEqDiff, Nat.reduceSub, SB, SV.known, packR, ne_eq, reduceCtorEq, Nat.reduceEqDiff, ↓reduceIte, if_true, if_false, eq_self, Nat.reduceAdd, Nat.reduceMul, Nat.reduceSub, forall_const, oneCellS, litOne, flat1, Kd.isSca, flat, TYB]
  refine loop_intro (fun i : Nat => [(5, .int i), (0, .slice 0 0 len cap), (1, .int c)]) (fun _ => [(0, .ints L e)]) 1 (fun i => i ≤ len ∧ ∀ k, k < i → ¬ L.getD k 0 = c) (fun i => len - i) ?_ ?_
  · refine ⟨0, ?_, Sub.mk_id ?_ ?_ ?_ ?_ ?_⟩
    all_goals (try (simp only [LB, subS, subH, wfS, wfH, SV.ren, renL, SObj.ren, SV.wf, SObj.wf, wfL, SV.known, Nat.reduceEqDiff, ↓reduceIte, if_true, if_false, eq_self, Nat.reduceAdd, Nat.reduceLT, Nat.reduceLeDiff, implies_true, reduceCtorEq, forall_const]; done))
    all_goals (try (simp only [LB, subS, subH, wfS, wfH, SV.ren, renL, SObj.ren, SV.wf, SObj.wf, wfL, SV.known, Nat.reduceEqDiff, ↓reduceIte, if_true, if_false, eq_self, Nat.reduceAdd, Nat.reduceLT, Nat.reduceLeDiff, implies_true, reduceCtorEq, forall_const]; simp; done))
    all_goals (try (simp only [LB, subS, subH, wfS, wfH, SV.ren, renL, SObj.ren, SV.wf, SObj.wf, wfL, SV.known, Nat.reduceEqDiff, ↓reduceIte, if_true, if_false, eq_self, Nat.reduceAdd, Nat.reduceLT, Nat.reduceLeDiff, implies_true, reduceCtorEq, forall_const]; (and_intros <;> (first | omega | rfl | (simp; done) | (simp; omega))); done))
    all_goals (try dsimp only)
    all_goals (and_intros <;> try (first | omega | (unfold In64; omega) | trivial | assumption))
  · rintro i ⟨hi, hn⟩
    by_cases hlt : i < len
    · have hil : (i : Int) < len := by omega
      simp -implicitDefEqProofs only [lk_normal, hil, ZB, Int.reduceToNat, Nat.reduceLT, Nat.reduceLeDiff, Int.reduceLE, Int.reduceLT, Nat.reduceEqDiff, Nat.reduceSub, SB, SV.known, packR, ne_eq, reduceCtorEq, Nat.reduceEqDiff, ↓reduceIte, if_true, if_false, eq_self, Nat.reduceAdd, Nat.reduceMul, Nat.reduceSub, forall_const, oneCellS, litOne, flat1, Kd.isSca, flat, TYB]
      refine ⟨by omega, by omega, fun h => ?_, fun h => ?_⟩
      · have : c ∈ L.take len := List.mem_take_iff_getElem.2 ⟨i, by omega, by rw [← h]; simp [List.getD, List.getElem?_eq_getElem (show i < L.length by omega)]⟩
        simp [this]
      · (try (and_intros <;> try (first | omega | (unfold In64; omega) | trivial | assumption)))
        refine ⟨i + 1, ?_, ?_, Sub.mk_id ?_ ?_ ?_ ?_ ?_⟩
        all_goals (try (simp only [LB, subS, subH, wfS, wfH, SV.ren, renL, SObj.ren, SV.wf, SObj.wf, wfL, SV.known, Nat.reduceEqDiff, ↓reduceIte, if_true, if_false, eq_self, Nat.reduceAdd, Nat.reduceLT, Nat.reduceLeDiff, implies_true, reduceCtorEq, forall_const]; done))
        all_goals (try (simp only [LB, subS, subH, wfS, wfH, SV.ren, renL, SObj.ren, SV.wf, SObj.wf, wfL, SV.known, Nat.reduceEqDiff, ↓reduceIte, if_true, if_false, eq_self, Nat.reduceAdd, Nat.reduceLT, Nat.reduceLeDiff, implies_true, reduceCtorEq, forall_const]; simp; done))
        all_goals (try (simp only [LB, subS, subH, wfS, wfH, SV.ren, renL, SObj.ren, SV.wf, SObj.wf, wfL, SV.known, Nat.reduceEqDiff, ↓reduceIte, if_true, if_false, eq_self, Nat.reduceAdd, Nat.reduceLT, Nat.reduceLeDiff, implies_true, reduceCtorEq, forall_const]; (and_intros <;> (first | omega | rfl | (simp; done) | (simp; omega))); done))
        all_goals (try dsimp only)
        all_goals (and_intros <;> try (first | omega | (unfold In64; omega) | trivial | assumption))
        intro k hk
        by_cases hki : k = i
        · subst hki; exact h
        · exact hn k (by omega)
    · have hil : ¬ (i : Int) < len := by omega
      obtain rfl : i = len := by omega
      simp -implicitDefEqProofs only [lk_normal, hil, ZB, Int.reduceToNat, Nat.reduceLT, Nat.reduceLeDiff, Int.reduceLE, Int.reduceLT, Nat.reduceEqDiff, Nat.reduceSub, SB, SV.known, packR, ne_eq, reduceCtorEq, Nat.reduceEqDiff, ↓reduceIte, if_true, if_false, eq_self, Nat.reduceAdd, Nat.reduceMul, Nat.reduceSub, forall_const, oneCellS, litOne, flat1, Kd.isSca, flat, TYB]
      have : ¬ c ∈ L.take i := fun hc => by
        obtain ⟨k, hk, he⟩ := List.mem_take_iff_getElem.1 hc
        refine hn k (by omega) ?_
        simp only [List.getD, List.getElem?_eq_getElem (show k < L.length by omega), Option.getD_some]
        exact he
      simp [this]
def l1Has_F : List SV → Heap → Option (Prop × SV)
  | [.slice b 0 len _, .int c], H => match hget H b with
    | some (.ints L _) => some (len ≤ L.length ∧ len ≤ 1000000, .bool (decide (c ∈ L.take len)))
    | _ => none
  | _, _ => none
theorem l1Has_T : ∀ args H p v, l1Has_F args H = some (p, v) → p → PureH Try.prog 116 args H v := by
  intro args H p v h hp
  unfold l1Has_F at h
  split at h
  · rename_i b len cap c
    split at h
    · rename_i L e hb
      cases h
      exact one_block (l1Has_ok L e cap len c hp.1 hp.2) hb rfl (fun _ => trivial)
    · cases h
  · cases h
--@tbl l2Sorted = spec.l2Sorted
theorem l2Sorted_ok (R : List Int) (hR : R.length = 24) (hr : rackB R = true) : PureH Try.prog 91 [.arr R] [] (.bool (sortB R)) := by
  have tkR : R.take 24 = R := List.take_of_length_le (by omega)
  refine pure_of_vc (X := ⟨Try.prog, tys, [(116, l1Has_F)], [(115, l2Runs_F)], true, true, 0, [], []⟩) fn_91 ⟨tys_ok, (.cons l1Has_T .nil), (.cons l2Runs_T .nil), mixed⟩ (n0 := 0) (Nat.le_of_ble_eq_true rfl) (by simp [wfL, SV.wf]) (wfH_spec (by simp [wfH, SObj.wf, wfL, SV.wf])) (Nat.le_refl _) (fun _ => by simp [SV.wf, wfL]) ?_
  simp -implicitDefEqProofs only [Try.f91, Option.getD_some, argS, l1Has_F, l2Runs_F, hR, tkR, ZB, Int.reduceToNat, Nat.reduceLT, Nat.reduceLeDiff, Int.reduceLE, Int.reduceLT, Nat.reduceEqDiff, Nat.reduceSub, SB, SV.known, packR, ne_eq, reduceCtorEq, Nat.reduceEqDiff, ↓reduceIte, if_true, if_false, eq_self, Nat.reduceAdd, Nat.reduceMul, Nat.reduceSub, forall_const, oneCellS, litOne, flat1, Kd.isSca, flat, TYB]
  refine loop_intro (fun s : Nat × List Int × Nat × List Int => [(4, .int s.1), (3, .slice 1 0 s.2.1.length s.2.2.1), (2, .bool false), (1, .ptr 0 0)]) (fun s => [(1, .ints (s.2.1 ++ s.2.2.2) 3), (0, .ints R 27)]) 2 (fun s => s.1 ≤ 6 ∧ srtF R s.1 = some s.2.1 ∧ s.2.2.2.length + s.2.1.length = s.2.2.1) (fun s => 6 - s.1) ?_ ?_
  · refine ⟨(0, [], 0, []), ⟨by omega, rfl, rfl⟩, Sub.mk_id ?_ ?_ ?_ ?_ ?_⟩
    all_goals simp only [LB, subS, subH, wfS, wfH, SV.ren, renL, SObj.ren, SV.wf, SObj.wf, wfL, SV.known, Nat.reduceEqDiff, ↓reduceIte, if_true, if_false, eq_self, Nat.reduceAdd, Nat.reduceLT, Nat.reduceLeDiff, implies_true, reduceCtorEq, forall_const]
    all_goals simp
  · rintro ⟨i, s, cap, junk⟩ ⟨hi, hs, hj⟩
    simp only at hi hs hj
    have eT : List.take 4 (List.drop (i * 4) R) = tubeAt R i := rfl
    have sle := srt_len hs
    have tks : (s ++ junk).take s.length = s := List.take_left' rfl
    have lsj : (s ++ junk).length = cap := by rw [List.length_append]; omega
    by_cases hlt : i < 6
    · have hil : (i : Int) < 6 := by omega
      have hl := tubeAt_len hR hlt
      have hb := tubeAt_ok hr hlt
      have es := srt_step hs
      have en : (runsL (tubeAt R i)).length / 2 = rcN R i := rfl
      obtain ⟨n, hn, hn4, _⟩ := runsL_even _ hl
      have ern : rcN R i = n := by unfold rcN; omega
      have gd : ∀ J : List Int, 0 < rcN R i → (runsL (tubeAt R i) ++ J).getD 0 0 = rcC R i := fun J h => getD_app _ _ _ (by omega)
      simp -implicitDefEqProofs only [lk_normal, l1Has_F, l2Runs_F, freshK, Wrap.ap, hil, hR, eT, hl, hb, en, tks, lsj, ZB, Int.reduceToNat, Nat.reduceLT, Nat.reduceLeDiff, Int.reduceLE, Int.reduceLT, Nat.reduceEqDiff, Nat.reduceSub, SB, SV.known, packR, ne_eq, reduceCtorEq, Nat.reduceEqDiff, ↓reduceIte, if_true, if_false, eq_self, Nat.reduceAdd, Nat.reduceMul, Nat.reduceSub, forall_const, oneCellS, litOne, flat1, Kd.isSca, flat, TYB]
      have r1 : (List.replicate 1 (0 : Int)) = [0] := rfl
      refine ⟨by omega, by omega, fun cap1 junk1 hj1 => ⟨fun h1 => ?_, fun h1 => ?_⟩⟩
      · rw [if_neg (by omega), if_pos (.inl (by omega))] at es
        rw [sort_false es (by omega)]
      · refine ⟨fun h2 => ?_, fun h2 => ?_⟩
        · rw [gd junk1 (by omega)]
          rw [if_neg (by omega)] at es
          refine ⟨by omega, by rw [List.length_append]; omega, ⟨by omega, by omega⟩, fun hm => ?_, fun hm => ⟨fun _ => ?_, fun hx => absurd h2 hx⟩⟩
          · rw [if_pos (.inr hm)] at es
            rw [sort_false es (by omega)]
          · rw [if_neg (fun hx => hx.elim (fun h => by omega) hm)] at es
            refine ⟨by omega, by rw [List.length_append]; omega, by omega, by omega, by omega, fun junk2 cap2 hj2 => ?_⟩
            (try (and_intros <;> try (first | omega | (unfold In64; omega) | trivial | assumption)))
            refine ⟨(i + 1, s ++ [rcC R i], cap2, junk2), ?_, ?_, Sub.mk_to 1 4 ?_ ?_ ?_ ?_ ?_ ?_ ?_⟩
            all_goals (try (simp only [es, r1, List.set_cons_zero, List.take_succ_cons, List.take_zero, List.length_append, List.length_cons, List.length_nil, List.append_nil, LB, subS, subH, wfS, wfH, SV.ren, renL, SObj.ren, SV.wf, SObj.wf, wfL, SV.known, Nat.reduceEqDiff, ↓reduceIte, if_true, if_false, eq_self, Nat.reduceAdd, Nat.reduceLT, Nat.reduceLeDiff, implies_true, reduceCtorEq, forall_const]; done))
            all_goals (try (simp only [es, r1, List.set_cons_zero, List.take_succ_cons, List.take_zero, List.length_append, List.length_cons, List.length_nil, List.append_nil, LB, subS, subH, wfS, wfH, SV.ren, renL, SObj.ren, SV.wf, SObj.wf, wfL, SV.known, Nat.reduceEqDiff, ↓reduceIte, if_true, if_false, eq_self, Nat.reduceAdd, Nat.reduceLT, Nat.reduceLeDiff, implies_true, reduceCtorEq, forall_const]; simp; done))
            all_goals (try (simp only [es, r1, List.set_cons_zero, List.take_succ_cons, List.take_zero, List.length_append, List.length_cons, List.length_nil, List.append_nil, LB, subS, subH, wfS, wfH, SV.ren, renL, SObj.ren, SV.wf, SObj.wf, wfL, SV.known, Nat.reduceEqDiff, ↓reduceIte, if_true, if_false, eq_self, Nat.reduceAdd, Nat.reduceLT, Nat.reduceLeDiff, implies_true, reduceCtorEq, forall_const]; (and_intros <;> (first | omega | rfl | (simp; done) | (simp; omega))); done))
            all_goals (try dsimp only)
            all_goals (and_intros <;> try (first | omega | (unfold In64; omega) | trivial | assumption))
            all_goals (try simp)
            all_goals (try omega)
        · refine ⟨fun hx => absurd hx h2, fun _ => ?_⟩
          rw [if_pos (by omega)] at es
          (try (and_intros <;> try (first | omega | (unfold In64; omega) | trivial | assumption)))
          refine ⟨(i + 1, s, cap, junk), ?_, ?_, Sub.mk_id ?_ ?_ ?_ ?_ ?_⟩
          all_goals (try (simp only [es, LB, subS, subH, wfS, wfH, SV.ren, renL, SObj.ren, SV.wf, SObj.wf, wfL, SV.known, Nat.reduceEqDiff, ↓reduceIte, if_true, if_false, eq_self, Nat.reduceAdd, Nat.reduceLT, Nat.reduceLeDiff, implies_true, reduceCtorEq, forall_const]; done))
          all_goals (try (simp only [es, LB, subS, subH, wfS, wfH, SV.ren, renL, SObj.ren, SV.wf, SObj.wf, wfL, SV.known, Nat.reduceEqDiff, ↓reduceIte, if_true, if_false, eq_self, Nat.reduceAdd, Nat.reduceLT, Nat.reduceLeDiff, implies_true, reduceCtorEq, forall_const]; simp; done))
          all_goals (try (simp only [es, LB, subS, subH, wfS, wfH, SV.ren, renL, SObj.ren, SV.wf, SObj.wf, wfL, SV.known, Nat.reduceEqDiff, ↓reduceIte, if_true, if_false, eq_self, Nat.reduceAdd, Nat.reduceLT, Nat.reduceLeDiff, implies_true, reduceCtorEq, forall_const]; (and_intros <;> (first | omega | rfl | (simp; done) | (simp; omega))); done))
          all_goals (try dsimp only)
          all_goals (and_intros <;> try (first | omega | (unfold In64; omega) | trivial | assumption))
    · have hil : ¬ (i : Int) < 6 := by omega
      obtain rfl : i = 6 := by omega
      simp -implicitDefEqProofs only [lk_normal, hil, ZB, Int.reduceToNat, Nat.reduceLT, Nat.reduceLeDiff, Int.reduceLE, Int.reduceLT, Nat.reduceEqDiff, Nat.reduceSub, SB, SV.known, packR, ne_eq, reduceCtorEq, Nat.reduceEqDiff, ↓reduceIte, if_true, if_false, eq_self, Nat.reduceAdd, Nat.reduceMul, Nat.reduceSub, forall_const, oneCellS, litOne, flat1, Kd.isSca, flat, TYB]
      simp [sortB, hs]
def l2Sorted_F : List SV → Heap → Option (Prop × SV)
  | [.arr R], _ => some (R.length = 24 ∧ rackB R = true, .bool (sortB R))
  | _, _ => none
theorem l2Sorted_T : ∀ args H p v, l2Sorted_F args H = some (p, v) → p → PureH Try.prog 91 args H v := by
  intro args H p v h hp
  unfold l2Sorted_F at h
  split at h
  · cases h; exact (l2Sorted_ok _ hp.1 hp.2).any _
  · cases h
/-! IsStuck. -/
end Go.Proofs.Ytckcojgfgcjamaa
set_option maxRecDepth 100000
set_option linter.unusedSimpArgs false
set_option linter.unusedVariables false
namespace Go.Proofs.Ytckcojgfgcjamaa
open Go Go.RowKit
theorem run_of_next {P : Program} {s : Sem Value} {x : Value} {w : World} (h : (do pure (Next.value (← s)) : Sem Next).run P w = .ok (.value x) w) : s.run P w = .ok x w := by
  simp only [Sem.run_bind] at h
  generalize s.run P w = r at h
  cases r with
  | ok y w1 => simp only [Result.andThen_ok, Sem.run_pure] at h; cases h; rfl
  | halt y w1 => simp only [Result.andThen_halt] at h; cases h
theorem runPart_int {t : TypeId} (hk : (tys t).k = .int) (L : List Int) (off : Nat) (h : off < L.length) (w : World) : (part t (ints L) off).run Try.prog w = .ok (.int .i64 (L.getD off 0)) w := by
  obtain ⟨v, x, _, h2, h3, h4⟩ := part_sound (B := fun _ => 0) (H := []) (n := 0) (κ := fun v _ _ => v = .int (L.getD off 0)) tys_ok (t := t) (L := L) (off := off) (by unfold partVC; rw [hk]; all_goals exact ⟨h, rfl⟩)
  subst h3
  have h5 := h4 w (HR.nil _ _)
  rw [h2 rfl] at h5
  exact run_of_next h5
theorem runPart_arr {t k e : Nat} (hk : (tys t).k = .arr k e) (L : List Int) (off : Nat) (h : off + (tys t).size ≤ L.length) (w : World) : (part t (ints L) off).run Try.prog w = .ok (.agg (ints ((L.drop off).take (tys t).size))) w := by
  obtain ⟨v, x, _, h2, h3, h4⟩ := part_sound (B := fun _ => 0) (H := []) (n := 0) (κ := fun v _ _ => v = .arr ((L.drop off).take (tys t).size)) tys_ok (t := t) (L := L) (off := off) (by unfold partVC; rw [hk]; all_goals exact ⟨h, rfl⟩)
  subst h3
  have h5 := h4 w (HR.nil _ _)
  rw [h2 rfl] at h5
  exact run_of_next h5
/-- Equality at a type, at every depth from some depth on. -/
def EqA (D : Nat) (t : TypeId) (s : Nat) : Prop := ∀ d, D ≤ d → ∀ (L M : List Int), L.length = s → M.length = s → ∀ w, (Op.equalIn d t (.agg (ints L)) (.agg (ints M))).run Try.prog w = .ok (decide (L = M)) w
theorem take_split (L : List Int) (c k : Nat) : L.take ((k + 1) * c) = L.take c ++ (L.drop c).take (k * c) := by
  rw [show (k + 1) * c = c + k * c by rw [Nat.add_mul, Nat.one_mul, Nat.add_comm], List.take_add]
theorem items_run {d : Nat} {e : TypeId} {c : Nat} (L M : List Int) (hst : ∀ a, (a + 1) * c ≤ L.length → (a + 1) * c ≤ M.length → ∀ w, ∃ x y, (part e (ints L) (a * c)).run Try.prog w = .ok x w ∧ (part e (ints M) (a * c)).run Try.prog w = .ok y w ∧
      (Op.equalIn d e x y).run Try.prog w = .ok (decide ((L.drop (a * c)).take c = (M.drop (a * c)).take c)) w) :
    ∀ (k a : Nat), (a + k) * c ≤ L.length → (a + k) * c ≤ M.length → ∀ w, (Op.eqItems d e c (ints L) (ints M) (List.range' a k)).run Try.prog w = .ok (decide ((L.drop (a * c)).take (k * c) = (M.drop (a * c)).take (k * c))) w
  | 0, a, _, _, w => by simp [Op.eqItems]
  | k + 1, a, h1, h2, w => by
    have le : (a + 1) * c ≤ (a + (k + 1)) * c := Nat.mul_le_mul_right c (by omega)
    obtain ⟨x, y, p1, p2, p3⟩ := hst a (by omega) (by omega) w
    have ih := items_run L M hst k (a + 1) (by rw [show a + 1 + k = a + (k + 1) by omega]; exact h1) (by rw [show a + 1 + k = a + (k + 1) by omega]; exact h2) w
    have hac : (a + 1) * c = a * c + c := by rw [Nat.add_mul, Nat.one_mul]
    have hkc : (a + (k + 1)) * c = a * c + c + k * c := by rw [Nat.add_mul, Nat.add_mul, Nat.one_mul]; omega
    rw [List.range'_succ]
    simp only [Op.eqItems, Sem.run_bind, p1, p2, p3, Result.andThen_ok]
    rw [take_split, take_split, List.drop_drop, List.drop_drop, ← hac]
    by_cases hd : (L.drop (a * c)).take c = (M.drop (a * c)).take c
    · simp only [hd, decide_true, Bool.not_true, Bool.false_eq_true, if_false]
      rw [ih]
      simp
    · have : ¬ ((L.drop (a * c)).take c ++ (L.drop ((a + 1) * c)).take (k * c) = (M.drop (a * c)).take c ++ (M.drop ((a + 1) * c)).take (k * c)) := fun h => hd (List.append_inj_left h (by rw [List.length_take, List.length_take, List.length_drop, List.length_drop]; omega))
      simp [hd, this]
theorem eqA_ints {t e n : Nat} {i : TypeInfo} (hu : Try.prog.underlying t = some (.array n e)) (hi : Try.prog.info? e = some i) (hc : Try.prog.cellsOf e = 1) (hk : (tys e).k = .int) (hue : Try.prog.underlying e = some (.int .i64)) : EqA 2 t n := by
  intro d hd L M hL hM w
  obtain ⟨d, rfl⟩ : ∃ d', d = d' + 1 + 1 := ⟨d - 2, by omega⟩
  rw [run_equalIn_array w (d + 1) (ints L) (ints M) hu hi, hc, List.range_eq_range', items_run L M (fun a h1 h2 w => ⟨_, _, runPart_int hk L (a * 1) (by omega) w, runPart_int hk M (a * 1) (by omega) w, ?_⟩) n 0 (by omega) (by omega) w]
  · simp [List.take_of_length_le, hL, hM]
  · rw [run_equalIn_int w d e .i64 .i64 _ _ hue]
    have one : ∀ N : List Int, a * 1 < N.length → (N.drop (a * 1)).take 1 = [N.getD (a * 1) 0] := fun N h => by
      rw [List.drop_eq_getElem_cons h, List.take_succ_cons, List.take_zero]
      simp only [List.getD, List.getElem?_eq_getElem h, Option.getD_some]
    rw [one L (by omega), one M (by omega)]
    have : (L.getD (a * 1) 0 == M.getD (a * 1) 0) = decide ([L.getD (a * 1) 0] = [M.getD (a * 1) 0]) := by
      simp only [List.cons.injEq, and_true]
      rfl
    rw [this]
theorem eqA_arr {t e n c D k e' : Nat} {i : TypeInfo} (hu : Try.prog.underlying t = some (.array n e)) (hi : Try.prog.info? e = some i) (hc : Try.prog.cellsOf e = c) (hs : (tys e).size = c) (hk : (tys e).k = .arr k e') (he : EqA D e c) : EqA (D + 1) t (n * c) := by
  intro d hd L M hL hM w
  obtain ⟨d, rfl⟩ : ∃ d', d = d' + 1 := ⟨d - 1, by omega⟩
  have mul1 : ∀ a, (a + 1) * c = a * c + c := fun a => by rw [Nat.add_mul, Nat.one_mul]
  rw [run_equalIn_array w d (ints L) (ints M) hu hi, hc, List.range_eq_range', items_run L M (fun a h1 h2 w => ⟨_, _, runPart_arr hk L (a * c) (by rw [hs]; have := mul1 a; omega) w, runPart_arr hk M (a * c) (by rw [hs]; have := mul1 a; omega) w, ?_⟩) n 0 (by rw [Nat.zero_add]; omega) (by rw [Nat.zero_add]; omega) w]
  · simp [List.take_of_length_le, hL, hM]
  · rw [hs]
    exact he d (by omega) _ _ (by rw [List.length_take, List.length_drop]; have := mul1 a; omega) (by rw [List.length_take, List.length_drop]; have := mul1 a; omega) w
theorem eqA_one {t e c D k e' : Nat} {f : Field} (hu : Try.prog.underlying t = some (.struct #[f])) (hf : f.name ≠ "_") (hft : f.type = e) (hfo : f.offset = 0) (hs : (tys e).size = c) (hk : (tys e).k = .arr k e') (hp : Try.prog.stoodInHeld t = false) (he : EqA D e c) : EqA (D + 1) t c := by
  intro d hd L M hL hM w
  obtain ⟨d, rfl⟩ : ∃ d', d = d' + 1 := ⟨d - 1, by omega⟩
  have hfs : Try.prog.fieldsOf t = #[f] := by simp [Program.fieldsOf, hu]
  rw [run_equalIn_struct w d t (ints L) (ints M) (by rw [hfs]; exact hu) hp, hfs]
  have p1 := runPart_arr hk L 0 (by omega) w
  have p2 := runPart_arr hk M 0 (by omega) w
  rw [hs, List.drop_zero, List.take_of_length_le (by omega)] at p1 p2
  have h3 := he d (by omega) L M hL hM w
  simp only [Op.eqFields, if_pos hf, hft, hfo, Sem.run_bind, p1, p2, h3, Result.andThen_ok]
  by_cases hx : L = M
  · simp [hx]
  · simp [hx]
theorem eqI_of {t s D : Nat} (hD : D ≤ 10000) (h : EqA D t s) (hg : Try.prog.eqGuardType Try.prog.depth t = false) : EqI Try.prog t s := by
  intro L M hL hM w
  refine ⟨fun x y => ?_, fun x y => ?_, h 10000 hD L M hL hM w⟩
  · simp [eqGuard, hg]
  · simp [eqGuard, hg]
theorem eqA_A4 : EqA 2 24 4 := eqA_ints (i := (Try.prog.info? 3).getD default) Try.underlying24 (by kernel_rfl) (by kernel_rfl) rfl Try.underlying3
theorem eqA_A64 : EqA 3 25 24 := eqA_arr (c := 4) (i := (Try.prog.info? 24).getD default) Try.underlying25 (by kernel_rfl) (by kernel_rfl) rfl rfl eqA_A4
theorem eqI_rack : EqI Try.prog 27 24 := eqI_of (by omega) (eqA_one Try.underlying27 (by decide) rfl rfl rfl rfl (by kernel_rfl) eqA_A64) (by kernel_rfl)
/-! Keys of maps. -/
end Go.Proofs.Ytckcojgfgcjamaa
set_option maxRecDepth 100000
set_option linter.unusedSimpArgs false
set_option linter.unusedVariables false
namespace Go.Proofs.Ytckcojgfgcjamaa
open Go Go.RowKit
def l7Good_F : List SV → Heap → Option (Prop × SV)
  | [.arr V], _ => some (V.length = 18 ∧ I64 V, .bool (isVF V))
  | _, _ => none
theorem l7Good_T : ∀ args H p v, l7Good_F args H = some (p, v) → p → PureH Try.prog 67 args H v := by
  intro args H p v h hp
  unfold l7Good_F at h
  split at h
  · cases h; exact (by rw [← good_view hp.1 hp.2]; exact (l7Good_ok _ hp.1).any _)
  · cases h
/-! Orders are some, and not too many. -/
def fac : Nat → Nat
  | 0 => 1
  | n + 1 => fac n * (n + 1)
theorem fac_pos : ∀ n, 1 ≤ fac n
  | 0 => by simp [fac]
  | n + 1 => by
    have := fac_pos n
    show 1 ≤ fac n * (n + 1)
    exact Nat.le_trans this (Nat.le_mul_of_pos_right _ (by omega))
theorem fac_mono {m n : Nat} (h : m ≤ n) : fac m ≤ fac n := by
  induction n with
  | zero => exact Nat.le_of_eq (by rw [show m = 0 by omega])
  | succ n ih =>
    by_cases hm : m = n + 1
    · subst hm; exact Nat.le_refl _
    · exact Nat.le_trans (ih (by omega)) (Nat.le_mul_of_pos_right _ (by omega))
theorem fac_18 : fac 18 = 6402373705728000 := by decide

theorem arrN_bd (s : Int × Int) (h0 : 0 ≤ s.2) (h1 : 1 ≤ s.1) (h2 : s.1 ≤ fac s.2.toNat) : ∀ k : Nat, s.2 + k ≤ 18 → 1 ≤ (arrN k s).1 ∧ (arrN k s).1 ≤ fac (s.2 + k).toNat
  | 0, _ => by simpa [arrN] using ⟨h1, h2⟩
  | k + 1, hk => by
    obtain ⟨g1, g2⟩ := arrN_bd s h0 h1 h2 k (by omega)
    have e2 := arrN_snd k s
    have hp : s.2 + ((k + 1 : Nat) : Int) = s.2 + k + 1 := by omega
    have hf : (fac (s.2 + k + 1).toNat : Int) = fac (s.2 + k).toNat * (s.2 + k + 1) := by
      have : (s.2 + k + 1).toNat = (s.2 + k).toNat + 1 := by omega
      rw [this]
      show ((fac (s.2 + k).toNat * ((s.2 + k).toNat + 1) : Nat) : Int) = _
      rw [Int.natCast_mul]
      congr 1
      omega
    have m1 : (arrN k s).1 * (s.2 + k + 1) ≤ fac (s.2 + k).toNat * (s.2 + k + 1) := Int.mul_le_mul_of_nonneg_right g2 (by omega)
    have m0 : (arrN k s).1 ≤ (arrN k s).1 * (s.2 + k + 1) := by
      have := Int.mul_le_mul_of_nonneg_left (show (1 : Int) ≤ s.2 + k + 1 by omega) (show 0 ≤ (arrN k s).1 by omega)
      omega
    have m2 : (arrN k s).1 * ((k : Int) + 1) ≤ (arrN k s).1 * (s.2 + k + 1) := Int.mul_le_mul_of_nonneg_left (by omega) (by omega)
    have fm := fac_mono (show (s.2 + k + 1).toNat ≤ 18 by omega)
    rw [fac_18] at fm
    have w1 : IntKind.i64.wrap ((arrN k s).1 * ((arrN k s).2 + 1)) = (arrN k s).1 * (s.2 + k + 1) := by
      rw [e2]; exact wrap_in (by unfold In64; omega)
    have d0 : ((arrN k s).1 * (s.2 + k + 1)).tdiv ((k : Int) + 1) = ((arrN k s).1 * (s.2 + k + 1)) / ((k : Int) + 1) := Int.tdiv_eq_ediv_of_nonneg (by omega)
    have d1 : (arrN k s).1 ≤ ((arrN k s).1 * (s.2 + k + 1)) / ((k : Int) + 1) := (Int.le_ediv_iff_mul_le (by omega)).2 m2
    have d2 : ((arrN k s).1 * (s.2 + k + 1)) / ((k : Int) + 1) ≤ (arrN k s).1 * (s.2 + k + 1) := Int.ediv_le_self _ (by omega)
    have w2 : (arrN (k + 1) s).1 = ((arrN k s).1 * (s.2 + k + 1)) / ((k : Int) + 1) := by
      show IntKind.i64.wrap ((IntKind.i64.wrap ((arrN k s).1 * ((arrN k s).2 + 1))).tdiv ((k : Int) + 1)) = _
      rw [w1, d0]
      exact wrap_in (by unfold In64; omega)
    rw [w2, hp, hf]
    omega
theorem arrL_bd : ∀ (l : List Int) (s : Int × Int), 0 ≤ s.2 → 1 ≤ s.1 → s.1 ≤ fac s.2.toNat → Bd 0 24 l → s.2 + l.sum ≤ 18 → 1 ≤ (arrL l s).1 ∧ (arrL l s).1 ≤ 6402373705728000
  | [], s, h0, h1, h2, _, hs => by
    have fm := fac_mono (show s.2.toNat ≤ 18 by simp at hs; omega)
    rw [fac_18] at fm
    simp only [arrL]; omega
  | n :: r, s, h0, h1, h2, hb, hs => by
    have hn := hb n (by simp)
    have hr : Bd 0 24 r := fun x hx => hb x (by simp [hx])
    have hr0 := sum_bd r hr
    have hr1 : (0 : Int) ≤ r.sum := by simpa using hr0.1
    rw [List.sum_cons] at hs
    have g := arrN_bd s h0 h1 h2 n.toNat (by omega)
    have e2 := arrN_snd n.toNat s
    simp only [arrL]
    refine arrL_bd r (arrN n.toNat s) (by omega) g.1 (by rw [e2]; exact g.2) hr (by rw [e2]; omega)
theorem arrF_bd {l : List Int} (hb : Bd 0 24 l) (hs : l.sum ≤ 18) : 1 ≤ arrF l ∧ arrF l ≤ 6402373705728000 := arrL_bd l (1, 0) (by simp) (by simp) (by simp [fac]) hb (by simpa using hs)
/-! The rack in which each tube has the color of its top. -/
def csC (V : List Int) (i k q : Nat) : Int := if (q / 4 < i ∨ (q / 4 = i ∧ q % 4 < k)) ∧ ((q % 4 : Nat) : Int) < V.getD (6 + q / 4) 0 then V.getD (q / 4) 0 else 0
def csP (V : List Int) (i k : Nat) : List Int := (List.range 24).map (csC V i k)
theorem csP_len (V : List Int) (i k : Nat) : (csP V i k).length = 24 := by simp [csP]
theorem csP_get (V : List Int) (i k : Nat) {q : Nat} (h : q < 24) : (csP V i k).getD q 0 = csC V i k q := by simp [csP, List.getD, h]
theorem list_ext24 {L M : List Int} (hL : L.length = 24) (hM : M.length = 24) (h : ∀ q, q < 24 → L.getD q 0 = M.getD q 0) : L = M := by
  apply List.ext_getElem (by omega)
  intro q h1 h2
  have := h q (by omega)
  simp only [List.getD, List.getElem?_eq_getElem h1, List.getElem?_eq_getElem h2, Option.getD_some] at this
  exact this
theorem csP_zero (V : List Int) : csP V 0 0 = List.replicate 24 0 := list_ext24 (csP_len _ _ _) (by simp) fun q h => by
  rw [csP_get _ _ _ h]
  unfold csC
  rw [if_neg (by omega), List.getD_eq_getElem?_getD, List.getElem?_replicate, if_pos h]; rfl
theorem csP_set (V : List Int) {i k : Nat} (hi : i < 6) (hk : k < 4) (hm : (k : Int) < V.getD (6 + i) 0) : (csP V i k).set (i * 4 + k) (V.getD i 0) = csP V i (k + 1) := list_ext24 (by rw [List.length_set, csP_len]) (csP_len _ _ _) fun q h => by
  rw [getD_set' _ _ _ _ (by rw [csP_len]; omega), csP_get _ _ _ h, csP_get _ _ _ h]
  unfold csC
  by_cases hq : i * 4 + k = q
  · subst hq
    rw [if_pos rfl]
    have e1 : (i * 4 + k) / 4 = i := by omega
    have e2 : (i * 4 + k) % 4 = k := by omega
    rw [e1, e2, if_pos ⟨by omega, hm⟩]
  · rw [if_neg hq]
    by_cases h1 : ((q / 4 < i ∨ (q / 4 = i ∧ q % 4 < k)) ∧ ((q % 4 : Nat) : Int) < V.getD (6 + q / 4) 0)
    · rw [if_pos h1, if_pos ⟨by omega, h1.2⟩]
    · rw [if_neg h1, if_neg (fun h2 => h1 ⟨by omega, h2.2⟩)]
theorem csP_next (V : List Int) {i k : Nat} (hi : i < 6) (hk : V.getD (6 + i) 0 ≤ k) : csP V i k = csP V (i + 1) 0 := list_ext24 (csP_len _ _ _) (csP_len _ _ _) fun q h => by
  rw [csP_get _ _ _ h, csP_get _ _ _ h]
  unfold csC
  by_cases h1 : ((q / 4 < i ∨ (q / 4 = i ∧ q % 4 < k)) ∧ ((q % 4 : Nat) : Int) < V.getD (6 + q / 4) 0)
  · rw [if_pos h1, if_pos ⟨by omega, h1.2⟩]
  · rw [if_neg h1, if_neg (fun h2 => h1 ⟨by
      have := h2.2
      rcases h2.1 with h3 | h3
      · by_cases h4 : q / 4 = i
        · right; refine ⟨h4, ?_⟩; rw [h4] at this; omega
        · omega
      · omega, h2.2⟩)]
def csR (V : List Int) : List Int := csP V 6 0
theorem csR_cell {V : List Int} {i k : Nat} (hi : i < 6) (hk : k < 4) : (tubeAt (csR V) i).getD k 0 = if (k : Int) < V.getD (6 + i) 0 then V.getD i 0 else 0 := by
  rw [tubeAt_getD _ _ _ hk]
  unfold csR
  rw [csP_get _ _ _ (by omega)]
  unfold csC
  have e1 : (i * 4 + k) / 4 = i := by omega
  have e2 : (i * 4 + k) % 4 = k := by omega
  rw [e1, e2]
  by_cases h : (k : Int) < V.getD (6 + i) 0
  · rw [if_pos h, if_pos ⟨by omega, h⟩]
  · rw [if_neg h, if_neg (fun h2 => h h2.2)]
theorem csR_len (V : List Int) : (csR V).length = 24 := csP_len _ _ _
theorem csR_tube {V : List Int} (u1 : vTop V) (u2 : vMan V) (u3 : vTM V) {i : Nat} (hi : i < 6) : tubeB (tubeAt (csR V) i) = true ∧ (layN (tubeAt (csR V) i) : Int) = V.getD (6 + i) 0 ∧ (topF (tubeAt (csR V) i)).1 = V.getD i 0 := by
  have ht := tubeAt_len (csR_len V) hi
  have h2 := u2 i hi
  have h1 := u1 i hi
  have h3 := u3 i hi
  obtain ⟨n, hn⟩ : ∃ n : Nat, V.getD (6 + i) 0 = n := ⟨(V.getD (6 + i) 0).toNat, by omega⟩
  obtain ⟨a, b⟩ := tube_of ht (n := n) (by omega) (fun b hb => by
    rw [csR_cell hi (by omega), if_pos (by omega)]; omega) (fun b hb hb4 => by rw [csR_cell hi hb4, if_neg (by omega)])
  refine ⟨a, by rw [b, hn], ?_⟩
  rcases Nat.eq_zero_or_pos n with h0 | h0
  · have : topF (tubeAt (csR V) i) = (0, 0) := by simp [topF, runsL, b, h0]
    rw [this]; simp only; omega
  · obtain ⟨r, hr1, _⟩ := topF_run _ ht (by omega)
    rw [hr1]
    simp only
    rw [b, csR_cell hi (by omega), if_pos (by omega)]
theorem csR_rack {V : List Int} (u1 : vTop V) (u2 : vMan V) (u3 : vTM V) : rackB (csR V) = true := rack_tubes.2 fun i hi => (csR_tube u1 u2 u3 hi).1
theorem list_ext6 {L M : List Int} (hL : L.length = 6) (hM : M.length = 6) (h : ∀ q, q < 6 → L.getD q 0 = M.getD q 0) : L = M := by
  apply List.ext_getElem (by omega)
  intro q h1 h2
  have := h q (by omega)
  simp only [List.getD, List.getElem?_eq_getElem h1, List.getElem?_eq_getElem h2, Option.getD_some] at this
  exact this
theorem csR_view {V : List Int} (hV : V.length = 18) (u1 : vTop V) (u2 : vMan V) (u3 : vTM V) : viewF (csR V) = V.take 6 ++ (V.drop 6).take 6 ++ ctL (csR V) := by
  unfold viewF
  congr 1
  congr 1
  · exact list_ext6 (topL_len _) (by rw [List.length_take]; omega) fun q h => by rw [topL_getD _ _ h, (csR_tube u1 u2 u3 h).2.2, take6_get _ _ h]
  · exact list_ext6 (manL_len _) (by rw [List.length_take, List.length_drop]; omega) fun q h => by
      rw [manL_getD _ _ h, (csR_tube u1 u2 u3 h).2.1]
      simp [List.getD, List.getElem?_take, h]
theorem split18 {V : List Int} (hV : V.length = 18) : V = V.take 6 ++ (V.drop 6).take 6 ++ V.drop 12 := by
  have e1 : (V.drop 6).drop 6 = V.drop 12 := by rw [List.drop_drop]
  rw [List.append_assoc, ← e1, List.take_append_drop, List.take_append_drop]
theorem csR_same {V : List Int} (hV : V.length = 18) (u1 : vTop V) (u2 : vMan V) (u3 : vTM V) : viewF (csR V) = V ↔ ctL (csR V) = V.drop 12 := by
  rw [csR_view hV u1 u2 u3]
  constructor
  · intro h
    exact List.append_cancel_left (h.trans (split18 hV))
  · intro h
    rw [h]; exact (split18 hV).symm
/-- Counts add up. -/
theorem incr_sum {L : List Int} {j : Nat} (hL : L.length = 6) (hj : j < 6) : (incr L j).sum = L.sum + 1 := by
  have hl : (incr L j).length = 6 := by unfold incr; rw [List.length_set]; exact hL
  rw [sum_six hl, sum_six hL]
  unfold incr
  have g := fun b => getD_set' L j b (L.getD j 0 + 1) (by omega)
  simp only [g]
  rcases (show j = 0 ∨ j = 1 ∨ j = 2 ∨ j = 3 ∨ j = 4 ∨ j = 5 by omega) with rfl | rfl | rfl | rfl | rfl | rfl
  all_goals simp only [Nat.reduceEqDiff, if_true, if_false, Nat.zero_ne_one, Nat.one_ne_zero, reduceCtorEq, ↓reduceIte]
  all_goals (first | omega | (simp; omega))
theorem cnt_sum {R : List Int} (hR : R.length = 24) (hr : rackB R = true) : ∀ n, n ≤ 24 → (cntL (R.take n)).sum = n
  | 0, _ => by simp [cntL_nil]
  | n + 1, hn => by
    obtain ⟨h1, h2, _⟩ := cnt_step hR hr (i := n / 4) (j := n % 4) (by omega) (by omega)
    rw [show n / 4 * 4 + (n % 4 + 1) = n + 1 by omega, show n / 4 * 4 + n % 4 = n by omega] at h1
    rw [show n / 4 * 4 + n % 4 = n by omega] at h2
    rw [h1, incr_sum (cntL_len _) (by omega), cnt_sum hR hr n (by omega)]
    omega
def emV (V : List Int) : List Int := (V.drop 12).set 0 (24 - V.getD 13 0 - V.getD 14 0 - V.getD 15 0 - V.getD 16 0 - V.getD 17 0)
theorem csR_empty {V R : List Int} (hV : V.length = 18) (hR : R.length = 24) (hr : rackB R = true) (z0 : V.getD 12 0 = 0) : cntL R = emV V ↔ ctL R = V.drop 12 := by
  have hs := cnt_sum hR hr 24 (Nat.le_refl _)
  rw [List.take_of_length_le (by omega), sum_six (cntL_len R)] at hs
  have lenC : (V.drop 12).length = 6 := by rw [List.length_drop]; omega
  have g : ∀ k, (V.drop 12).getD k 0 = V.getD (12 + k) 0 := fun k => by simp [List.getD]
  constructor
  · intro h
    unfold ctL
    rw [h]
    unfold emV
    rw [List.set_set]
    exact list_ext6 (by rw [List.length_set]; exact lenC) lenC fun q hq => by
      rw [getD_set' _ _ _ _ (by omega)]
      split
      · rename_i h0; subst h0; rw [g, z0]
      · rfl
  · intro h
    have e : ∀ q, 1 ≤ q → (cntL R).getD q 0 = V.getD (12 + q) 0 := fun q hq => by
      rw [← g, ← h]
      unfold ctL
      rw [getD_set' _ _ _ _ (by rw [cntL_len]; omega), if_neg (by omega)]
    refine list_ext6 (cntL_len R) (by unfold emV; rw [List.length_set]; exact lenC) fun q hq => ?_
    unfold emV
    rw [getD_set' _ _ _ _ (by omega)]
    split
    · rename_i h0
      subst h0
      have e1 := e 1 (by omega); have e2 := e 2 (by omega); have e3 := e 3 (by omega); have e4 := e 4 (by omega); have e5 := e 5 (by omega)
      simp only [Nat.reduceAdd] at e1 e2 e3 e4 e5
      omega
    · rw [g]; exact e q (by omega)
/-- What is known of a valid view. -/
theorem isV_facts {V : List Int} (hV : V.length = 18) (h64 : I64 V) (h : isVF V = true) : vTop V ∧ vMan V ∧ vTM V ∧ V.getD 12 0 = 0 ∧ Bd 0 24 (V.drop 12) ∧ (hidV V).length = 6 ∧ (hidV V).getD 0 0 = 0 ∧ Bd 0 24 (hidV V) ∧ (hidV V).sum = hmL (V.drop 6) 6 ∧ (hidV V).sum ≤ 18 := by
  have h2 := good_view hV h64
  rw [h] at h2
  have h3 := h
  simp only [isVF, gdVF, Bool.and_eq_true, decide_eq_true_eq] at h2 h3
  obtain ⟨u1, u2, u3⟩ := vok_spec h3.1.1.1.1
  have lenC : (V.drop 12).length = 6 := by rw [List.length_drop]; omega
  have lenH : (hidV V).length = 6 := by unfold hidV; rw [hidL_len]; exact lenC
  have z0 := h3.1.1.1.2
  have c0 : (V.drop 12).getD 0 0 = 0 := by rw [show (V.drop 12).getD 0 0 = V.getD 12 0 by simp [List.getD]]; exact z0
  have h0 : (hidV V).getD 0 0 = 0 := by unfold hidV; rw [hidL_zero _ _ (by omega), c0]
  have hs : (hidV V).sum = hmL (V.drop 6) 6 := by
    rw [← h2.2, sum_five lenH, sum_six lenH, h0]; omega
  have hmb := hmL_bd (M := V.drop 6) (fun k hk => by have := u2 k hk; simpa [List.getD] using this) 6 (Nat.le_refl _)
  refine ⟨u1, u2, u3, z0, all_bd h3.1.1.2 in024_bd, lenH, h0, fun x hx => ?_, hs, by omega⟩
  have hall := (all_five lenH in024).1 h2.1.2
  obtain ⟨k, hk, e⟩ := List.getElem_of_mem hx
  have e2 : (hidV V).getD k 0 = x := by rw [List.getD_eq_getElem?_getD, List.getElem?_eq_getElem hk, e]; rfl
  rcases Nat.eq_zero_or_pos k with rfl | hk0
  · omega
  · have := in024_bd _ (hall k hk0 (by omega))
    omega
/-! Views are compared. -/
theorem eqA_fields {D : Nat} : ∀ (fs : List Field) (L M : List Int) (off : Nat), off + fs.length * 6 = L.length → L.length = M.length →
    (∀ (j : Nat) (f : Field), fs[j]? = some f → f.name ≠ "_" ∧ f.type = 29 ∧ f.offset = off + j * 6) → ∀ d, 2 ≤ d → ∀ w, (Op.eqFields d (ints L) (ints M) fs).run Try.prog w = .ok (decide (L.drop off = M.drop off)) w
  | [], L, M, off, h1, h2, _, d, hd, w => by
    rw [List.drop_of_length_le (by simp at h1; omega), List.drop_of_length_le (by simp at h1; omega)]
    simp [Op.eqFields]
  | f :: fs, L, M, off, h1, h2, hf, d, hd, w => by
    obtain ⟨f1, f2, f3⟩ := hf 0 f rfl
    rw [List.length_cons] at h1
    have ih := eqA_fields (D := D) fs L M (off + 6) (by omega) h2 (fun j g hg => by
      obtain ⟨a, b, c⟩ := hf (j + 1) g (by simpa using hg)
      exact ⟨a, b, by omega⟩) d hd w
    have hk : (tys 29).k = .arr 6 3 := rfl
    have hs : (tys 29).size = 6 := rfl
    have p1 := runPart_arr hk L off (by rw [hs]; omega) w
    have p2 := runPart_arr hk M off (by rw [hs]; omega) w
    rw [hs] at p1 p2
    have h3 := eqA_ints (i := (Try.prog.info? 3).getD default) Try.underlying29 (by kernel_rfl) (by kernel_rfl) rfl Try.underlying3 d hd ((L.drop off).take 6) ((M.drop off).take 6) (by rw [List.length_take, List.length_drop]; omega) (by rw [List.length_take, List.length_drop]; omega) w
    simp only [Op.eqFields, if_pos f1, f2, f3, Nat.zero_mul, Nat.add_zero, Sem.run_bind, p1, p2, h3, Result.andThen_ok]
    have e1 : L.drop off = (L.drop off).take 6 ++ L.drop (off + 6) := by rw [← List.drop_drop]; exact (List.take_append_drop 6 _).symm
    have e2 : M.drop off = (M.drop off).take 6 ++ M.drop (off + 6) := by rw [← List.drop_drop]; exact (List.take_append_drop 6 _).symm
    by_cases hx : (L.drop off).take 6 = (M.drop off).take 6
    · simp only [hx, decide_true, Bool.not_true, Bool.false_eq_true, if_false, ih]
      congr 1
      rw [decide_eq_decide]
      constructor
      · intro h; rw [e1, e2, hx, h]
      · intro h
        rw [e1, e2, hx] at h
        exact List.append_cancel_left h
    · have : ¬ L.drop off = M.drop off := fun h => hx (by rw [h])
      simp [hx, this]
theorem eqI_view : EqI Try.prog 31 18 := by
  have hu := Try.underlying31
  refine eqI_of (D := 3) (by omega) ?_ (by kernel_rfl)
  intro d hd L M hL hM w
  obtain ⟨d, rfl⟩ : ∃ d', d = d' + 1 := ⟨d - 1, by omega⟩
  rw [run_equalIn_struct w d _ (ints L) (ints M) (by simp only [Program.fieldsOf, hu]) (by kernel_rfl)]
  have := eqA_fields (D := 0) (Try.prog.fieldsOf 31).toList L M 0 (by simp [Program.fieldsOf, hu]; omega) (by omega) (by
    simp only [Program.fieldsOf, hu]
    intro j f hf
    rcases j with _ | _ | _ | j <;> simp at hf <;> subst hf <;> exact ⟨by decide, rfl, rfl⟩) d (by omega) w
  simpa using this
theorem eqI_A6 : EqI Try.prog 29 6 := eqI_of (D := 2) (by omega) (eqA_ints (i := (Try.prog.info? 3).getD default) Try.underlying29 (by kernel_rfl) (by kernel_rfl) rfl Try.underlying3) (by kernel_rfl)
/-! The walks. -/
--@tbl ChanceSorted = impl.ChanceSorted
--@tbl sChanceSorted = spec.ChanceSorted
--@tbl l7Empty = spec.l7Empty
def chsF (V : List Int) : List Int := if isVF V = true then if sortB (csR V) = true ∧ ctL (csR V) = V.drop 12 then [1, arrF (hidV V)] else [0, 1] else [0, 0]
theorem ChanceSorted_ok (V : List Int) (hV : V.length = 18) (h64 : I64 V) : PureH Try.prog 38 [.arr V] [] (.tup [.arr (chsF V), .bool (isVF V)]) := by
  have tkV : V.take 18 = V := List.take_of_length_le (by omega)
  unfold chsF
  cases hv : isVF V
  · refine pure_of_vc (X := ⟨Try.prog, tys, [(27, IsView_F), (90, isSorted_F), (50, viewOf_F), (53, hidden_F), (55, arrangements_F)], [], true, true, 0, [], []⟩) fn_38 ⟨tys_ok, (.cons IsView_T (.cons isSorted_T (.cons viewOf_T (.cons hidden_T (.cons arrangements_T .nil))))), .nil, mixed⟩ (n0 := 0) (Nat.le_of_ble_eq_true rfl) (by simp [wfL, SV.wf]) (wfH_spec (by simp [wfH, SObj.wf, wfL, SV.wf])) (Nat.le_refl _) (fun _ => by simp [SV.wf, wfL]) ?_
    simp -implicitDefEqProofs only [Try.f38, Option.getD_some, argS, IsView_F, isSorted_F, viewOf_F, hidden_F, arrangements_F, hV, tkV, hv, rep2_take, ZB, Int.reduceToNat, Nat.reduceLT, Nat.reduceLeDiff, Int.reduceLE, Int.reduceLT, Nat.reduceEqDiff, Nat.reduceSub, SB, SV.known, packR, ne_eq, reduceCtorEq, Nat.reduceEqDiff, ↓reduceIte, if_true, if_false, eq_self, Nat.reduceAdd, Nat.reduceMul, Nat.reduceSub, forall_const, oneCellS, litOne, flat1, Kd.isSca, flat, TYB]
  obtain ⟨u1, u2, u3, z0, bC, lenH, h0, bH, hs, h18⟩ := isV_facts hV h64 hv
  have lenM : ((V.drop 6).take 6).length = 6 := by rw [List.length_take, List.length_drop]; omega
  have gM : ∀ k, k < 6 → ((V.drop 6).take 6).getD k 0 = V.getD (6 + k) 0 := fun k hk => by simp [List.getD, List.getElem?_take, hk]
  refine pure_of_vc (X := ⟨Try.prog, tys, [(27, IsView_F), (90, isSorted_F), (50, viewOf_F), (53, hidden_F), (55, arrangements_F)], [], true, true, 0, [], []⟩) fn_38 ⟨tys_ok, (.cons IsView_T (.cons isSorted_T (.cons viewOf_T (.cons hidden_T (.cons arrangements_T .nil))))), .nil, mixed⟩ (n0 := 0) (Nat.le_of_ble_eq_true rfl) (by simp [wfL, SV.wf]) (wfH_spec (by simp [wfH, SObj.wf, wfL, SV.wf])) (Nat.le_refl _) (fun _ => by simp [SV.wf, wfL]) ?_
  simp -implicitDefEqProofs only [Try.f38, Option.getD_some, argS, IsView_F, isSorted_F, viewOf_F, hidden_F, arrangements_F, hV, tkV, hv, ZB, Int.reduceToNat, Nat.reduceLT, Nat.reduceLeDiff, Int.reduceLE, Int.reduceLT, Nat.reduceEqDiff, Nat.reduceSub, SB, SV.known, packR, ne_eq, reduceCtorEq, Nat.reduceEqDiff, ↓reduceIte, if_true, if_false, eq_self, Nat.reduceAdd, Nat.reduceMul, Nat.reduceSub, forall_const, oneCellS, litOne, flat1, Kd.isSca, flat, TYB]
  refine loop_intro (fun i : Nat => [(14, .int i), (13, .arr ((V.drop 6).take 6)), (4, .ptr 2 0), (2, .ptr 1 0), (1, .ptr 0 0)]) (fun i => [(2, .ints (csP V i 0) 27), (1, .ints (List.replicate 2 0) 47), (0, .ints V 31)]) 3 (fun i => i ≤ 6) (fun i => 6 - i) ?_ ?_
  · refine ⟨0, ?_, Sub.mk_id ?_ ?_ ?_ ?_ ?_⟩
    all_goals (try (simp only [csP_zero, LB, subS, subH, wfS, wfH, SV.ren, renL, SObj.ren, SV.wf, SObj.wf, wfL, SV.known, Nat.reduceEqDiff, ↓reduceIte, if_true, if_false, eq_self, Nat.reduceAdd, Nat.reduceLT, Nat.reduceLeDiff, implies_true, reduceCtorEq, forall_const]; done))
    all_goals (try (simp only [csP_zero, LB, subS, subH, wfS, wfH, SV.ren, renL, SObj.ren, SV.wf, SObj.wf, wfL, SV.known, Nat.reduceEqDiff, ↓reduceIte, if_true, if_false, eq_self, Nat.reduceAdd, Nat.reduceLT, Nat.reduceLeDiff, implies_true, reduceCtorEq, forall_const]; simp; done))
    all_goals (try (simp only [csP_zero, LB, subS, subH, wfS, wfH, SV.ren, renL, SObj.ren, SV.wf, SObj.wf, wfL, SV.known, Nat.reduceEqDiff, ↓reduceIte, if_true, if_false, eq_self, Nat.reduceAdd, Nat.reduceLT, Nat.reduceLeDiff, implies_true, reduceCtorEq, forall_const]; (and_intros <;> (first | omega | rfl | (simp; done) | (simp; omega))); done))
    all_goals (try dsimp only)
    all_goals (and_intros <;> try (first | omega | (unfold In64; omega) | trivial | assumption))
  · intro i hi
    by_cases hlt : i < 6
    · have hil : (i : Int) < 6 := by omega
      have g := gM i hlt
      simp -implicitDefEqProofs only [lk_normal, hil, lenM, g, ZB, Int.reduceToNat, Nat.reduceLT, Nat.reduceLeDiff, Int.reduceLE, Int.reduceLT, Nat.reduceEqDiff, Nat.reduceSub, SB, SV.known, packR, ne_eq, reduceCtorEq, Nat.reduceEqDiff, ↓reduceIte, if_true, if_false, eq_self, Nat.reduceAdd, Nat.reduceMul, Nat.reduceSub, forall_const, oneCellS, litOne, flat1, Kd.isSca, flat, TYB]
      (try (and_intros <;> try (first | omega | (unfold In64; omega) | trivial | assumption)))
      have hlc := csP_len V i
      have h2 := u2 i hlt
      refine loop_intro (fun k : Nat => [(19, .int k), (18, .int (V.getD (6 + i) 0)), (5, .int i), (14, .int i), (13, .arr ((V.drop 6).take 6)), (4, .ptr 2 0), (2, .ptr 1 0), (1, .ptr 0 0)]) (fun k => [(2, .ints (csP V i k) 27), (1, .ints (List.replicate 2 0) 47), (0, .ints V 31)]) 3 (fun k => (k : Int) ≤ V.getD (6 + i) 0) (fun k => 5 - k) ?_ ?_
      · refine ⟨0, ?_, Sub.mk_id ?_ ?_ ?_ ?_ ?_⟩
        all_goals (try (simp only [LB, subS, subH, wfS, wfH, SV.ren, renL, SObj.ren, SV.wf, SObj.wf, wfL, SV.known, Nat.reduceEqDiff, ↓reduceIte, if_true, if_false, eq_self, Nat.reduceAdd, Nat.reduceLT, Nat.reduceLeDiff, implies_true, reduceCtorEq, forall_const]; done))
        all_goals (try (simp only [LB, subS, subH, wfS, wfH, SV.ren, renL, SObj.ren, SV.wf, SObj.wf, wfL, SV.known, Nat.reduceEqDiff, ↓reduceIte, if_true, if_false, eq_self, Nat.reduceAdd, Nat.reduceLT, Nat.reduceLeDiff, implies_true, reduceCtorEq, forall_const]; simp; done))
        all_goals (try (simp only [LB, subS, subH, wfS, wfH, SV.ren, renL, SObj.ren, SV.wf, SObj.wf, wfL, SV.known, Nat.reduceEqDiff, ↓reduceIte, if_true, if_false, eq_self, Nat.reduceAdd, Nat.reduceLT, Nat.reduceLeDiff, implies_true, reduceCtorEq, forall_const]; (and_intros <;> (first | omega | rfl | (simp; done) | (simp; omega))); done))
        all_goals (try dsimp only)
        all_goals (and_intros <;> try (first | omega | (unfold In64; omega) | trivial | assumption))
      · intro k hk
        by_cases hkt : (k : Int) < V.getD (6 + i) 0
        · have hk4 : (k : Int) < 4 := by omega
          have es := csP_set V hlt (show k < 4 by omega) hkt
          simp -implicitDefEqProofs only [lk_normal, hkt, hil, hk4, hlc, hV, es, ZB, Int.reduceToNat, Nat.reduceLT, Nat.reduceLeDiff, Int.reduceLE, Int.reduceLT, Nat.reduceEqDiff, Nat.reduceSub, SB, SV.known, packR, ne_eq, reduceCtorEq, Nat.reduceEqDiff, ↓reduceIte, if_true, if_false, eq_self, Nat.reduceAdd, Nat.reduceMul, Nat.reduceSub, forall_const, oneCellS, litOne, flat1, Kd.isSca, flat, TYB]
          (try (and_intros <;> try (first | omega | (unfold In64; omega) | trivial | assumption)))
          refine ⟨k + 1, ?_, ?_, Sub.mk_id ?_ ?_ ?_ ?_ ?_⟩
          all_goals (try (simp only [LB, subS, subH, wfS, wfH, SV.ren, renL, SObj.ren, SV.wf, SObj.wf, wfL, SV.known, Nat.reduceEqDiff, ↓reduceIte, if_true, if_false, eq_self, Nat.reduceAdd, Nat.reduceLT, Nat.reduceLeDiff, implies_true, reduceCtorEq, forall_const]; done))
          all_goals (try (simp only [LB, subS, subH, wfS, wfH, SV.ren, renL, SObj.ren, SV.wf, SObj.wf, wfL, SV.known, Nat.reduceEqDiff, ↓reduceIte, if_true, if_false, eq_self, Nat.reduceAdd, Nat.reduceLT, Nat.reduceLeDiff, implies_true, reduceCtorEq, forall_const]; simp; done))
          all_goals (try (simp only [LB, subS, subH, wfS, wfH, SV.ren, renL, SObj.ren, SV.wf, SObj.wf, wfL, SV.known, Nat.reduceEqDiff, ↓reduceIte, if_true, if_false, eq_self, Nat.reduceAdd, Nat.reduceLT, Nat.reduceLeDiff, implies_true, reduceCtorEq, forall_const]; (and_intros <;> (first | omega | rfl | (simp; done) | (simp; omega))); done))
          all_goals (try dsimp only)
          all_goals (and_intros <;> try (first | omega | (unfold In64; omega) | trivial | assumption))
        · have en := csP_next V hlt (k := k) (by omega)
          simp -implicitDefEqProofs only [lk_normal, hkt, hil, hlc, hV, ZB, Int.reduceToNat, Nat.reduceLT, Nat.reduceLeDiff, Int.reduceLE, Int.reduceLT, Nat.reduceEqDiff, Nat.reduceSub, SB, SV.known, packR, ne_eq, reduceCtorEq, Nat.reduceEqDiff, ↓reduceIte, if_true, if_false, eq_self, Nat.reduceAdd, Nat.reduceMul, Nat.reduceSub, forall_const, oneCellS, litOne, flat1, Kd.isSca, flat, TYB]
          (try (and_intros <;> try (first | omega | (unfold In64; omega) | trivial | assumption)))
          refine ⟨i + 1, ?_, ?_, Sub.mk_id ?_ ?_ ?_ ?_ ?_⟩
          all_goals (try (simp only [en, LB, subS, subH, wfS, wfH, SV.ren, renL, SObj.ren, SV.wf, SObj.wf, wfL, SV.known, Nat.reduceEqDiff, ↓reduceIte, if_true, if_false, eq_self, Nat.reduceAdd, Nat.reduceLT, Nat.reduceLeDiff, implies_true, reduceCtorEq, forall_const]; done))
          all_goals (try (simp only [en, LB, subS, subH, wfS, wfH, SV.ren, renL, SObj.ren, SV.wf, SObj.wf, wfL, SV.known, Nat.reduceEqDiff, ↓reduceIte, if_true, if_false, eq_self, Nat.reduceAdd, Nat.reduceLT, Nat.reduceLeDiff, implies_true, reduceCtorEq, forall_const]; simp; done))
          all_goals (try (simp only [en, LB, subS, subH, wfS, wfH, SV.ren, renL, SObj.ren, SV.wf, SObj.wf, wfL, SV.known, Nat.reduceEqDiff, ↓reduceIte, if_true, if_false, eq_self, Nat.reduceAdd, Nat.reduceLT, Nat.reduceLeDiff, implies_true, reduceCtorEq, forall_const]; (and_intros <;> (first | omega | rfl | (simp; done) | (simp; omega))); done))
          all_goals (try dsimp only)
          all_goals (and_intros <;> try (first | omega | (unfold In64; omega) | trivial | assumption))
    · have hil : ¬ (6 : Int) < 6 := by omega
      obtain rfl : i = 6 := by omega
      have eR : csP V 6 0 = csR V := rfl
      have hlR := csR_len V
      have tkR : (csR V).take 24 = csR V := List.take_of_length_le (by omega)
      have hrR := csR_rack u1 u2 u3
      have hvl := viewF_len (csR V)
      have eqv := eqI_view
      have eH : hidL (V.take 6) (V.drop 12) 6 = hidV V := rfl
      have bH2 : Bd 0 1000000 (hidV V) := fun x hx => by have := bH x hx; omega
      have hsame := csR_same hV u1 u2 u3
      cases hso : sortB (csR V)
      · simp -implicitDefEqProofs only [lk_normal, isSorted_F, hil, lenM, eR, hlR, tkR, hrR, hso, ZB, Int.reduceToNat, Nat.reduceLT, Nat.reduceLeDiff, Int.reduceLE, Int.reduceLT, Nat.reduceEqDiff, Nat.reduceSub, SB, SV.known, packR, ne_eq, reduceCtorEq, Nat.reduceEqDiff, ↓reduceIte, if_true, if_false, eq_self, Nat.reduceAdd, Nat.reduceMul, Nat.reduceSub, forall_const, oneCellS, litOne, flat1, Kd.isSca, flat, TYB]
        simp
      · by_cases hct : ctL (csR V) = V.drop 12
        · have hvw := hsame.2 hct
          simp -implicitDefEqProofs only [lk_normal, isSorted_F, viewOf_F, hidden_F, arrangements_F, hil, lenM, eR, hlR, tkR, hrR, hso, hvw, hV, tkV, hvl, eqv, u1, eH, lenH, bH2, ZB, Int.reduceToNat, Nat.reduceLT, Nat.reduceLeDiff, Int.reduceLE, Int.reduceLT, Nat.reduceEqDiff, Nat.reduceSub, SB, SV.known, packR, ne_eq, reduceCtorEq, Nat.reduceEqDiff, ↓reduceIte, if_true, if_false, eq_self, Nat.reduceAdd, Nat.reduceMul, Nat.reduceSub, forall_const, oneCellS, litOne, flat1, Kd.isSca, flat, TYB]
          simp [hct]
        · have hvw : ¬ viewF (csR V) = V := fun h => hct (hsame.1 h)
          simp -implicitDefEqProofs only [lk_normal, isSorted_F, viewOf_F, hidden_F, arrangements_F, hil, lenM, eR, hlR, tkR, hrR, hso, hvw, hV, tkV, hvl, eqv, u1, eH, lenH, bH2, ZB, Int.reduceToNat, Nat.reduceLT, Nat.reduceLeDiff, Int.reduceLE, Int.reduceLT, Nat.reduceEqDiff, Nat.reduceSub, SB, SV.known, packR, ne_eq, reduceCtorEq, Nat.reduceEqDiff, ↓reduceIte, if_true, if_false, eq_self, Nat.reduceAdd, Nat.reduceMul, Nat.reduceSub, forall_const, oneCellS, litOne, flat1, Kd.isSca, flat, TYB]
          simp [hct]
def emN (V : List Int) : Nat → Int
  | 0 => 24
  | k + 1 => emN V k - V.getD (12 + (k + 1)) 0
theorem emN_bd {V : List Int} (hB : ∀ k, k < 6 → 0 ≤ V.getD (12 + k) 0 ∧ V.getD (12 + k) 0 ≤ 24) : ∀ k, k ≤ 5 → -120 ≤ emN V k ∧ emN V k ≤ 24 ∧ 24 - 24 * (k : Int) ≤ emN V k
  | 0, _ => by simp [emN]
  | k + 1, hk => by
    have := emN_bd hB k (by omega)
    have := hB (k + 1) (by omega)
    unfold emN
    omega
theorem l7Empty_ok (V : List Int) (hV : V.length = 18) (hb : Bd 0 24 (V.drop 12)) : PureH Try.prog 93 [.arr V] [] (.arr (emV V)) := by
  have tkV : V.take 18 = V := List.take_of_length_le (by omega)
  have lenC : (V.drop 12).length = 6 := by rw [List.length_drop]; omega
  have tkC : (V.drop 12).take 6 = V.drop 12 := List.take_of_length_le (by omega)
  have gC : ∀ k, (V.drop 12).getD k 0 = V.getD (12 + k) 0 := fun k => by simp [List.getD]
  have hB : ∀ k, k < 6 → 0 ≤ V.getD (12 + k) 0 ∧ V.getD (12 + k) 0 ≤ 24 := fun k hk => by rw [← gC]; exact hb.getD (by omega)
  refine pure_of_vc (X := ⟨Try.prog, tys, [], [], true, true, 0, [], []⟩) fn_93 ⟨tys_ok, .nil, .nil, mixed⟩ (n0 := 0) (Nat.le_of_ble_eq_true rfl) (by simp [wfL, SV.wf]) (wfH_spec (by simp [wfH, SObj.wf, wfL, SV.wf])) (Nat.le_refl _) (fun _ => by simp [SV.wf, wfL]) ?_
  simp -implicitDefEqProofs only [Try.f93, Option.getD_some, argS, hV, tkV, lenC, tkC, ZB, Int.reduceToNat, Nat.reduceLT, Nat.reduceLeDiff, Int.reduceLE, Int.reduceLT, Nat.reduceEqDiff, Nat.reduceSub, SB, SV.known, packR, ne_eq, reduceCtorEq, Nat.reduceEqDiff, ↓reduceIte, if_true, if_false, eq_self, Nat.reduceAdd, Nat.reduceMul, Nat.reduceSub, forall_const, oneCellS, litOne, flat1, Kd.isSca, flat, TYB]
  refine loop_intro (fun k : Nat => [(4, .int ((k : Int) + 1)), (3, .ptr 2 0), (2, .ptr 1 0), (1, .ptr 0 0)]) (fun k => [(2, .ints ((V.drop 12).set 0 (emN V k)) 29), (1, .ints (List.replicate 6 0) 29), (0, .ints V 31)]) 3 (fun k => k ≤ 5) (fun k => 6 - k) ?_ ?_
  · refine ⟨0, ?_, Sub.mk_id ?_ ?_ ?_ ?_ ?_⟩
    all_goals (try (simp only [emN, LB, subS, subH, wfS, wfH, SV.ren, renL, SObj.ren, SV.wf, SObj.wf, wfL, SV.known, Nat.reduceEqDiff, ↓reduceIte, if_true, if_false, eq_self, Nat.reduceAdd, Nat.reduceLT, Nat.reduceLeDiff, implies_true, reduceCtorEq, forall_const]; done))
    all_goals (try (simp only [emN, LB, subS, subH, wfS, wfH, SV.ren, renL, SObj.ren, SV.wf, SObj.wf, wfL, SV.known, Nat.reduceEqDiff, ↓reduceIte, if_true, if_false, eq_self, Nat.reduceAdd, Nat.reduceLT, Nat.reduceLeDiff, implies_true, reduceCtorEq, forall_const]; simp; done))
    all_goals (try (simp only [emN, LB, subS, subH, wfS, wfH, SV.ren, renL, SObj.ren, SV.wf, SObj.wf, wfL, SV.known, Nat.reduceEqDiff, ↓reduceIte, if_true, if_false, eq_self, Nat.reduceAdd, Nat.reduceLT, Nat.reduceLeDiff, implies_true, reduceCtorEq, forall_const]; (and_intros <;> (first | omega | rfl | (simp; done) | (simp; omega))); done))
    all_goals (try dsimp only)
    all_goals (and_intros <;> try (first | omega | (unfold In64; omega) | trivial | assumption))
  · intro k hk
    have hl : ((V.drop 12).set 0 (emN V k)).length = 6 := by rw [List.length_set]; exact lenC
    have g0 := getD_set_eq (V.drop 12) 0 (emN V k) (by omega)
    have eb := emN_bd hB k hk
    by_cases hlt : k < 5
    · have hkl : (k : Int) + 1 ≤ 5 := by omega
      have tn : ((k : Int) + 1).toNat = k + 1 := by omega
      have k0 : 0 ≤ (k : Int) + 1 := by omega
      have k6 : (k : Int) + 1 < 6 := by omega
      have h1 := hB (k + 1) (by omega)
      have ss : ((V.drop 12).set 0 (emN V k)).set 0 (emN V k - V.getD (12 + (k + 1)) 0) = (V.drop 12).set 0 (emN V k - V.getD (12 + (k + 1)) 0) := List.set_set ..
      have es : emN V (k + 1) = emN V k - V.getD (12 + (k + 1)) 0 := rfl
      simp -implicitDefEqProofs only [lk_normal, hkl, hV, tn, k0, k6, hl, g0, ss, ZB, Int.reduceToNat, Nat.reduceLT, Nat.reduceLeDiff, Int.reduceLE, Int.reduceLT, Nat.reduceEqDiff, Nat.reduceSub, SB, SV.known, packR, ne_eq, reduceCtorEq, Nat.reduceEqDiff, ↓reduceIte, if_true, if_false, eq_self, Nat.reduceAdd, Nat.reduceMul, Nat.reduceSub, forall_const, oneCellS, litOne, flat1, Kd.isSca, flat, TYB]
      (try (and_intros <;> try (first | omega | (unfold In64; omega) | trivial | assumption)))
      refine ⟨k + 1, ?_, ?_, Sub.mk_id ?_ ?_ ?_ ?_ ?_⟩
      all_goals (try (simp only [es, LB, subS, subH, wfS, wfH, SV.ren, renL, SObj.ren, SV.wf, SObj.wf, wfL, SV.known, Nat.reduceEqDiff, ↓reduceIte, if_true, if_false, eq_self, Nat.reduceAdd, Nat.reduceLT, Nat.reduceLeDiff, implies_true, reduceCtorEq, forall_const]; done))
      all_goals (try (simp only [es, LB, subS, subH, wfS, wfH, SV.ren, renL, SObj.ren, SV.wf, SObj.wf, wfL, SV.known, Nat.reduceEqDiff, ↓reduceIte, if_true, if_false, eq_self, Nat.reduceAdd, Nat.reduceLT, Nat.reduceLeDiff, implies_true, reduceCtorEq, forall_const]; simp; done))
      all_goals (try (simp only [es, LB, subS, subH, wfS, wfH, SV.ren, renL, SObj.ren, SV.wf, SObj.wf, wfL, SV.known, Nat.reduceEqDiff, ↓reduceIte, if_true, if_false, eq_self, Nat.reduceAdd, Nat.reduceLT, Nat.reduceLeDiff, implies_true, reduceCtorEq, forall_const]; (and_intros <;> (first | omega | rfl | (simp; done) | (simp; omega))); done))
      all_goals (try dsimp only)
      all_goals (and_intros <;> try (first | omega | (unfold In64; omega) | trivial | assumption))
    · have hkl : ¬ (5 : Int) + 1 ≤ 5 := by omega
      obtain rfl : k = 5 := by omega
      have tk : List.take 6 ((V.drop 12).set 0 (emN V 5)) = (V.drop 12).set 0 (emN V 5) := List.take_of_length_le (by omega)
      simp -implicitDefEqProofs only [lk_normal, hkl, hV, hl, tk, ZB, Int.reduceToNat, Nat.reduceLT, Nat.reduceLeDiff, Int.reduceLE, Int.reduceLT, Nat.reduceEqDiff, Nat.reduceSub, SB, SV.known, packR, ne_eq, reduceCtorEq, Nat.reduceEqDiff, ↓reduceIte, if_true, if_false, eq_self, Nat.reduceAdd, Nat.reduceMul, Nat.reduceSub, forall_const, oneCellS, litOne, flat1, Kd.isSca, flat, TYB]
      rfl
def l7Empty_F : List SV → Heap → Option (Prop × SV)
  | [.arr V], _ => some (V.length = 18 ∧ Bd 0 24 (V.drop 12), .arr (emV V))
  | _, _ => none
theorem l7Empty_T : ∀ args H p v, l7Empty_F args H = some (p, v) → p → PureH Try.prog 93 args H v := by
  intro args H p v h hp
  unfold l7Empty_F at h
  split at h
  · cases h; exact (l7Empty_ok _ hp.1 hp.2).any _
  · cases h
theorem sChanceSorted_ok (V : List Int) (hV : V.length = 18) (h64 : I64 V) : PureH Try.prog 39 [.arr V] [] (.tup [.arr (chsF V), .bool (isVF V)]) := by
  have tkV : V.take 18 = V := List.take_of_length_le (by omega)
  unfold chsF
  cases hv : isVF V
  · refine pure_of_vc (X := ⟨Try.prog, tys, [(67, l7Good_F), (91, l2Sorted_F), (92, l2Counts_F), (56, l7Hidden_F), (58, l7Ways_F), (75, l7Cut_F), (93, l7Empty_F)], [], true, true, 0, [], []⟩) fn_39 ⟨tys_ok, (.cons l7Good_T (.cons l2Sorted_T (.cons l2Counts_T (.cons l7Hidden_T (.cons l7Ways_T (.cons l7Cut_T (.cons l7Empty_T .nil))))))), .nil, mixed⟩ (n0 := 0) (Nat.le_of_ble_eq_true rfl) (by simp [wfL, SV.wf]) (wfH_spec (by simp [wfH, SObj.wf, wfL, SV.wf])) (Nat.le_refl _) (fun _ => by simp [SV.wf, wfL]) ?_
    simp -implicitDefEqProofs only [Try.f39, Option.getD_some, argS, l7Good_F, l2Sorted_F, l2Counts_F, l7Hidden_F, l7Ways_F, l7Cut_F, l7Empty_F, hV, tkV, hv, h64, rep2_take, ZB, Int.reduceToNat, Nat.reduceLT, Nat.reduceLeDiff, Int.reduceLE, Int.reduceLT, Nat.reduceEqDiff, Nat.reduceSub, SB, SV.known, packR, ne_eq, reduceCtorEq, Nat.reduceEqDiff, ↓reduceIte, if_true, if_false, eq_self, Nat.reduceAdd, Nat.reduceMul, Nat.reduceSub, forall_const, oneCellS, litOne, flat1, Kd.isSca, flat, TYB]
  obtain ⟨u1, u2, u3, z0, bC, lenH, h0, bH, hs, h18⟩ := isV_facts hV h64 hv
  refine pure_of_vc (X := ⟨Try.prog, tys, [(67, l7Good_F), (91, l2Sorted_F), (92, l2Counts_F), (56, l7Hidden_F), (58, l7Ways_F), (75, l7Cut_F), (93, l7Empty_F)], [], true, true, 0, [], []⟩) fn_39 ⟨tys_ok, (.cons l7Good_T (.cons l2Sorted_T (.cons l2Counts_T (.cons l7Hidden_T (.cons l7Ways_T (.cons l7Cut_T (.cons l7Empty_T .nil))))))), .nil, mixed⟩ (n0 := 0) (Nat.le_of_ble_eq_true rfl) (by simp [wfL, SV.wf]) (wfH_spec (by simp [wfH, SObj.wf, wfL, SV.wf])) (Nat.le_refl _) (fun _ => by simp [SV.wf, wfL]) ?_
  simp -implicitDefEqProofs only [Try.f39, Option.getD_some, argS, l7Good_F, l2Sorted_F, l2Counts_F, l7Hidden_F, l7Ways_F, l7Cut_F, l7Empty_F, hV, tkV, hv, h64, ZB, Int.reduceToNat, Nat.reduceLT, Nat.reduceLeDiff, Int.reduceLE, Int.reduceLT, Nat.reduceEqDiff, Nat.reduceSub, SB, SV.known, packR, ne_eq, reduceCtorEq, Nat.reduceEqDiff, ↓reduceIte, if_true, if_false, eq_self, Nat.reduceAdd, Nat.reduceMul, Nat.reduceSub, forall_const, oneCellS, litOne, flat1, Kd.isSca, flat, TYB]
  refine loop_intro (fun i : Nat => [(5, .int i), (4, .ptr 2 0), (2, .ptr 1 0), (1, .ptr 0 0)]) (fun i => [(2, .ints (csP V i 0) 27), (1, .ints (List.replicate 2 0) 47), (0, .ints V 31)]) 3 (fun i => i ≤ 6) (fun i => 6 - i) ?_ ?_
  · refine ⟨0, ?_, Sub.mk_id ?_ ?_ ?_ ?_ ?_⟩
    all_goals (try (simp only [csP_zero, LB, subS, subH, wfS, wfH, SV.ren, renL, SObj.ren, SV.wf, SObj.wf, wfL, SV.known, Nat.reduceEqDiff, ↓reduceIte, if_true, if_false, eq_self, Nat.reduceAdd, Nat.reduceLT, Nat.reduceLeDiff, implies_true, reduceCtorEq, forall_const]; done))
    all_goals (try (simp only [csP_zero, LB, subS, subH, wfS, wfH, SV.ren, renL, SObj.ren, SV.wf, SObj.wf, wfL, SV.known, Nat.reduceEqDiff, ↓reduceIte, if_true, if_false, eq_self, Nat.reduceAdd, Nat.reduceLT, Nat.reduceLeDiff, implies_true, reduceCtorEq, forall_const]; simp; done))
    all_goals (try (simp only [csP_zero, LB, subS, subH, wfS, wfH, SV.ren, renL, SObj.ren, SV.wf, SObj.wf, wfL, SV.known, Nat.reduceEqDiff, ↓reduceIte, if_true, if_false, eq_self, Nat.reduceAdd, Nat.reduceLT, Nat.reduceLeDiff, implies_true, reduceCtorEq, forall_const]; (and_intros <;> (first | omega | rfl | (simp; done) | (simp; omega))); done))
    all_goals (try dsimp only)
    all_goals (and_intros <;> try (first | omega | (unfold In64; omega) | trivial | assumption))
  · intro i hi
    by_cases hlt : i < 6
    · have hil : (i : Int) < 6 := by omega
      simp -implicitDefEqProofs only [lk_normal, hil, ZB, Int.reduceToNat, Nat.reduceLT, Nat.reduceLeDiff, Int.reduceLE, Int.reduceLT, Nat.reduceEqDiff, Nat.reduceSub, SB, SV.known, packR, ne_eq, reduceCtorEq, Nat.reduceEqDiff, ↓reduceIte, if_true, if_false, eq_self, Nat.reduceAdd, Nat.reduceMul, Nat.reduceSub, forall_const, oneCellS, litOne, flat1, Kd.isSca, flat, TYB]
      (try (and_intros <;> try (first | omega | (unfold In64; omega) | trivial | assumption)))
      have hlc := csP_len V i
      have h2 := u2 i hlt
      refine loop_intro (fun k : Nat => [(6, .int k), (5, .int i), (4, .ptr 2 0), (2, .ptr 1 0), (1, .ptr 0 0)]) (fun k => [(2, .ints (csP V i k) 27), (1, .ints (List.replicate 2 0) 47), (0, .ints V 31)]) 3 (fun k => (k : Int) ≤ V.getD (6 + i) 0) (fun k => 5 - k) ?_ ?_
      · refine ⟨0, ?_, Sub.mk_id ?_ ?_ ?_ ?_ ?_⟩
        all_goals (try (simp only [LB, subS, subH, wfS, wfH, SV.ren, renL, SObj.ren, SV.wf, SObj.wf, wfL, SV.known, Nat.reduceEqDiff, ↓reduceIte, if_true, if_false, eq_self, Nat.reduceAdd, Nat.reduceLT, Nat.reduceLeDiff, implies_true, reduceCtorEq, forall_const]; done))
        all_goals (try (simp only [LB, subS, subH, wfS, wfH, SV.ren, renL, SObj.ren, SV.wf, SObj.wf, wfL, SV.known, Nat.reduceEqDiff, ↓reduceIte, if_true, if_false, eq_self, Nat.reduceAdd, Nat.reduceLT, Nat.reduceLeDiff, implies_true, reduceCtorEq, forall_const]; simp; done))
        all_goals (try (simp only [LB, subS, subH, wfS, wfH, SV.ren, renL, SObj.ren, SV.wf, SObj.wf, wfL, SV.known, Nat.reduceEqDiff, ↓reduceIte, if_true, if_false, eq_self, Nat.reduceAdd, Nat.reduceLT, Nat.reduceLeDiff, implies_true, reduceCtorEq, forall_const]; (and_intros <;> (first | omega | rfl | (simp; done) | (simp; omega))); done))
        all_goals (try dsimp only)
        all_goals (and_intros <;> try (first | omega | (unfold In64; omega) | trivial | assumption))
      · intro k hk
        by_cases hkt : (k : Int) < V.getD (6 + i) 0
        · have hk4 : (k : Int) < 4 := by omega
          have es := csP_set V hlt (show k < 4 by omega) hkt
          simp -implicitDefEqProofs only [lk_normal, hkt, hil, hk4, hlc, hV, es, ZB, Int.reduceToNat, Nat.reduceLT, Nat.reduceLeDiff, Int.reduceLE, Int.reduceLT, Nat.reduceEqDiff, Nat.reduceSub, SB, SV.known, packR, ne_eq, reduceCtorEq, Nat.reduceEqDiff, ↓reduceIte, if_true, if_false, eq_self, Nat.reduceAdd, Nat.reduceMul, Nat.reduceSub, forall_const, oneCellS, litOne, flat1, Kd.isSca, flat, TYB]
          (try (and_intros <;> try (first | omega | (unfold In64; omega) | trivial | assumption)))
          refine ⟨k + 1, ?_, ?_, Sub.mk_id ?_ ?_ ?_ ?_ ?_⟩
          all_goals (try (simp only [LB, subS, subH, wfS, wfH, SV.ren, renL, SObj.ren, SV.wf, SObj.wf, wfL, SV.known, Nat.reduceEqDiff, ↓reduceIte, if_true, if_false, eq_self, Nat.reduceAdd, Nat.reduceLT, Nat.reduceLeDiff, implies_true, reduceCtorEq, forall_const]; done))
          all_goals (try (simp only [LB, subS, subH, wfS, wfH, SV.ren, renL, SObj.ren, SV.wf, SObj.wf, wfL, SV.known, Nat.reduceEqDiff, ↓reduceIte, if_true, if_false, eq_self, Nat.reduceAdd, Nat.reduceLT, Nat.reduceLeDiff, implies_true, reduceCtorEq, forall_const]; simp; done))
          all_goals (try (simp only [LB, subS, subH, wfS, wfH, SV.ren, renL, SObj.ren, SV.wf, SObj.wf, wfL, SV.known, Nat.reduceEqDiff, ↓reduceIte, if_true, if_false, eq_self, Nat.reduceAdd, Nat.reduceLT, Nat.reduceLeDiff, implies_true, reduceCtorEq, forall_const]; (and_intros <;> (first | omega | rfl | (simp; done) | (simp; omega))); done))
          all_goals (try dsimp only)
          all_goals (and_intros <;> try (first | omega | (unfold In64; omega) | trivial | assumption))
        · have en := csP_next V hlt (k := k) (by omega)
          simp -implicitDefEqProofs only [lk_normal, hkt, hil, hlc, hV, ZB, Int.reduceToNat, Nat.reduceLT, Nat.reduceLeDiff, Int.reduceLE, Int.reduceLT, Nat.reduceEqDiff, Nat.reduceSub, SB, SV.known, packR, ne_eq, reduceCtorEq, Nat.reduceEqDiff, ↓reduceIte, if_true, if_false, eq_self, Nat.reduceAdd, Nat.reduceMul, Nat.reduceSub, forall_const, oneCellS, litOne, flat1, Kd.isSca, flat, TYB]
          (try (and_intros <;> try (first | omega | (unfold In64; omega) | trivial | assumption)))
          refine ⟨i + 1, ?_, ?_, Sub.mk_id ?_ ?_ ?_ ?_ ?_⟩
          all_goals (try (simp only [en, LB, subS, subH, wfS, wfH, SV.ren, renL, SObj.ren, SV.wf, SObj.wf, wfL, SV.known, Nat.reduceEqDiff, ↓reduceIte, if_true, if_false, eq_self, Nat.reduceAdd, Nat.reduceLT, Nat.reduceLeDiff, implies_true, reduceCtorEq, forall_const]; done))
          all_goals (try (simp only [en, LB, subS, subH, wfS, wfH, SV.ren, renL, SObj.ren, SV.wf, SObj.wf, wfL, SV.known, Nat.reduceEqDiff, ↓reduceIte, if_true, if_false, eq_self, Nat.reduceAdd, Nat.reduceLT, Nat.reduceLeDiff, implies_true, reduceCtorEq, forall_const]; simp; done))
          all_goals (try (simp only [en, LB, subS, subH, wfS, wfH, SV.ren, renL, SObj.ren, SV.wf, SObj.wf, wfL, SV.known, Nat.reduceEqDiff, ↓reduceIte, if_true, if_false, eq_self, Nat.reduceAdd, Nat.reduceLT, Nat.reduceLeDiff, implies_true, reduceCtorEq, forall_const]; (and_intros <;> (first | omega | rfl | (simp; done) | (simp; omega))); done))
          all_goals (try dsimp only)
          all_goals (and_intros <;> try (first | omega | (unfold In64; omega) | trivial | assumption))
    · have hil : ¬ (6 : Int) < 6 := by omega
      obtain rfl : i = 6 := by omega
      have eR : csP V 6 0 = csR V := rfl
      have hlR := csR_len V
      have tkR : (csR V).take 24 = csR V := List.take_of_length_le (by omega)
      have hrR := csR_rack u1 u2 u3
      have hcl := cntL_len (csR V)
      have hel : (emV V).length = 6 := by unfold emV; rw [List.length_set, List.length_drop]; omega
      have eq6 := eqI_A6
      have eH : hidL (V.take 6) (V.drop 12) 6 = hidV V := rfl
      have bH2 : Bd 0 1000000 ((hidV V).drop 1) := fun x hx => by have := bH x (List.mem_of_mem_drop hx); omega
      have aF := arrF_drop lenH h0
      have tkH : (hidV V).take 6 = hidV V := List.take_of_length_le (by omega)
      have ab := arrF_bd bH h18
      have ai : In64 (arrF (hidV V)) := by unfold In64; omega
      have i1 : In64 1 := by unfold In64; omega
      have a0 : 0 < arrF (hidV V) := by omega
      have fr : fracF 1 (arrF (hidV V)) = [1, arrF (hidV V)] := by
        unfold fracF
        have : Nat.gcd (1 : Int).toNat (arrF (hidV V)).toNat = 1 := Nat.gcd_one_left _
        rw [this]; simp
      have hsame := csR_empty hV hlR hrR z0
      cases hso : sortB (csR V)
      · simp -implicitDefEqProofs only [lk_normal, l2Sorted_F, hil, eR, hlR, tkR, hrR, hso, ZB, Int.reduceToNat, Nat.reduceLT, Nat.reduceLeDiff, Int.reduceLE, Int.reduceLT, Nat.reduceEqDiff, Nat.reduceSub, SB, SV.known, packR, ne_eq, reduceCtorEq, Nat.reduceEqDiff, ↓reduceIte, if_true, if_false, eq_self, Nat.reduceAdd, Nat.reduceMul, Nat.reduceSub, forall_const, oneCellS, litOne, flat1, Kd.isSca, flat, TYB]
        simp
      · by_cases hct : ctL (csR V) = V.drop 12
        · have hvw := hsame.2 hct
          simp -implicitDefEqProofs only [lk_normal, l2Sorted_F, l2Counts_F, l7Empty_F, l7Hidden_F, l7Ways_F, l7Cut_F, hil, eR, hlR, tkR, hrR, hso, hvw, hV, tkV, hcl, hel, eq6, bC, u1, u2, u3, eH, lenH, tkH, bH2, aF, ai, i1, a0, fr, ZB, Int.reduceToNat, Nat.reduceLT, Nat.reduceLeDiff, Int.reduceLE, Int.reduceLT, Nat.reduceEqDiff, Nat.reduceSub, SB, SV.known, packR, ne_eq, reduceCtorEq, Nat.reduceEqDiff, ↓reduceIte, if_true, if_false, eq_self, Nat.reduceAdd, Nat.reduceMul, Nat.reduceSub, forall_const, oneCellS, litOne, flat1, Kd.isSca, flat, TYB]
          simp [hct]
        · have hvw : ¬ cntL (csR V) = emV V := fun h => hct (hsame.1 h)
          simp -implicitDefEqProofs only [lk_normal, l2Sorted_F, l2Counts_F, l7Empty_F, l7Hidden_F, l7Ways_F, l7Cut_F, hil, eR, hlR, tkR, hrR, hso, hvw, hV, tkV, hcl, hel, eq6, bC, u1, u2, u3, eH, lenH, tkH, bH2, aF, ai, i1, a0, fr, ZB, Int.reduceToNat, Nat.reduceLT, Nat.reduceLeDiff, Int.reduceLE, Int.reduceLT, Nat.reduceEqDiff, Nat.reduceSub, SB, SV.known, packR, ne_eq, reduceCtorEq, Nat.reduceEqDiff, ↓reduceIte, if_true, if_false, eq_self, Nat.reduceAdd, Nat.reduceMul, Nat.reduceSub, forall_const, oneCellS, litOne, flat1, Kd.isSca, flat, TYB]
          simp [hct]
def ChanceSorted_F : List SV → Heap → Option (Prop × SV)
  | [.arr V], _ => some (V.length = 18 ∧ I64 V, .tup [.arr (chsF V), .bool (isVF V)])
  | _, _ => none
theorem ChanceSorted_T : ∀ args H p v, ChanceSorted_F args H = some (p, v) → p → PureH Try.prog 38 args H v := by
  intro args H p v h hp
  unfold ChanceSorted_F at h
  split at h
  · cases h; exact (ChanceSorted_ok _ hp.1 hp.2).any _
  · cases h
def sChanceSorted_F : List SV → Heap → Option (Prop × SV)
  | [.arr V], _ => some (V.length = 18 ∧ I64 V, .tup [.arr (chsF V), .bool (isVF V)])
  | _, _ => none
theorem sChanceSorted_T : ∀ args H p v, sChanceSorted_F args H = some (p, v) → p → PureH Try.prog 39 args H v := by
  intro args H p v h hp
  unfold sChanceSorted_F at h
  split at h
  · cases h; exact (sChanceSorted_ok _ hp.1 hp.2).any _
  · cases h
end Go.Proofs.Ytckcojgfgcjamaa
set_option maxRecDepth 100000
set_option linter.unusedSimpArgs false
set_option linter.unusedVariables false
namespace Go.Proofs.Ytckcojgfgcjamaa
open Go Go.RowKit
def bin : Nat → Nat → Nat
  | _, 0 => 1
  | 0, _ + 1 => 0
  | n + 1, k + 1 => bin n k + bin n (k + 1)
theorem bin_zero (n : Nat) : bin n 0 = 1 := by cases n <;> rfl
theorem bin_succ : ∀ n k, bin (n + 1) (k + 1) * (k + 1) = bin n k * (n + 1)
  | 0, 0 => rfl
  | 0, k + 1 => by simp [bin]
  | n + 1, 0 => by
    have := bin_succ n 0
    have e : bin (n + 1 + 1) (0 + 1) = bin (n + 1) 0 + bin (n + 1) (0 + 1) := rfl
    rw [bin_zero] at this
    rw [e, bin_zero]
    omega
  | n + 1, k + 1 => by
    have i1 := bin_succ n k
    have i2 := bin_succ n (k + 1)
    have e : bin (n + 1 + 1) (k + 1 + 1) = bin (n + 1) (k + 1) + bin (n + 1) (k + 1 + 1) := rfl
    have e2 : bin (n + 1) (k + 1) = bin n k + bin n (k + 1) := rfl
    have e3 : (bin (n + 1) (k + 1) + bin (n + 1) (k + 1 + 1)) * (k + 1 + 1) = bin (n + 1) (k + 1) * (k + 1) + bin (n + 1) (k + 1) + bin (n + 1) (k + 1 + 1) * (k + 1 + 1) := by
      rw [Nat.add_mul, Nat.mul_add (bin (n + 1) (k + 1)) (k + 1) 1, Nat.mul_one]
    have e4 : bin (n + 1) (k + 1) * (n + 1 + 1) = bin n k * (n + 1) + bin n (k + 1) * (n + 1) + bin (n + 1) (k + 1) := by
      rw [Nat.mul_add (bin (n + 1) (k + 1)) (n + 1) 1, Nat.mul_one, e2, Nat.add_mul]
    rw [e, e3, i1, i2, e4]
    omega
theorem bin_fac : ∀ k n, bin (n + k) k * fac k * fac n = fac (n + k)
  | 0, n => by simp [bin_zero, fac]
  | k + 1, n => by
    have ih := bin_fac k n
    have h := bin_succ (n + k) k
    show bin (n + k + 1) (k + 1) * (fac k * (k + 1)) * fac n = fac (n + k) * (n + k + 1)
    rw [← ih]
    have e : bin (n + k + 1) (k + 1) * (fac k * (k + 1)) * fac n = (bin (n + k + 1) (k + 1) * (k + 1)) * (fac k * fac n) := by
      simp only [Nat.mul_assoc, Nat.mul_left_comm, Nat.mul_comm]
    rw [e, h]
    simp only [Nat.mul_assoc, Nat.mul_left_comm, Nat.mul_comm]
theorem arrN_step (s : Int × Int) (h0 : 0 ≤ s.2) (h1 : 1 ≤ s.1) (h2 : s.1 ≤ fac s.2.toNat) (k : Nat) (hk : s.2 + ((k + 1 : Nat) : Int) ≤ 18) : (arrN (k + 1) s).1 = ((arrN k s).1 * (s.2 + k + 1)) / ((k : Int) + 1) := by
  obtain ⟨g1, g2⟩ := arrN_bd s h0 h1 h2 k (by omega)
  have e2 := arrN_snd k s
  have hf : (fac (s.2 + k + 1).toNat : Int) = fac (s.2 + k).toNat * (s.2 + k + 1) := by
    have : (s.2 + k + 1).toNat = (s.2 + k).toNat + 1 := by omega
    rw [this]
    show ((fac (s.2 + k).toNat * ((s.2 + k).toNat + 1) : Nat) : Int) = _
    rw [Int.natCast_mul]
    congr 1
    omega
  have m1 : (arrN k s).1 * (s.2 + k + 1) ≤ fac (s.2 + k).toNat * (s.2 + k + 1) := Int.mul_le_mul_of_nonneg_right g2 (by omega)
  have m0 : (arrN k s).1 ≤ (arrN k s).1 * (s.2 + k + 1) := by
    have := Int.mul_le_mul_of_nonneg_left (show (1 : Int) ≤ s.2 + k + 1 by omega) (show 0 ≤ (arrN k s).1 by omega)
    omega
  have fm := fac_mono (show (s.2 + k + 1).toNat ≤ 18 by omega)
  rw [fac_18] at fm
  have w1 : IntKind.i64.wrap ((arrN k s).1 * ((arrN k s).2 + 1)) = (arrN k s).1 * (s.2 + k + 1) := by
    rw [e2]; exact wrap_in (by unfold In64; omega)
  have d0 : ((arrN k s).1 * (s.2 + k + 1)).tdiv ((k : Int) + 1) = ((arrN k s).1 * (s.2 + k + 1)) / ((k : Int) + 1) := Int.tdiv_eq_ediv_of_nonneg (by omega)
  have d2 : ((arrN k s).1 * (s.2 + k + 1)) / ((k : Int) + 1) ≤ (arrN k s).1 * (s.2 + k + 1) := Int.ediv_le_self _ (by omega)
  have d3 : 0 ≤ ((arrN k s).1 * (s.2 + k + 1)) / ((k : Int) + 1) := Int.ediv_nonneg (by omega) (by omega)
  show IntKind.i64.wrap ((IntKind.i64.wrap ((arrN k s).1 * ((arrN k s).2 + 1))).tdiv ((k : Int) + 1)) = _
  rw [w1, d0]
  exact wrap_in (by unfold In64; omega)
theorem arrN_bin (a : Int) (n : Nat) (h1 : 1 ≤ a) (h2 : a ≤ fac n) : ∀ k : Nat, n + k ≤ 18 → (arrN k (a, (n : Int))).1 = a * (bin (n + k) k : Nat)
  | 0, _ => by simp [arrN, bin_zero]
  | k + 1, hk => by
    rw [arrN_step (a, (n : Int)) (by simp) h1 (by simpa using h2) k (by simp only; omega), arrN_bin a n h1 h2 k (by omega)]
    have hb := bin_succ (n + k) k
    have hb2 : ((bin (n + k) k : Nat) : Int) * ((n : Int) + k + 1) = ((bin (n + k + 1) (k + 1) : Nat) : Int) * ((k : Int) + 1) := by
      have : ((bin (n + k) k * (n + k + 1) : Nat) : Int) = ((bin (n + k + 1) (k + 1) * (k + 1) : Nat) : Int) := by rw [hb]
      simpa using this
    show a * ((bin (n + k) k : Nat) : Int) * ((n : Int) + k + 1) / ((k : Int) + 1) = _
    rw [Int.mul_assoc, hb2, ← Int.mul_assoc, Int.mul_ediv_cancel _ (by omega)]
    rfl
def facP : List Int → Nat
  | [] => 1
  | n :: r => fac n.toNat * facP r
theorem facP_pos : ∀ l, 1 ≤ facP l
  | [] => Nat.le_refl _
  | n :: r => Nat.mul_pos (fac_pos _) (facP_pos r)
theorem arrL_fac : ∀ (l : List Int) (a : Int) (n : Nat), 1 ≤ a → a ≤ fac n → Bd 0 24 l → n + l.sum ≤ 18 → (arrL l (a, (n : Int))).1 * (facP l : Nat) * (fac n : Nat) = a * (fac (n + l.sum).toNat : Nat)
  | [], a, n, _, _, _, _ => by simp [arrL, facP]
  | x :: r, a, n, h1, h2, hb, hs => by
    have hx := hb x (by simp)
    have hr : Bd 0 24 r := fun y hy => hb y (by simp [hy])
    have hr0 : (0 : Int) ≤ r.sum := by have := (sum_bd r hr).1; simpa using this
    rw [List.sum_cons] at hs ⊢
    obtain ⟨k, rfl⟩ := Int.eq_ofNat_of_zero_le hx.1
    have g := arrN_bd (a, (n : Int)) (by simp) h1 (by simpa using h2) k (by simp only; omega)
    have e2 := arrN_snd k (a, (n : Int))
    have eb := arrN_bin a n h1 h2 k (by omega)
    have es : arrN k (a, (n : Int)) = ((arrN k (a, (n : Int))).1, ((n + k : Nat) : Int)) := by
      apply Prod.ext
      · rfl
      · rw [e2]; simp
    have hf : ((n : Int) + k).toNat = n + k := by omega
    simp only [hf] at g
    have ih := arrL_fac r (arrN k (a, (n : Int))).1 (n + k) g.1 g.2 hr (by omega)
    rw [← es, eb] at ih
    have bf := bin_fac k n
    have bp : 0 < bin (n + k) k := by
      rcases Nat.eq_zero_or_pos (bin (n + k) k) with h | h
      · rw [h, Nat.zero_mul, Nat.zero_mul] at bf
        have := fac_pos (n + k); omega
      · exact h
    simp only [arrL, facP, Int.toNat_natCast]
    generalize (arrL r (arrN k (a, (n : Int)))).1 = A at *
    have eT : ((n : Int) + ((k : Int) + r.sum)).toNat = (((n + k : Nat) : Int) + r.sum).toNat := by omega
    rw [eT]
    generalize fac (((n + k : Nat) : Int) + r.sum).toNat = T at *
    rw [← bf] at ih
    have bI : ((bin (n + k) k : Nat) : Int) ≠ 0 := by omega
    apply Int.eq_of_mul_eq_mul_left bI
    simp only [Int.natCast_mul] at ih ⊢
    generalize ((bin (n + k) k : Nat) : Int) = b at *
    generalize ((fac k : Nat) : Int) = p at *
    generalize ((fac n : Nat) : Int) = q at *
    generalize ((facP r : Nat) : Int) = f at *
    generalize (T : Int) = t at *
    have l : A * f * (b * p * q) = b * (A * (p * f) * q) := by simp only [Int.mul_assoc, Int.mul_left_comm, Int.mul_comm]
    have rr : a * b * t = b * (a * t) := by simp only [Int.mul_assoc, Int.mul_left_comm, Int.mul_comm]
    rw [← l, ih, rr]
theorem arr_fac {l : List Int} (hb : Bd 0 24 l) (hs : l.sum ≤ 18) : arrF l * (facP l : Nat) = (fac l.sum.toNat : Nat) := by
  have := arrL_fac l 1 0 (by omega) (by simp [fac]) hb (by simpa using hs)
  simpa [arrF, fac] using this
theorem facP_set : ∀ (l : List Int) (c : Nat), c < l.length → 0 < l.getD c 0 → facP (l.set c (l.getD c 0 - 1)) * (l.getD c 0).toNat = facP l
  | [], c, h, _ => by simp at h
  | x :: r, 0, _, h => by
    simp only [List.getD_cons_zero, List.set_cons_zero, facP] at h ⊢
    obtain ⟨k, hk⟩ : ∃ k : Nat, x = k + 1 := ⟨(x - 1).toNat, by omega⟩
    rw [show (x - 1).toNat = k by omega, show x.toNat = k + 1 by omega]
    show fac k * facP r * (k + 1) = fac k * (k + 1) * facP r
    simp only [Nat.mul_assoc, Nat.mul_left_comm, Nat.mul_comm]
  | x :: r, c + 1, hc, h => by
    simp only [List.getD_cons_succ, List.set_cons_succ, facP] at h ⊢
    rw [Nat.mul_assoc, facP_set r c (by simpa using hc) h]
theorem sum_less : ∀ (l : List Int) (c : Nat), c < l.length → (l.set c (l.getD c 0 - 1)).sum = l.sum - 1
  | [], c, h => by simp at h
  | x :: r, 0, _ => by simp only [List.getD_cons_zero, List.set_cons_zero, List.sum_cons]; omega
  | x :: r, c + 1, hc => by
    simp only [List.getD_cons_succ, List.set_cons_succ, List.sum_cons]
    rw [sum_less r c (by simpa using hc)]; omega
theorem bd_less {l : List Int} {c : Nat} (hb : Bd 0 24 l) (hp : 0 < l.getD c 0) : Bd 0 24 (l.set c (l.getD c 0 - 1)) := fun x hx => by
  rcases List.mem_or_eq_of_mem_set hx with h | h
  · exact hb x h
  · have : c < l.length := by
      rcases Nat.lt_or_ge c l.length with h1 | h1
      · exact h1
      · rw [List.getD_eq_getElem?_getD, List.getElem?_eq_none (by omega)] at hp; exact absurd hp (by simp)
    have := hb.getD this
    omega
/-- Orders that begin with a color. -/
def wC (L : List Int) (c : Nat) : Int := if 0 < L.getD c 0 then arrF (L.set c (L.getD c 0 - 1)) else 0
def sW (L : List Int) : Nat → Int
  | 0 => 0
  | m + 1 => sW L m + wC L (m + 1)
theorem wC_fac {L : List Int} (hL : L.length = 6) (hb : Bd 0 24 L) (hs : L.sum ≤ 18) {c : Nat} (hc : c < 6) : wC L c * (facP L : Nat) = (fac (L.sum - 1).toNat : Nat) * L.getD c 0 := by
  have h0 := hb.getD (k := c) (by omega)
  unfold wC
  split
  · rename_i hp
    have e := sum_less L c (by omega)
    have h1 := arr_fac (bd_less hb hp) (by omega)
    have h2 := facP_set L c (by omega) hp
    rw [e] at h1
    have h3 : (facP L : Int) = (facP (L.set c (L.getD c 0 - 1)) : Nat) * L.getD c 0 := by
      rw [← h2, Int.natCast_mul, Int.toNat_of_nonneg (by omega)]
    rw [h3, ← Int.mul_assoc, h1]
  · rename_i hp
    rw [show L.getD c 0 = 0 by omega]; simp
theorem wC_nn {L : List Int} (hL : L.length = 6) (hb : Bd 0 24 L) (hs : L.sum ≤ 18) (c : Nat) : 0 ≤ wC L c := by
  unfold wC
  split
  · rename_i hp
    have hc : c < L.length := by
      rcases Nat.lt_or_ge c L.length with h1 | h1
      · exact h1
      · rw [List.getD_eq_getElem?_getD, List.getElem?_eq_none (by omega)] at hp; exact absurd hp (by simp)
    have e := sum_less L c hc
    have := (arrF_bd (bd_less hb hp) (by omega)).1
    omega
  · exact Int.le_refl _
theorem sW_mono {L : List Int} (hL : L.length = 6) (hb : Bd 0 24 L) (hs : L.sum ≤ 18) {a b : Nat} (h : a ≤ b) : sW L a ≤ sW L b := by
  induction b with
  | zero => rw [show a = 0 by omega]; exact Int.le_refl _
  | succ n ih =>
    by_cases hm : a = n + 1
    · subst hm; exact Int.le_refl _
    · have := ih (by omega)
      have := wC_nn hL hb hs (n + 1)
      show sW L a ≤ sW L n + wC L (n + 1)
      omega
/-- All orders begin with a color. -/
theorem sW_all {L : List Int} (hL : L.length = 6) (h0 : L.getD 0 0 = 0) (hb : Bd 0 24 L) (hs : L.sum ≤ 18) (hp : 0 < L.sum) : sW L 5 = arrF L := by
  have hf := arr_fac hb hs
  have hP := facP_pos L
  have hw := fun c (hc : c < 6) => wC_fac hL hb hs hc
  have e : sW L 5 = 0 + wC L 1 + wC L 2 + wC L 3 + wC L 4 + wC L 5 := rfl
  have ef : (fac L.sum.toNat : Int) = (fac (L.sum - 1).toNat : Nat) * L.sum := by
    have : L.sum.toNat = (L.sum - 1).toNat + 1 := by omega
    rw [this]
    show ((fac (L.sum - 1).toNat * ((L.sum - 1).toNat + 1) : Nat) : Int) = _
    rw [Int.natCast_mul]
    congr 1
    omega
  have six := sum_six hL
  rw [h0] at six
  have hPI : ((facP L : Nat) : Int) ≠ 0 := by omega
  apply Int.eq_of_mul_eq_mul_right hPI
  rw [hf, ef, e, Int.add_mul, Int.add_mul, Int.add_mul, Int.add_mul, Int.add_mul, hw 1 (by omega), hw 2 (by omega), hw 3 (by omega), hw 4 (by omega), hw 5 (by omega), six]
  simp only [Int.mul_add]
  omega
/-- The color of the first layer of the order with a rank. -/
def pkc (L : List Int) (r : Int) : Nat := if r < sW L 1 then 1 else if r < sW L 2 then 2 else if r < sW L 3 then 3 else if r < sW L 4 then 4 else 5
theorem pkc_bd (L : List Int) (r : Int) : 1 ≤ pkc L r ∧ pkc L r ≤ 5 := by
  unfold pkc
  repeat' split
  all_goals omega
theorem pkc_lo {L : List Int} {r : Int} (hL : L.length = 6) (hb : Bd 0 24 L) (hs : L.sum ≤ 18) (h0 : 0 ≤ r) {k : Nat} (hk : k + 1 ≤ pkc L r) : sW L k ≤ r := by
  have m := fun {a b : Nat} (h : a ≤ b) => sW_mono hL hb hs h
  have z : sW L 0 = 0 := rfl
  unfold pkc at hk
  split at hk
  · have := m (show k ≤ 0 by omega); omega
  split at hk
  · have := m (show k ≤ 1 by omega); omega
  split at hk
  · have := m (show k ≤ 2 by omega); omega
  split at hk
  · have := m (show k ≤ 3 by omega); omega
  · have := m (show k ≤ 4 by omega); omega
theorem pkc_hi {L : List Int} {r : Int} (h5 : r < sW L 5) : r < sW L (pkc L r) := by
  unfold pkc
  split
  · assumption
  split
  · assumption
  split
  · assumption
  split
  · assumption
  · exact h5
/-- Hidden layers that are left, and a rank among their orders. -/
structure vwI (L : List Int) (r : Int) : Prop where
  len : L.length = 6
  z : L.getD 0 0 = 0
  b : Bd 0 24 L
  s : L.sum ≤ 18
  r0 : 0 ≤ r
  r1 : r < arrF L
def lessL (L : List Int) (c : Nat) : List Int := L.set c (L.getD c 0 - 1)
structure pkR (L : List Int) (r : Int) (c : Nat) : Prop where
  c1 : 1 ≤ c
  c5 : c ≤ 5
  p : 0 < L.getD c 0
  lo : ∀ k, k < c → sW L k ≤ r
  hi : r < sW L c
  next : vwI (lessL L c) (r - sW L (c - 1))
  sum : (lessL L c).sum = L.sum - 1
theorem pkc_step {L : List Int} {r : Int} (h : vwI L r) (hp : 0 < L.sum) : pkR L r (pkc L r) := by
  obtain ⟨c1, c5⟩ := pkc_bd L r
  have ha := sW_all h.len h.z h.b h.s hp
  have hi := pkc_hi (L := L) (r := r) (by have := h.r1; omega)
  have lo := fun k (hk : k < pkc L r) => pkc_lo h.len h.b h.s h.r0 (k := k) (by omega)
  generalize pkc L r = c at *
  have lo1 := lo (c - 1) (by omega)
  have es : sW L c = sW L (c - 1) + wC L c := by
    obtain ⟨k, rfl⟩ : ∃ k, c = k + 1 := ⟨c - 1, by omega⟩
    rfl
  have pos : 0 < L.getD c 0 := by
    rcases Int.lt_or_le 0 (L.getD c 0) with h1 | h1
    · exact h1
    · have : wC L c = 0 := if_neg (by omega)
      omega
  have sl := sum_less L c (by rw [h.len]; omega)
  have ew : wC L c = arrF (lessL L c) := if_pos pos
  refine ⟨c1, c5, pos, lo, hi, ⟨by unfold lessL; rw [List.length_set]; exact h.len, ?_, bd_less h.b pos, ?_, by omega, by omega⟩, sl⟩
  · unfold lessL
    rw [List.getD_eq_getElem?_getD, List.getElem?_set_ne (by omega), ← List.getD_eq_getElem?_getD]; exact h.z
  · show (lessL L c).sum ≤ 18
    have : (lessL L c).sum = L.sum - 1 := sl
    have := h.s
    omega
end Go.Proofs.Ytckcojgfgcjamaa
set_option maxRecDepth 100000
set_option linter.unusedSimpArgs false
set_option linter.unusedVariables false
namespace Go.Proofs.Ytckcojgfgcjamaa
open Go Go.RowKit
def prG (c : Nat → Nat → Bool) (k : Nat) : List Int := if c (k / 6) (k % 6) = true then [((k / 6 : Nat) : Int), ((k % 6 : Nat) : Int)] else []
def GL (c : Nat → Nat → Bool) (m : Nat) : List Int := (List.range m).flatMap (prG c)
theorem GL_zero (c : Nat → Nat → Bool) : GL c 0 = [] := rfl
theorem GL_succ (c : Nat → Nat → Bool) (m : Nat) : GL c (m + 1) = GL c m ++ prG c m := by simp [GL, List.range_succ]
theorem GL_at (c : Nat → Nat → Bool) (i j : Nat) (hj : j < 6) : GL c (i * 6 + j + 1) = GL c (i * 6 + j) ++ if c i j = true then [(i : Int), (j : Int)] else [] := by
  rw [GL_succ]
  have e1 : (i * 6 + j) / 6 = i := by omega
  have e2 : (i * 6 + j) % 6 = j := by omega
  simp only [prG, e1, e2]
theorem GL_even (c : Nat → Nat → Bool) : ∀ m, ∃ n, (GL c m).length = n * 2 ∧ n ≤ m
  | 0 => ⟨0, rfl, by omega⟩
  | m + 1 => by
    obtain ⟨n, h1, h2⟩ := GL_even c m
    rw [GL_succ, List.length_append, h1]
    unfold prG
    split
    · exact ⟨n + 1, by simp; omega, by omega⟩
    · exact ⟨n, by simp, by omega⟩
/-- A slice that grows: nothing yet, or block b. -/
def outVn (b i len cap : Nat) : SV := match i with
  | 0 => .nils
  | _ + 1 => .slice b 0 len cap
def outHn (b i : Nat) (L : List Int) (e : Nat) (base : Heap) : Heap := match i with
  | 0 => base
  | _ + 1 => (b, .ints L e) :: base
theorem outVn_zero (b len cap : Nat) : outVn b 0 len cap = .nils := rfl
theorem outVn_succ (b i len cap : Nat) : outVn b (i + 1) len cap = .slice b 0 len cap := rfl
theorem outHn_zero (b : Nat) (L : List Int) (e : Nat) (base : Heap) : outHn b 0 L e base = base := rfl
theorem outHn_succ (b i : Nat) (L : List Int) (e : Nat) (base : Heap) : outHn b (i + 1) L e base = (b, .ints L e) :: base := rfl
theorem GL_pair (c : Nat → Nat → Bool) : ∀ m, m ≤ 36 → ∀ i, i * 2 + 2 ≤ (GL c m).length → ∃ a b : Nat, a < 6 ∧ b < 6 ∧ c a b = true ∧ ((GL c m).drop (i * 2)).take 2 = [(a : Int), (b : Int)]
  | 0, _, i, h => by simp [GL_zero] at h
  | m + 1, hm, i, h => by
    obtain ⟨n, hn, _⟩ := GL_even c m
    rw [GL_succ, List.length_append, hn] at h
    by_cases hi : i * 2 + 2 ≤ n * 2
    · obtain ⟨a, b, h1, h2, h3, h4⟩ := GL_pair c m (by omega) i (by omega)
      refine ⟨a, b, h1, h2, h3, ?_⟩
      rw [GL_succ, List.drop_append_of_le_length (by omega), List.take_append_of_le_length (by rw [List.length_drop]; omega)]
      exact h4
    · unfold prG at h
      split at h
      · rename_i hc
        simp at h
        have : i = n := by omega
        subst this
        refine ⟨m / 6, m % 6, by omega, by omega, hc, ?_⟩
        rw [GL_succ, List.drop_left' hn]
        unfold prG
        rw [if_pos hc]; rfl
      · simp at h; omega
end Go.Proofs.Ytckcojgfgcjamaa
set_option maxRecDepth 100000
set_option linter.unusedSimpArgs false
set_option linter.unusedVariables false
namespace Go.Proofs.Ytckcojgfgcjamaa
open Go Go.RowKit
def vcan (V : List Int) (i j : Nat) : Bool := !decide ((i : Int) = j) && decide (0 < V.getD i 0) && decide (V.getD (6 + j) 0 < 4) && (decide (V.getD j 0 = 0) || decide (V.getD j 0 = V.getD i 0))
--@tbl vcanPour = (impl.View).canPour
theorem vcanPour_ok (V : List Int) (i j : Nat) (hV : V.length = 18) (hi : i < 6) (hj : j < 6) : PureH Try.prog 82 [.arr V, .int i, .int j] [] (.bool (vcan V i j)) := by
  have tkV : V.take 18 = V := List.take_of_length_le (by omega)
  have il : (i : Int) < 6 := by omega
  have jl : (j : Int) < 6 := by omega
  have i0 : 0 ≤ (i : Int) := by omega
  have j0 : 0 ≤ (j : Int) := by omega
  have i8 : i < 18 := by omega
  have j8 : j < 18 := by omega
  have j6 : 6 + j < 18 := by omega
  unfold vcan
  by_cases h1 : (i : Int) = j <;> by_cases h2 : 0 < V.getD i 0 <;> by_cases h3 : V.getD (6 + j) 0 < 4 <;> by_cases h4 : V.getD j 0 = 0
  all_goals
    refine pure_of_vc (X := ⟨Try.prog, tys, [], [], true, true, 0, [], []⟩) fn_82 ⟨tys_ok, .nil, .nil, mixed⟩ (n0 := 0) (Nat.le_of_ble_eq_true rfl) (by simp [wfL, SV.wf]) (wfH_spec (by simp [wfH, SObj.wf, wfL, SV.wf])) (Nat.le_refl _) (fun _ => by simp [SV.wf, wfL]) ?_
    simp -implicitDefEqProofs only [Try.f82, Option.getD_some, argS, hV, tkV, il, jl, i0, j0, i8, j8, j6, h1, h2, h3, h4, ZB, Int.reduceToNat, Nat.reduceLT, Nat.reduceLeDiff, Int.reduceLE, Int.reduceLT, Nat.reduceEqDiff, Nat.reduceSub, SB, SV.known, packR, ne_eq, reduceCtorEq, Nat.reduceEqDiff, ↓reduceIte, if_true, if_false, eq_self, Nat.reduceAdd, Nat.reduceMul, Nat.reduceSub, forall_const, oneCellS, litOne, flat1, Kd.isSca, flat, TYB]
  all_goals simp
--@tbl l7Can = spec.l7Can
theorem l7Can_ok (V : List Int) (i j : Nat) (hV : V.length = 18) (hi : i < 6) (hj : j < 6) (u1 : vTop V) (u2 : vMan V) (u3 : vTM V) : PureH Try.prog 83 [.arr V, .int i, .int j] [] (.bool (vcan V i j)) := by
  have tkV : V.take 18 = V := List.take_of_length_le (by omega)
  have il : (i : Int) < 6 := by omega
  have jl : (j : Int) < 6 := by omega
  have a1 := u3 i hi
  have a2 := u3 j hj
  have a3 := u1 i hi
  have a4 := u1 j hj
  have a5 := u2 j hj
  refine pure_of_vc (X := ⟨Try.prog, tys, [], [], true, true, 0, [], []⟩) fn_83 ⟨tys_ok, .nil, .nil, mixed⟩ (n0 := 0) (Nat.le_of_ble_eq_true rfl) (by simp [wfL, SV.wf]) (wfH_spec (by simp [wfH, SObj.wf, wfL, SV.wf])) (Nat.le_refl _) (fun _ => by simp [SV.wf, wfL]) ?_
  simp -implicitDefEqProofs only [Try.f83, Option.getD_some, argS, hV, tkV, il, jl, ZB, Int.reduceToNat, Nat.reduceLT, Nat.reduceLeDiff, Int.reduceLE, Int.reduceLT, Nat.reduceEqDiff, Nat.reduceSub, SB, SV.known, packR, ne_eq, reduceCtorEq, Nat.reduceEqDiff, ↓reduceIte, if_true, if_false, eq_self, Nat.reduceAdd, Nat.reduceMul, Nat.reduceSub, forall_const, oneCellS, litOne, flat1, Kd.isSca, flat, TYB]
  refine ⟨fun h => by unfold vcan; rw [decide_eq_true h]; rfl, fun h => ⟨by omega, by omega, fun h2 => ⟨by omega, by omega, fun h3 => ⟨by omega, by omega, fun h4 => ?_, fun h4 => ⟨by omega, by omega, by omega, by omega, ?_⟩⟩, fun h3 => ?_⟩, fun h2 => ?_⟩⟩
  · unfold vcan; rw [decide_eq_false h, decide_eq_true (show 0 < V.getD i 0 by omega), decide_eq_true h3, decide_eq_true (show V.getD j 0 = 0 by omega)]; rfl
  · unfold vcan; rw [decide_eq_false h, decide_eq_true (show 0 < V.getD i 0 by omega), decide_eq_true h3, decide_eq_false (show ¬ V.getD j 0 = 0 by omega)]
    simp [eq_comm]
  · unfold vcan; rw [decide_eq_false h3]; simp
  · unfold vcan; rw [decide_eq_false (show ¬ 0 < V.getD i 0 by omega)]; simp
theorem vcanPour_okI (V : List Int) (x y : Int) (hV : V.length = 18) (hx : 0 ≤ x ∧ x < 6) (hy : 0 ≤ y ∧ y < 6) : PureH Try.prog 82 [.arr V, .int x, .int y] [] (.bool (vcan V x.toNat y.toNat)) := by
  have := vcanPour_ok V x.toNat y.toNat hV (by omega) (by omega)
  rw [Int.toNat_of_nonneg hx.1, Int.toNat_of_nonneg hy.1] at this
  exact this
theorem l7Can_okI (V : List Int) (x y : Int) (hV : V.length = 18) (hx : 0 ≤ x ∧ x < 6) (hy : 0 ≤ y ∧ y < 6) (u1 : vTop V) (u2 : vMan V) (u3 : vTM V) : PureH Try.prog 83 [.arr V, .int x, .int y] [] (.bool (vcan V x.toNat y.toNat)) := by
  have := l7Can_ok V x.toNat y.toNat hV (by omega) (by omega) u1 u2 u3
  rw [Int.toNat_of_nonneg hx.1, Int.toNat_of_nonneg hy.1] at this
  exact this
def vcanPour_F : List SV → Heap → Option (Prop × SV)
  | [.arr V, .int x, .int y], _ => some (V.length = 18 ∧ (0 ≤ x ∧ x < 6) ∧ (0 ≤ y ∧ y < 6), .bool (vcan V x.toNat y.toNat))
  | _, _ => none
theorem vcanPour_T : ∀ args H p v, vcanPour_F args H = some (p, v) → p → PureH Try.prog 82 args H v := by
  intro args H p v h hp
  unfold vcanPour_F at h
  split at h
  · cases h; exact (vcanPour_okI _ _ _ hp.1 hp.2.1 hp.2.2).any _
  · cases h
def l7Can_F : List SV → Heap → Option (Prop × SV)
  | [.arr V, .int x, .int y], _ => some (V.length = 18 ∧ (0 ≤ x ∧ x < 6) ∧ (0 ≤ y ∧ y < 6) ∧ vTop V ∧ vMan V ∧ vTM V, .bool (vcan V x.toNat y.toNat))
  | _, _ => none
theorem l7Can_T : ∀ args H p v, l7Can_F args H = some (p, v) → p → PureH Try.prog 83 args H v := by
  intro args H p v h hp
  unfold l7Can_F at h
  split at h
  · cases h; exact (l7Can_okI _ _ _ hp.1 hp.2.1 hp.2.2.1 hp.2.2.2.1 hp.2.2.2.2.1 hp.2.2.2.2.2).any _
  · cases h
theorem two_blocks {P : Program} {f : FuncId} {args : List SV} {o1 o2 : SObj} {r : SV} {H : Heap} {a b : Nat} (h : PureH P f args [(0, o1), (1, o2)] r) (hab : a ≠ b) (g1 : hget H a = some o1) (g2 : hget H b = some o2) (w1 : ∀ ρ, o1.ren ρ = o1) (w2 : ∀ ρ, o2.ren ρ = o2) (hr : ∀ n, r.wf n) :
    PureH P f (renL (fun j => if j = 0 then a else b) args) H r :=
  h.sub (H := H) (fun j => if j = 0 then a else b) (fun j o hj => by
    simp only [hget_cons] at hj
    split at hj
    · rename_i hj0; cases hj; refine ⟨?_, fun _ => by omega, by simp [hj0]⟩; show hget H (if j = 0 then a else b) = _; rw [if_pos hj0, w1]; exact g1
    · rename_i hj0
      split at hj
      · rename_i hj1; cases hj; refine ⟨?_, fun _ => by omega, by simp [hj1]⟩; show hget H (if j = 0 then a else b) = _; rw [if_neg hj0, w2]; exact g2
      · cases hj) (fun x hx y hy he => by
    simp at hx hy
    rcases hx with rfl | rfl <;> rcases hy with rfl | rfl <;> simp at he <;> omega) hr
/-! Choices. -/
def chP (all : Int) (b : Nat) : Nat → Int
  | 0 => 1
  | n + 1 => chP all b n * (all - ((b + n : Nat) : Int))
def p18 : Nat → Int
  | 0 => 1
  | n + 1 => p18 n * 18
theorem p18_pos : ∀ n, 1 ≤ p18 n
  | 0 => by simp [p18]
  | n + 1 => by have := p18_pos n; unfold p18; omega
theorem p18_mono {a b : Nat} (h : a ≤ b) : p18 a ≤ p18 b := by
  induction b with
  | zero => rw [show a = 0 by omega]; exact Int.le_refl _
  | succ n ih =>
    by_cases hm : a = n + 1
    · subst hm; exact Int.le_refl _
    · have := ih (by omega)
      have := p18_pos n
      show p18 a ≤ p18 n * 18
      omega
theorem p18_four : p18 4 = 104976 := rfl
theorem p18_add (a b : Nat) : p18 a * p18 b = p18 (a + b) := by
  induction b with
  | zero => simp [p18]
  | succ n ih => rw [← Nat.add_assoc]; show p18 a * (p18 n * 18) = p18 (a + n) * 18; rw [← Int.mul_assoc, ih]
theorem chP_bd {all : Int} {b : Nat} (ha : all ≤ 18) : ∀ n, (n = 0 ∨ ((b + n : Nat) : Int) ≤ all) → 1 ≤ chP all b n ∧ chP all b n ≤ p18 n
  | 0, _ => by simp [chP, p18]
  | n + 1, h => by
    obtain ⟨g1, g2⟩ := chP_bd (b := b) ha n (by omega)
    have f1 : 1 ≤ all - ((b + n : Nat) : Int) := by omega
    have f2 : all - ((b + n : Nat) : Int) ≤ 18 := by omega
    have := mul_bd (show 0 ≤ chP all b n by omega) g2 (show 0 ≤ all - ((b + n : Nat) : Int) by omega) f2
    have m := Int.mul_le_mul_of_nonneg_right g1 (show 0 ≤ all - ((b + n : Nat) : Int) by omega)
    unfold chP p18
    omega
--@tbl tops1 = (impl.View).tops$1
theorem tops1_ok (all : Int) (m b : Nat) (ha : 0 ≤ all ∧ all ≤ 18) (hm : m ≤ 4) (hma : (m : Int) - 1 ≤ all) (hb5 : b ≤ 5) (e1 e2 : Nat) : PureH Try.prog 110 [.int b, .ptr 0 0, .ptr 1 0] [(0, .ints [(m : Int)] e1), (1, .ints [all] e2)] (.int (chP all b (m - 1 - b))) := by
  refine pure_of_vc (X := ⟨Try.prog, tys, [], [], true, true, 2, [], []⟩) fn_110 ⟨tys_ok, .nil, .nil, mixed⟩ (n0 := 2) (Nat.le_of_ble_eq_true rfl) (by simp [wfL, SV.wf]) (wfH_spec (by simp [wfH, SObj.wf, wfL, SV.wf])) (Nat.le_refl _) (fun _ => by simp [SV.wf, wfL]) ?_
  simp -implicitDefEqProofs only [Try.f110, Option.getD_some, argS, ZB, Int.reduceToNat, Nat.reduceLT, Nat.reduceLeDiff, Int.reduceLE, Int.reduceLT, Nat.reduceEqDiff, Nat.reduceSub, SB, SV.known, packR, ne_eq, reduceCtorEq, Nat.reduceEqDiff, ↓reduceIte, if_true, if_false, eq_self, Nat.reduceAdd, Nat.reduceMul, Nat.reduceSub, forall_const, oneCellS, litOne, flat1, Kd.isSca, flat, TYB]
  refine loop_intro (fun k : Nat => [(6, .int ((b + k : Nat) : Int)), (5, .int (chP all b k)), (1, .ptr 0 0), (2, .ptr 1 0)]) (fun k => [(0, .ints [(m : Int)] e1), (1, .ints [all] e2)]) 2 (fun k => k ≤ m - 1 - b) (fun k => 5 - k) ?_ ?_
  · refine ⟨0, ?_, Sub.mk_id ?_ ?_ ?_ ?_ ?_⟩
    all_goals (try (simp only [chP, Nat.add_zero, LB, subS, subH, wfS, wfH, SV.ren, renL, SObj.ren, SV.wf, SObj.wf, wfL, SV.known, Nat.reduceEqDiff, ↓reduceIte, if_true, if_false, eq_self, Nat.reduceAdd, Nat.reduceLT, Nat.reduceLeDiff, implies_true, reduceCtorEq, forall_const]; done))
    all_goals (try (simp only [chP, Nat.add_zero, LB, subS, subH, wfS, wfH, SV.ren, renL, SObj.ren, SV.wf, SObj.wf, wfL, SV.known, Nat.reduceEqDiff, ↓reduceIte, if_true, if_false, eq_self, Nat.reduceAdd, Nat.reduceLT, Nat.reduceLeDiff, implies_true, reduceCtorEq, forall_const]; simp; done))
    all_goals (try (simp only [chP, Nat.add_zero, LB, subS, subH, wfS, wfH, SV.ren, renL, SObj.ren, SV.wf, SObj.wf, wfL, SV.known, Nat.reduceEqDiff, ↓reduceIte, if_true, if_false, eq_self, Nat.reduceAdd, Nat.reduceLT, Nat.reduceLeDiff, implies_true, reduceCtorEq, forall_const]; (and_intros <;> (first | omega | rfl | (simp; done) | (simp; omega))); done))
    all_goals (try dsimp only)
    all_goals (and_intros <;> try (first | omega | (unfold In64; omega) | trivial | assumption))
  · intro k hk
    by_cases hlt : ((b + k : Nat) : Int) < (m : Int) - 1
    · obtain ⟨g1, g2⟩ := chP_bd (b := b) ha.2 (k + 1) (by omega)
      obtain ⟨g3, g4⟩ := chP_bd (b := b) ha.2 k (by omega)
      have pm := p18_mono (show k + 1 ≤ 4 by omega)
      rw [p18_four] at pm
      have es : chP all b (k + 1) = chP all b k * (all - ((b + k : Nat) : Int)) := rfl
      have iq : In64 (chP all b k * (all - ((b + k : Nat) : Int))) := by rw [← es]; unfold In64; omega
      have hl0 : [(m : Int)].getD 0 0 = m := rfl
      have hl1 : [all].getD 0 0 = all := rfl
      simp -implicitDefEqProofs only [lk_normal, hl0, hl1, hlt, iq, ZB, Int.reduceToNat, Nat.reduceLT, Nat.reduceLeDiff, Int.reduceLE, Int.reduceLT, Nat.reduceEqDiff, Nat.reduceSub, SB, SV.known, packR, ne_eq, reduceCtorEq, Nat.reduceEqDiff, ↓reduceIte, if_true, if_false, eq_self, Nat.reduceAdd, Nat.reduceMul, Nat.reduceSub, forall_const, oneCellS, litOne, flat1, Kd.isSca, flat, TYB]
      (try (and_intros <;> try (first | omega | (unfold In64; omega) | trivial | assumption)))
      refine ⟨k + 1, ?_, ?_, Sub.mk_id ?_ ?_ ?_ ?_ ?_⟩
      all_goals (try (simp only [es, LB, subS, subH, wfS, wfH, SV.ren, renL, SObj.ren, SV.wf, SObj.wf, wfL, SV.known, Nat.reduceEqDiff, ↓reduceIte, if_true, if_false, eq_self, Nat.reduceAdd, Nat.reduceLT, Nat.reduceLeDiff, implies_true, reduceCtorEq, forall_const]; done))
      all_goals (try (simp only [es, LB, subS, subH, wfS, wfH, SV.ren, renL, SObj.ren, SV.wf, SObj.wf, wfL, SV.known, Nat.reduceEqDiff, ↓reduceIte, if_true, if_false, eq_self, Nat.reduceAdd, Nat.reduceLT, Nat.reduceLeDiff, implies_true, reduceCtorEq, forall_const]; simp; done))
      all_goals (try (simp only [es, LB, subS, subH, wfS, wfH, SV.ren, renL, SObj.ren, SV.wf, SObj.wf, wfL, SV.known, Nat.reduceEqDiff, ↓reduceIte, if_true, if_false, eq_self, Nat.reduceAdd, Nat.reduceLT, Nat.reduceLeDiff, implies_true, reduceCtorEq, forall_const]; (and_intros <;> (first | omega | rfl | (simp; done) | (simp; omega))); done))
      all_goals (try dsimp only)
      all_goals (and_intros <;> try (first | omega | (unfold In64; omega) | trivial | assumption))
    · have ek : k = m - 1 - b := by omega
      have hl0 : [(m : Int)].getD 0 0 = m := rfl
      simp -implicitDefEqProofs only [lk_normal, hl0, hlt, ZB, Int.reduceToNat, Nat.reduceLT, Nat.reduceLeDiff, Int.reduceLE, Int.reduceLT, Nat.reduceEqDiff, Nat.reduceSub, SB, SV.known, packR, ne_eq, reduceCtorEq, Nat.reduceEqDiff, ↓reduceIte, if_true, if_false, eq_self, Nat.reduceAdd, Nat.reduceMul, Nat.reduceSub, forall_const, oneCellS, litOne, flat1, Kd.isSca, flat, TYB]
      (try (and_intros <;> try (first | omega | (unfold In64; omega) | trivial | assumption)))
      all_goals (try rw [ek])
def tops1_F : List SV → Heap → Option (Prop × SV)
  | [.int x, .ptr p 0, .ptr q 0], H => match hget H p, hget H q with
    | some (.ints [m] _), some (.ints [all] _) => some (p ≠ q ∧ (0 ≤ x ∧ x ≤ 5) ∧ (0 ≤ all ∧ all ≤ 18) ∧ (0 ≤ m ∧ m ≤ 4) ∧ m - 1 ≤ all, .int (chP all x.toNat (m.toNat - 1 - x.toNat)))
    | _, _ => none
  | _, _ => none
theorem tops1_T : ∀ args H p v, tops1_F args H = some (p, v) → p → PureH Try.prog 110 args H v := by
  intro args H p v h hp
  unfold tops1_F at h
  split at h
  · rename_i x p q
    split at h
    · rename_i m e1 all e2 g1 g2
      cases h
      obtain ⟨hpq, hx, ha, hm, hma⟩ := hp
      have := tops1_ok all m.toNat x.toNat ha (by omega) (by omega) (by omega) e1 e2
      rw [Int.toNat_of_nonneg hx.1, Int.toNat_of_nonneg hm.1] at this
      have h2 := two_blocks this hpq g1 g2 (fun _ => rfl) (fun _ => rfl) (fun _ => trivial)
      simpa [renL, SV.ren] using h2
    · cases h
  · cases h
def wyF (same : Int) : Nat → Int
  | 0 => 1
  | r + 1 => wyF same r * max (same - (r : Int)) 0
theorem wyF_bd {same : Int} (h : same ≤ 18) : ∀ r, 0 ≤ wyF same r ∧ wyF same r ≤ p18 r
  | 0 => by simp [wyF, p18]
  | r + 1 => by
    obtain ⟨g1, g2⟩ := wyF_bd h r
    have := mul_bd g1 g2 (show 0 ≤ max (same - (r : Int)) 0 by omega) (show max (same - (r : Int)) 0 ≤ 18 by omega)
    exact this
def toVal (all same : Int) (m r : Nat) : Int := if r = 0 then 0 else if r < m then wyF same (r - 1) * (all - ((r : Int) - 1) - (same - ((r : Int) - 1))) * chP all r (m - 1 - r) else if r = m then wyF same (m - 1) else 0
def toL (all same : Int) (m r : Nat) : List Int := (List.range 5).map fun q => if q ≤ r then toVal all same m q else 0
theorem toL_len (all same : Int) (m r : Nat) : (toL all same m r).length = 5 := by simp [toL]
theorem toL_get (all same : Int) (m r : Nat) {q : Nat} (h : q < 5) : (toL all same m r).getD q 0 = if q ≤ r then toVal all same m q else 0 := by simp [toL, List.getD, h]
theorem list_ext5 {L M : List Int} (hL : L.length = 5) (hM : M.length = 5) (h : ∀ q, q < 5 → L.getD q 0 = M.getD q 0) : L = M := by
  apply List.ext_getElem (by omega)
  intro q h1 h2
  have := h q (by omega)
  simp only [List.getD, List.getElem?_eq_getElem h1, List.getElem?_eq_getElem h2, Option.getD_some] at this
  exact this
theorem toL_zero (all same : Int) (m : Nat) : toL all same m 0 = List.replicate 5 0 := list_ext5 (toL_len _ _ _ _) (by simp) fun q h => by
  rw [toL_get _ _ _ _ h, List.getD_eq_getElem?_getD, List.getElem?_replicate, if_pos h]
  split
  · rw [show q = 0 by omega]; rfl
  · rfl
theorem toL_set (all same : Int) (m : Nat) {r : Nat} (h : r + 1 < 5) : (toL all same m r).set (r + 1) (toVal all same m (r + 1)) = toL all same m (r + 1) := list_ext5 (by rw [List.length_set, toL_len]) (toL_len _ _ _ _) fun q hq => by
  rw [getD_set' _ _ _ _ (by rw [toL_len]; omega), toL_get _ _ _ _ hq, toL_get _ _ _ _ hq]
  by_cases h1 : r + 1 = q
  · subst h1; rw [if_pos rfl, if_pos (by omega)]
  · rw [if_neg h1]
    by_cases h2 : q ≤ r
    · rw [if_pos h2, if_pos (by omega)]
    · rw [if_neg h2, if_neg (by omega)]
/-- What is asked of a tube of a view. -/
structure vsm (V : List Int) (i : Nat) (all same : Int) (m : Nat) : Prop where
  all_ : (hidV V).sum = all
  same_ : (hidV V).getD (V.getD i 0).toNat 0 = same
  m_ : V.getD (6 + i) 0 = m
  a : 0 ≤ all ∧ all ≤ 18
  b : 0 ≤ same ∧ same ≤ all
  c : m ≤ 4
  d : (m : Int) - 1 ≤ all
--@tbl tops = (impl.View).tops
theorem tops_ok (V : List Int) (i m : Nat) (all same : Int) (hV : V.length = 18) (hi : i < 6) (u1 : vTop V) (lenH : (hidV V).length = 6) (bH : Bd 0 24 (hidV V)) (hs : vsm V i all same m) : PureH Try.prog 76 [.arr V, .int i] [] (.tup [.arr (toL all same m m), .int (chP all 0 (m - 1))]) := by
  have tkV : V.take 18 = V := List.take_of_length_le (by omega)
  have il : (i : Int) < 6 := by omega
  have i0 : 0 ≤ (i : Int) := by omega
  have i8 : i < 18 := by omega
  have i6 : 6 + i < 18 := by omega
  have eH : hidL (V.take 6) (V.drop 12) 6 = hidV V := rfl
  have tkH : (hidV V).take 6 = hidV V := List.take_of_length_le (by omega)
  have bH2 : Bd (-1000000) 1000000 (hidV V) := fun x hx => by have := bH x hx; omega
  have t0 := u1 i hi
  have t1 : 0 ≤ V.getD i 0 := t0.1
  have t2 : V.getD i 0 < 6 := by omega
  have t3 : (V.getD i 0).toNat < 6 := by omega
  have e1 := hs.all_
  have e2 := hs.same_
  have e3 := hs.m_
  have sm : [(0 : Int)].set 0 (m : Int) = [(m : Int)] := rfl
  refine pure_of_vc (X := ⟨Try.prog, tys, [(53, hidden_F), (68, sum_F), (110, tops1_F)], [], true, true, 0, [], [(2, .holes [])]⟩) fn_76 ⟨tys_ok, (.cons hidden_T (.cons sum_T (.cons tops1_T .nil))), .nil, mixed⟩ (n0 := 0) (Nat.le_of_ble_eq_true rfl) (by simp [wfL, SV.wf]) (wfH_spec (by simp [wfH, SObj.wf, wfL, SV.wf])) (Nat.le_refl _) (fun _ => by simp [SV.wf, wfL]) ?_
  simp -implicitDefEqProofs only [Try.f76, Option.getD_some, argS, hidden_F, sum_F, tops1_F, hV, tkV, il, i0, i8, i6, u1, eH, lenH, tkH, bH2, t1, t2, t3, e1, e2, e3, sm, ZB, Int.reduceToNat, Nat.reduceLT, Nat.reduceLeDiff, Int.reduceLE, Int.reduceLT, Nat.reduceEqDiff, Nat.reduceSub, SB, SV.known, packR, ne_eq, reduceCtorEq, Nat.reduceEqDiff, ↓reduceIte, if_true, if_false, eq_self, Nat.reduceAdd, Nat.reduceMul, Nat.reduceSub, forall_const, oneCellS, litOne, flat1, Kd.isSca, flat, TYB]
  refine loop_intro (fun r : Nat => [(13, .int ((r : Int) + 1)), (12, .int (wyF same r)), (11, .ptr 5 0), (10, .fn 110 [.ptr 4 0, .ptr 3 0]), (9, .ptr 4 0), (8, .int same), (7, .ptr 3 0), (4, .ptr 1 0)]) (fun r => [(5, .ints (toL all same m r) 91), (4, .ints [(m : Int)] 3), (3, .ints [all] 3), (1, .ints (List.replicate 5 0) 91)]) 6 (fun r => r ≤ m) (fun r => 5 - r) ?_ ?_
  · refine ⟨0, ?_, Sub.mk_id ?_ ?_ ?_ ?_ ?_⟩
    all_goals (try (simp only [toL_zero, wyF, LB, subS, subH, wfS, wfH, SV.ren, renL, SObj.ren, SV.wf, SObj.wf, wfL, SV.known, Nat.reduceEqDiff, ↓reduceIte, if_true, if_false, eq_self, Nat.reduceAdd, Nat.reduceLT, Nat.reduceLeDiff, implies_true, reduceCtorEq, forall_const]; done))
    all_goals (try (simp only [toL_zero, wyF, LB, subS, subH, wfS, wfH, SV.ren, renL, SObj.ren, SV.wf, SObj.wf, wfL, SV.known, Nat.reduceEqDiff, ↓reduceIte, if_true, if_false, eq_self, Nat.reduceAdd, Nat.reduceLT, Nat.reduceLeDiff, implies_true, reduceCtorEq, forall_const]; simp; done))
    all_goals (try (simp only [toL_zero, wyF, LB, subS, subH, wfS, wfH, SV.ren, renL, SObj.ren, SV.wf, SObj.wf, wfL, SV.known, Nat.reduceEqDiff, ↓reduceIte, if_true, if_false, eq_self, Nat.reduceAdd, Nat.reduceLT, Nat.reduceLeDiff, implies_true, reduceCtorEq, forall_const]; (and_intros <;> (first | omega | rfl | (simp; done) | (simp; omega))); done))
    all_goals (try dsimp only)
    all_goals (and_intros <;> try (first | omega | (unfold In64; omega) | trivial | assumption))
  · intro r hr
    have hl := toL_len all same m r
    have g4 : [(m : Int)].getD 0 0 = m := rfl
    have g3 : [all].getD 0 0 = all := rfl
    have r1 : (r : Int) + 1 - 1 = r := by omega
    have wb := wyF_bd (same := same) (by have := hs.b; have := hs.a; omega) r
    have pm := p18_mono (show r ≤ 4 by have := hs.c; omega)
    rw [p18_four] at pm
    have ha := hs.a
    have hb := hs.b
    have hc := hs.c
    have hd := hs.d
    by_cases hlt : (r : Int) + 1 ≤ m
    · have tn : ((r : Int) + 1).toNat = r + 1 := by omega
      have k0 : 0 ≤ (r : Int) + 1 := by omega
      have k5 : (r : Int) + 1 < 5 := by omega
      have k5b : (r : Int) + 1 ≤ 5 := by omega
      have k5n : r + 1 < 5 := by omega
      have mm : 0 ≤ (m : Int) ∧ (m : Int) ≤ 4 := by omega
      have ar : (4 : Nat) ≠ 3 := by decide
      have ws : wyF same (r + 1) = wyF same r * max (same - (r : Int)) 0 := rfl
      have wb2 := wyF_bd (same := same) (by omega) (r + 1)
      have pm2 := p18_mono (show r + 1 ≤ 4 by omega)
      rw [p18_four] at pm2
      have i2 : In64 (wyF same r * max (same - (r : Int)) 0) := by rw [← ws]; unfold In64; omega
      have es := toL_set all same m k5n
      by_cases hl2 : (r : Int) + 1 < m
      · have ev : toVal all same m (r + 1) = wyF same r * (all - r - (same - r)) * chP all (r + 1) (m - 1 - (r + 1)) := by
          unfold toVal
          rw [if_neg (by omega), if_pos (by omega)]
          simp only [Nat.add_sub_cancel]
          rw [show (((r + 1 : Nat) : Int) - 1) = r by omega]
        rw [ev] at es
        obtain ⟨c1, c2⟩ := chP_bd (b := r + 1) (all := all) (by omega) (m - 1 - (r + 1)) (by omega)
        have m1 := mul_bd wb.1 wb.2 (show 0 ≤ all - r - (same - r) by omega) (show all - r - (same - r) ≤ 18 by omega)
        have m2 := mul_bd m1.1 m1.2 (show 0 ≤ chP all (r + 1) (m - 1 - (r + 1)) by omega) c2
        have m3 : p18 r * 18 * p18 (m - 1 - (r + 1)) ≤ p18 4 := by
          show p18 (r + 1) * p18 (m - 1 - (r + 1)) ≤ p18 4
          rw [p18_add]; exact p18_mono (by omega)
        rw [p18_four] at m3
        have i3 : In64 (wyF same r * (all - r - (same - r))) := by unfold In64; omega
        have i4 : In64 (wyF same r * (all - r - (same - r)) * chP all (r + 1) (m - 1 - (r + 1))) := by unfold In64; omega
        simp -implicitDefEqProofs only [lk_normal, tops1_F, g3, g4, hl, hlt, hl2, r1, tn, k0, k5, k5b, k5n, mm, ar, ha, hd, ws, i2, i3, i4, es, ZB, Int.reduceToNat, Nat.reduceLT, Nat.reduceLeDiff, Int.reduceLE, Int.reduceLT, Nat.reduceEqDiff, Nat.reduceSub, SB, SV.known, packR, ne_eq, reduceCtorEq, Nat.reduceEqDiff, ↓reduceIte, if_true, if_false, eq_self, Nat.reduceAdd, Nat.reduceMul, Nat.reduceSub, forall_const, oneCellS, litOne, flat1, Kd.isSca, flat, TYB]
        (try (and_intros <;> try (first | omega | (unfold In64; omega) | trivial | assumption)))
        refine ⟨r + 1, ?_, ?_, Sub.mk_id ?_ ?_ ?_ ?_ ?_⟩
        all_goals (try (simp only [ws, LB, subS, subH, wfS, wfH, SV.ren, renL, SObj.ren, SV.wf, SObj.wf, wfL, SV.known, Nat.reduceEqDiff, ↓reduceIte, if_true, if_false, eq_self, Nat.reduceAdd, Nat.reduceLT, Nat.reduceLeDiff, implies_true, reduceCtorEq, forall_const]; done))
        all_goals (try (simp only [ws, LB, subS, subH, wfS, wfH, SV.ren, renL, SObj.ren, SV.wf, SObj.wf, wfL, SV.known, Nat.reduceEqDiff, ↓reduceIte, if_true, if_false, eq_self, Nat.reduceAdd, Nat.reduceLT, Nat.reduceLeDiff, implies_true, reduceCtorEq, forall_const]; simp; done))
        all_goals (try (simp only [ws, LB, subS, subH, wfS, wfH, SV.ren, renL, SObj.ren, SV.wf, SObj.wf, wfL, SV.known, Nat.reduceEqDiff, ↓reduceIte, if_true, if_false, eq_self, Nat.reduceAdd, Nat.reduceLT, Nat.reduceLeDiff, implies_true, reduceCtorEq, forall_const]; (and_intros <;> (first | omega | rfl | (simp; done) | (simp; omega))); done))
        all_goals (try dsimp only)
        all_goals (and_intros <;> try (first | omega | (unfold In64; omega) | trivial | assumption))
      · have ev : toVal all same m (r + 1) = wyF same r := by
          unfold toVal
          rw [if_neg (by omega), if_neg (by omega), if_pos (by omega), show m - 1 = r by omega]
        rw [ev] at es
        simp -implicitDefEqProofs only [lk_normal, tops1_F, g3, g4, hl, hlt, hl2, r1, tn, k0, k5, k5b, k5n, mm, ar, ha, hd, ws, i2, es, ZB, Int.reduceToNat, Nat.reduceLT, Nat.reduceLeDiff, Int.reduceLE, Int.reduceLT, Nat.reduceEqDiff, Nat.reduceSub, SB, SV.known, packR, ne_eq, reduceCtorEq, Nat.reduceEqDiff, ↓reduceIte, if_true, if_false, eq_self, Nat.reduceAdd, Nat.reduceMul, Nat.reduceSub, forall_const, oneCellS, litOne, flat1, Kd.isSca, flat, TYB]
        (try (and_intros <;> try (first | omega | (unfold In64; omega) | trivial | assumption)))
        refine ⟨r + 1, ?_, ?_, Sub.mk_id ?_ ?_ ?_ ?_ ?_⟩
        all_goals (try (simp only [ws, LB, subS, subH, wfS, wfH, SV.ren, renL, SObj.ren, SV.wf, SObj.wf, wfL, SV.known, Nat.reduceEqDiff, ↓reduceIte, if_true, if_false, eq_self, Nat.reduceAdd, Nat.reduceLT, Nat.reduceLeDiff, implies_true, reduceCtorEq, forall_const]; done))
        all_goals (try (simp only [ws, LB, subS, subH, wfS, wfH, SV.ren, renL, SObj.ren, SV.wf, SObj.wf, wfL, SV.known, Nat.reduceEqDiff, ↓reduceIte, if_true, if_false, eq_self, Nat.reduceAdd, Nat.reduceLT, Nat.reduceLeDiff, implies_true, reduceCtorEq, forall_const]; simp; done))
        all_goals (try (simp only [ws, LB, subS, subH, wfS, wfH, SV.ren, renL, SObj.ren, SV.wf, SObj.wf, wfL, SV.known, Nat.reduceEqDiff, ↓reduceIte, if_true, if_false, eq_self, Nat.reduceAdd, Nat.reduceLT, Nat.reduceLeDiff, implies_true, reduceCtorEq, forall_const]; (and_intros <;> (first | omega | rfl | (simp; done) | (simp; omega))); done))
        all_goals (try dsimp only)
        all_goals (and_intros <;> try (first | omega | (unfold In64; omega) | trivial | assumption))
    · obtain rfl : r = m := by omega
      have mm : 0 ≤ (r : Int) ∧ (r : Int) ≤ 4 := by omega
      have ar : (4 : Nat) ≠ 3 := by decide
      have tk5 : (toL all same r r).take 5 = toL all same r r := List.take_of_length_le (by omega)
      simp -implicitDefEqProofs only [lk_normal, tops1_F, g3, g4, hl, hlt, tk5, mm, ar, ha, hd, ZB, Int.reduceToNat, Nat.reduceLT, Nat.reduceLeDiff, Int.reduceLE, Int.reduceLT, Nat.reduceEqDiff, Nat.reduceSub, SB, SV.known, packR, ne_eq, reduceCtorEq, Nat.reduceEqDiff, ↓reduceIte, if_true, if_false, eq_self, Nat.reduceAdd, Nat.reduceMul, Nat.reduceSub, forall_const, oneCellS, litOne, flat1, Kd.isSca, flat, TYB]
      (try (and_intros <;> try (first | omega | (unfold In64; omega) | trivial | assumption)))
structure vG (V : List Int) : Prop where
  len : V.length = 18
  u1 : vTop V
  u2 : vMan V
  u3 : vTM V
  lenH : (hidV V).length = 6
  bH : Bd 0 24 (hidV V)
  hs : (hidV V).sum = hmL (V.drop 6) 6
  h18 : (hidV V).sum ≤ 18
def al (V : List Int) : Int := (hidV V).sum
def sa (V : List Int) (i : Nat) : Int := (hidV V).getD (V.getD i 0).toNat 0
def mm (V : List Int) (i : Nat) : Nat := (V.getD (6 + i) 0).toNat
theorem hmL_ge {M : List Int} (hM : ∀ k, k < 6 → 0 ≤ M.getD k 0 ∧ M.getD k 0 ≤ 4) (i : Nat) : ∀ k, k ≤ 6 → i < k → M.getD i 0 - 1 ≤ hmL M k
  | 0, _, h => by omega
  | k + 1, hk, h => by
    have hb := hmL_bd hM k (by omega)
    have hm := hM k (by omega)
    by_cases hik : i = k
    · subst hik
      unfold hmL
      split <;> omega
    · have := hmL_ge hM i k (by omega) (by omega)
      unfold hmL
      split <;> omega
theorem vsm_of {V : List Int} (g : vG V) {i : Nat} (hi : i < 6) : vsm V i (al V) (sa V i) (mm V i) := by
  have h2 := g.u2 i hi
  have h1 := g.u1 i hi
  have gM : ∀ k, (V.drop 6).getD k 0 = V.getD (6 + k) 0 := fun k => by simp [List.getD]
  have hm := hmL_ge (M := V.drop 6) (fun k hk => by rw [gM]; exact g.u2 k hk) i 6 (Nat.le_refl _) hi
  rw [gM, ← g.hs] at hm
  have hs0 := sum_bd _ g.bH
  have hsl := le_sum _ (V.getD i 0).toNat g.bH (by rw [g.lenH]; omega)
  have hs1 : 0 ≤ (hidV V).getD (V.getD i 0).toNat 0 := (g.bH.getD (by rw [g.lenH]; omega)).1
  have h18 := g.h18
  refine ⟨rfl, rfl, ?_, ?_, ⟨hs1, hsl⟩, ?_, ?_⟩
  · unfold mm; omega
  · unfold al; omega
  · unfold mm; omega
  · unfold mm al; omega
theorem tops_okI (V : List Int) (x : Int) (g : vG V) (hx : 0 ≤ x ∧ x < 6) : PureH Try.prog 76 [.arr V, .int x] [] (.tup [.arr (toL (al V) (sa V x.toNat) (mm V x.toNat) (mm V x.toNat)), .int (chP (al V) 0 (mm V x.toNat - 1))]) := by
  have := tops_ok V x.toNat _ _ _ g.len (by omega) g.u1 g.lenH g.bH (vsm_of g (by omega))
  rw [Int.toNat_of_nonneg hx.1] at this
  exact this
def tops_F : List SV → Heap → Option (Prop × SV)
  | [.arr V, .int x], _ => some (vG V ∧ 0 ≤ x ∧ x < 6, .tup [.arr (toL (al V) (sa V x.toNat) (mm V x.toNat) (mm V x.toNat)), .int (chP (al V) 0 (mm V x.toNat - 1))])
  | _, _ => none
theorem tops_T : ∀ args H p v, tops_F args H = some (p, v) → p → PureH Try.prog 76 args H v := by
  intro args H p v h hp
  unfold tops_F at h
  split at h
  · cases h; exact (tops_okI _ _ hp.1 hp.2).any _
  · cases h
/-! Is a pour certain? -/
def tv (V : List Int) (i r : Nat) : Int := toVal (al V) (sa V i) (mm V i) r
def mvW (V : List Int) (j r : Nat) : Int := min (r : Int) (4 - V.getD (6 + j) 0)
def mvA (V : List Int) (i j : Nat) : Nat → Int
  | 0 => 0
  | q + 1 => if tv V i q = 0 then mvA V i j q else mvW V j q
def certB (V : List Int) (i j : Nat) : Bool := (List.range 5).all fun r => (List.range 5).all fun s => decide (tv V i r = 0) || decide (tv V i s = 0) || decide (mvW V j r = mvW V j s)
theorem certB_iff {V : List Int} {i j : Nat} : certB V i j = true ↔ ∀ r s, r < 5 → s < 5 → tv V i r ≠ 0 → tv V i s ≠ 0 → mvW V j r = mvW V j s := by
  unfold certB
  simp only [List.all_eq_true, List.mem_range, Bool.or_eq_true, decide_eq_true_eq]
  constructor
  · intro h r s hr hs h1 h2
    rcases h r hr s hs with (h3 | h3) | h3
    · exact absurd h3 h1
    · exact absurd h3 h2
    · exact h3
  · intro h r hr s hs
    by_cases h1 : tv V i r = 0
    · exact .inl (.inl h1)
    · by_cases h2 : tv V i s = 0
      · exact .inl (.inr h2)
      · exact .inr (h r s hr hs h1 h2)
theorem tv_get {V : List Int} {i r : Nat} (hr : r < 5) : (toL (al V) (sa V i) (mm V i) (mm V i)).getD r 0 = tv V i r := by
  rw [toL_get _ _ _ _ hr]
  unfold tv
  split
  · rfl
  · unfold toVal
    rw [if_neg (by omega), if_neg (by omega), if_neg (by omega)]
theorem tv_zero (V : List Int) (i : Nat) : tv V i 0 = 0 := rfl
theorem mvW_pos {V : List Int} {j r : Nat} (hj : V.getD (6 + j) 0 < 4) (hr : 1 ≤ r) (hr4 : r ≤ 4) (h0 : 0 ≤ V.getD (6 + j) 0) : 1 ≤ mvW V j r ∧ mvW V j r ≤ 4 := by
  unfold mvW; omega
theorem mvA_inv {V : List Int} {i j : Nat} (hj : V.getD (6 + j) 0 < 4) (h0 : 0 ≤ V.getD (6 + j) 0) : ∀ q, q ≤ 5 → (mvA V i j q = 0 ∧ ∀ r, r < q → tv V i r = 0) ∨ (1 ≤ mvA V i j q ∧ mvA V i j q ≤ 4 ∧ ∃ r, r < q ∧ tv V i r ≠ 0 ∧ mvW V j r = mvA V i j q)
  | 0, _ => .inl ⟨rfl, fun r hr => by omega⟩
  | q + 1, hq => by
    have ih := mvA_inv (i := i) hj h0 q (by omega)
    by_cases hz : tv V i q = 0
    · have e : mvA V i j (q + 1) = mvA V i j q := by rw [mvA, if_pos hz]
      rw [e]
      rcases ih with ⟨a, b⟩ | ⟨a, b, r, c, d⟩
      · refine .inl ⟨a, fun r hr => ?_⟩
        by_cases hrq : r = q
        · rw [hrq]; exact hz
        · exact b r (by omega)
      · exact .inr ⟨a, b, r, by omega, d⟩
    · have e : mvA V i j (q + 1) = mvW V j q := by rw [mvA, if_neg hz]
      have hq1 : 1 ≤ q := by
        rcases Nat.eq_zero_or_pos q with rfl | h
        · exact absurd (tv_zero V i) hz
        · exact h
      have := mvW_pos hj hq1 (show q ≤ 4 by omega) h0
      rw [e]
      exact .inr ⟨this.1, this.2, q, by omega, hz, rfl⟩
--@tbl isCertain = (impl.View).isCertain
theorem isCertain_ok (V : List Int) (i j : Nat) (g : vG V) (hi : i < 6) (hj : j < 6) (hj4 : V.getD (6 + j) 0 < 4) : PureH Try.prog 86 [.arr V, .int i, .int j] [] (.bool (certB V i j)) := by
  have hV := g.len
  have tkV : V.take 18 = V := List.take_of_length_le (by omega)
  have il : (i : Int) < 6 := by omega
  have i0 : 0 ≤ (i : Int) := by omega
  have jl : (j : Int) < 6 := by omega
  have j0 : 0 ≤ (j : Int) := by omega
  have j6 : 6 + j < 18 := by omega
  have h0 := (g.u2 j hj).1
  have lL := toL_len (al V) (sa V i) (mm V i) (mm V i)
  have tk5 := List.take_of_length_le (Nat.le_of_eq lL)
  have gL : ∀ r, r < 5 → (toL (al V) (sa V i) (mm V i) (mm V i)).getD r 0 = tv V i r := fun r hr => tv_get hr
  refine pure_of_vc (X := ⟨Try.prog, tys, [(76, tops_F)], [], true, true, 0, [], []⟩) fn_86 ⟨tys_ok, (.cons tops_T .nil), .nil, mixed⟩ (n0 := 0) (Nat.le_of_ble_eq_true rfl) (by simp [wfL, SV.wf]) (wfH_spec (by simp [wfH, SObj.wf, wfL, SV.wf])) (Nat.le_refl _) (fun _ => by simp [SV.wf, wfL]) ?_
  simp -implicitDefEqProofs only [Try.f86, Option.getD_some, argS, tops_F, hV, tkV, il, i0, g, lL, tk5, ZB, Int.reduceToNat, Nat.reduceLT, Nat.reduceLeDiff, Int.reduceLE, Int.reduceLT, Nat.reduceEqDiff, Nat.reduceSub, SB, SV.known, packR, ne_eq, reduceCtorEq, Nat.reduceEqDiff, ↓reduceIte, if_true, if_false, eq_self, Nat.reduceAdd, Nat.reduceMul, Nat.reduceSub, forall_const, oneCellS, litOne, flat1, Kd.isSca, flat, TYB]
  generalize toL (al V) (sa V i) (mm V i) (mm V i) = L at *
  refine loop_intro (fun q : Nat => [(20, .int q), (19, .arr L), (9, .int (mvA V i j q)), (3, .ptr 0 0), (2, .int j)]) (fun q => [(0, .ints V 31)]) 2 (fun q => q ≤ 5 ∧ ∀ r, r < q → tv V i r ≠ 0 → mvW V j r = mvA V i j q) (fun q => 5 - q) ?_ ?_
  · refine ⟨0, ?_, Sub.mk_id ?_ ?_ ?_ ?_ ?_⟩
    all_goals (try (simp only [mvA, LB, subS, subH, wfS, wfH, SV.ren, renL, SObj.ren, SV.wf, SObj.wf, wfL, SV.known, Nat.reduceEqDiff, ↓reduceIte, if_true, if_false, eq_self, Nat.reduceAdd, Nat.reduceLT, Nat.reduceLeDiff, implies_true, reduceCtorEq, forall_const]; done))
    all_goals (try (simp only [mvA, LB, subS, subH, wfS, wfH, SV.ren, renL, SObj.ren, SV.wf, SObj.wf, wfL, SV.known, Nat.reduceEqDiff, ↓reduceIte, if_true, if_false, eq_self, Nat.reduceAdd, Nat.reduceLT, Nat.reduceLeDiff, implies_true, reduceCtorEq, forall_const]; simp; done))
    all_goals (try (simp only [mvA, LB, subS, subH, wfS, wfH, SV.ren, renL, SObj.ren, SV.wf, SObj.wf, wfL, SV.known, Nat.reduceEqDiff, ↓reduceIte, if_true, if_false, eq_self, Nat.reduceAdd, Nat.reduceLT, Nat.reduceLeDiff, implies_true, reduceCtorEq, forall_const]; (and_intros <;> (first | omega | rfl | (simp; done) | (simp; omega))); done))
    all_goals (try dsimp only)
    all_goals (and_intros <;> try (first | omega | (unfold In64; omega) | trivial | assumption))
    all_goals (intro r hr; omega)
  · rintro q ⟨hq, hall⟩
    have inv := mvA_inv (i := i) hj4 h0 q hq
    by_cases hlt : q < 5
    · have ql : (q : Int) < 5 := by omega
      have ge := gL q hlt
      have em : min (q : Int) (4 - V.getD (6 + j) 0) = mvW V j q := rfl
      by_cases hz : tv V i q = 0
      · have es : mvA V i j (q + 1) = mvA V i j q := by rw [mvA, if_pos hz]
        simp -implicitDefEqProofs only [lk_normal, ql, lL, ge, hz, hV, jl, j0, j6, ZB, Int.reduceToNat, Nat.reduceLT, Nat.reduceLeDiff, Int.reduceLE, Int.reduceLT, Nat.reduceEqDiff, Nat.reduceSub, SB, SV.known, packR, ne_eq, reduceCtorEq, Nat.reduceEqDiff, ↓reduceIte, if_true, if_false, eq_self, Nat.reduceAdd, Nat.reduceMul, Nat.reduceSub, forall_const, oneCellS, litOne, flat1, Kd.isSca, flat, TYB]
        (try (and_intros <;> try (first | omega | (unfold In64; omega) | trivial | assumption)))
        refine ⟨q + 1, ?_, ?_, Sub.mk_id ?_ ?_ ?_ ?_ ?_⟩
        all_goals (try (simp only [es, LB, subS, subH, wfS, wfH, SV.ren, renL, SObj.ren, SV.wf, SObj.wf, wfL, SV.known, Nat.reduceEqDiff, ↓reduceIte, if_true, if_false, eq_self, Nat.reduceAdd, Nat.reduceLT, Nat.reduceLeDiff, implies_true, reduceCtorEq, forall_const]; done))
        all_goals (try (simp only [es, LB, subS, subH, wfS, wfH, SV.ren, renL, SObj.ren, SV.wf, SObj.wf, wfL, SV.known, Nat.reduceEqDiff, ↓reduceIte, if_true, if_false, eq_self, Nat.reduceAdd, Nat.reduceLT, Nat.reduceLeDiff, implies_true, reduceCtorEq, forall_const]; simp; done))
        all_goals (try (simp only [es, LB, subS, subH, wfS, wfH, SV.ren, renL, SObj.ren, SV.wf, SObj.wf, wfL, SV.known, Nat.reduceEqDiff, ↓reduceIte, if_true, if_false, eq_self, Nat.reduceAdd, Nat.reduceLT, Nat.reduceLeDiff, implies_true, reduceCtorEq, forall_const]; (and_intros <;> (first | omega | rfl | (simp; done) | (simp; omega))); done))
        all_goals (try dsimp only)
        all_goals (and_intros <;> try (first | omega | (unfold In64; omega) | trivial | assumption))
        intro r hr h1
        rw [es]
        by_cases hrq : r = q
        · subst hrq; exact absurd hz h1
        · exact hall r (by omega) h1
      · have es : mvA V i j (q + 1) = mvW V j q := by rw [mvA, if_neg hz]
        have hq1 : 1 ≤ q := by
          rcases Nat.eq_zero_or_pos q with rfl | h
          · exact absurd (tv_zero V i) hz
          · exact h
        rcases inv with ⟨a, b⟩ | ⟨a, b, s, c, d, e⟩
        · have np : ¬ 0 < mvA V i j q := by omega
          simp -implicitDefEqProofs only [lk_normal, ql, lL, ge, hz, hV, jl, j0, j6, em, np, ZB, Int.reduceToNat, Nat.reduceLT, Nat.reduceLeDiff, Int.reduceLE, Int.reduceLT, Nat.reduceEqDiff, Nat.reduceSub, SB, SV.known, packR, ne_eq, reduceCtorEq, Nat.reduceEqDiff, ↓reduceIte, if_true, if_false, eq_self, Nat.reduceAdd, Nat.reduceMul, Nat.reduceSub, forall_const, oneCellS, litOne, flat1, Kd.isSca, flat, TYB]
          (try (and_intros <;> try (first | omega | (unfold In64; omega) | trivial | assumption)))
          refine ⟨q + 1, ?_, ?_, Sub.mk_id ?_ ?_ ?_ ?_ ?_⟩
          all_goals (try (simp only [es, LB, subS, subH, wfS, wfH, SV.ren, renL, SObj.ren, SV.wf, SObj.wf, wfL, SV.known, Nat.reduceEqDiff, ↓reduceIte, if_true, if_false, eq_self, Nat.reduceAdd, Nat.reduceLT, Nat.reduceLeDiff, implies_true, reduceCtorEq, forall_const]; done))
          all_goals (try (simp only [es, LB, subS, subH, wfS, wfH, SV.ren, renL, SObj.ren, SV.wf, SObj.wf, wfL, SV.known, Nat.reduceEqDiff, ↓reduceIte, if_true, if_false, eq_self, Nat.reduceAdd, Nat.reduceLT, Nat.reduceLeDiff, implies_true, reduceCtorEq, forall_const]; simp; done))
          all_goals (try (simp only [es, LB, subS, subH, wfS, wfH, SV.ren, renL, SObj.ren, SV.wf, SObj.wf, wfL, SV.known, Nat.reduceEqDiff, ↓reduceIte, if_true, if_false, eq_self, Nat.reduceAdd, Nat.reduceLT, Nat.reduceLeDiff, implies_true, reduceCtorEq, forall_const]; (and_intros <;> (first | omega | rfl | (simp; done) | (simp; omega))); done))
          all_goals (try dsimp only)
          all_goals (and_intros <;> try (first | omega | (unfold In64; omega) | trivial | assumption))
          intro r hr h1
          rw [es]
          by_cases hrq : r = q
          · subst hrq; rfl
          · exact absurd (b r (by omega)) h1
        · have np : 0 < mvA V i j q := by omega
          by_cases heq : mvW V j q = mvA V i j q
          · simp -implicitDefEqProofs only [lk_normal, ql, lL, ge, hz, hV, jl, j0, j6, em, np, heq, ZB, Int.reduceToNat, Nat.reduceLT, Nat.reduceLeDiff, Int.reduceLE, Int.reduceLT, Nat.reduceEqDiff, Nat.reduceSub, SB, SV.known, packR, ne_eq, reduceCtorEq, Nat.reduceEqDiff, ↓reduceIte, if_true, if_false, eq_self, Nat.reduceAdd, Nat.reduceMul, Nat.reduceSub, forall_const, oneCellS, litOne, flat1, Kd.isSca, flat, TYB]
            (try (and_intros <;> try (first | omega | (unfold In64; omega) | trivial | assumption)))
            refine ⟨q + 1, ?_, ?_, Sub.mk_id ?_ ?_ ?_ ?_ ?_⟩
            all_goals (try (simp only [es, heq, LB, subS, subH, wfS, wfH, SV.ren, renL, SObj.ren, SV.wf, SObj.wf, wfL, SV.known, Nat.reduceEqDiff, ↓reduceIte, if_true, if_false, eq_self, Nat.reduceAdd, Nat.reduceLT, Nat.reduceLeDiff, implies_true, reduceCtorEq, forall_const]; done))
            all_goals (try (simp only [es, heq, LB, subS, subH, wfS, wfH, SV.ren, renL, SObj.ren, SV.wf, SObj.wf, wfL, SV.known, Nat.reduceEqDiff, ↓reduceIte, if_true, if_false, eq_self, Nat.reduceAdd, Nat.reduceLT, Nat.reduceLeDiff, implies_true, reduceCtorEq, forall_const]; simp; done))
            all_goals (try (simp only [es, heq, LB, subS, subH, wfS, wfH, SV.ren, renL, SObj.ren, SV.wf, SObj.wf, wfL, SV.known, Nat.reduceEqDiff, ↓reduceIte, if_true, if_false, eq_self, Nat.reduceAdd, Nat.reduceLT, Nat.reduceLeDiff, implies_true, reduceCtorEq, forall_const]; (and_intros <;> (first | omega | rfl | (simp; done) | (simp; omega))); done))
            all_goals (try dsimp only)
            all_goals (and_intros <;> try (first | omega | (unfold In64; omega) | trivial | assumption))
            intro r hr h1
            rw [es]
            by_cases hrq : r = q
            · subst hrq; rfl
            · rw [heq]; exact hall r (by omega) h1
          · have hcf : certB V i j = false := by
              cases hc : certB V i j with
              | false => rfl
              | true => exact absurd ((certB_iff.1 hc q s hlt (by omega) hz d).trans e) heq
            simp -implicitDefEqProofs only [lk_normal, ql, lL, ge, hz, hV, jl, j0, j6, em, np, heq, hcf, ZB, Int.reduceToNat, Nat.reduceLT, Nat.reduceLeDiff, Int.reduceLE, Int.reduceLT, Nat.reduceEqDiff, Nat.reduceSub, SB, SV.known, packR, ne_eq, reduceCtorEq, Nat.reduceEqDiff, ↓reduceIte, if_true, if_false, eq_self, Nat.reduceAdd, Nat.reduceMul, Nat.reduceSub, forall_const, oneCellS, litOne, flat1, Kd.isSca, flat, TYB]
            (try (and_intros <;> try (first | omega | (unfold In64; omega) | trivial | assumption)))
    · have ql : ¬ (5 : Int) < 5 := by omega
      obtain rfl : q = 5 := by omega
      have hct : certB V i j = true := certB_iff.2 fun r s hr hs h1 h2 => (hall r hr h1).trans (hall s hs h2).symm
      simp -implicitDefEqProofs only [lk_normal, ql, lL, hct, ZB, Int.reduceToNat, Nat.reduceLT, Nat.reduceLeDiff, Int.reduceLE, Int.reduceLT, Nat.reduceEqDiff, Nat.reduceSub, SB, SV.known, packR, ne_eq, reduceCtorEq, Nat.reduceEqDiff, ↓reduceIte, if_true, if_false, eq_self, Nat.reduceAdd, Nat.reduceMul, Nat.reduceSub, forall_const, oneCellS, litOne, flat1, Kd.isSca, flat, TYB]
/-! The chance of a top. -/
def ltK (all same : Int) : Nat → List Int
  | 0 => [1, 1]
  | k + 1 => fracF ((ltK all same k).getD 0 0 * max (same - (k : Int)) 0) ((ltK all same k).getD 1 0 * (all - (k : Int)))
def ltF (all same : Int) (m r : Nat) : List Int := if m < r then [0, 1] else if r < m then fracF ((ltK all same (r - 1)).getD 0 0 * (all - ((r : Int) - 1) - max (same - ((r : Int) - 1)) 0)) ((ltK all same (r - 1)).getD 1 0 * (all - ((r : Int) - 1))) else ltK all same (r - 1)
theorem fracF_sign {a b : Int} (ha : 0 ≤ a) (hb : 0 < b) : 0 < (fracF a b).getD 0 0 ↔ 0 < a := by
  have hp := fracF_pos ha hb
  constructor
  · intro h; omega
  · intro h
    show 0 < a.tdiv (Nat.gcd a.toNat b.toNat : Nat)
    have hg : 0 < Nat.gcd a.toNat b.toNat := Nat.gcd_pos_of_pos_right _ (by omega)
    rw [Int.tdiv_eq_ediv_of_nonneg ha]
    have hd : ((Nat.gcd a.toNat b.toNat : Nat) : Int) ≤ a := by
      have := Nat.gcd_le_left b.toNat (show 0 < a.toNat by omega)
      omega
    have : 1 ≤ a / ((Nat.gcd a.toNat b.toNat : Nat) : Int) := (Int.le_ediv_iff_mul_le (by omega)).2 (by omega)
    omega
theorem ltK_bd {all same : Int} (ha : all ≤ 18) (hs : same ≤ 18) : ∀ k : Nat, (k = 0 ∨ (k : Int) ≤ all) → (ltK all same k).length = 2 ∧ 0 ≤ (ltK all same k).getD 0 0 ∧ (ltK all same k).getD 0 0 ≤ p18 k ∧ 0 < (ltK all same k).getD 1 0 ∧ (ltK all same k).getD 1 0 ≤ p18 k ∧ (0 < (ltK all same k).getD 0 0 ↔ 0 < wyF same k)
  | 0, _ => by simp [ltK, p18, wyF]
  | k + 1, h => by
    obtain ⟨g0, g1, g2, g3, g4, g5⟩ := ltK_bd ha hs k (by omega)
    have f1 : 1 ≤ all - (k : Int) := by omega
    have m1 := mul_bd g1 g2 (show 0 ≤ max (same - (k : Int)) 0 by omega) (show max (same - (k : Int)) 0 ≤ 18 by omega)
    have m2 := mul_bd (show 0 ≤ (ltK all same k).getD 1 0 by omega) g4 (show 0 ≤ all - (k : Int) by omega) (show all - (k : Int) ≤ 18 by omega)
    have m3 := Int.mul_pos g3 (show 0 < all - (k : Int) by omega)
    have hp := fracF_pos m1.1 m3
    have hsn := fracF_sign m1.1 m3
    have wb := wyF_bd hs k
    refine ⟨fracF_len _ _, hp.1, Int.le_trans hp.2.1 m1.2, hp.2.2.1, Int.le_trans hp.2.2.2 m2.2, ?_⟩
    show 0 < (fracF _ _).getD 0 0 ↔ 0 < wyF same k * max (same - (k : Int)) 0
    rw [hsn]
    constructor
    · intro h1
      have : 0 < (ltK all same k).getD 0 0 := by
        rcases Int.lt_or_eq_of_le g1 with h2 | h2
        · exact h2
        · rw [← h2, Int.zero_mul] at h1; omega
      have h3 := g5.1 this
      have h4 : 0 < max (same - (k : Int)) 0 := by
        rcases Int.lt_or_eq_of_le (show 0 ≤ max (same - (k : Int)) 0 by omega) with h2 | h2
        · exact h2
        · rw [← h2, Int.mul_zero] at h1; omega
      exact Int.mul_pos h3 h4
    · intro h1
      have h3 : 0 < wyF same k := by
        rcases Int.lt_or_eq_of_le wb.1 with h2 | h2
        · exact h2
        · rw [← h2, Int.zero_mul] at h1; omega
      have h4 : 0 < max (same - (k : Int)) 0 := by
        rcases Int.lt_or_eq_of_le (show 0 ≤ max (same - (k : Int)) 0 by omega) with h2 | h2
        · exact h2
        · rw [← h2, Int.mul_zero] at h1; omega
      exact Int.mul_pos (g5.2 h3) h4
--@tbl l7Top = spec.l7Top
theorem l7Top_ok (V : List Int) (i r : Nat) (g : vG V) (hi : i < 6) (hr : 1 ≤ r) (hr4 : r ≤ 4) : PureH Try.prog 77 [.arr V, .int i, .int r] [] (.arr (ltF (al V) (sa V i) (mm V i) r)) := by
  have hV := g.len
  have tkV : V.take 18 = V := List.take_of_length_le (by omega)
  have u1 := g.u1
  have u2 := g.u2
  have u3 := g.u3
  have lenH := g.lenH
  have tkH : (hidV V).take 6 = hidV V := List.take_of_length_le (by omega)
  have il : (i : Int) < 6 := by omega
  have i0 : 0 ≤ (i : Int) := by omega
  have i8 : i < 18 := by omega
  have i6 : 6 + i < 18 := by omega
  have eH : hidL (V.take 6) (V.drop 12) 6 = hidV V := rfl
  have eM : hmL (V.drop 6) 6 = al V := g.hs.symm
  have sm := vsm_of g hi
  have e2 := sm.same_
  have e3 := sm.m_
  have t0 := u1 i hi
  have t1 : 0 ≤ V.getD i 0 := t0.1
  have t2 : V.getD i 0 < 6 := by omega
  have t3 : (V.getD i 0).toNat < 6 := by omega
  unfold ltF
  by_cases hrm : mm V i < r
  · have hc : (mm V i : Int) < r := by omega
    rw [if_pos hrm]
    refine pure_of_vc (X := ⟨Try.prog, tys, [(56, l7Hidden_F), (75, l7Cut_F), (87, l1Most_F)], [], true, true, 0, [], []⟩) fn_77 ⟨tys_ok, (.cons l7Hidden_T (.cons l7Cut_T (.cons l1Most_T .nil))), .nil, mixed⟩ (n0 := 0) (Nat.le_of_ble_eq_true rfl) (by simp [wfL, SV.wf]) (wfH_spec (by simp [wfH, SObj.wf, wfL, SV.wf])) (Nat.le_refl _) (fun _ => by simp [SV.wf, wfL]) ?_
    simp -implicitDefEqProofs only [Try.f77, Option.getD_some, argS, l7Hidden_F, l7Cut_F, l1Most_F, hV, tkV, il, i0, i8, i6, u1, u2, u3, eH, eM, lenH, tkH, e2, e3, t1, t2, t3, hc, ZB, Int.reduceToNat, Nat.reduceLT, Nat.reduceLeDiff, Int.reduceLE, Int.reduceLT, Nat.reduceEqDiff, Nat.reduceSub, SB, SV.known, packR, ne_eq, reduceCtorEq, Nat.reduceEqDiff, ↓reduceIte, if_true, if_false, eq_self, Nat.reduceAdd, Nat.reduceMul, Nat.reduceSub, forall_const, oneCellS, litOne, flat1, Kd.isSca, flat, TYB]
  · have hc : ¬ (mm V i : Int) < r := by omega
    rw [if_neg hrm]
    refine pure_of_vc (X := ⟨Try.prog, tys, [(56, l7Hidden_F), (75, l7Cut_F), (87, l1Most_F)], [], true, true, 0, [], []⟩) fn_77 ⟨tys_ok, (.cons l7Hidden_T (.cons l7Cut_T (.cons l1Most_T .nil))), .nil, mixed⟩ (n0 := 0) (Nat.le_of_ble_eq_true rfl) (by simp [wfL, SV.wf]) (wfH_spec (by simp [wfH, SObj.wf, wfL, SV.wf])) (Nat.le_refl _) (fun _ => by simp [SV.wf, wfL]) ?_
    simp -implicitDefEqProofs only [Try.f77, Option.getD_some, argS, l7Hidden_F, l7Cut_F, l1Most_F, hV, tkV, il, i0, i8, i6, u1, u2, u3, eH, eM, lenH, tkH, e2, e3, t1, t2, t3, hc, ZB, Int.reduceToNat, Nat.reduceLT, Nat.reduceLeDiff, Int.reduceLE, Int.reduceLT, Nat.reduceEqDiff, Nat.reduceSub, SB, SV.known, packR, ne_eq, reduceCtorEq, Nat.reduceEqDiff, ↓reduceIte, if_true, if_false, eq_self, Nat.reduceAdd, Nat.reduceMul, Nat.reduceSub, forall_const, oneCellS, litOne, flat1, Kd.isSca, flat, TYB]
    have ha := sm.a
    have hb := sm.b
    have hcm := sm.c
    have hd := sm.d
    generalize al V = all at *
    generalize sa V i = same at *
    generalize mm V i = m at *
    refine loop_intro (fun k : Nat => [(11, .int ((k : Int) + 1)), (9, .int (same - (k : Int))), (10, .ptr 3 0), (7, .int (all - (k : Int))), (3, .ptr 0 0), (1, .int i), (2, .int r), (6, .ptr 1 0)]) (fun k => [(3, .ints (ltK all same k) 47), (1, .ints (List.replicate 2 0) 47), (0, .ints V 31)]) 4 (fun k => k ≤ r - 1) (fun k => 5 - k) ?_ ?_
    · refine ⟨0, ?_, Sub.mk_id ?_ ?_ ?_ ?_ ?_⟩
      all_goals (try (simp only [ltK, LB, subS, subH, wfS, wfH, SV.ren, renL, SObj.ren, SV.wf, SObj.wf, wfL, SV.known, Nat.reduceEqDiff, ↓reduceIte, if_true, if_false, eq_self, Nat.reduceAdd, Nat.reduceLT, Nat.reduceLeDiff, implies_true, reduceCtorEq, forall_const]; done))
      all_goals (try (simp only [ltK, LB, subS, subH, wfS, wfH, SV.ren, renL, SObj.ren, SV.wf, SObj.wf, wfL, SV.known, Nat.reduceEqDiff, ↓reduceIte, if_true, if_false, eq_self, Nat.reduceAdd, Nat.reduceLT, Nat.reduceLeDiff, implies_true, reduceCtorEq, forall_const]; simp; done))
      all_goals (try (simp only [ltK, LB, subS, subH, wfS, wfH, SV.ren, renL, SObj.ren, SV.wf, SObj.wf, wfL, SV.known, Nat.reduceEqDiff, ↓reduceIte, if_true, if_false, eq_self, Nat.reduceAdd, Nat.reduceLT, Nat.reduceLeDiff, implies_true, reduceCtorEq, forall_const]; (and_intros <;> (first | omega | rfl | (simp; done) | (simp; omega))); done))
      all_goals (try dsimp only)
      all_goals (and_intros <;> try (first | omega | (unfold In64; omega) | trivial | assumption))
      all_goals simp
    · intro k hk
      obtain ⟨g0, g1, g2, g3, g4, g5⟩ := ltK_bd (all := all) (same := same) (by omega) (by omega) k (by omega)
      have dr := List.drop_of_length_le (Nat.le_of_eq g0)
      have pm := p18_mono (show k ≤ 3 by omega)
      have pm2 := p18_mono (show k + 1 ≤ 4 by omega)
      rw [p18_four] at pm2
      have p3 : p18 3 = 5832 := rfl
      rw [p3] at pm
      have mx : 0 ≤ max (same - (k : Int)) 0 := by omega
      have m1 := mul_bd g1 g2 mx (show max (same - (k : Int)) 0 ≤ 18 by omega)
      have m1b : (ltK all same k).getD 0 0 * max (same - (k : Int)) 0 ≤ p18 (k + 1) := m1.2
      by_cases hlt : (k : Int) + 1 < r
      · have fa : 0 < all - (k : Int) := by omega
        have m2 := mul_bd (show 0 ≤ (ltK all same k).getD 1 0 by omega) g4 (show 0 ≤ all - (k : Int) by omega) (show all - (k : Int) ≤ 18 by omega)
        have m2b : (ltK all same k).getD 1 0 * (all - (k : Int)) ≤ p18 (k + 1) := m2.2
        have m3 := Int.mul_pos g3 fa
        have i1 : In64 ((ltK all same k).getD 0 0 * max (same - (k : Int)) 0) := by unfold In64; omega
        have i2 : In64 ((ltK all same k).getD 1 0 * (all - (k : Int))) := by unfold In64; omega
        have q1 := m1.1
        have es : ltK all same (k + 1) = fracF ((ltK all same k).getD 0 0 * max (same - (k : Int)) 0) ((ltK all same k).getD 1 0 * (all - (k : Int))) := rfl
        have fl := fracF_len ((ltK all same k).getD 0 0 * max (same - (k : Int)) 0) ((ltK all same k).getD 1 0 * (all - (k : Int)))
        have s1 : same - ((k + 1 : Nat) : Int) = same - k - 1 := by omega
        have s2 : all - ((k + 1 : Nat) : Int) = all - k - 1 := by omega
        simp -implicitDefEqProofs only [lk_normal, l7Cut_F, l1Most_F, hlt, g0, i1, i2, q1, m3, fl, dr, ZB, Int.reduceToNat, Nat.reduceLT, Nat.reduceLeDiff, Int.reduceLE, Int.reduceLT, Nat.reduceEqDiff, Nat.reduceSub, SB, SV.known, packR, ne_eq, reduceCtorEq, Nat.reduceEqDiff, ↓reduceIte, if_true, if_false, eq_self, Nat.reduceAdd, Nat.reduceMul, Nat.reduceSub, forall_const, oneCellS, litOne, flat1, Kd.isSca, flat, TYB]
        (try (and_intros <;> try (first | omega | (unfold In64; omega) | trivial | assumption)))
        refine ⟨k + 1, ?_, ?_, Sub.mk_id ?_ ?_ ?_ ?_ ?_⟩
        all_goals (try (simp only [es, s1, s2, LB, subS, subH, wfS, wfH, SV.ren, renL, SObj.ren, SV.wf, SObj.wf, wfL, SV.known, Nat.reduceEqDiff, ↓reduceIte, if_true, if_false, eq_self, Nat.reduceAdd, Nat.reduceLT, Nat.reduceLeDiff, implies_true, reduceCtorEq, forall_const]; done))
        all_goals (try (simp only [es, s1, s2, LB, subS, subH, wfS, wfH, SV.ren, renL, SObj.ren, SV.wf, SObj.wf, wfL, SV.known, Nat.reduceEqDiff, ↓reduceIte, if_true, if_false, eq_self, Nat.reduceAdd, Nat.reduceLT, Nat.reduceLeDiff, implies_true, reduceCtorEq, forall_const]; simp; done))
        all_goals (try (simp only [es, s1, s2, LB, subS, subH, wfS, wfH, SV.ren, renL, SObj.ren, SV.wf, SObj.wf, wfL, SV.known, Nat.reduceEqDiff, ↓reduceIte, if_true, if_false, eq_self, Nat.reduceAdd, Nat.reduceLT, Nat.reduceLeDiff, implies_true, reduceCtorEq, forall_const]; (and_intros <;> (first | omega | rfl | (simp; done) | (simp; omega))); done))
        all_goals (try dsimp only)
        all_goals (and_intros <;> try (first | omega | (unfold In64; omega) | trivial | assumption))
      · obtain rfl : k = r - 1 := by omega
        have r1 : (((r - 1 : Nat) : Int)) = (r : Int) - 1 := by omega
        rw [r1] at *
        have hlt2 : ¬ (r : Int) - 1 + 1 < r := by omega
        have tk2 := List.take_of_length_le (Nat.le_of_eq g0)
        by_cases hrl : (r : Int) < m
        · rw [if_pos (by omega)]
          have fa : 0 < all - ((r : Int) - 1) := by omega
          have m2 := mul_bd (show 0 ≤ (ltK all same (r - 1)).getD 1 0 by omega) g4 (show 0 ≤ all - ((r : Int) - 1) by omega) (show all - ((r : Int) - 1) ≤ 18 by omega)
          have m2b : (ltK all same (r - 1)).getD 1 0 * (all - ((r : Int) - 1)) ≤ p18 (r - 1 + 1) := m2.2
          have m4 := mul_bd g1 g2 (show 0 ≤ all - ((r : Int) - 1) - max (same - ((r : Int) - 1)) 0 by omega) (show all - ((r : Int) - 1) - max (same - ((r : Int) - 1)) 0 ≤ 18 by omega)
          have m4b : (ltK all same (r - 1)).getD 0 0 * (all - ((r : Int) - 1) - max (same - ((r : Int) - 1)) 0) ≤ p18 (r - 1 + 1) := m4.2
          have m3 := Int.mul_pos g3 fa
          have i1 : In64 ((ltK all same (r - 1)).getD 0 0 * (all - ((r : Int) - 1) - max (same - ((r : Int) - 1)) 0)) := by unfold In64; omega
          have i2 : In64 ((ltK all same (r - 1)).getD 1 0 * (all - ((r : Int) - 1))) := by unfold In64; omega
          have q1 := m4.1
          have fl := fracF_len ((ltK all same (r - 1)).getD 0 0 * (all - ((r : Int) - 1) - max (same - ((r : Int) - 1)) 0)) ((ltK all same (r - 1)).getD 1 0 * (all - ((r : Int) - 1)))
          have tkf := List.take_of_length_le (Nat.le_of_eq fl)
          simp -implicitDefEqProofs only [lk_normal, l7Cut_F, l1Most_F, hlt2, hrl, hV, il, i0, i8, i6, e3, g0, i1, i2, q1, m3, fl, dr, tkf, ZB, Int.reduceToNat, Nat.reduceLT, Nat.reduceLeDiff, Int.reduceLE, Int.reduceLT, Nat.reduceEqDiff, Nat.reduceSub, SB, SV.known, packR, ne_eq, reduceCtorEq, Nat.reduceEqDiff, ↓reduceIte, if_true, if_false, eq_self, Nat.reduceAdd, Nat.reduceMul, Nat.reduceSub, forall_const, oneCellS, litOne, flat1, Kd.isSca, flat, TYB]
          (try (and_intros <;> try (first | omega | (unfold In64; omega) | trivial | assumption)))
        · rw [if_neg (by omega)]
          simp -implicitDefEqProofs only [lk_normal, l7Cut_F, l1Most_F, hlt2, hrl, hV, il, i0, i8, i6, e3, g0, dr, tk2, ZB, Int.reduceToNat, Nat.reduceLT, Nat.reduceLeDiff, Int.reduceLE, Int.reduceLT, Nat.reduceEqDiff, Nat.reduceSub, SB, SV.known, packR, ne_eq, reduceCtorEq, Nat.reduceEqDiff, ↓reduceIte, if_true, if_false, eq_self, Nat.reduceAdd, Nat.reduceMul, Nat.reduceSub, forall_const, oneCellS, litOne, flat1, Kd.isSca, flat, TYB]
          (try (and_intros <;> try (first | omega | (unfold In64; omega) | trivial | assumption)))
theorem isCertain_okI (V : List Int) (x y : Int) (g : vG V) (hx : 0 ≤ x ∧ x < 6) (hy : 0 ≤ y ∧ y < 6) (h4 : V.getD (6 + y.toNat) 0 < 4) : PureH Try.prog 86 [.arr V, .int x, .int y] [] (.bool (certB V x.toNat y.toNat)) := by
  have := isCertain_ok V x.toNat y.toNat g (by omega) (by omega) h4
  rw [Int.toNat_of_nonneg hx.1, Int.toNat_of_nonneg hy.1] at this
  exact this
theorem l7Top_okI (V : List Int) (x r : Int) (g : vG V) (hx : 0 ≤ x ∧ x < 6) (hr : 1 ≤ r ∧ r ≤ 4) : PureH Try.prog 77 [.arr V, .int x, .int r] [] (.arr (ltF (al V) (sa V x.toNat) (mm V x.toNat) r.toNat)) := by
  have := l7Top_ok V x.toNat r.toNat g (by omega) (by omega) (by omega)
  rw [Int.toNat_of_nonneg hx.1, Int.toNat_of_nonneg (show 0 ≤ r by omega)] at this
  exact this
end Go.Proofs.Ytckcojgfgcjamaa
set_option maxRecDepth 100000
set_option linter.unusedSimpArgs false
set_option linter.unusedVariables false
namespace Go.Proofs.Ytckcojgfgcjamaa
open Go Go.RowKit
--@tbl eqS2 = laws.eqIntA2S
/-! Marks. -/
end Go.Proofs.Ytckcojgfgcjamaa
