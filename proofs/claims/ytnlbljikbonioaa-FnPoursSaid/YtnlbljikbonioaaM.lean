/- Walks: runs, tops, pours. -/
import Derived.Test.YtnlbljikbonioaaS
import Derived.Test.YtnlbljikbonioaaK
set_option maxRecDepth 100000
set_option linter.unusedSimpArgs false
set_option linter.unusedVariables false
namespace Go.Proofs.Ytnlbljikbonioaa
open Go Go.RowKit
def stepR (L : List Int) (c : Int) : List Int := if 0 < L.length ∧ L.getD (L.length - 2) 0 = c then L.set (L.length - 1) (L.getD (L.length - 1) 0 + 1) else L ++ [c, 1]
def RL (t : List Int) (i : Nat) : List Int := (t.take i).foldl stepR []
def runsL (t : List Int) : List Int := (t.take (layN t)).foldl stepR []
theorem RL_zero (t : List Int) : RL t 0 = [] := by simp [RL]
theorem RL_succ (t : List Int) (i : Nat) (h : i < t.length) : RL t (i + 1) = stepR (RL t i) (t.getD i 0) := by
  unfold RL
  rw [List.take_succ_eq_append_getElem h, List.foldl_append]
  simp [List.getD, List.getElem?_eq_getElem h]
theorem stepR_eq {L : List Int} {n : Nat} {c : Int} (hL : L.length = n * 2) (hn : 0 < n) (h : L.getD (n * 2 - 2) 0 = c) : stepR L c = L.set (n * 2 - 1) (L.getD (n * 2 - 1) 0 + 1) := by
  unfold stepR
  rw [hL, if_pos ⟨by omega, h⟩]
theorem stepR_ne {L : List Int} {n : Nat} {c : Int} (hL : L.length = n * 2) (h : ¬ L.getD (n * 2 - 2) 0 = c) : stepR L c = L ++ [c, 1] := by
  unfold stepR
  rw [hL, if_neg fun hh => h hh.2]
theorem RL_one (t : List Int) (h : 0 < t.length) : RL t 1 = [t.getD 0 0, 1] := by
  rw [RL_succ t 0 h, RL_zero]; simp [stepR]
theorem getD_app (L M : List Int) (k : Nat) (h : k < L.length) : (L ++ M).getD k 0 = L.getD k 0 := by
  simp [List.getD, List.getElem?_append_left h]
theorem set_app (L M : List Int) (k : Nat) (x : Int) (h : k < L.length) : (L ++ M).set k x = L.set k x ++ M := List.set_append_left _ _ h
theorem getD_set_self (L : List Int) (k : Nat) (x : Int) (h : k < L.length) : (L.set k x).getD k 0 = x := by
  simp [List.getD, h]
theorem getD_app_right (L M : List Int) (k : Nat) : (L ++ M).getD (L.length + k) 0 = M.getD k 0 := by
  simp [List.getD, List.getElem?_append_right]
--@tbl runs = impl.runs
theorem runs_ok (t : List Int) (ht : t.length = 4) : FreshP Try.prog 121 [.arr t] [] (runsL t) ((runsL t).length / 2) 2 44 true .one := by
  have tk : t.take 4 = t := List.take_of_length_le (by omega)
  have hle := lay_le t ht
  refine fresh_of_vc (X := ⟨Try.prog, tys, [(73, layers_F)], [], true, true, 0, [], []⟩) fn_121 ⟨tys_ok, (.cons layers_T .nil), .nil, mixed⟩ (n0 := 0) rfl (Nat.le_of_ble_eq_true rfl) (by simp [wfL, SV.wf]) (wfH_spec (by simp [wfH, SObj.wf])) (Nat.le_refl _) ?_
  simp -implicitDefEqProofs only [Try.f121, Option.getD_some, argS, layers_F, ht, tk, ZB, Int.reduceToNat, Nat.reduceLT, Nat.reduceLeDiff, Int.reduceLE, Int.reduceLT, Nat.reduceEqDiff, Nat.reduceSub, SB, SV.known, packR, ne_eq, reduceCtorEq, Nat.reduceEqDiff, ↓reduceIte, if_true, if_false, eq_self, Nat.reduceAdd, Nat.reduceMul, Nat.reduceSub, forall_const, oneCellS, litOne, flat1, Kd.isSca, flat, TYB]
  refine ⟨by omega, by omega, ?_⟩
  refine loop_intro (fun s : Nat × Nat × Nat × List Int => [(9, .slice 0 0 (layN t) 4), (10, .int (layN t)), (11, .int s.1), (3, outV s.1 s.2.1 s.2.2.1)]) (fun s => outH s.1 (RL t s.1 ++ s.2.2.2) 44 [(0, .ints t 24)]) 2
    (fun s => s.1 ≤ layN t ∧ (s.1 ≠ 0 → (RL t s.1).length = s.2.1 * 2 ∧ 0 < s.2.1 ∧ s.2.1 ≤ s.1 ∧ (0 ≤ (RL t s.1).getD (s.2.1 * 2 - 1) 0 ∧ (RL t s.1).getD (s.2.1 * 2 - 1) 0 ≤ s.1) ∧ s.2.2.2.length + s.2.1 * 2 = s.2.2.1 * 2)) (fun s => layN t - s.1) ?_ ?_
  · refine ⟨(0, 0, 0, []), ⟨by omega, fun h => absurd rfl h⟩, Sub.mk_id ?_ ?_ ?_ ?_ ?_⟩
    all_goals simp only [outV_zero, outH_zero, LB, subS, subH, wfS, wfH, SV.ren, renL, SObj.ren, SV.wf, SObj.wf, wfL, SV.known, Nat.reduceEqDiff, ↓reduceIte, if_true, if_false, eq_self, Nat.reduceAdd, Nat.reduceLT, Nat.reduceLeDiff, implies_true, reduceCtorEq, forall_const]
    all_goals simp
  · rintro ⟨i, n, cap, junk⟩ ⟨hi1, hi2⟩
    simp only at hi1 hi2
    cases i with
    | zero =>
      simp -implicitDefEqProofs only [lk_normal, outV_zero, outH_zero, ht, ZB, Int.reduceToNat, Nat.reduceLT, Nat.reduceLeDiff, Int.reduceLE, Int.reduceLT, Nat.reduceEqDiff, Nat.reduceSub, SB, SV.known, packR, ne_eq, reduceCtorEq, Nat.reduceEqDiff, ↓reduceIte, if_true, if_false, eq_self, Nat.reduceAdd, Nat.reduceMul, Nat.reduceSub, forall_const, oneCellS, litOne, flat1, Kd.isSca, flat, TYB]
      refine ⟨fun h => ⟨h, fun junk' cap' hj => ⟨by unfold In64; omega, (1, 1, cap', junk'), ⟨by omega, fun _ => ?_⟩, by omega, Sub.mk_to 1 3 ?_ ?_ ?_ ?_ ?_ ?_ ?_⟩⟩, fun h => ?_⟩
      · rw [RL_one t (by omega)]
        simp; omega
      any_goals (simp only [outV_succ, outH_succ, RL_one t (show 0 < t.length by omega), LB, subS, subH, wfS, wfH, SV.ren, renL, SObj.ren, SV.wf, SObj.wf, wfL, SV.known, Nat.reduceEqDiff, ↓reduceIte, if_true, if_false, eq_self, Nat.reduceAdd, Nat.reduceLT, Nat.reduceLeDiff, implies_true, reduceCtorEq, forall_const]; try simp; done)
      have h0 : layN t = 0 := by omega
      exact .inl ⟨rfl, by simp [runsL, h0], rfl⟩
    | succ i =>
      obtain ⟨hL, hn, hni, hlast, hj⟩ := hi2 (by omega)
      have e0 : ((n : Int) - 1).toNat * 2 = n * 2 - 2 := by omega
      have e1 : n * 2 - 2 + 1 = n * 2 - 1 := by omega
      have g0 := getD_app (RL t (i + 1)) junk (n * 2 - 2) (by omega)
      have g1 := getD_app (RL t (i + 1)) junk (n * 2 - 1) (by omega)
      have tkL : (RL t (i + 1) ++ junk).take (n * 2) = RL t (i + 1) := List.take_left' hL
      have lenL : (RL t (i + 1) ++ junk).length = cap * 2 := by rw [List.length_append]; omega
      have hs := fun x => set_app (RL t (i + 1)) junk (n * 2 - 1) x (by omega)
      simp -implicitDefEqProofs only [lk_normal, outV_succ, outH_succ, ht, e0, e1, g0, g1, tkL, lenL, hs, ZB, Int.reduceToNat, Nat.reduceLT, Nat.reduceLeDiff, Int.reduceLE, Int.reduceLT, Nat.reduceEqDiff, Nat.reduceSub, SB, SV.known, packR, ne_eq, reduceCtorEq, Nat.reduceEqDiff, ↓reduceIte, if_true, if_false, eq_self, Nat.reduceAdd, Nat.reduceMul, Nat.reduceSub, forall_const, oneCellS, litOne, flat1, Kd.isSca, flat, TYB]
      refine ⟨fun h => ?_, fun h => ?_⟩
      · have es := RL_succ t (i + 1) (by omega)
        (try (and_intros <;> try (first | omega | (unfold In64; omega) | trivial | assumption)))
        · intro hp
          (try (and_intros <;> try (first | omega | (unfold In64; omega) | trivial | assumption)))
          · intro he
            (try (and_intros <;> try (first | omega | (unfold In64; omega) | trivial | assumption)))
            refine ⟨(i + 1 + 1, n, cap, junk), ⟨by omega, fun _ => ?_⟩, by simp only; omega, Sub.mk_id ?_ ?_ ?_ ?_ ?_⟩
            · simp only
              rw [es, stepR_eq hL hn he]
              refine ⟨by simp [hL], hn, by omega, ?_, hj⟩
              rw [getD_set_self _ _ _ (by omega)]
              omega
            all_goals simp only [outV_succ, outH_succ, es, stepR_eq hL hn he, LB, subS, subH, wfS, wfH, SV.ren, renL, SObj.ren, SV.wf, SObj.wf, wfL, SV.known, Nat.reduceEqDiff, ↓reduceIte, if_true, if_false, eq_self, Nat.reduceAdd, Nat.reduceLT, Nat.reduceLeDiff, implies_true, reduceCtorEq, forall_const]
            all_goals (try simp)
          · intro he
            (try (and_intros <;> try (first | omega | (unfold In64; omega) | trivial | assumption)))
            intro junk' cap' hj'
            (try (and_intros <;> try (first | omega | (unfold In64; omega) | trivial | assumption)))
            refine ⟨(i + 1 + 1, n + 1, cap', junk'), ⟨by omega, fun _ => ?_⟩, by simp only; omega, Sub.mk_to 1 3 ?_ ?_ ?_ ?_ ?_ ?_ ?_⟩
            · simp only
              rw [es, stepR_ne hL he]
              refine ⟨by simp [hL]; omega, by omega, by omega, ?_, by omega⟩
              have : (n + 1) * 2 - 1 = (RL t (i + 1)).length + 1 := by omega
              rw [this, getD_app_right]
              simp; omega
            all_goals simp only [outV_succ, outH_succ, es, stepR_ne hL he, LB, subS, subH, wfS, wfH, SV.ren, renL, SObj.ren, SV.wf, SObj.wf, wfL, SV.known, Nat.reduceEqDiff, ↓reduceIte, if_true, if_false, eq_self, Nat.reduceAdd, Nat.reduceLT, Nat.reduceLeDiff, implies_true, reduceCtorEq, forall_const]
            all_goals (try simp)
      · have hii : i + 1 = layN t := by omega
        have hr : runsL t = RL t (i + 1) := by rw [hii]; rfl
        refine .inr ⟨1, cap, junk, ?_, ?_, by omega, ?_, ?_⟩
        · rw [hr, hL]; simp [Wrap.ap]
        · rw [hr]; simp [hget_cons]
        · rw [hr]; omega
        · intro _ h0
          rw [hr] at h0
          rw [h0] at hL
          simp at hL; omega
def runs_F : List SV → Heap → Nat → Nat → K1 → Prop
  | [.arr t], H, n, _, κ => t.length = 4 ∧ freshK .one (runsL t) ((runsL t).length / 2) 2 44 true H n κ
  | _, _, _, _, _ => False
theorem runs_T : ∀ args H n m κ, runs_F args H n m κ → GenOK Try.prog 121 args H n m κ := by
  intro args H n m κ h
  unfold runs_F at h
  split at h
  · exact gen_of_fresh (runs_ok _ h.1) (fun k o hk => by cases hk) h.2
  · exact h.elim
theorem RL_even (t : List Int) (ht : t.length = 4) : ∀ i, i ≤ 4 → ∃ n, (RL t i).length = n * 2 ∧ n ≤ i ∧ (0 < i → 0 < n)
  | 0, _ => ⟨0, by rw [RL_zero]; rfl, by omega, by omega⟩
  | i + 1, hi => by
    obtain ⟨n, h1, h2, h3⟩ := RL_even t ht i (by omega)
    rw [RL_succ t i (by omega)]
    by_cases hn : 0 < n
    · by_cases he : (RL t i).getD (n * 2 - 2) 0 = t.getD i 0
      · rw [stepR_eq h1 hn he]; exact ⟨n, by simpa using h1, by omega, fun _ => hn⟩
      · rw [stepR_ne h1 he]; exact ⟨n + 1, by simp; omega, by omega, fun _ => by omega⟩
    · have h0 : n = 0 := by omega
      subst h0
      have : RL t i = [] := List.length_eq_zero_iff.1 (by simpa using h1)
      rw [this]
      exact ⟨1, by simp [stepR], by omega, fun _ => by omega⟩
theorem runsL_even (t : List Int) (ht : t.length = 4) : ∃ n, (runsL t).length = n * 2 ∧ n ≤ 4 ∧ (0 < layN t → 0 < n) := by
  obtain ⟨n, h1, h2, h3⟩ := RL_even t ht (layN t) (lay_le t ht)
  have := lay_le t ht
  exact ⟨n, h1, by omega, h3⟩
def topF (t : List Int) : Int × Int := if runsL t = [] then (0, 0) else ((runsL t).getD ((runsL t).length - 2) 0, (runsL t).getD ((runsL t).length - 1) 0)
--@tbl top = impl.top
theorem top_ok (t : List Int) (ht : t.length = 4) : PureH Try.prog 74 [.arr t] [] (.tup [.int (topF t).1, .int (topF t).2]) := by
  have tk : t.take 4 = t := List.take_of_length_le (by omega)
  obtain ⟨n, hn, hn4, _⟩ := runsL_even t ht
  refine pure_of_vc (X := ⟨Try.prog, tys, [], [(121, runs_F)], true, true, 0, [], []⟩) fn_74 ⟨tys_ok, .nil, (.cons runs_T .nil), mixed⟩ (n0 := 0) (Nat.le_of_ble_eq_true rfl) (by simp [wfL, SV.wf]) (wfH_spec (by simp [wfH, SObj.wf])) (Nat.le_refl _) (fun _ => by simp [SV.wf, wfL]) ?_
  simp -implicitDefEqProofs only [Try.f74, Option.getD_some, argS, runs_F, ht, tk, hn, freshK, Wrap.ap, ZB, Int.reduceToNat, Nat.reduceLT, Nat.reduceLeDiff, Int.reduceLE, Int.reduceLT, Nat.reduceEqDiff, Nat.reduceSub, SB, SV.known, packR, ne_eq, reduceCtorEq, Nat.reduceEqDiff, ↓reduceIte, if_true, if_false, eq_self, Nat.reduceAdd, Nat.reduceMul, Nat.reduceSub, forall_const, oneCellS, litOne, flat1, Kd.isSca, flat, TYB]
  refine ⟨fun h => by simp [topF, h], fun h cap junk hj => ?_⟩
  have hn0 : 0 < n := by
    rcases Nat.eq_zero_or_pos n with h0 | h0
    · exact absurd (List.length_eq_zero_iff.1 (by rw [hn, h0])) h
    · exact h0
  have e2 : n * 2 / 2 = n := by omega
  have e0 : ((n : Int) - 1).toNat * 2 = n * 2 - 2 := by omega
  simp only [e2, e0]
  have hM : ((runsL t ++ junk).drop (n * 2 - 2) |>.take 2).length = 2 := by rw [List.length_take, List.length_drop, List.length_append]; omega
  have m0 : ((runsL t ++ junk).drop (n * 2 - 2) |>.take 2).getD 0 0 = (topF t).1 := by
    rw [getD_cut _ _ _ _ (by omega), getD_app _ _ _ (by omega)]
    simp [topF, h, hn]
  have m1 : ((runsL t ++ junk).drop (n * 2 - 2) |>.take 2).getD 1 0 = (topF t).2 := by
    rw [getD_cut _ _ _ _ (by omega), getD_app _ _ _ (by omega), show n * 2 - 2 + 1 = n * 2 - 1 by omega]
    simp [topF, h, hn]
  simp only [hM, Nat.sub_self, List.replicate_zero, List.append_nil, m0, m1]
  refine ⟨fun h0 => by omega, fun _ => ?_⟩
  have : (runsL t ++ junk).length = cap * 2 := by rw [List.length_append]; omega
  (try (and_intros <;> try (first | omega | (unfold In64; omega) | trivial | assumption)))
def top_F : List SV → Heap → Option (Prop × SV)
  | [.arr t], _ => some (t.length = 4, .tup [.int (topF t).1, .int (topF t).2])
  | _, _ => none
theorem top_T : ∀ args H p v, top_F args H = some (p, v) → p → PureH Try.prog 74 args H v := by
  intro args H p v h hp
  unfold top_F at h
  split at h
  · cases h; exact (top_ok _ hp).any _
  · cases h

/-! The model's top. -/
def isRun (t : List Int) (n r : Nat) : Prop := 0 < r ∧ r ≤ n ∧ (∀ k, k < r → t.getD (n - 1 - k) 0 = t.getD (n - 1) 0) ∧ (r = n ∨ ¬ t.getD (n - 1 - r) 0 = t.getD (n - 1) 0)
theorem isRun_one {t : List Int} {n r r' : Nat} (h : isRun t n r) (h' : isRun t n r') : r = r' := by
  rcases Nat.lt_trichotomy r r' with hl | he | hg
  · rcases h.2.2.2 with h1 | h1
    · have := h'.2.1; omega
    · exact absurd (h'.2.2.1 r hl) h1
  · exact he
  · rcases h'.2.2.2 with h1 | h1
    · have := h.2.1; omega
    · exact absurd (h.2.2.1 r' hg) h1
theorem topF_run (t : List Int) (ht : t.length = 4) (h0 : 0 < layN t) : ∃ r : Nat, topF t = (t.getD (layN t - 1) 0, (r : Int)) ∧ isRun t (layN t) r := by
  have key : ∀ i, 0 < i → i ≤ 4 → ∃ r n : Nat, (RL t i).length = n * 2 ∧ 0 < n ∧ (RL t i).getD (n * 2 - 2) 0 = t.getD (i - 1) 0 ∧ (RL t i).getD (n * 2 - 1) 0 = r ∧ isRun t i r := by
    intro i
    induction i with
    | zero => intro h; omega
    | succ i ih =>
      intro _ hi
      rw [RL_succ t i (by omega)]
      by_cases hi0 : i = 0
      · subst hi0
        rw [RL_zero]
        exact ⟨1, 1, by simp [stepR], by omega, by simp [stepR], by simp [stepR], by omega, by omega, fun k hk => by rw [show k = 0 by omega], .inl rfl⟩
      · obtain ⟨r, n, h1, h2, h3, h4, h5⟩ := ih (by omega) (by omega)
        by_cases he : (RL t i).getD (n * 2 - 2) 0 = t.getD i 0
        · rw [stepR_eq h1 h2 he]
          refine ⟨r + 1, n, by simpa using h1, h2, ?_, ?_, by omega, by have := h5.2.1; omega, fun k hk => ?_, ?_⟩
          · rw [show i + 1 - 1 = i by omega, ← he]
            simp only [List.getD, List.getElem?_set]
            rw [if_neg (by omega)]
          · rw [getD_set_self _ _ _ (by omega), h4]; omega
          · rcases Nat.eq_zero_or_pos k with hk0 | hk0
            · rw [hk0]; rfl
            · have := h5.2.2.1 (k - 1) (by omega)
              rw [show i + 1 - 1 - k = i - 1 - (k - 1) by omega, this, ← h3, he]; rfl
          · rcases h5.2.2.2 with h6 | h6
            · exact .inl (by omega)
            · refine .inr ?_
              rw [show i + 1 - 1 - (r + 1) = i - 1 - r by omega, show i + 1 - 1 = i by omega, ← he, h3]
              exact h6
        · rw [stepR_ne h1 he]
          refine ⟨1, n + 1, by simp; omega, by omega, ?_, ?_, by omega, by omega, fun k hk => by rw [show k = 0 by omega]; rfl, .inr ?_⟩
          · rw [show (n + 1) * 2 - 2 = (RL t i).length + 0 by omega, getD_app_right]; rfl
          · rw [show (n + 1) * 2 - 1 = (RL t i).length + 1 by omega, getD_app_right]; rfl
          · rw [show i + 1 - 1 - 1 = i - 1 by omega, show i + 1 - 1 = i by omega, ← h3]
            exact he
  obtain ⟨r, n, h1, h2, h3, h4, h5⟩ := key (layN t) h0 (lay_le t ht)
  have hr : runsL t = RL t (layN t) := rfl
  refine ⟨r, ?_, h5⟩
  unfold topF
  rw [hr, if_neg (by intro h; rw [h] at h1; simp at h1; omega), h1, h3, h4]
--@tbl l2Top = spec.l2Top
theorem l2Top_ok (t : List Int) (ht : t.length = 4) (hb : tubeB t = true) : PureH Try.prog 111 [.arr t] [] (.tup [.int (topF t).1, .int (topF t).2]) := by
  have tk : t.take 4 = t := List.take_of_length_le (by omega)
  have hp := posC_lay t ht hb
  have hle := lay_le t ht
  have hz : layN t = 0 → topF t = (0, 0) := fun h => by simp [topF, runsL, h]
  refine pure_of_vc (X := ⟨Try.prog, tys, [(85, l2Many_F)], [], true, true, 0, [], []⟩) fn_111 ⟨tys_ok, (.cons l2Many_T .nil), .nil, mixed⟩ (n0 := 0) (Nat.le_of_ble_eq_true rfl) (by simp [wfL, SV.wf]) (wfH_spec (by simp [wfH, SObj.wf])) (Nat.le_refl _) (fun _ => by simp [SV.wf, wfL]) ?_
  simp -implicitDefEqProofs only [Try.f111, Option.getD_some, argS, l2Many_F, ht, tk, hp, ZB, Int.reduceToNat, Nat.reduceLT, Nat.reduceLeDiff, Int.reduceLE, Int.reduceLT, Nat.reduceEqDiff, Nat.reduceSub, SB, SV.known, packR, ne_eq, reduceCtorEq, Nat.reduceEqDiff, ↓reduceIte, if_true, if_false, eq_self, Nat.reduceAdd, Nat.reduceMul, Nat.reduceSub, forall_const, oneCellS, litOne, flat1, Kd.isSca, flat, TYB]
  refine ⟨fun h => by rw [hz (by omega)]; exact ⟨rfl, rfl⟩, fun h => ?_⟩
  obtain ⟨r0, ht0, hr0⟩ := topF_run t ht (by omega)
  refine loop_intro (fun r : Nat => [(1, .ptr 0 0), (4, .int (layN t)), (5, .int r)]) (fun _ => [(0, .ints t 24)]) 1 (fun r => r ≤ layN t ∧ ∀ k, k < r → t.getD (layN t - 1 - k) 0 = t.getD (layN t - 1) 0) (fun r => layN t - r) ?_ ?_
  · refine ⟨0, ⟨by omega, by omega⟩, Sub.mk_id ?_ ?_ ?_ ?_ ?_⟩
    all_goals simp only [LB, subS, subH, wfS, wfH, SV.ren, renL, SObj.ren, SV.wf, SObj.wf, wfL, SV.known, Nat.reduceEqDiff, ↓reduceIte, if_true, if_false, eq_self, Nat.reduceAdd, Nat.reduceLT, Nat.reduceLeDiff, implies_true, reduceCtorEq, forall_const]
    all_goals simp
  · rintro r ⟨hr1, hr2⟩
    have e1 : ((layN t : Int) - 1).toNat = layN t - 1 := by omega
    have e2 : ((layN t : Int) - 1 - r).toNat = layN t - 1 - r := by omega
    simp -implicitDefEqProofs only [lk_normal, ht, e1, e2, ZB, Int.reduceToNat, Nat.reduceLT, Nat.reduceLeDiff, Int.reduceLE, Int.reduceLT, Nat.reduceEqDiff, Nat.reduceSub, SB, SV.known, packR, ne_eq, reduceCtorEq, Nat.reduceEqDiff, ↓reduceIte, if_true, if_false, eq_self, Nat.reduceAdd, Nat.reduceMul, Nat.reduceSub, forall_const, oneCellS, litOne, flat1, Kd.isSca, flat, TYB]
    (try (and_intros <;> try (first | omega | (unfold In64; omega) | trivial | assumption)))
    all_goals intro h1
    · (try (and_intros <;> try (first | omega | (unfold In64; omega) | trivial | assumption)))
      all_goals intro h2
      · (try (and_intros <;> try (first | omega | (unfold In64; omega) | trivial | assumption)))
        refine ⟨r + 1, ⟨by omega, fun k hk => ?_⟩, by omega, Sub.mk_id ?_ ?_ ?_ ?_ ?_⟩
        · by_cases hkr : k = r
          · rw [hkr]; exact h2
          · exact hr2 k (by omega)
        all_goals simp only [LB, subS, subH, wfS, wfH, SV.ren, renL, SObj.ren, SV.wf, SObj.wf, wfL, SV.known, Nat.reduceEqDiff, ↓reduceIte, if_true, if_false, eq_self, Nat.reduceAdd, Nat.reduceLT, Nat.reduceLeDiff, implies_true, reduceCtorEq, forall_const]
      · have hrun : isRun t (layN t) r := ⟨by
          rcases Nat.eq_zero_or_pos r with h0 | h0
          · subst h0; exact absurd rfl h2
          · exact h0, hr1, hr2, .inr h2⟩
        have e3 : topF t = (t.getD (layN t - 1) 0, (r : Int)) := by rw [ht0, isRun_one hr0 hrun]
        simp only [e3]
        (try (and_intros <;> try (first | omega | (unfold In64; omega) | trivial | assumption)))
    · have hrn : r = layN t := by omega
      have hrun : isRun t (layN t) r := ⟨by omega, hr1, hr2, .inl hrn⟩
      have e3 : topF t = (t.getD (layN t - 1) 0, (r : Int)) := by rw [ht0, isRun_one hr0 hrun]
      simp only [e3]
      (try (and_intros <;> try (first | omega | (unfold In64; omega) | trivial | assumption)))
def l2Top_F : List SV → Heap → Option (Prop × SV)
  | [.arr t], _ => some (t.length = 4 ∧ tubeB t = true, .tup [.int (topF t).1, .int (topF t).2])
  | _, _ => none
theorem l2Top_T : ∀ args H p v, l2Top_F args H = some (p, v) → p → PureH Try.prog 111 args H v := by
  intro args H p v h hp
  unfold l2Top_F at h
  split at h
  · cases h; exact (l2Top_ok _ hp.1 hp.2).any _
  · cases h

theorem top_pos (t : List Int) (ht : t.length = 4) (hb : tubeB t = true) : (0 < (topF t).1 ↔ 0 < layN t) ∧ (0 < (topF t).2 ↔ 0 < layN t) := by
  rcases Nat.eq_zero_or_pos (layN t) with h0 | h0
  · have : topF t = (0, 0) := by simp [topF, runsL, h0]
    simp [this, h0]
  · obtain ⟨r, h1, h2⟩ := topF_run t ht h0
    have hle := lay_le t ht
    have hc : coT (t.getD (layN t - 1) 0) = true := by
      unfold tubeB at hb
      simp only [Bool.and_eq_true] at hb
      refine List.all_eq_true.1 hb.1 _ ?_
      have hlt : layN t - 1 < t.length := by omega
      simp only [List.getD, List.getElem?_eq_getElem hlt, Option.getD_some]
      exact List.mem_take_iff_getElem.2 ⟨layN t - 1, by omega, rfl⟩
    have hc2 : 1 ≤ t.getD (layN t - 1) 0 ∧ t.getD (layN t - 1) 0 ≤ 5 := by simpa [coT] using hc
    have := h2.1
    rw [h1]
    constructor <;> constructor <;> intro _ <;> first | exact h0 | (simp only; omega)

/-! Pours. -/
def canF (R : List Int) (i j : Int) : Bool := !decide (i = j) && decide (0 < (topF (tubeAt R i.toNat)).1) && decide ((layN (tubeAt R j.toNat) : Int) < 4) && (decide ((topF (tubeAt R j.toNat)).1 = 0) || decide ((topF (tubeAt R j.toNat)).1 = (topF (tubeAt R i.toNat)).1))
--@tbl canPour = impl.canPour
theorem canPour_ok (R : List Int) (i j : Int) (hR : R.length = 24) (hi : 0 ≤ i ∧ i ≤ 5) (hj : 0 ≤ j ∧ j ≤ 5) : PureH Try.prog 57 [.arr R, .int i, .int j] [] (.bool (canF R i j)) := by
  have hli := tubeAt_len hR (i := i.toNat) (by omega)
  have hlj := tubeAt_len hR (i := j.toNat) (by omega)
  have ei : List.take 4 (List.drop (i.toNat * 4) R) = tubeAt R i.toNat := rfl
  have ej : List.take 4 (List.drop (j.toNat * 4) R) = tubeAt R j.toNat := rfl
  refine pure_of_vc (X := ⟨Try.prog, tys, [(74, top_F), (73, layers_F)], [], true, true, 0, [], []⟩) fn_57 ⟨tys_ok, (.cons top_T (.cons layers_T .nil)), .nil, mixed⟩ (n0 := 0) (Nat.le_of_ble_eq_true rfl) (by simp [wfL, SV.wf]) (wfH_spec (by simp [wfH, SObj.wf])) (Nat.le_refl _) (fun _ => by simp [SV.wf, wfL]) ?_
  simp -implicitDefEqProofs only [Try.f57, Option.getD_some, argS, top_F, layers_F, hR, ei, ej, hli, hlj, ZB, Int.reduceToNat, Nat.reduceLT, Nat.reduceLeDiff, Int.reduceLE, Int.reduceLT, Nat.reduceEqDiff, Nat.reduceSub, SB, SV.known, packR, ne_eq, reduceCtorEq, Nat.reduceEqDiff, ↓reduceIte, if_true, if_false, eq_self, Nat.reduceAdd, Nat.reduceMul, Nat.reduceSub, forall_const, oneCellS, litOne, flat1, Kd.isSca, flat, TYB]
  (try (and_intros <;> try (first | omega | (unfold In64; omega) | trivial | assumption)))
  · intro h; simp [canF, h]
  · intro h
    (try (and_intros <;> try (first | omega | (unfold In64; omega) | trivial | assumption)))
    · intro h1
      (try (and_intros <;> try (first | omega | (unfold In64; omega) | trivial | assumption)))
      · intro h2
        (try (and_intros <;> try (first | omega | (unfold In64; omega) | trivial | assumption)))
        · intro h3; simp [canF, h, h1, h2, h3]
        · intro h3; simp [canF, h, h1, h2, h3]
      · intro h2; simp [canF, h, h1, h2]
    · intro h1
      simp [canF, h, h1]
def canPour_F : List SV → Heap → Option (Prop × SV)
  | [.arr R, .int i, .int j], _ => some (R.length = 24 ∧ (0 ≤ i ∧ i ≤ 5) ∧ (0 ≤ j ∧ j ≤ 5), .bool (canF R i j))
  | _, _ => none
theorem canPour_T : ∀ args H p v, canPour_F args H = some (p, v) → p → PureH Try.prog 57 args H v := by
  intro args H p v h hp
  unfold canPour_F at h
  split at h
  · cases h; exact (canPour_ok _ _ _ hp.1 hp.2.1 hp.2.2).any _
  · cases h
--@tbl l2Can = spec.l2Can
theorem l2Can_ok (R : List Int) (i j : Int) (hR : R.length = 24) (hr : rackB R = true) (hi : 0 ≤ i ∧ i ≤ 5) (hj : 0 ≤ j ∧ j ≤ 5) : PureH Try.prog 61 [.arr R, .int i, .int j] [] (.bool (canF R i j)) := by
  have hli := tubeAt_len hR (i := i.toNat) (by omega)
  have hlj := tubeAt_len hR (i := j.toNat) (by omega)
  have ei : List.take 4 (List.drop (i.toNat * 4) R) = tubeAt R i.toNat := rfl
  have ej : List.take 4 (List.drop (j.toNat * 4) R) = tubeAt R j.toNat := rfl
  have bi := tubeAt_ok hr (i := i.toNat) (by omega)
  have bj := tubeAt_ok hr (i := j.toNat) (by omega)
  have pj := posC_lay _ hlj bj
  refine pure_of_vc (X := ⟨Try.prog, tys, [(111, l2Top_F), (85, l2Many_F)], [], true, true, 0, [], []⟩) fn_61 ⟨tys_ok, (.cons l2Top_T (.cons l2Many_T .nil)), .nil, mixed⟩ (n0 := 0) (Nat.le_of_ble_eq_true rfl) (by simp [wfL, SV.wf]) (wfH_spec (by simp [wfH, SObj.wf])) (Nat.le_refl _) (fun _ => by simp [SV.wf, wfL]) ?_
  simp -implicitDefEqProofs only [Try.f61, Option.getD_some, argS, l2Top_F, l2Many_F, hR, ei, ej, hli, hlj, bi, bj, pj, ZB, Int.reduceToNat, Nat.reduceLT, Nat.reduceLeDiff, Int.reduceLE, Int.reduceLT, Nat.reduceEqDiff, Nat.reduceSub, SB, SV.known, packR, ne_eq, reduceCtorEq, Nat.reduceEqDiff, ↓reduceIte, if_true, if_false, eq_self, Nat.reduceAdd, Nat.reduceMul, Nat.reduceSub, forall_const, oneCellS, litOne, flat1, Kd.isSca, flat, TYB]
  have tp := (top_pos _ hli bi).2.trans (top_pos _ hli bi).1.symm
  (try (and_intros <;> try (first | omega | (unfold In64; omega) | trivial | assumption)))
  · intro h; simp [canF, h]
  · intro h
    (try (and_intros <;> try (first | omega | (unfold In64; omega) | trivial | assumption)))
    · intro h1
      rw [tp] at h1
      (try (and_intros <;> try (first | omega | (unfold In64; omega) | trivial | assumption)))
      · intro h2
        (try (and_intros <;> try (first | omega | (unfold In64; omega) | trivial | assumption)))
        · intro h3; simp [canF, h, h1, h2, h3]
        · intro h3; simp [canF, h, h1, h2, h3]
      · intro h2; simp [canF, h, h1, h2]
    · intro h1
      rw [tp] at h1
      simp [canF, h, h1]
def l2Can_F : List SV → Heap → Option (Prop × SV)
  | [.arr R, .int i, .int j], _ => some (R.length = 24 ∧ rackB R = true ∧ (0 ≤ i ∧ i ≤ 5) ∧ (0 ≤ j ∧ j ≤ 5), .bool (canF R i j))
  | _, _ => none
theorem l2Can_T : ∀ args H p v, l2Can_F args H = some (p, v) → p → PureH Try.prog 61 args H v := by
  intro args H p v h hp
  unfold l2Can_F at h
  split at h
  · cases h; exact (l2Can_ok _ _ _ hp.1 hp.2.1 hp.2.2.1 hp.2.2.2).any _
  · cases h
end Go.Proofs.Ytnlbljikbonioaa
