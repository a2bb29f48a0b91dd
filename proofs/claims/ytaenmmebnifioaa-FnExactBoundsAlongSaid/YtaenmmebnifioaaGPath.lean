/- Walks: GoodPath. -/
import Derived.Test.YtaenmmebnifioaaGood
set_option maxRecDepth 100000
set_option linter.unusedSimpArgs false
set_option linter.unusedVariables false
namespace Go.Proofs.Ytaenmmebnifioaa
open Go Go.RowKit
/-- Two blocks under other names. -/
theorem Sub.mk_to2 (b b' c c' : Nat) {p m : Nat} {S S' : Env} {H H' : Heap} {n' : Nat} (h1 : subS (fun k => if k = b then b' else if k = c then c' else k) S S') (h2 : subH (fun k => if k = b then b' else if k = c then c' else k) m H H') (h3 : wfS n' S') (h4 : wfH n' H') (h5 : p ≤ n') (h6 : p ≤ b) (h8 : p ≤ c)
    (h7 : ∀ x ∈ H'.map (·.1), ∀ y ∈ H'.map (·.1), (if x = b then b' else if x = c then c' else x) = (if y = b then b' else if y = c then c' else y) → x = y) : Sub p m S H S' H' n' :=
  ⟨fun k => if k = b then b' else if k = c then c' else k, h1, subH_spec h2, h3, wfH_spec h4, fun x hx y hy he => h7 x hx y hy he, fun k hk => by show (if k = b then b' else if k = c then c' else k) = k; rw [if_neg (by omega), if_neg (by omega)], h5⟩
def gdC (R : List Int) (i j : Nat) : Bool := canF R i j && goodF R [(i : Int), (j : Int)]
theorem gdL_GL (R : List Int) : gdL R = GL (gdC R) 36 := by
  obtain ⟨n, h1, h2⟩ := kept_GL (fun i j => canF R i j) (gdC R) (fun p => goodF R p) (fun i j _ _ hc => by simp [gdC, hc]) (fun i j _ _ hc => by
    simp only [gdC, Bool.and_eq_true] at hc; exact hc.1) 36 (by omega)
  unfold gdL
  rw [PL_GL, show (GL (fun i j => canF R i j) 36).length / 2 = n by omega]
  exact h2
/-- The first good pour. -/
theorem gd_first {R : List Int} (h : gdL R ≠ []) : (0 ≤ (gdL R).getD 0 0 ∧ (gdL R).getD 0 0 ≤ 5) ∧ (0 ≤ (gdL R).getD 1 0 ∧ (gdL R).getD 1 0 ≤ 5) ∧ canF R ((gdL R).getD 0 0) ((gdL R).getD 1 0) = true ∧ goodF R [(gdL R).getD 0 0, (gdL R).getD 1 0] = true ∧ 2 ≤ (gdL R).length ∧ (gdL R).take 2 = [(gdL R).getD 0 0, (gdL R).getD 1 0] := by
  obtain ⟨k, hk, _⟩ := gdL_even R
  have hl : 2 ≤ (gdL R).length := by
    have : (gdL R).length ≠ 0 := fun h0 => h (List.length_eq_zero_iff.1 h0)
    omega
  have tk := take2_drop (gdL R) 0 (by omega)
  simp only [List.drop_zero, Nat.zero_add] at tk
  rw [gdL_GL] at hl
  obtain ⟨a, b, h1, h2, h3, h4⟩ := GL_pair (gdC R) 36 (by omega) 0 (by omega)
  rw [← gdL_GL] at hl h4
  simp only [Nat.zero_mul, List.drop_zero] at h4
  rw [tk] at h4
  injection h4 with e1 h4
  injection h4 with e2 _
  simp only [gdC, Bool.and_eq_true] at h3
  rw [e1, e2]
  exact ⟨by omega, by omega, h3.1, h3.2, hl, by rw [tk, e1, e2]⟩
def stR (R : List Int) : List Int := if gdL R = [] then R else pourF R ((gdL R).getD 0 0).toNat ((gdL R).getD 1 0).toNat
def gpR (R : List Int) : Nat → List Int
  | 0 => R
  | n + 1 => stR (gpR R n)
def gpL (R : List Int) : Nat → List Int
  | 0 => []
  | n + 1 => gpL R n ++ (gdL (gpR R n)).take 2
theorem stR_facts {R : List Int} (hR : R.length = 24) (hr : rackB R = true) : (stR R).length = 24 ∧ rackB (stR R) = true ∧ (gdL R ≠ [] → bndF (stR R) < bndF R) := by
  unfold stR
  split
  · rename_i h; exact ⟨hR, hr, fun h' => absurd h h'⟩
  · rename_i h
    obtain ⟨h1, h2, h3, h4, h5, h6⟩ := gd_first h
    exact ⟨pourF_len hR _ _, pour_rack hR hr h1 h2 h3, fun _ => by simpa [goodF] using h4⟩
theorem gpR_facts {R : List Int} (hR : R.length = 24) (hr : rackB R = true) : ∀ n, (gpR R n).length = 24 ∧ rackB (gpR R n) = true
  | 0 => ⟨hR, hr⟩
  | n + 1 => by
    have := gpR_facts hR hr n
    have h2 := stR_facts this.1 this.2
    exact ⟨h2.1, h2.2.1⟩
theorem gp_stop {R : List Int} {n : Nat} (h : gdL (gpR R n) = []) : ∀ k, gpR R (n + k) = gpR R n ∧ gpL R (n + k) = gpL R n
  | 0 => ⟨rfl, rfl⟩
  | k + 1 => by
    have ih := gp_stop h k
    refine ⟨?_, ?_⟩
    · show stR (gpR R (n + k)) = _
      rw [ih.1]; unfold stR; rw [if_pos h]
    · show gpL R (n + k) ++ (gdL (gpR R (n + k))).take 2 = _
      rw [ih.1, h, ih.2]; simp
theorem gp_end {R : List Int} {n : Nat} (h : gdL (gpR R n) = []) (hn : n ≤ 100) : gpR R 100 = gpR R n ∧ gpL R 100 = gpL R n := by
  have := gp_stop h (100 - n)
  rwa [show n + (100 - n) = 100 by omega] at this
def gpaL (R : List Int) : List Int := if rackB R = true then gpL R 100 else []
def gpaR (R : List Int) : List Int := if rackB R = true then gpR R 100 else List.replicate 24 0
theorem gpR_zero (R : List Int) : gpR R 0 = R := rfl
theorem gpL_zero (R : List Int) : gpL R 0 = [] := rfl
theorem gpR_next {R : List Int} {n : Nat} (hg : gdL (gpR R n) ≠ []) : gpR R (n + 1) = pourF (gpR R n) ((gdL (gpR R n)).getD 0 0).toNat ((gdL (gpR R n)).getD 1 0).toNat := by show stR _ = _; unfold stR; rw [if_neg hg]
theorem gpL_next {R : List Int} {n : Nat} (hg : gdL (gpR R n) ≠ []) : gpL R (n + 1) = gpL R n ++ [(gdL (gpR R n)).getD 0 0, (gdL (gpR R n)).getD 1 0] := by show gpL R n ++ List.take 2 _ = _; rw [(gd_first hg).2.2.2.2.2]
theorem gp_dec {R : List Int} (hR : R.length = 24) (hr : rackB R = true) {n : Nat} (hg : gdL (gpR R n) ≠ []) : bndF (gpR R (n + 1)) < bndF (gpR R n) := (stR_facts (gpR_facts hR hr n).1 (gpR_facts hR hr n).2).2.2 hg
attribute [local irreducible] gpR gpL gdL pourF bndF canF goodF
/-- A list of good pours as it stands: nil or a block. -/
def gnV (nl : Bool) (b len cap : Nat) : SV := match nl with
  | true => .nils
  | false => .slice b 0 len cap
def gnH (nl : Bool) (b : Nat) (L : List Int) (e : Nat) (base : Heap) : Heap := match nl with
  | true => base
  | false => (b, .ints L e) :: base
theorem gnV_t (b len cap : Nat) : gnV true b len cap = .nils := rfl
theorem gnV_f (b len cap : Nat) : gnV false b len cap = .slice b 0 len cap := rfl
theorem gnH_t (b : Nat) (L : List Int) (e : Nat) (base : Heap) : gnH true b L e base = base := rfl
theorem gnH_f (b : Nat) (L : List Int) (e : Nat) (base : Heap) : gnH false b L e base = (b, .ints L e) :: base := rfl
set_option maxHeartbeats 800000 in
theorem GoodPath_ok (R : List Int) (hR : R.length = 24) : FreshP Try.prog 43 [.arr R] [] (gpaL R) ((gpaL R).length / 2) 2 51 true (.more [.arr (gpaR R), .bool (rackB R)]) := by
  have tkR : R.take 24 = R := List.take_of_length_le (by omega)
  unfold gpaL gpaR
  cases hr : rackB R
  · refine fresh_of_vc (X := ⟨Try.prog, tys, [(67, IsRack_F), (97, pour_F)], [(80, good_F)], true, true, 0, [], []⟩) fn_43 ⟨tys_ok, (.cons IsRack_T (.cons pour_T .nil)), (.cons good_T .nil), mixed⟩ (n0 := 0) rfl (Nat.le_of_ble_eq_true rfl) (by simp [wfL, SV.wf]) (wfH_spec (by simp [wfH, SObj.wf])) (Nat.le_refl _) ?_
    simp -implicitDefEqProofs only [Try.f43, Option.getD_some, argS, IsRack_F, pour_F, good_F, hR, tkR, hr, freshK, Wrap.ap, ZB, Int.reduceToNat, Nat.reduceLT, Nat.reduceLeDiff, Int.reduceLE, Int.reduceLT, Nat.reduceEqDiff, Nat.reduceSub, SB, SV.known, packR, ne_eq, reduceCtorEq, Nat.reduceEqDiff, ↓reduceIte, if_true, if_false, eq_self, Nat.reduceAdd, Nat.reduceMul, Nat.reduceSub, forall_const, oneCellS, Kd.isSca, flat, TYB]
    exact .inl ⟨rfl, rfl, rfl⟩
  · refine fresh_of_vc (X := ⟨Try.prog, tys, [(67, IsRack_F), (97, pour_F)], [(80, good_F)], true, true, 0, [], []⟩) fn_43 ⟨tys_ok, (.cons IsRack_T (.cons pour_T .nil)), (.cons good_T .nil), mixed⟩ (n0 := 0) rfl (Nat.le_of_ble_eq_true rfl) (by simp [wfL, SV.wf]) (wfH_spec (by simp [wfH, SObj.wf])) (Nat.le_refl _) ?_
    simp -implicitDefEqProofs only [Try.f43, Option.getD_some, argS, IsRack_F, pour_F, good_F, hR, tkR, hr, freshK, Wrap.ap, ZB, Int.reduceToNat, Nat.reduceLT, Nat.reduceLeDiff, Int.reduceLE, Int.reduceLT, Nat.reduceEqDiff, Nat.reduceSub, SB, SV.known, packR, ne_eq, reduceCtorEq, Nat.reduceEqDiff, ↓reduceIte, if_true, if_false, eq_self, Nat.reduceAdd, Nat.reduceMul, Nat.reduceSub, forall_const, oneCellS, Kd.isSca, flat, TYB]
    have b54 := (bnd_bd R hR).2.2.2.1
    refine ⟨fun h1 h2 => ?_, fun h1 cap0 junk0 hj0 => ?_⟩
    · have e0 := gp_end (R := R) (n := 0) (by rw [gpR_zero]; exact h2) (by omega)
      rw [e0.1, e0.2]
      refine loop_intro (fun _ : Unit => [(6, .nils), (5, .nils), (4, .bool false), (3, .ptr 1 0), (2, .nils), (1, .ptr 0 0)]) (fun _ => [(1, .ints (List.replicate 24 0) 30), (0, .ints R 30)]) 2 (fun _ => True) (fun _ => 0) ?_ ?_
      · refine ⟨(), ?_, Sub.mk_id ?_ ?_ ?_ ?_ ?_⟩
        all_goals (try (simp only [LB, subS, subH, wfS, wfH, SV.ren, renL, SObj.ren, SV.wf, SObj.wf, wfL, SV.known, Nat.reduceEqDiff, ↓reduceIte, if_true, if_false, eq_self, Nat.reduceAdd, Nat.reduceLT, Nat.reduceLeDiff, implies_true, reduceCtorEq, forall_const]; done))
        all_goals (try (simp only [LB, subS, subH, wfS, wfH, SV.ren, renL, SObj.ren, SV.wf, SObj.wf, wfL, SV.known, Nat.reduceEqDiff, ↓reduceIte, if_true, if_false, eq_self, Nat.reduceAdd, Nat.reduceLT, Nat.reduceLeDiff, implies_true, reduceCtorEq, forall_const]; simp; done))
        all_goals (try (simp only [LB, subS, subH, wfS, wfH, SV.ren, renL, SObj.ren, SV.wf, SObj.wf, wfL, SV.known, Nat.reduceEqDiff, ↓reduceIte, if_true, if_false, eq_self, Nat.reduceAdd, Nat.reduceLT, Nat.reduceLeDiff, implies_true, reduceCtorEq, forall_const]; (and_intros <;> (first | omega | rfl | (simp; done) | (simp; omega))); done))
        all_goals (try dsimp only)
        all_goals (and_intros <;> try (first | omega | (unfold In64; omega) | trivial | assumption))
      · intro _ _
        simp -implicitDefEqProofs only [lk_normal, gpR_zero, gpL_zero, hR, tkR, ZB, Int.reduceToNat, Nat.reduceLT, Nat.reduceLeDiff, Int.reduceLE, Int.reduceLT, Nat.reduceEqDiff, Nat.reduceSub, SB, SV.known, packR, ne_eq, reduceCtorEq, Nat.reduceEqDiff, ↓reduceIte, if_true, if_false, eq_self, Nat.reduceAdd, Nat.reduceMul, Nat.reduceSub, forall_const, oneCellS, Kd.isSca, flat, TYB]
        exact .inl ⟨rfl, rfl, rfl⟩
    · refine loop_intro (fun s : Nat × Nat × List Int × Nat × List Int × Bool => [(6, gnV s.2.2.2.2.2 3 ((gdL (gpR R s.1)).length / 2) s.2.2.2.1), (5, outVn 2 s.1 s.1 s.2.1), (4, .bool false), (3, .ptr 1 0), (2, .nils), (1, .ptr 0 0)])
        (fun s => gnH s.2.2.2.2.2 3 (gdL (gpR R s.1) ++ s.2.2.2.2.1) 51 (outHn 2 s.1 (gpL R s.1 ++ s.2.2.1) 51 [(1, .ints (List.replicate 24 0) 30), (0, .ints (gpR R s.1) 30)])) 4
        (fun s => ((s.1 : Int) + bndF (gpR R s.1) ≤ bndF R ∧ (gpL R s.1).length = s.1 * 2 ∧ s.2.2.1.length + s.1 * 2 = s.2.1 * 2) ∧ (s.2.2.2.2.2 = true → gdL (gpR R s.1) = []) ∧ (s.2.2.2.2.2 = false → s.2.2.2.2.1.length + (gdL (gpR R s.1)).length = s.2.2.2.1 * 2)) (fun s => (bndF (gpR R s.1)).toNat) ?_ ?_
      · refine ⟨(0, 0, [], cap0, junk0, false), ⟨⟨by simp [gpR_zero], by simp [gpL_zero], rfl⟩, (fun h => by cases h), (fun _ => by simpa [gpR_zero] using hj0)⟩, Sub.mk_to 3 2 ?_ ?_ ?_ ?_ ?_ ?_ ?_⟩
        all_goals simp only [gnV_f, gnH_f, outVn_zero, outHn_zero, gpR_zero, gpL_zero, LB, subS, subH, wfS, wfH, SV.ren, renL, SObj.ren, SV.wf, SObj.wf, wfL, SV.known, Nat.reduceEqDiff, ↓reduceIte, if_true, if_false, eq_self, Nat.reduceAdd, Nat.reduceLT, Nat.reduceLeDiff, implies_true, reduceCtorEq, forall_const]
        all_goals (try simp)
      · rintro ⟨n, cap, junk, capL, junkL, nl⟩ ⟨⟨hb, hL, hj⟩, hn1, hn2⟩
        simp only at hb hL hj hn1 hn2
        obtain ⟨qR, qr⟩ := gpR_facts hR hr n
        have tkQ : (gpR R n).take 24 = gpR R n := List.take_of_length_le (by omega)
        have bq := (bnd_bd (gpR R n) qR).2.2.1
        obtain ⟨k, hk, hk36⟩ := gdL_even (gpR R n)
        have ek : (gdL (gpR R n)).length / 2 = k := by omega
        by_cases hg : gdL (gpR R n) = []
        · have e0 := gp_end hg (by omega)
          rw [e0.1, e0.2]
          have k0 : k = 0 := by rw [hg] at hk; simp at hk; omega
          subst k0
          cases nl <;> cases n
          all_goals simp -implicitDefEqProofs only [lk_normal, gnV_t, gnV_f, gnH_t, gnH_f, outVn_zero, outVn_succ, outHn_zero, outHn_succ, ek, qR, qr, tkQ, ZB, Int.reduceToNat, Nat.reduceLT, Nat.reduceLeDiff, Int.reduceLE, Int.reduceLT, Nat.reduceEqDiff, Nat.reduceSub, SB, SV.known, packR, ne_eq, reduceCtorEq, Nat.reduceEqDiff, ↓reduceIte, if_true, if_false, eq_self, Nat.reduceAdd, Nat.reduceMul, Nat.reduceSub, forall_const, oneCellS, Kd.isSca, flat, TYB]
          all_goals first
            | exact .inl ⟨rfl, gpL_zero R, rfl⟩
            | (refine .inr ⟨2, cap, junk, ?_, by simp [hget_cons], by omega, by omega, fun _ h0 => ?_⟩
               · rw [hL]; simp [Wrap.ap]
               · rw [h0] at hL; simp at hL)
        · have nlf : nl = false := by cases nl with
            | false => rfl
            | true => exact absurd (hn1 rfl) hg
          subst nlf
          have hn2 := hn2 rfl
          obtain ⟨f1, f2, f3, f4, f5, f6⟩ := gd_first hg
          have kp : ¬ ((k : Int) ≤ 0) := by omega
          have kp' : 0 < (k : Int) := by omega
          have lenA : (gdL (gpR R n) ++ junkL).length = capL * 2 := by rw [List.length_append]; omega
          have cA : 2 ≤ capL * 2 := by omega
          have tkA : List.take 2 (gdL (gpR R n) ++ junkL) = [(gdL (gpR R n)).getD 0 0, (gdL (gpR R n)).getD 1 0] := by rw [List.take_append_of_le_length f5]; exact f6
          have g0 := getD_app (gdL (gpR R n)) junkL 0 (by omega)
          have g1 := getD_app (gdL (gpR R n)) junkL 1 (by omega)
          have lenO : (gpL R n ++ junk).length = cap * 2 := by rw [List.length_append]; omega
          have tkO : (gpL R n ++ junk).take (n * 2) = gpL R n := List.take_left' hL
          have es1 : gpR R (n + 1) = pourF (gpR R n) ((gdL (gpR R n)).getD 0 0).toNat ((gdL (gpR R n)).getD 1 0).toNat := gpR_next hg
          have es2 : gpL R (n + 1) = gpL R n ++ [(gdL (gpR R n)).getD 0 0, (gdL (gpR R n)).getD 1 0] := gpL_next hg
          obtain ⟨qR', qr'⟩ := gpR_facts hR hr (n + 1)
          have dec := gp_dec hR hr hg
          have bq' := (bnd_bd (gpR R (n + 1)) qR').2.2.1
          rw [es1] at qR' qr' dec bq'
          have tkQ' : (pourF (gpR R n) ((gdL (gpR R n)).getD 0 0).toNat ((gdL (gpR R n)).getD 1 0).toNat).take 24 = pourF (gpR R n) ((gdL (gpR R n)).getD 0 0).toNat ((gdL (gpR R n)).getD 1 0).toNat := List.take_of_length_le (by omega)
          have dQ : List.drop 24 (gpR R n) = [] := List.drop_eq_nil_of_le (by omega)
          rcases n with _ | n
          all_goals simp -implicitDefEqProofs only [lk_normal, pour_F, good_F, dQ, freshK, Wrap.ap, lenA, cA, tkA, g0, g1, lenO, tkO, qR', qr', tkQ', gnV_t, gnV_f, gnH_t, gnH_f, outVn_zero, outVn_succ, outHn_zero, outHn_succ, ek, kp', qR, qr, tkQ, ZB, Int.reduceToNat, Nat.reduceLT, Nat.reduceLeDiff, Int.reduceLE, Int.reduceLT, Nat.reduceEqDiff, Nat.reduceSub, SB, SV.known, packR, ne_eq, reduceCtorEq, Nat.reduceEqDiff, ↓reduceIte, if_true, if_false, eq_self, Nat.reduceAdd, Nat.reduceMul, Nat.reduceSub, forall_const, oneCellS, Kd.isSca, flat, TYB]
          · rw [Nat.zero_add] at es1 es2
            intro junk' cap' hj'
            (try (and_intros <;> try (first | omega | (unfold In64; omega) | trivial | assumption)))
            · intro h1 h2
              refine ⟨(0 + 1, cap', junk', 0, [], true), ?_, ?_, Sub.mk_to 2 5 ?_ ?_ ?_ ?_ ?_ ?_ ?_⟩
              all_goals (try (simp only [gnV_t, gnH_t, outVn_succ, outHn_succ, gpL_zero, es1, es2, LB, subS, subH, wfS, wfH, SV.ren, renL, SObj.ren, SV.wf, SObj.wf, wfL, SV.known, Nat.reduceEqDiff, ↓reduceIte, if_true, if_false, eq_self, Nat.reduceAdd, Nat.reduceLT, Nat.reduceLeDiff, implies_true, reduceCtorEq, forall_const]; done))
              all_goals (try (simp only [gnV_t, gnH_t, outVn_succ, outHn_succ, gpL_zero, es1, es2, LB, subS, subH, wfS, wfH, SV.ren, renL, SObj.ren, SV.wf, SObj.wf, wfL, SV.known, Nat.reduceEqDiff, ↓reduceIte, if_true, if_false, eq_self, Nat.reduceAdd, Nat.reduceLT, Nat.reduceLeDiff, implies_true, reduceCtorEq, forall_const]; simp; done))
              all_goals (try (simp only [gnV_t, gnH_t, outVn_succ, outHn_succ, gpL_zero, es1, es2, LB, subS, subH, wfS, wfH, SV.ren, renL, SObj.ren, SV.wf, SObj.wf, wfL, SV.known, Nat.reduceEqDiff, ↓reduceIte, if_true, if_false, eq_self, Nat.reduceAdd, Nat.reduceLT, Nat.reduceLeDiff, implies_true, reduceCtorEq, forall_const]; (and_intros <;> (first | omega | rfl | (simp; done) | (simp; omega))); done))
              all_goals (try dsimp only)
              all_goals (and_intros <;> try (first | omega | (unfold In64; omega) | trivial | assumption))
              all_goals (try simp only [Nat.zero_add, es1, es2, gpL_zero, LB, subS, subH, wfS, wfH, SV.ren, renL, SObj.ren, SV.wf, SObj.wf, wfL, SV.known, Nat.reduceEqDiff, ↓reduceIte, if_true, if_false, eq_self, Nat.reduceAdd, Nat.reduceLT, Nat.reduceLeDiff, implies_true, reduceCtorEq, forall_const])
              all_goals (first | omega | (simp; done) | (simpa using hj2) | (simp; omega))
            · intro h1 capL' junkL' hj2
              refine ⟨(0 + 1, cap', junk', capL', junkL', false), ?_, ?_, Sub.mk_to2 2 5 3 6 ?_ ?_ ?_ ?_ ?_ ?_ ?_ (by simp only [gnV_f, gnH_f, outVn_succ, outHn_succ, es1, es2, List.map_cons, List.map_nil]; decide)⟩
              all_goals (try (simp only [gnV_f, gnH_f, outVn_succ, outHn_succ, es1, es2, LB, subS, subH, wfS, wfH, SV.ren, renL, SObj.ren, SV.wf, SObj.wf, wfL, SV.known, Nat.reduceEqDiff, ↓reduceIte, if_true, if_false, eq_self, Nat.reduceAdd, Nat.reduceLT, Nat.reduceLeDiff, implies_true, reduceCtorEq, forall_const]; done))
              all_goals (try (simp only [gnV_f, gnH_f, outVn_succ, outHn_succ, es1, es2, LB, subS, subH, wfS, wfH, SV.ren, renL, SObj.ren, SV.wf, SObj.wf, wfL, SV.known, Nat.reduceEqDiff, ↓reduceIte, if_true, if_false, eq_self, Nat.reduceAdd, Nat.reduceLT, Nat.reduceLeDiff, implies_true, reduceCtorEq, forall_const]; simp; done))
              all_goals (try (simp only [gnV_f, gnH_f, outVn_succ, outHn_succ, es1, es2, LB, subS, subH, wfS, wfH, SV.ren, renL, SObj.ren, SV.wf, SObj.wf, wfL, SV.known, Nat.reduceEqDiff, ↓reduceIte, if_true, if_false, eq_self, Nat.reduceAdd, Nat.reduceLT, Nat.reduceLeDiff, implies_true, reduceCtorEq, forall_const]; (and_intros <;> (first | omega | rfl | (simp; done) | (simp; omega))); done))
              all_goals (try dsimp only)
              all_goals (and_intros <;> try (first | omega | (unfold In64; omega) | trivial | assumption))
              all_goals (try simp only [Nat.zero_add, es1, es2, gpL_zero, LB, subS, subH, wfS, wfH, SV.ren, renL, SObj.ren, SV.wf, SObj.wf, wfL, SV.known, Nat.reduceEqDiff, ↓reduceIte, if_true, if_false, eq_self, Nat.reduceAdd, Nat.reduceLT, Nat.reduceLeDiff, implies_true, reduceCtorEq, forall_const])
              all_goals (first | omega | (simp; done) | (simpa using hj2) | (simp; omega))
          · (try (and_intros <;> try (first | omega | (unfold In64; omega) | trivial | assumption)))
            intro junk' cap' hj'
            (try (and_intros <;> try (first | omega | (unfold In64; omega) | trivial | assumption)))
            · intro h1 h2
              refine ⟨(n + 1 + 1, cap', junk', 0, [], true), ?_, ?_, Sub.mk_to 2 5 ?_ ?_ ?_ ?_ ?_ ?_ ?_⟩
              all_goals (try (simp only [gnV_t, gnH_t, outVn_succ, outHn_succ, es1, es2, LB, subS, subH, wfS, wfH, SV.ren, renL, SObj.ren, SV.wf, SObj.wf, wfL, SV.known, Nat.reduceEqDiff, ↓reduceIte, if_true, if_false, eq_self, Nat.reduceAdd, Nat.reduceLT, Nat.reduceLeDiff, implies_true, reduceCtorEq, forall_const]; done))
              all_goals (try (simp only [gnV_t, gnH_t, outVn_succ, outHn_succ, es1, es2, LB, subS, subH, wfS, wfH, SV.ren, renL, SObj.ren, SV.wf, SObj.wf, wfL, SV.known, Nat.reduceEqDiff, ↓reduceIte, if_true, if_false, eq_self, Nat.reduceAdd, Nat.reduceLT, Nat.reduceLeDiff, implies_true, reduceCtorEq, forall_const]; simp; done))
              all_goals (try (simp only [gnV_t, gnH_t, outVn_succ, outHn_succ, es1, es2, LB, subS, subH, wfS, wfH, SV.ren, renL, SObj.ren, SV.wf, SObj.wf, wfL, SV.known, Nat.reduceEqDiff, ↓reduceIte, if_true, if_false, eq_self, Nat.reduceAdd, Nat.reduceLT, Nat.reduceLeDiff, implies_true, reduceCtorEq, forall_const]; (and_intros <;> (first | omega | rfl | (simp; done) | (simp; omega))); done))
              all_goals (try dsimp only)
              all_goals (and_intros <;> try (first | omega | (unfold In64; omega) | trivial | assumption))
            · intro h1 capL' junkL' hj2
              refine ⟨(n + 1 + 1, cap', junk', capL', junkL', false), ?_, ?_, Sub.mk_to2 2 5 3 6 ?_ ?_ ?_ ?_ ?_ ?_ ?_ (by simp only [gnV_f, gnH_f, outVn_succ, outHn_succ, es1, es2, List.map_cons, List.map_nil]; decide)⟩
              all_goals (try (simp only [gnV_f, gnH_f, outVn_succ, outHn_succ, es1, es2, LB, subS, subH, wfS, wfH, SV.ren, renL, SObj.ren, SV.wf, SObj.wf, wfL, SV.known, Nat.reduceEqDiff, ↓reduceIte, if_true, if_false, eq_self, Nat.reduceAdd, Nat.reduceLT, Nat.reduceLeDiff, implies_true, reduceCtorEq, forall_const]; done))
              all_goals (try (simp only [gnV_f, gnH_f, outVn_succ, outHn_succ, es1, es2, LB, subS, subH, wfS, wfH, SV.ren, renL, SObj.ren, SV.wf, SObj.wf, wfL, SV.known, Nat.reduceEqDiff, ↓reduceIte, if_true, if_false, eq_self, Nat.reduceAdd, Nat.reduceLT, Nat.reduceLeDiff, implies_true, reduceCtorEq, forall_const]; simp; done))
              all_goals (try (simp only [gnV_f, gnH_f, outVn_succ, outHn_succ, es1, es2, LB, subS, subH, wfS, wfH, SV.ren, renL, SObj.ren, SV.wf, SObj.wf, wfL, SV.known, Nat.reduceEqDiff, ↓reduceIte, if_true, if_false, eq_self, Nat.reduceAdd, Nat.reduceLT, Nat.reduceLeDiff, implies_true, reduceCtorEq, forall_const]; (and_intros <;> (first | omega | rfl | (simp; done) | (simp; omega))); done))
              all_goals (try dsimp only)
              all_goals (and_intros <;> try (first | omega | (unfold In64; omega) | trivial | assumption))
set_option maxHeartbeats 800000 in
theorem sGoodPath_ok (R : List Int) (hR : R.length = 24) : FreshP Try.prog 42 [.arr R] [] (gpaL R) ((gpaL R).length / 2) 2 51 false (.more [.arr (gpaR R), .bool (rackB R)]) := by
  have tkR : R.take 24 = R := List.take_of_length_le (by omega)
  unfold gpaL gpaR
  cases hr : rackB R
  · refine fresh_of_vc (X := ⟨Try.prog, tys, [(64, l2Rack_F), (96, l2Pour_F)], [(79, l6Good_F)], true, true, 0, [], []⟩) fn_42 ⟨tys_ok, (.cons l2Rack_T (.cons l2Pour_T .nil)), (.cons l6Good_T .nil), mixed⟩ (n0 := 0) rfl (Nat.le_of_ble_eq_true rfl) (by simp [wfL, SV.wf]) (wfH_spec (by simp [wfH, SObj.wf])) (Nat.le_refl _) ?_
    simp -implicitDefEqProofs only [Try.f42, Option.getD_some, argS, l2Rack_F, l2Pour_F, l6Good_F, hR, tkR, hr, freshK, Wrap.ap, ZB, Int.reduceToNat, Nat.reduceLT, Nat.reduceLeDiff, Int.reduceLE, Int.reduceLT, Nat.reduceEqDiff, Nat.reduceSub, SB, SV.known, packR, ne_eq, reduceCtorEq, Nat.reduceEqDiff, ↓reduceIte, if_true, if_false, eq_self, Nat.reduceAdd, Nat.reduceMul, Nat.reduceSub, forall_const, oneCellS, Kd.isSca, flat, TYB]
    exact .inr ⟨2, 0, [], by simp [Wrap.ap], by simp [hget_cons], by omega, by simp, by simp⟩
  · refine fresh_of_vc (X := ⟨Try.prog, tys, [(64, l2Rack_F), (96, l2Pour_F)], [(79, l6Good_F)], true, true, 0, [], []⟩) fn_42 ⟨tys_ok, (.cons l2Rack_T (.cons l2Pour_T .nil)), (.cons l6Good_T .nil), mixed⟩ (n0 := 0) rfl (Nat.le_of_ble_eq_true rfl) (by simp [wfL, SV.wf]) (wfH_spec (by simp [wfH, SObj.wf])) (Nat.le_refl _) ?_
    simp -implicitDefEqProofs only [Try.f42, Option.getD_some, argS, l2Rack_F, l2Pour_F, l6Good_F, hR, tkR, hr, freshK, Wrap.ap, ZB, Int.reduceToNat, Nat.reduceLT, Nat.reduceLeDiff, Int.reduceLE, Int.reduceLT, Nat.reduceEqDiff, Nat.reduceSub, SB, SV.known, packR, ne_eq, reduceCtorEq, Nat.reduceEqDiff, ↓reduceIte, if_true, if_false, eq_self, Nat.reduceAdd, Nat.reduceMul, Nat.reduceSub, forall_const, oneCellS, Kd.isSca, flat, TYB]
    have b54 := (bnd_bd R hR).2.2.2.1
    intro cap0 junk0 hj0
    refine loop_intro (fun s : Nat × Nat × List Int × Nat × List Int => [(6, .slice 3 0 ((gdL (gpR R s.1)).length / 2) s.2.2.2.1), (5, .slice 2 0 s.1 s.2.1), (4, .bool false), (3, .ptr 1 0), (2, .nils), (1, .ptr 0 0)])
      (fun s => [(3, .ints (gdL (gpR R s.1) ++ s.2.2.2.2) 51), (2, .ints (gpL R s.1 ++ s.2.2.1) 51), (1, .ints (List.replicate 24 0) 30), (0, .ints (gpR R s.1) 30)]) 4
      (fun s => ((s.1 : Int) + bndF (gpR R s.1) ≤ bndF R ∧ (gpL R s.1).length = s.1 * 2 ∧ s.2.2.1.length + s.1 * 2 = s.2.1 * 2) ∧ s.2.2.2.2.length + (gdL (gpR R s.1)).length = s.2.2.2.1 * 2) (fun s => (bndF (gpR R s.1)).toNat) ?_ ?_
    · refine ⟨(0, 0, [], cap0, junk0), ?_, Sub.mk_id ?_ ?_ ?_ ?_ ?_⟩
      all_goals (try (simp only [gpR_zero, gpL_zero, List.append_nil, LB, subS, subH, wfS, wfH, SV.ren, renL, SObj.ren, SV.wf, SObj.wf, wfL, SV.known, Nat.reduceEqDiff, ↓reduceIte, if_true, if_false, eq_self, Nat.reduceAdd, Nat.reduceLT, Nat.reduceLeDiff, implies_true, reduceCtorEq, forall_const]; done))
      all_goals (try (simp only [gpR_zero, gpL_zero, List.append_nil, LB, subS, subH, wfS, wfH, SV.ren, renL, SObj.ren, SV.wf, SObj.wf, wfL, SV.known, Nat.reduceEqDiff, ↓reduceIte, if_true, if_false, eq_self, Nat.reduceAdd, Nat.reduceLT, Nat.reduceLeDiff, implies_true, reduceCtorEq, forall_const]; simp; done))
      all_goals (try (simp only [gpR_zero, gpL_zero, List.append_nil, LB, subS, subH, wfS, wfH, SV.ren, renL, SObj.ren, SV.wf, SObj.wf, wfL, SV.known, Nat.reduceEqDiff, ↓reduceIte, if_true, if_false, eq_self, Nat.reduceAdd, Nat.reduceLT, Nat.reduceLeDiff, implies_true, reduceCtorEq, forall_const]; (and_intros <;> (first | omega | rfl | (simp; done) | (simp; omega))); done))
      all_goals (try dsimp only)
      all_goals (and_intros <;> try (first | omega | (unfold In64; omega) | trivial | assumption))
      all_goals (try simp only [gpR_zero, gpL_zero])
      all_goals (first | omega | (simp; done) | (simpa using hj0))
    · rintro ⟨n, cap, junk, capL, junkL⟩ ⟨⟨hb, hL, hj⟩, hn2⟩
      simp only at hb hL hj hn2
      obtain ⟨qR, qr⟩ := gpR_facts hR hr n
      have tkQ : (gpR R n).take 24 = gpR R n := List.take_of_length_le (by omega)
      have bq := (bnd_bd (gpR R n) qR).2.2.1
      obtain ⟨k, hk, hk36⟩ := gdL_even (gpR R n)
      have ek : (gdL (gpR R n)).length / 2 = k := by omega
      by_cases hg : gdL (gpR R n) = []
      · have e0 := gp_end hg (by omega)
        rw [e0.1, e0.2]
        have k0 : k = 0 := by rw [hg] at hk; simp at hk; omega
        subst k0
        simp -implicitDefEqProofs only [lk_normal, ek, qR, qr, tkQ, ZB, Int.reduceToNat, Nat.reduceLT, Nat.reduceLeDiff, Int.reduceLE, Int.reduceLT, Nat.reduceEqDiff, Nat.reduceSub, SB, SV.known, packR, ne_eq, reduceCtorEq, Nat.reduceEqDiff, ↓reduceIte, if_true, if_false, eq_self, Nat.reduceAdd, Nat.reduceMul, Nat.reduceSub, forall_const, oneCellS, Kd.isSca, flat, TYB]
        refine .inr ⟨2, cap, junk, ?_, by simp [hget_cons], by omega, by omega, fun h0 => by cases h0⟩
        rw [hL]; simp [Wrap.ap]
      · obtain ⟨f1, f2, f3, f4, f5, f6⟩ := gd_first hg
        have kp' : 0 < (k : Int) := by omega
        have lenA : (gdL (gpR R n) ++ junkL).length = capL * 2 := by rw [List.length_append]; omega
        have cA : 2 ≤ capL * 2 := by omega
        have tkA : List.take 2 (gdL (gpR R n) ++ junkL) = [(gdL (gpR R n)).getD 0 0, (gdL (gpR R n)).getD 1 0] := by rw [List.take_append_of_le_length f5]; exact f6
        have g0 := getD_app (gdL (gpR R n)) junkL 0 (by omega)
        have g1 := getD_app (gdL (gpR R n)) junkL 1 (by omega)
        have lenO : (gpL R n ++ junk).length = cap * 2 := by rw [List.length_append]; omega
        have tkO : (gpL R n ++ junk).take (n * 2) = gpL R n := List.take_left' hL
        have es1 : gpR R (n + 1) = pourF (gpR R n) ((gdL (gpR R n)).getD 0 0).toNat ((gdL (gpR R n)).getD 1 0).toNat := gpR_next hg
        have es2 : gpL R (n + 1) = gpL R n ++ [(gdL (gpR R n)).getD 0 0, (gdL (gpR R n)).getD 1 0] := gpL_next hg
        obtain ⟨qR', qr'⟩ := gpR_facts hR hr (n + 1)
        have dec := gp_dec hR hr hg
        have bq' := (bnd_bd (gpR R (n + 1)) qR').2.2.1
        rw [es1] at qR' qr' dec bq'
        have tkQ' : (pourF (gpR R n) ((gdL (gpR R n)).getD 0 0).toNat ((gdL (gpR R n)).getD 1 0).toNat).take 24 = pourF (gpR R n) ((gdL (gpR R n)).getD 0 0).toNat ((gdL (gpR R n)).getD 1 0).toNat := List.take_of_length_le (by omega)
        have dQ : List.drop 24 (gpR R n) = [] := List.drop_eq_nil_of_le (by omega)
        simp -implicitDefEqProofs only [lk_normal, l2Pour_F, l6Good_F, dQ, freshK, Wrap.ap, lenA, cA, tkA, g0, g1, lenO, tkO, qR', qr', tkQ', ek, kp', qR, qr, tkQ, ZB, Int.reduceToNat, Nat.reduceLT, Nat.reduceLeDiff, Int.reduceLE, Int.reduceLT, Nat.reduceEqDiff, Nat.reduceSub, SB, SV.known, packR, ne_eq, reduceCtorEq, Nat.reduceEqDiff, ↓reduceIte, if_true, if_false, eq_self, Nat.reduceAdd, Nat.reduceMul, Nat.reduceSub, forall_const, oneCellS, Kd.isSca, flat, TYB]
        (try (and_intros <;> try (first | omega | (unfold In64; omega) | trivial | assumption)))
        intro junk' cap' hj' capL' junkL' hj2
        refine ⟨(n + 1, cap', junk', capL', junkL'), ?_, ?_, Sub.mk_to2 2 6 3 7 ?_ ?_ ?_ ?_ ?_ ?_ ?_ (by simp only [es1, es2, List.map_cons, List.map_nil]; decide)⟩
        all_goals (try (simp only [es1, es2, LB, subS, subH, wfS, wfH, SV.ren, renL, SObj.ren, SV.wf, SObj.wf, wfL, SV.known, Nat.reduceEqDiff, ↓reduceIte, if_true, if_false, eq_self, Nat.reduceAdd, Nat.reduceLT, Nat.reduceLeDiff, implies_true, reduceCtorEq, forall_const]; done))
        all_goals (try (simp only [es1, es2, LB, subS, subH, wfS, wfH, SV.ren, renL, SObj.ren, SV.wf, SObj.wf, wfL, SV.known, Nat.reduceEqDiff, ↓reduceIte, if_true, if_false, eq_self, Nat.reduceAdd, Nat.reduceLT, Nat.reduceLeDiff, implies_true, reduceCtorEq, forall_const]; simp; done))
        all_goals (try (simp only [es1, es2, LB, subS, subH, wfS, wfH, SV.ren, renL, SObj.ren, SV.wf, SObj.wf, wfL, SV.known, Nat.reduceEqDiff, ↓reduceIte, if_true, if_false, eq_self, Nat.reduceAdd, Nat.reduceLT, Nat.reduceLeDiff, implies_true, reduceCtorEq, forall_const]; (and_intros <;> (first | omega | rfl | (simp; done) | (simp; omega))); done))
        all_goals (try dsimp only)
        all_goals (and_intros <;> try (first | omega | (unfold In64; omega) | trivial | assumption))
        all_goals (first | (simp only [es1]; omega) | (simp only [es2]; simp [hL]; omega) | (simp only [es1]; simpa using hj2) | skip)
def GoodPath_F : List SV → Heap → Nat → Nat → K1 → Prop
  | [.arr R], H, n, _, κ => (R.length = 24) ∧ freshK (.more [.arr (gpaR R), .bool (rackB R)]) (gpaL R) ((gpaL R).length / 2) 2 51 (true) H n κ
  | _, _, _, _, _ => False
--@tbl GoodPath = impl.GoodPath
theorem GoodPath_T : ∀ args H n m κ, GoodPath_F args H n m κ → GenOK Try.prog 43 args H n m κ := by
  intro args H n m κ h
  unfold GoodPath_F at h
  split at h
  · exact gen_of_fresh (GoodPath_ok _ h.1) (fun k o hk => by cases hk) h.2
  · exact h.elim
def sGoodPath_F : List SV → Heap → Nat → Nat → K1 → Prop
  | [.arr R], H, n, _, κ => (R.length = 24) ∧ freshK (.more [.arr (gpaR R), .bool (rackB R)]) (gpaL R) ((gpaL R).length / 2) 2 51 (false) H n κ
  | _, _, _, _, _ => False
--@tbl sGoodPath = spec.GoodPath
theorem sGoodPath_T : ∀ args H n m κ, sGoodPath_F args H n m κ → GenOK Try.prog 42 args H n m κ := by
  intro args H n m κ h
  unfold sGoodPath_F at h
  split at h
  · exact gen_of_fresh (sGoodPath_ok _ h.1) (fun k o hk => by cases hk) h.2
  · exact h.elim
theorem gpaL_even (R : List Int) (hR : R.length = 24) : ∃ k, (gpaL R).length = k * 2 ∧ k ≤ 100 := by
  have : ∀ n, ∃ k, (gpL R n).length = k * 2 ∧ k ≤ n := fun n => by
    induction n with
    | zero => exact ⟨0, by rw [gpL_zero]; rfl, by omega⟩
    | succ n ih =>
      obtain ⟨k, h1, h2⟩ := ih
      by_cases hg : gdL (gpR R n) = []
      · exact ⟨k, by rw [(gp_stop hg 1).2]; exact h1, by omega⟩
      · exact ⟨k + 1, by rw [gpL_next hg, List.length_append, h1]; simp; omega, by omega⟩
  unfold gpaL
  split
  · exact this 100
  · exact ⟨0, rfl, by omega⟩
theorem gpaR_len (R : List Int) (hR : R.length = 24) : (gpaR R).length = 24 := by
  unfold gpaR
  split
  · rename_i hr; exact (gpR_facts hR hr 100).1
  · simp
theorem lawGoodPath (R : List Int) (hR : R.length = 24) (_ : ∀ x ∈ R, In64 x) : PureH Try.prog 11 [.arr R] [] (.bool true) := by
  have tkR : R.take 24 = R := List.take_of_length_le (by omega)
  obtain ⟨m, hm, hm36⟩ := gpaL_even R hR
  have e2 : (gpaL R).length / 2 = m := by omega
  have gl := gpaR_len R hR
  have tkg : (gpaR R).take 24 = gpaR R := List.take_of_length_le (by omega)
  refine pure_of_vc (X := ⟨Try.prog, tys, [(16, toRack_F), (19, eqS2_F), (21, held2_F), (26, eqRack_F)], [(43, GoodPath_F), (42, sGoodPath_F), (20, mark2_F)], true, true, 0, [], []⟩) fn_11 ⟨tys_ok, (.cons toRack_T (.cons eqS2_T (.cons held2_T (.cons eqRack_T .nil)))), (.cons GoodPath_T (.cons sGoodPath_T (.cons mark2_T .nil))), mixed⟩ (n0 := 0) (Nat.le_of_ble_eq_true rfl) (by simp [wfL, SV.wf]) (wfH_spec (by simp [wfH, SObj.wf])) (Nat.le_refl _) (fun _ => by simp [SV.wf, wfL]) ?_
  simp -implicitDefEqProofs only [Try.f11, Option.getD_some, argS, toRack_F, eqS2_F, held2_F, eqRack_F, GoodPath_F, sGoodPath_F, mark2_F, hR, tkR, e2, gl, tkg, freshK, Wrap.ap, ZB, Int.reduceToNat, Nat.reduceLT, Nat.reduceLeDiff, Int.reduceLE, Int.reduceLT, Nat.reduceEqDiff, Nat.reduceSub, SB, SV.known, packR, ne_eq, reduceCtorEq, Nat.reduceEqDiff, ↓reduceIte, if_true, if_false, eq_self, Nat.reduceAdd, Nat.reduceMul, Nat.reduceSub, forall_const, oneCellS, Kd.isSca, flat, TYB]
  exact lawS2' hm (by omega)
end Go.Proofs.Ytaenmmebnifioaa
