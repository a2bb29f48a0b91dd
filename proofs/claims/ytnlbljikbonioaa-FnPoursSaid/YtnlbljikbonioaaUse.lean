/- Walks: useful pours. -/
import Derived.Test.YtnlbljikbonioaaDel
import Derived.Test.YtnlbljikbonioaaBnd
set_option maxRecDepth 100000
set_option linter.unusedSimpArgs false
set_option linter.unusedVariables false
namespace Go.Proofs.Ytnlbljikbonioaa
open Go Go.RowKit
def idleF (R p : List Int) : Bool := decide ((runsL (tubeAt R (p.getD 0 0).toNat)).length / 2 = 1) && decide (layN (tubeAt R (p.getD 1 0).toNat) = 0)
def okP (p : List Int) : Prop := p.length = 2 ∧ (0 ≤ p.getD 0 0 ∧ p.getD 0 0 ≤ 5) ∧ (0 ≤ p.getD 1 0 ∧ p.getD 1 0 ≤ 5)
theorem okP_take {p : List Int} (h : okP p) : p.take 2 = p := List.take_of_length_le (by have := h.1; omega)
--@tbl isIdle = impl.isIdle
theorem isIdle_ok (R p : List Int) (hR : R.length = 24) (hp : okP p) : PureH Try.prog 119 [.arr R, .arr p] [] (.bool (idleF R p)) := by
  have tkR : R.take 24 = R := List.take_of_length_le (by omega)
  have tkp := okP_take hp
  obtain ⟨pl, b0, b1⟩ := hp
  have e0 : List.take 4 (List.drop ((p.getD 0 0).toNat * 4) R) = tubeAt R (p.getD 0 0).toNat := rfl
  have e1 : List.take 4 (List.drop ((p.getD 1 0).toNat * 4) R) = tubeAt R (p.getD 1 0).toNat := rfl
  have l0 := tubeAt_len hR (i := (p.getD 0 0).toNat) (by omega)
  have l1 := tubeAt_len hR (i := (p.getD 1 0).toNat) (by omega)
  obtain ⟨n, hn, hn4, _⟩ := runsL_even _ l0
  have hn2 : (runsL (tubeAt R (p.getD 0 0).toNat)).length / 2 = n := by omega
  unfold idleF
  rw [hn2]
  refine pure_of_vc (X := ⟨Try.prog, tys, [(73, layers_F)], [(121, runs_F)], true, true, 0, [], []⟩) fn_119 ⟨tys_ok, (.cons layers_T .nil), (.cons runs_T .nil), mixed⟩ (n0 := 0) (Nat.le_of_ble_eq_true rfl) (by simp [wfL, SV.wf]) (wfH_spec (by simp [wfH, SObj.wf])) (Nat.le_refl _) (fun _ => by simp [SV.wf, wfL]) ?_
  simp -implicitDefEqProofs only [Try.f119, Option.getD_some, argS, layers_F, runs_F, hR, tkR, tkp, pl, e0, e1, l0, l1, hn2, freshK, Wrap.ap, ZB, Int.reduceToNat, Nat.reduceLT, Nat.reduceLeDiff, Int.reduceLE, Int.reduceLT, Nat.reduceEqDiff, Nat.reduceSub, SB, SV.known, packR, ne_eq, reduceCtorEq, Nat.reduceEqDiff, ↓reduceIte, if_true, if_false, eq_self, Nat.reduceAdd, Nat.reduceMul, Nat.reduceSub, forall_const, oneCellS, litOne, flat1, Kd.isSca, flat, TYB]
  refine ⟨by omega, by omega, by omega, fun h0 => ?_, fun h0 cap junk hj => ?_⟩
  · have h00 : n = 0 := by rw [h0] at hn; simp at hn; omega
    subst h00
    exact ⟨fun h => by omega, fun _ => by simp⟩
  · refine ⟨fun h => ⟨by omega, by omega, by omega, ?_⟩, fun h => ?_⟩
    · have : n = 1 := by omega
      subst this
      simp
    · have : ¬ n = 1 := by omega
      simp [this]
def isIdle_F : List SV → Heap → Option (Prop × SV)
  | [.arr R, .arr p], _ => some (R.length = 24 ∧ okP p, .bool (idleF R p))
  | _, _ => none
theorem isIdle_T : ∀ args H p v, isIdle_F args H = some (p, v) → p → PureH Try.prog 119 args H v := by
  intro args H p v h hp
  unfold isIdle_F at h
  split at h
  · cases h; exact (isIdle_ok _ _ hp.1 hp.2).any _
  · cases h
/-! DeleteFunc with a closure over one rack. -/
--@tbl delR = slices.DeleteFunc[[][2]int,[2]int]
def delR_F (g : Nat) (pr : List Int → List Int → Bool) (Q : List Int → List Int → Prop) : List SV → Heap → Nat → Nat → K1 → Prop
  | [.slice b 0 len cap, .fn f [.ptr k 0]], H, n, m, κ => match hget H b, hget H k with
    | some (.ints L e), some (.ints R _) => f = g ∧ R.length = 24 ∧ L.length = cap * 2 ∧ len ≤ cap ∧ len ≤ 4611686018427387903 ∧ b ≠ k ∧ m ≤ b ∧ (∀ i, i < len → Q R ((L.drop (i * 2)).take 2)) ∧
        κ (.slice b 0 ((kept (fun x => !pr R x) L len).length / 2) cap) ((b, .ints (kept (fun x => !pr R x) L len ++ List.replicate (len * 2 - (kept (fun x => !pr R x) L len).length) 0 ++ L.drop (len * 2)) e) :: H) n
    | _, _ => False
  | [.nils, .fn _ [.ptr k 0]], H, n, _, κ => match hget H k with
    | some (.ints _ _) => κ .nils H n
    | _ => False
  | _, _, _, _, _ => False
theorem delR_T (g : Nat) (pr : List Int → List Int → Bool) (Q : List Int → List Int → Prop) (hg : g ≠ 139) (hc : ∀ (R : List Int) (e : Nat) (p : List Int), R.length = 24 → Q R p → PureH Try.prog g [.arr p, .ptr 0 0] [(0, .ints R e)] (.bool (pr R p))) :
    ∀ args H n m κ, delR_F g pr Q args H n m κ → GenOK Try.prog 117 args H n m κ := by
  intro args H n m κ h
  unfold delR_F at h
  split at h
  · rename_i b len cap f k
    split at h
    · rename_i L e R e2 h1 h2
      obtain ⟨rfl, hR, hL, hlc, hm, hbk, hmb, hQ, h⟩ := h
      have hu := deleteFunc_ok f hg [.ptr 0 0] [(0, .ints R e2)] (pr R) 1 L e len cap hL hlc hm (Q R) hQ (fun x hx => hc R e2 x hR hx) (by simp [wfL, SV.wf]) (wfH_spec (by simp [wfH, SObj.wf]))
      have := gen_of_upd (H := H) (n := n) (m := m) (κ := κ) hu (fun j => if j = 1 then b else k) (fun j o1 hj => by
        simp only [hget_cons] at hj
        split at hj
        · rename_i hj1; cases hj; rw [if_pos hj1]; exact h1
        · rename_i hj1
          split at hj
          · cases hj; rw [if_neg hj1]; exact h2
          · cases hj) (fun j1 o1 j2 o2 g1 g2 he => by
        simp only [hget_cons] at g1 g2
        by_cases q1 : j1 = 1
        · by_cases q2 : j2 = 1
          · omega
          · simp only [q1, q2, if_true, if_false] at he; omega
        · by_cases q2 : j2 = 1
          · simp only [q1, q2, if_true, if_false] at he; omega
          · rw [if_neg q1] at g1
            rw [if_neg q2] at g2
            split at g1
            · split at g2
              · omega
              · cases g2
            · cases g1) (by simpa using hmb) rfl (fun n hn => by simpa [SV.wf, SV.ren] using hn) (by simpa [SV.ren] using h)
      simpa [renL, SV.ren] using this
    · exact h.elim
  · rename_i f k
    split at h
    · rename_i R e2 h2
      refine ⟨(deleteFunc_nil f [.ptr k 0] [] (k + 1) (by simp [wfL, SV.wf]) (hwf_nil _)).ent, fun B M w hH hwH hwa hown hM => ?_⟩
      have hp := deleteFunc_nil f [.ptr k 0] [] (k + 1) (by simp [wfL, SV.wf]) (hwf_nil _)
      refine (hp.call B w (HR.nil B w)).mono fun e w' hh => ?_
      exact ⟨.nils, H, n, B, hh.1, h, Nat.le_refl _, trivial, hwH, fun _ _ => rfl, hH.of_below hh.2, hown, Kept.of_below hh.2⟩
    · exact h.elim
  · exact h.elim
--@tbl useful = impl.useful
theorem useful1_ok (R : List Int) (e : Nat) (p : List Int) (hR : R.length = 24) (hp : okP p) : PureH Try.prog 118 [.arr p, .ptr 0 0] [(0, .ints R e)] (.bool (idleF R p)) := by
  have tkR : R.take 24 = R := List.take_of_length_le (by omega)
  refine pure_of_vc (X := ⟨Try.prog, tys, [(119, isIdle_F)], [], true, true, 1, [], []⟩) fn_118 ⟨tys_ok, (.cons isIdle_T .nil), .nil, mixed⟩ (n0 := 1) (Nat.le_of_ble_eq_true rfl) (by simp [wfL, SV.wf]) (wfH_spec (by simp [wfH, SObj.wf])) (Nat.le_refl _) (fun _ => by simp [SV.wf, wfL]) ?_
  simp -implicitDefEqProofs only [Try.f118, Option.getD_some, argS, isIdle_F, hR, tkR, ZB, Int.reduceToNat, Nat.reduceLT, Nat.reduceLeDiff, Int.reduceLE, Int.reduceLT, Nat.reduceEqDiff, Nat.reduceSub, SB, SV.known, packR, ne_eq, reduceCtorEq, Nat.reduceEqDiff, ↓reduceIte, if_true, if_false, eq_self, Nat.reduceAdd, Nat.reduceMul, Nat.reduceSub, forall_const, oneCellS, litOne, flat1, Kd.isSca, flat, TYB]
  have tkp := okP_take hp
  rw [tkp]
  exact ⟨by have := hp.1; omega, hp, rfl⟩
def uDel_F := delR_F 118 idleF (fun _ p => okP p)
--@tbl uDel = slices.DeleteFunc[[][2]int,[2]int]
theorem uDel_T : ∀ args H n m κ, uDel_F args H n m κ → GenOK Try.prog 117 args H n m κ := delR_T _ _ _ (by decide) useful1_ok
def ulF (R : List Int) : List Int := kept (fun p => !idleF R p) (PL R 36) ((PL R 36).length / 2)
theorem PL_okP (R : List Int) (i : Nat) (junk : List Int) (h : i * 2 + 2 ≤ (PL R 36).length) : okP (List.take 2 (List.drop (i * 2) (PL R 36 ++ junk))) := by
  have hbd : Bd 0 5 (PL R 36) := PL_bd R 36 (by omega)
  rw [take2_drop _ _ (by rw [List.length_append]; omega), getD_app _ _ _ (by omega), getD_app _ _ _ (by omega)]
  exact ⟨rfl, hbd.getD (by omega), hbd.getD (by omega)⟩
theorem useful_ok (R : List Int) (hR : R.length = 24) : FreshP Try.prog 67 [.arr R] [] (ulF R) ((ulF R).length / 2) 2 44 (decide (PL R 36 = [])) .one := by
  have tkR : R.take 24 = R := List.take_of_length_le (by omega)
  refine fresh_of_vc (X := ⟨Try.prog, tys, [], [(63, pours_F), (117, uDel_F)], true, true, 0, [], []⟩) fn_67 ⟨tys_ok, .nil, (.cons pours_T (.cons uDel_T .nil)), mixed⟩ (n0 := 0) rfl (Nat.le_of_ble_eq_true rfl) (by simp [wfL, SV.wf]) (wfH_spec (by simp [wfH, SObj.wf])) (Nat.le_refl _) ?_
  simp -implicitDefEqProofs only [Try.f67, Option.getD_some, argS, pours_F, uDel_F, hR, tkR, freshK, Wrap.ap, uDel_F, delR_F, ZB, Int.reduceToNat, Nat.reduceLT, Nat.reduceLeDiff, Int.reduceLE, Int.reduceLT, Nat.reduceEqDiff, Nat.reduceSub, SB, SV.known, packR, ne_eq, reduceCtorEq, Nat.reduceEqDiff, ↓reduceIte, if_true, if_false, eq_self, Nat.reduceAdd, Nat.reduceMul, Nat.reduceSub, forall_const, oneCellS, litOne, flat1, Kd.isSca, flat, TYB]
  obtain ⟨m, hm, hm36⟩ := PL_even R 36
  have e2 : (PL R 36).length / 2 = m := by omega
  have uf : ulF R = kept (fun p => !idleF R p) (PL R 36) m := by unfold ulF; rw [e2]
  refine ⟨fun h0 => ?_, fun h0 cap junk hj => ?_⟩
  · refine .inl ⟨by simp [h0], ?_, rfl⟩
    rw [uf, show m = 0 by rw [h0] at hm; simp at hm; omega]; rfl
  · have ka := kept_app (fun p => !idleF R p) (PL R 36) junk m (by omega)
    obtain ⟨k, hk, hkm⟩ := kept_even (fun p => !idleF R p) (PL R 36) m (by omega)
    rw [e2, ka]
    refine ⟨by rw [List.length_append]; omega, by omega, by omega, fun i hi => ?_, .inr ⟨1, cap, List.replicate (m * 2 - (kept (fun p => !idleF R p) (PL R 36) m).length) 0 ++ List.drop (m * 2) (PL R 36 ++ junk), ?_, ?_, by omega, ?_, by simp [h0]⟩⟩
    · exact PL_okP R i junk (by omega)
    · rw [uf]; rfl
    · rw [uf, hget_cons, if_pos rfl, List.append_assoc]
    · rw [uf, List.length_append, List.length_replicate, List.length_drop, List.length_append]
      omega
def useful_F : List SV → Heap → Nat → Nat → K1 → Prop
  | [.arr R], H, n, _, κ => R.length = 24 ∧ freshK .one (ulF R) ((ulF R).length / 2) 2 44 (decide (PL R 36 = [])) H n κ
  | _, _, _, _, _ => False
theorem useful_T : ∀ args H n m κ, useful_F args H n m κ → GenOK Try.prog 67 args H n m κ := by
  intro args H n m κ h
  unfold useful_F at h
  split at h
  · exact gen_of_fresh (useful_ok _ h.1) (fun k o hk => by cases hk) h.2
  · exact h.elim
/-! The model's. -/
--@tbl l2Idle = spec.l2Idle
theorem l2Idle_ok (R : List Int) (i j : Int) (hR : R.length = 24) (hr : rackB R = true) (hi : 0 ≤ i ∧ i ≤ 5) (hj : 0 ≤ j ∧ j ≤ 5) : PureH Try.prog 120 [.arr R, .int i, .int j] [] (.bool (idleF R [i, j])) := by
  have tkR : R.take 24 = R := List.take_of_length_le (by omega)
  have e0 : List.take 4 (List.drop (i.toNat * 4) R) = tubeAt R i.toNat := rfl
  have e1 : List.take 4 (List.drop (j.toNat * 4) R) = tubeAt R j.toNat := rfl
  have l0 := tubeAt_len hR (i := i.toNat) (by omega)
  have l1 := tubeAt_len hR (i := j.toNat) (by omega)
  have b0 := tubeAt_ok hr (i := i.toNat) (by omega)
  have b1 := tubeAt_ok hr (i := j.toNat) (by omega)
  have pp := posC_lay _ l1 b1
  obtain ⟨n, hn, hn4, _⟩ := runsL_even _ l0
  have hn2 : (runsL (tubeAt R i.toNat)).length / 2 = n := by omega
  unfold idleF
  simp only [List.getD_cons_zero, List.getD_cons_succ]
  rw [hn2]
  refine pure_of_vc (X := ⟨Try.prog, tys, [(85, l2Many_F)], [(122, l2Runs_F)], true, true, 0, [], []⟩) fn_120 ⟨tys_ok, (.cons l2Many_T .nil), (.cons l2Runs_T .nil), mixed⟩ (n0 := 0) (Nat.le_of_ble_eq_true rfl) (by simp [wfL, SV.wf]) (wfH_spec (by simp [wfH, SObj.wf])) (Nat.le_refl _) (fun _ => by simp [SV.wf, wfL]) ?_
  simp -implicitDefEqProofs only [Try.f120, Option.getD_some, argS, l2Many_F, l2Runs_F, hR, tkR, e0, e1, l0, l1, b0, b1, hn2, pp, freshK, Wrap.ap, ZB, Int.reduceToNat, Nat.reduceLT, Nat.reduceLeDiff, Int.reduceLE, Int.reduceLT, Nat.reduceEqDiff, Nat.reduceSub, SB, SV.known, packR, ne_eq, reduceCtorEq, Nat.reduceEqDiff, ↓reduceIte, if_true, if_false, eq_self, Nat.reduceAdd, Nat.reduceMul, Nat.reduceSub, forall_const, oneCellS, litOne, flat1, Kd.isSca, flat, TYB]
  refine ⟨by omega, by omega, by omega, fun cap junk hj' => ⟨fun h => ⟨by omega, by omega, by omega, ?_⟩, fun h => ?_⟩⟩
  · have : n = 1 := by omega
    subst this
    simp
  · have : ¬ n = 1 := by omega
    simp [this]
def l2Idle_F : List SV → Heap → Option (Prop × SV)
  | [.arr R, .int i, .int j], _ => some (R.length = 24 ∧ rackB R = true ∧ (0 ≤ i ∧ i ≤ 5) ∧ (0 ≤ j ∧ j ≤ 5), .bool (idleF R [i, j]))
  | _, _ => none
theorem l2Idle_T : ∀ args H p v, l2Idle_F args H = some (p, v) → p → PureH Try.prog 120 args H v := by
  intro args H p v h hp
  unfold l2Idle_F at h
  split at h
  · cases h; exact (l2Idle_ok _ _ _ hp.1 hp.2.1 hp.2.2.1 hp.2.2.2).any _
  · cases h
--@tbl l2Useful = spec.l2Useful
theorem l2Useful_ok (R : List Int) (hR : R.length = 24) (hr : rackB R = true) : FreshP Try.prog 68 [.arr R] [] (ulF R) ((ulF R).length / 2) 2 44 false .one := by
  have tkR : R.take 24 = R := List.take_of_length_le (by omega)
  obtain ⟨m, hm, hm36⟩ := PL_even R 36
  refine fresh_of_vc (X := ⟨Try.prog, tys, [(120, l2Idle_F)], [(64, l2Pours_F)], true, true, 0, [], []⟩) fn_68 ⟨tys_ok, (.cons l2Idle_T .nil), (.cons l2Pours_T .nil), mixed⟩ (n0 := 0) rfl (Nat.le_of_ble_eq_true rfl) (by simp [wfL, SV.wf]) (wfH_spec (by simp [wfH, SObj.wf])) (Nat.le_refl _) ?_
  simp -implicitDefEqProofs only [Try.f68, Option.getD_some, argS, l2Idle_F, l2Pours_F, hR, tkR, hr, freshK, Wrap.ap, ZB, Int.reduceToNat, Nat.reduceLT, Nat.reduceLeDiff, Int.reduceLE, Int.reduceLT, Nat.reduceEqDiff, Nat.reduceSub, SB, SV.known, packR, ne_eq, reduceCtorEq, Nat.reduceEqDiff, ↓reduceIte, if_true, if_false, eq_self, Nat.reduceAdd, Nat.reduceMul, Nat.reduceSub, forall_const, oneCellS, litOne, flat1, Kd.isSca, flat, TYB]
  have hbd : Bd 0 5 (PL R 36) := PL_bd R 36 (by omega)
  have e2 : (PL R 36).length / 2 = m := by omega
  have uf : ulF R = kept (fun p => !idleF R p) (PL R 36) m := by unfold ulF; rw [e2]
  rw [uf, e2]
  generalize PL R 36 = P at *
  intro cap junk hj
  refine loop_intro (fun s : Nat × Nat × Nat × List Int => [(5, .int s.1), (4, .slice 2 0 m cap), (3, .slice 1 0 s.2.1 s.2.2.1), (1, .ptr 0 0)]) (fun s => [(1, .ints (kept (fun p => !idleF R p) P s.1 ++ s.2.2.2) 44), (2, .ints (P ++ junk) 44), (0, .ints R 27)]) 3
    (fun s => s.1 ≤ m ∧ (kept (fun p => !idleF R p) P s.1).length = s.2.1 * 2 ∧ s.2.1 ≤ s.1 ∧ s.2.2.2.length + s.2.1 * 2 = s.2.2.1 * 2) (fun s => m - s.1) ?_ ?_
  · refine ⟨(0, 0, 0, []), ?_, Sub.mk_id ?_ ?_ ?_ ?_ ?_⟩
    all_goals (try (simp only [kept_zero, List.append_nil, LB, subS, subH, wfS, wfH, SV.ren, renL, SObj.ren, SV.wf, SObj.wf, wfL, SV.known, Nat.reduceEqDiff, ↓reduceIte, if_true, if_false, eq_self, Nat.reduceAdd, Nat.reduceLT, Nat.reduceLeDiff, implies_true, reduceCtorEq, forall_const]; done))
    all_goals (try (simp only [kept_zero, List.append_nil, LB, subS, subH, wfS, wfH, SV.ren, renL, SObj.ren, SV.wf, SObj.wf, wfL, SV.known, Nat.reduceEqDiff, ↓reduceIte, if_true, if_false, eq_self, Nat.reduceAdd, Nat.reduceLT, Nat.reduceLeDiff, implies_true, reduceCtorEq, forall_const]; simp; done))
    all_goals (try (simp only [kept_zero, List.append_nil, LB, subS, subH, wfS, wfH, SV.ren, renL, SObj.ren, SV.wf, SObj.wf, wfL, SV.known, Nat.reduceEqDiff, ↓reduceIte, if_true, if_false, eq_self, Nat.reduceAdd, Nat.reduceLT, Nat.reduceLeDiff, implies_true, reduceCtorEq, forall_const]; (and_intros <;> (first | omega | rfl | (simp; done) | (simp; omega))); done))
    all_goals (try dsimp only)
    all_goals (and_intros <;> try (first | omega | (unfold In64; omega) | trivial | assumption))
    all_goals simp [kept_zero]
  · rintro ⟨i, n, capo, jo⟩ ⟨hi, hL, hni, hjo⟩
    simp only at hi hL hni hjo
    have lenL : (kept (fun p => !idleF R p) P i ++ jo).length = capo * 2 := by rw [List.length_append]; omega
    have tkL : (kept (fun p => !idleF R p) P i ++ jo).take (n * 2) = kept (fun p => !idleF R p) P i := List.take_left' hL
    have lenP : (P ++ junk).length = cap * 2 := by rw [List.length_append]; omega
    by_cases hlt : i < m
    · have hil : (i : Int) < m := by omega
      have g0 := getD_app P junk (i * 2) (by omega)
      have g1 := getD_app P junk (i * 2 + 1) (by omega)
      have bA : 0 ≤ P.getD (i * 2) 0 ∧ P.getD (i * 2) 0 ≤ 5 := hbd.getD (by omega)
      have bB : 0 ≤ P.getD (i * 2 + 1) 0 ∧ P.getD (i * 2 + 1) 0 ≤ 5 := hbd.getD (by omega)
      have eP : List.take 2 (List.drop (i * 2) (P ++ junk)) = [P.getD (i * 2) 0, P.getD (i * 2 + 1) 0] := by
        rw [take2_drop _ _ (by rw [List.length_append]; omega), g0, g1]
      have eQ : List.take 2 (List.drop (i * 2) P) = [P.getD (i * 2) 0, P.getD (i * 2 + 1) 0] := take2_drop _ _ (by omega)
      have es := kept_succ (fun p => !idleF R p) P i
      rw [eQ] at es
      cases hc : idleF R [P.getD (i * 2) 0, P.getD (i * 2 + 1) 0] with
      | true =>
        rw [hc] at es
        simp only [Bool.not_true, Bool.false_eq_true, if_false, List.append_nil] at es
        simp -implicitDefEqProofs only [lk_normal, l2Idle_F, hil, hR, tkR, hr, g0, g1, eP, hc, lenP, lenL, tkL, ZB, Int.reduceToNat, Nat.reduceLT, Nat.reduceLeDiff, Int.reduceLE, Int.reduceLT, Nat.reduceEqDiff, Nat.reduceSub, SB, SV.known, packR, ne_eq, reduceCtorEq, Nat.reduceEqDiff, ↓reduceIte, if_true, if_false, eq_self, Nat.reduceAdd, Nat.reduceMul, Nat.reduceSub, forall_const, oneCellS, litOne, flat1, Kd.isSca, flat, TYB]
        (try (and_intros <;> try (first | omega | (unfold In64; omega) | trivial | assumption)))
        refine ⟨(i + 1, n, capo, jo), ?_, ?_, Sub.mk_id ?_ ?_ ?_ ?_ ?_⟩
        all_goals (try (simp only [es, LB, subS, subH, wfS, wfH, SV.ren, renL, SObj.ren, SV.wf, SObj.wf, wfL, SV.known, Nat.reduceEqDiff, ↓reduceIte, if_true, if_false, eq_self, Nat.reduceAdd, Nat.reduceLT, Nat.reduceLeDiff, implies_true, reduceCtorEq, forall_const]; done))
        all_goals (try (simp only [es, LB, subS, subH, wfS, wfH, SV.ren, renL, SObj.ren, SV.wf, SObj.wf, wfL, SV.known, Nat.reduceEqDiff, ↓reduceIte, if_true, if_false, eq_self, Nat.reduceAdd, Nat.reduceLT, Nat.reduceLeDiff, implies_true, reduceCtorEq, forall_const]; simp; done))
        all_goals (try (simp only [es, LB, subS, subH, wfS, wfH, SV.ren, renL, SObj.ren, SV.wf, SObj.wf, wfL, SV.known, Nat.reduceEqDiff, ↓reduceIte, if_true, if_false, eq_self, Nat.reduceAdd, Nat.reduceLT, Nat.reduceLeDiff, implies_true, reduceCtorEq, forall_const]; (and_intros <;> (first | omega | rfl | (simp; done) | (simp; omega))); done))
        all_goals (try dsimp only)
        all_goals (and_intros <;> try (first | omega | (unfold In64; omega) | trivial | assumption))
        all_goals (try (rw [es]; exact hL))
      | false =>
        rw [hc] at es
        simp only [Bool.not_false, if_true] at es
        simp -implicitDefEqProofs only [lk_normal, l2Idle_F, hil, hR, tkR, hr, g0, g1, eP, hc, lenP, lenL, tkL, ZB, Int.reduceToNat, Nat.reduceLT, Nat.reduceLeDiff, Int.reduceLE, Int.reduceLT, Nat.reduceEqDiff, Nat.reduceSub, SB, SV.known, packR, ne_eq, reduceCtorEq, Nat.reduceEqDiff, ↓reduceIte, if_true, if_false, eq_self, Nat.reduceAdd, Nat.reduceMul, Nat.reduceSub, forall_const, oneCellS, litOne, flat1, Kd.isSca, flat, TYB]
        (try (and_intros <;> try (first | omega | (unfold In64; omega) | trivial | assumption)))
        intro junk' cap' hj'
        (try (and_intros <;> try (first | omega | (unfold In64; omega) | trivial | assumption)))
        refine ⟨(i + 1, n + 1, cap', junk'), ?_, ?_, Sub.mk_to 1 4 ?_ ?_ ?_ ?_ ?_ ?_ ?_⟩
        all_goals (try (simp only [es, LB, subS, subH, wfS, wfH, SV.ren, renL, SObj.ren, SV.wf, SObj.wf, wfL, SV.known, Nat.reduceEqDiff, ↓reduceIte, if_true, if_false, eq_self, Nat.reduceAdd, Nat.reduceLT, Nat.reduceLeDiff, implies_true, reduceCtorEq, forall_const]; done))
        all_goals (try (simp only [es, LB, subS, subH, wfS, wfH, SV.ren, renL, SObj.ren, SV.wf, SObj.wf, wfL, SV.known, Nat.reduceEqDiff, ↓reduceIte, if_true, if_false, eq_self, Nat.reduceAdd, Nat.reduceLT, Nat.reduceLeDiff, implies_true, reduceCtorEq, forall_const]; simp; done))
        all_goals (try (simp only [es, LB, subS, subH, wfS, wfH, SV.ren, renL, SObj.ren, SV.wf, SObj.wf, wfL, SV.known, Nat.reduceEqDiff, ↓reduceIte, if_true, if_false, eq_self, Nat.reduceAdd, Nat.reduceLT, Nat.reduceLeDiff, implies_true, reduceCtorEq, forall_const]; (and_intros <;> (first | omega | rfl | (simp; done) | (simp; omega))); done))
        all_goals (try dsimp only)
        all_goals (and_intros <;> try (first | omega | (unfold In64; omega) | trivial | assumption))
        all_goals (try (rw [es, List.length_append, hL]; simp; omega))
    · have hil : ¬ (i : Int) < m := by omega
      obtain rfl : i = m := by omega
      simp -implicitDefEqProofs only [lk_normal, l2Idle_F, hil, hR, tkR, hr, lenP, lenL, tkL, ZB, Int.reduceToNat, Nat.reduceLT, Nat.reduceLeDiff, Int.reduceLE, Int.reduceLT, Nat.reduceEqDiff, Nat.reduceSub, SB, SV.known, packR, ne_eq, reduceCtorEq, Nat.reduceEqDiff, ↓reduceIte, if_true, if_false, eq_self, Nat.reduceAdd, Nat.reduceMul, Nat.reduceSub, forall_const, oneCellS, litOne, flat1, Kd.isSca, flat, TYB]
      refine .inr ⟨1, capo, jo, ?_, ?_, by omega, ?_, by simp⟩
      · rw [hL]; simp [Wrap.ap]
      · simp [hget_cons]
      · omega
def l2Useful_F : List SV → Heap → Nat → Nat → K1 → Prop
  | [.arr R], H, n, _, κ => (R.length = 24 ∧ rackB R = true) ∧ freshK .one (ulF R) ((ulF R).length / 2) 2 44 false H n κ
  | _, _, _, _, _ => False
theorem l2Useful_T : ∀ args H n m κ, l2Useful_F args H n m κ → GenOK Try.prog 68 args H n m κ := by
  intro args H n m κ h
  unfold l2Useful_F at h
  split at h
  · exact gen_of_fresh (l2Useful_ok _ h.1.1 h.1.2) (fun k o hk => by cases hk) h.2
  · exact h.elim
theorem ulF_even (R : List Int) : ∃ k, (ulF R).length = k * 2 ∧ k ≤ 36 := by
  obtain ⟨m, hm, hm36⟩ := PL_even R 36
  obtain ⟨k, hk, hkm⟩ := kept_even (fun p => !idleF R p) (PL R 36) m (by omega)
  have e2 : (PL R 36).length / 2 = m := by omega
  exact ⟨k, by unfold ulF; rw [e2]; exact hk, by omega⟩
theorem ulF_zero (R : List Int) : decide ((((ulF R).length / 2 : Nat) : Int) = 0) = decide (ulF R = []) := by
  obtain ⟨k, hk, _⟩ := ulF_even R
  by_cases h : ulF R = []
  · simp [h]
  · have : ¬ k = 0 := fun h0 => h (List.length_eq_zero_iff.1 (by rw [hk, h0]))
    have h2 : ¬ (((ulF R).length / 2 : Nat) : Int) = 0 := by omega
    simp only [h, h2]
end Go.Proofs.Ytnlbljikbonioaa
