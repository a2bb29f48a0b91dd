/- Walks: IsGoodPath. -/
import Derived.Test.YtaenmmebnifioaaArg
import Derived.Test.YtaenmmebnifioaaGPath
set_option maxRecDepth 100000
set_option linter.unusedSimpArgs false
set_option linter.unusedVariables false
namespace Go.Proofs.Ytaenmmebnifioaa
open Go Go.RowKit
def cppB (R : List Int) (i j : Int) : Bool := plF i && plF j && canF R i j
theorem cppB_facts {R : List Int} {i j : Int} (h : cppB R i j = true) : (0 ≤ i ∧ i ≤ 5) ∧ (0 ≤ j ∧ j ≤ 5) ∧ canF R i j = true := by
  simp only [cppB, plF, Bool.and_eq_true, decide_eq_true_eq] at h
  exact ⟨h.1.1, h.1.2, h.2⟩
--@tbl canPourPath = impl.canPourPath
theorem canPourPath_ok (R p : List Int) (hR : R.length = 24) (hp : p.length = 2) : PureH Try.prog 101 [.arr R, .arr p] [] (.bool (cppB R (p.getD 0 0) (p.getD 1 0))) := by
  have tkR : R.take 24 = R := List.take_of_length_le (by omega)
  have tkp : p.take 2 = p := List.take_of_length_le (by omega)
  unfold cppB
  cases h1 : plF (p.getD 0 0)
  · refine pure_of_vc (X := ⟨Try.prog, tys, [(121, isPlace_F), (118, canPour_F)], [], true, true, 0, [], []⟩) fn_101 ⟨tys_ok, (.cons isPlace_T (.cons canPour_T .nil)), .nil, mixed⟩ (n0 := 0) (Nat.le_of_ble_eq_true rfl) (by simp [wfL, SV.wf]) (wfH_spec (by simp [wfH, SObj.wf])) (Nat.le_refl _) (fun _ => by simp [SV.wf, wfL]) ?_
    simp -implicitDefEqProofs only [Try.f101, Option.getD_some, argS, isPlace_F, canPour_F, hR, tkR, hp, tkp, h1, ZB, Int.reduceToNat, Nat.reduceLT, Nat.reduceLeDiff, Int.reduceLE, Int.reduceLT, Nat.reduceEqDiff, Nat.reduceSub, SB, SV.known, packR, ne_eq, reduceCtorEq, Nat.reduceEqDiff, ↓reduceIte, if_true, if_false, eq_self, Nat.reduceAdd, Nat.reduceMul, Nat.reduceSub, forall_const, oneCellS, Kd.isSca, flat, TYB]
  · cases h2 : plF (p.getD 1 0)
    · refine pure_of_vc (X := ⟨Try.prog, tys, [(121, isPlace_F), (118, canPour_F)], [], true, true, 0, [], []⟩) fn_101 ⟨tys_ok, (.cons isPlace_T (.cons canPour_T .nil)), .nil, mixed⟩ (n0 := 0) (Nat.le_of_ble_eq_true rfl) (by simp [wfL, SV.wf]) (wfH_spec (by simp [wfH, SObj.wf])) (Nat.le_refl _) (fun _ => by simp [SV.wf, wfL]) ?_
      simp -implicitDefEqProofs only [Try.f101, Option.getD_some, argS, isPlace_F, canPour_F, hR, tkR, hp, tkp, h1, h2, ZB, Int.reduceToNat, Nat.reduceLT, Nat.reduceLeDiff, Int.reduceLE, Int.reduceLT, Nat.reduceEqDiff, Nat.reduceSub, SB, SV.known, packR, ne_eq, reduceCtorEq, Nat.reduceEqDiff, ↓reduceIte, if_true, if_false, eq_self, Nat.reduceAdd, Nat.reduceMul, Nat.reduceSub, forall_const, oneCellS, Kd.isSca, flat, TYB]
    · have b1 : 0 ≤ p.getD 0 0 ∧ p.getD 0 0 ≤ 5 := of_decide_eq_true h1
      have b2 : 0 ≤ p.getD 1 0 ∧ p.getD 1 0 ≤ 5 := of_decide_eq_true h2
      refine pure_of_vc (X := ⟨Try.prog, tys, [(121, isPlace_F), (118, canPour_F)], [], true, true, 0, [], []⟩) fn_101 ⟨tys_ok, (.cons isPlace_T (.cons canPour_T .nil)), .nil, mixed⟩ (n0 := 0) (Nat.le_of_ble_eq_true rfl) (by simp [wfL, SV.wf]) (wfH_spec (by simp [wfH, SObj.wf])) (Nat.le_refl _) (fun _ => by simp [SV.wf, wfL]) ?_
      simp -implicitDefEqProofs only [Try.f101, Option.getD_some, argS, isPlace_F, canPour_F, hR, tkR, hp, tkp, h1, h2, ZB, Int.reduceToNat, Nat.reduceLT, Nat.reduceLeDiff, Int.reduceLE, Int.reduceLT, Nat.reduceEqDiff, Nat.reduceSub, SB, SV.known, packR, ne_eq, reduceCtorEq, Nat.reduceEqDiff, ↓reduceIte, if_true, if_false, eq_self, Nat.reduceAdd, Nat.reduceMul, Nat.reduceSub, forall_const, oneCellS, Kd.isSca, flat, TYB]
      exact ⟨b1, b2⟩
--@tbl l6Can = spec.l6Can
theorem l6Can_ok (R p : List Int) (hR : R.length = 24) (hr : rackB R = true) (hp : p.length = 2) : PureH Try.prog 98 [.arr R, .arr p] [] (.bool (cppB R (p.getD 0 0) (p.getD 1 0))) := by
  have tkR : R.take 24 = R := List.take_of_length_le (by omega)
  have tkp : p.take 2 = p := List.take_of_length_le (by omega)
  unfold cppB
  cases h1 : plF (p.getD 0 0)
  · refine pure_of_vc (X := ⟨Try.prog, tys, [(119, l2Place_F), (114, l2Can_F)], [], true, true, 0, [], []⟩) fn_98 ⟨tys_ok, (.cons l2Place_T (.cons l2Can_T .nil)), .nil, mixed⟩ (n0 := 0) (Nat.le_of_ble_eq_true rfl) (by simp [wfL, SV.wf]) (wfH_spec (by simp [wfH, SObj.wf])) (Nat.le_refl _) (fun _ => by simp [SV.wf, wfL]) ?_
    simp -implicitDefEqProofs only [Try.f98, Option.getD_some, argS, l2Place_F, l2Can_F, hR, tkR, hr, hp, tkp, h1, ZB, Int.reduceToNat, Nat.reduceLT, Nat.reduceLeDiff, Int.reduceLE, Int.reduceLT, Nat.reduceEqDiff, Nat.reduceSub, SB, SV.known, packR, ne_eq, reduceCtorEq, Nat.reduceEqDiff, ↓reduceIte, if_true, if_false, eq_self, Nat.reduceAdd, Nat.reduceMul, Nat.reduceSub, forall_const, oneCellS, Kd.isSca, flat, TYB]
  · cases h2 : plF (p.getD 1 0)
    · refine pure_of_vc (X := ⟨Try.prog, tys, [(119, l2Place_F), (114, l2Can_F)], [], true, true, 0, [], []⟩) fn_98 ⟨tys_ok, (.cons l2Place_T (.cons l2Can_T .nil)), .nil, mixed⟩ (n0 := 0) (Nat.le_of_ble_eq_true rfl) (by simp [wfL, SV.wf]) (wfH_spec (by simp [wfH, SObj.wf])) (Nat.le_refl _) (fun _ => by simp [SV.wf, wfL]) ?_
      simp -implicitDefEqProofs only [Try.f98, Option.getD_some, argS, l2Place_F, l2Can_F, hR, tkR, hr, hp, tkp, h1, h2, ZB, Int.reduceToNat, Nat.reduceLT, Nat.reduceLeDiff, Int.reduceLE, Int.reduceLT, Nat.reduceEqDiff, Nat.reduceSub, SB, SV.known, packR, ne_eq, reduceCtorEq, Nat.reduceEqDiff, ↓reduceIte, if_true, if_false, eq_self, Nat.reduceAdd, Nat.reduceMul, Nat.reduceSub, forall_const, oneCellS, Kd.isSca, flat, TYB]
    · have b1 : 0 ≤ p.getD 0 0 ∧ p.getD 0 0 ≤ 5 := of_decide_eq_true h1
      have b2 : 0 ≤ p.getD 1 0 ∧ p.getD 1 0 ≤ 5 := of_decide_eq_true h2
      refine pure_of_vc (X := ⟨Try.prog, tys, [(119, l2Place_F), (114, l2Can_F)], [], true, true, 0, [], []⟩) fn_98 ⟨tys_ok, (.cons l2Place_T (.cons l2Can_T .nil)), .nil, mixed⟩ (n0 := 0) (Nat.le_of_ble_eq_true rfl) (by simp [wfL, SV.wf]) (wfH_spec (by simp [wfH, SObj.wf])) (Nat.le_refl _) (fun _ => by simp [SV.wf, wfL]) ?_
      simp -implicitDefEqProofs only [Try.f98, Option.getD_some, argS, l2Place_F, l2Can_F, hR, tkR, hr, hp, tkp, h1, h2, ZB, Int.reduceToNat, Nat.reduceLT, Nat.reduceLeDiff, Int.reduceLE, Int.reduceLT, Nat.reduceEqDiff, Nat.reduceSub, SB, SV.known, packR, ne_eq, reduceCtorEq, Nat.reduceEqDiff, ↓reduceIte, if_true, if_false, eq_self, Nat.reduceAdd, Nat.reduceMul, Nat.reduceSub, forall_const, oneCellS, Kd.isSca, flat, TYB]
      exact ⟨b1, b2⟩
def canPourPath_F : List SV → Heap → Option (Prop × SV)
  | [.arr R, .arr p], _ => some (R.length = 24 ∧ p.length = 2, .bool (cppB R (p.getD 0 0) (p.getD 1 0)))
  | _, _ => none
theorem canPourPath_T : ∀ args H p v, canPourPath_F args H = some (p, v) → p → PureH Try.prog 101 args H v := by
  intro args H p v h hp
  unfold canPourPath_F at h
  split at h
  · cases h; exact (canPourPath_ok _ _ hp.1 hp.2).any _
  · cases h
def l6Can_F : List SV → Heap → Option (Prop × SV)
  | [.arr R, .arr p], _ => some (R.length = 24 ∧ rackB R = true ∧ p.length = 2, .bool (cppB R (p.getD 0 0) (p.getD 1 0)))
  | _, _ => none
theorem l6Can_T : ∀ args H p v, l6Can_F args H = some (p, v) → p → PureH Try.prog 98 args H v := by
  intro args H p v h hp
  unfold l6Can_F at h
  split at h
  · cases h; exact (l6Can_ok _ _ hp.1 hp.2.1 hp.2.2).any _
  · cases h
/-- A rack behind the first k pours of a list. -/
def paR (R L : List Int) : Nat → List Int
  | 0 => R
  | k + 1 => pourF (paR R L k) (L.getD (k * 2) 0).toNat (L.getD (k * 2 + 1) 0).toNat
theorem paR_zero (R L : List Int) : paR R L 0 = R := rfl
theorem paR_succ (R L : List Int) (k : Nat) : paR R L (k + 1) = pourF (paR R L k) (L.getD (k * 2) 0).toNat (L.getD (k * 2 + 1) 0).toNat := rfl
def paC (R L : List Int) (k : Nat) : Bool := cppB (paR R L k) (L.getD (k * 2) 0) (L.getD (k * 2 + 1) 0)
theorem paR_facts {R L : List Int} (hR : R.length = 24) (hr : rackB R = true) : ∀ k, (∀ i, i < k → paC R L i = true) → (paR R L k).length = 24 ∧ rackB (paR R L k) = true
  | 0, _ => ⟨hR, hr⟩
  | k + 1, h => by
    have ih := paR_facts hR hr k fun i hi => h i (by omega)
    have c := cppB_facts (h k (by omega))
    exact ⟨pourF_len ih.1 _ _, pour_rack ih.1 ih.2 c.1 c.2.1 c.2.2⟩
def paG (R L : List Int) (k : Nat) : Bool := paC R L k && goodF (paR R L k) [L.getD (k * 2) 0, L.getD (k * 2 + 1) 0]
def igB (R L : List Int) (len : Nat) : Bool := (List.range len).all (paG R L)
theorem igB_true {R L : List Int} {len : Nat} (h : ∀ i, i < len → paG R L i = true) : igB R L len = true := by
  unfold igB; rw [List.all_eq_true]; intro i hi; exact h i (List.mem_range.1 hi)
theorem igB_false {R L : List Int} {len i : Nat} (hi : i < len) (h : paG R L i = false) : igB R L len = false := by
  unfold igB; rw [List.all_eq_false]; exact ⟨i, List.mem_range.2 hi, by simp [h]⟩
theorem paG_C {R L : List Int} {i : Nat} (h : paG R L i = true) : paC R L i = true := by
  simp only [paG, Bool.and_eq_true] at h; exact h.1
theorem goodF_lt {R : List Int} {a b : Int} (h : goodF R [a, b] = true) : ¬ bndF R ≤ bndF (pourF R a.toNat b.toNat) := by
  have : bndF (pourF R a.toNat b.toNat) < bndF R := of_decide_eq_true h
  omega
theorem goodF_ge {R : List Int} {a b : Int} (h : goodF R [a, b] = false) : bndF R ≤ bndF (pourF R a.toNat b.toNat) := by
  have : ¬ bndF (pourF R a.toNat b.toNat) < bndF R := of_decide_eq_false h
  omega
attribute [local irreducible] pourF bndF canF goodF cppB
def igOk (R : List Int) (len : Nat) : Bool := rackB R && decide (len ≤ 60)
--@tbl IsGoodPath = impl.IsGoodPath
theorem IsGoodPath_ok (R L : List Int) (e len cap : Nat) (hR : R.length = 24) (hL : len * 2 ≤ L.length) (hl : len ≤ 1048576) : PureH Try.prog 47 [.arr R, .slice 0 0 len cap] [(0, .ints L e)] (.tup [.bool (igOk R len && igB R L len), .bool (igOk R len)]) := by
  have tkR : R.take 24 = R := List.take_of_length_le (by omega)
  unfold igOk
  cases hr : rackB R
  · refine pure_of_vc (X := ⟨Try.prog, tys, [(67, IsRack_F), (101, canPourPath_F), (102, isGood_F), (97, pour_F)], [], true, true, 1, [], []⟩) fn_47 ⟨tys_ok, (.cons IsRack_T (.cons canPourPath_T (.cons isGood_T (.cons pour_T .nil)))), .nil, mixed⟩ (n0 := 1) (Nat.le_of_ble_eq_true rfl) (by simp [wfL, SV.wf]) (wfH_spec (by simp [wfH, SObj.wf])) (Nat.le_refl _) (fun _ => by simp [SV.wf, wfL]) ?_
    simp -implicitDefEqProofs only [Try.f47, Option.getD_some, argS, IsRack_F, canPourPath_F, isGood_F, pour_F, hR, tkR, hr, ZB, Int.reduceToNat, Nat.reduceLT, Nat.reduceLeDiff, Int.reduceLE, Int.reduceLT, Nat.reduceEqDiff, Nat.reduceSub, SB, SV.known, packR, ne_eq, reduceCtorEq, Nat.reduceEqDiff, ↓reduceIte, if_true, if_false, eq_self, Nat.reduceAdd, Nat.reduceMul, Nat.reduceSub, forall_const, oneCellS, Kd.isSca, flat, TYB]
  · by_cases h60 : len ≤ 60
    · have h60' : ¬ (len : Int) > 60 := by omega
      refine pure_of_vc (X := ⟨Try.prog, tys, [(67, IsRack_F), (101, canPourPath_F), (102, isGood_F), (97, pour_F)], [], true, true, 1, [], []⟩) fn_47 ⟨tys_ok, (.cons IsRack_T (.cons canPourPath_T (.cons isGood_T (.cons pour_T .nil)))), .nil, mixed⟩ (n0 := 1) (Nat.le_of_ble_eq_true rfl) (by simp [wfL, SV.wf]) (wfH_spec (by simp [wfH, SObj.wf])) (Nat.le_refl _) (fun _ => by simp [SV.wf, wfL]) ?_
      simp -implicitDefEqProofs only [Try.f47, Option.getD_some, argS, IsRack_F, canPourPath_F, isGood_F, pour_F, hR, tkR, hr, h60, h60', ZB, Int.reduceToNat, Nat.reduceLT, Nat.reduceLeDiff, Int.reduceLE, Int.reduceLT, Nat.reduceEqDiff, Nat.reduceSub, SB, SV.known, packR, ne_eq, reduceCtorEq, Nat.reduceEqDiff, ↓reduceIte, if_true, if_false, eq_self, Nat.reduceAdd, Nat.reduceMul, Nat.reduceSub, forall_const, oneCellS, Kd.isSca, flat, TYB]
      refine loop_intro (fun i : Nat => [(18, .int i), (17, .int len), (16, .slice 0 0 len cap), (5, .bool false), (4, .bool false), (2, .ptr 1 0)]) (fun i => [(1, .ints (paR R L i) 30), (0, .ints L e)]) 2 (fun i => i ≤ len ∧ ∀ q, q < i → paG R L q = true) (fun i => len - i) ?_ ?_
      · refine ⟨0, ?_, Sub.mk_id ?_ ?_ ?_ ?_ ?_⟩
        all_goals (try (simp only [paR_zero, LB, subS, subH, wfS, wfH, SV.ren, renL, SObj.ren, SV.wf, SObj.wf, wfL, SV.known, Nat.reduceEqDiff, ↓reduceIte, if_true, if_false, eq_self, Nat.reduceAdd, Nat.reduceLT, Nat.reduceLeDiff, implies_true, reduceCtorEq, forall_const]; done))
        all_goals (try (simp only [paR_zero, LB, subS, subH, wfS, wfH, SV.ren, renL, SObj.ren, SV.wf, SObj.wf, wfL, SV.known, Nat.reduceEqDiff, ↓reduceIte, if_true, if_false, eq_self, Nat.reduceAdd, Nat.reduceLT, Nat.reduceLeDiff, implies_true, reduceCtorEq, forall_const]; simp; done))
        all_goals (try (simp only [paR_zero, LB, subS, subH, wfS, wfH, SV.ren, renL, SObj.ren, SV.wf, SObj.wf, wfL, SV.known, Nat.reduceEqDiff, ↓reduceIte, if_true, if_false, eq_self, Nat.reduceAdd, Nat.reduceLT, Nat.reduceLeDiff, implies_true, reduceCtorEq, forall_const]; (and_intros <;> (first | omega | rfl | (simp; done) | (simp; omega))); done))
        all_goals (try dsimp only)
        all_goals (and_intros <;> try (first | omega | (unfold In64; omega) | trivial | assumption))
      · rintro i ⟨hi, hall⟩
        obtain ⟨qR, qr⟩ := paR_facts hR hr i fun q hq => paG_C (hall q hq)
        have tkQ : (paR R L i).take 24 = paR R L i := List.take_of_length_le (by omega)
        have dQ : List.drop 24 (paR R L i) = [] := List.drop_eq_nil_of_le (by omega)
        by_cases hlt : i < len
        · have hil : (i : Int) < len := by omega
          have eP : List.take 2 (List.drop (i * 2) L) = [L.getD (i * 2) 0, L.getD (i * 2 + 1) 0] := take2_drop _ _ (by omega)
          have ec : paC R L i = cppB (paR R L i) (L.getD (i * 2) 0) (L.getD (i * 2 + 1) 0) := rfl
          cases hc : cppB (paR R L i) (L.getD (i * 2) 0) (L.getD (i * 2 + 1) 0) with
          | false =>
            have hf := igB_false (R := R) (L := L) hlt (by unfold paG; rw [ec, hc]; rfl)
            simp -implicitDefEqProofs only [lk_normal, canPourPath_F, isGood_F, pour_F, hil, eP, qR, qr, tkQ, hc, List.getD_cons_zero, List.getD_cons_succ, ZB, Int.reduceToNat, Nat.reduceLT, Nat.reduceLeDiff, Int.reduceLE, Int.reduceLT, Nat.reduceEqDiff, Nat.reduceSub, SB, SV.known, packR, ne_eq, reduceCtorEq, Nat.reduceEqDiff, ↓reduceIte, if_true, if_false, eq_self, Nat.reduceAdd, Nat.reduceMul, Nat.reduceSub, forall_const, oneCellS, Kd.isSca, flat, TYB]
            (try (and_intros <;> try (first | omega | (unfold In64; omega) | trivial | assumption)))
            exact hf.symm
          | true =>
            obtain ⟨c1, c2, c3⟩ := cppB_facts hc
            have qc : qCan (paR R L i) [L.getD (i * 2) 0, L.getD (i * 2 + 1) 0] := ⟨qr, ⟨rfl, c1, c2⟩, c3⟩
            have pl := pourF_len qR (L.getD (i * 2) 0).toNat (L.getD (i * 2 + 1) 0).toNat
            have pr := pour_rack qR qr c1 c2 c3
            have tkp : (pourF (paR R L i) (L.getD (i * 2) 0).toNat (L.getD (i * 2 + 1) 0).toNat).take 24 = pourF (paR R L i) (L.getD (i * 2) 0).toNat (L.getD (i * 2 + 1) 0).toNat := List.take_of_length_le (by omega)
            cases hg : goodF (paR R L i) [L.getD (i * 2) 0, L.getD (i * 2 + 1) 0] with
            | false =>
              have hge := goodF_ge hg
              have hf := igB_false (R := R) (L := L) hlt (by unfold paG; rw [ec, hc, hg]; rfl)
              simp -implicitDefEqProofs only [lk_normal, canPourPath_F, isGood_F, pour_F, hil, eP, qR, qr, tkQ, dQ, hc, hg, hge, qc, pl, pr, tkp, List.getD_cons_zero, List.getD_cons_succ, ZB, Int.reduceToNat, Nat.reduceLT, Nat.reduceLeDiff, Int.reduceLE, Int.reduceLT, Nat.reduceEqDiff, Nat.reduceSub, SB, SV.known, packR, ne_eq, reduceCtorEq, Nat.reduceEqDiff, ↓reduceIte, if_true, if_false, eq_self, Nat.reduceAdd, Nat.reduceMul, Nat.reduceSub, forall_const, oneCellS, Kd.isSca, flat, TYB]
              (try (and_intros <;> try (first | omega | (unfold In64; omega) | trivial | assumption)))
              exact hf.symm
            | true =>
              have hge := goodF_lt hg
              have hp : paG R L i = true := by unfold paG; rw [ec, hc, hg]; rfl
              simp -implicitDefEqProofs only [lk_normal, canPourPath_F, isGood_F, pour_F, hil, eP, qR, qr, tkQ, dQ, hc, hg, hge, qc, pl, pr, tkp, List.getD_cons_zero, List.getD_cons_succ, ZB, Int.reduceToNat, Nat.reduceLT, Nat.reduceLeDiff, Int.reduceLE, Int.reduceLT, Nat.reduceEqDiff, Nat.reduceSub, SB, SV.known, packR, ne_eq, reduceCtorEq, Nat.reduceEqDiff, ↓reduceIte, if_true, if_false, eq_self, Nat.reduceAdd, Nat.reduceMul, Nat.reduceSub, forall_const, oneCellS, Kd.isSca, flat, TYB]
              (try (and_intros <;> try (first | omega | (unfold In64; omega) | trivial | assumption)))
              all_goals (try refine ⟨by unfold In64; omega, ?_⟩)
              refine ⟨i + 1, ?_, ?_, Sub.mk_id ?_ ?_ ?_ ?_ ?_⟩
              all_goals (try (simp only [paR_succ, LB, subS, subH, wfS, wfH, SV.ren, renL, SObj.ren, SV.wf, SObj.wf, wfL, SV.known, Nat.reduceEqDiff, ↓reduceIte, if_true, if_false, eq_self, Nat.reduceAdd, Nat.reduceLT, Nat.reduceLeDiff, implies_true, reduceCtorEq, forall_const]; done))
              all_goals (try (simp only [paR_succ, LB, subS, subH, wfS, wfH, SV.ren, renL, SObj.ren, SV.wf, SObj.wf, wfL, SV.known, Nat.reduceEqDiff, ↓reduceIte, if_true, if_false, eq_self, Nat.reduceAdd, Nat.reduceLT, Nat.reduceLeDiff, implies_true, reduceCtorEq, forall_const]; simp; done))
              all_goals (try (simp only [paR_succ, LB, subS, subH, wfS, wfH, SV.ren, renL, SObj.ren, SV.wf, SObj.wf, wfL, SV.known, Nat.reduceEqDiff, ↓reduceIte, if_true, if_false, eq_self, Nat.reduceAdd, Nat.reduceLT, Nat.reduceLeDiff, implies_true, reduceCtorEq, forall_const]; (and_intros <;> (first | omega | rfl | (simp; done) | (simp; omega))); done))
              all_goals (try dsimp only)
              all_goals (and_intros <;> try (first | omega | (unfold In64; omega) | trivial | assumption))
              all_goals (intro q hq; by_cases hqi : q = i)
              · subst hqi; exact hp
              · exact hall q (by omega)
        · have hil : ¬ (i : Int) < len := by omega
          obtain rfl : i = len := by omega
          have ht := igB_true hall
          simp -implicitDefEqProofs only [lk_normal, hil, ht, h60, ZB, Int.reduceToNat, Nat.reduceLT, Nat.reduceLeDiff, Int.reduceLE, Int.reduceLT, Nat.reduceEqDiff, Nat.reduceSub, SB, SV.known, packR, ne_eq, reduceCtorEq, Nat.reduceEqDiff, ↓reduceIte, if_true, if_false, eq_self, Nat.reduceAdd, Nat.reduceMul, Nat.reduceSub, forall_const, oneCellS, Kd.isSca, flat, TYB]
    · have h60' : (len : Int) > 60 := by omega
      refine pure_of_vc (X := ⟨Try.prog, tys, [(67, IsRack_F), (101, canPourPath_F), (102, isGood_F), (97, pour_F)], [], true, true, 1, [], []⟩) fn_47 ⟨tys_ok, (.cons IsRack_T (.cons canPourPath_T (.cons isGood_T (.cons pour_T .nil)))), .nil, mixed⟩ (n0 := 1) (Nat.le_of_ble_eq_true rfl) (by simp [wfL, SV.wf]) (wfH_spec (by simp [wfH, SObj.wf])) (Nat.le_refl _) (fun _ => by simp [SV.wf, wfL]) ?_
      simp -implicitDefEqProofs only [Try.f47, Option.getD_some, argS, IsRack_F, canPourPath_F, isGood_F, pour_F, hR, tkR, hr, h60, h60', ZB, Int.reduceToNat, Nat.reduceLT, Nat.reduceLeDiff, Int.reduceLE, Int.reduceLT, Nat.reduceEqDiff, Nat.reduceSub, SB, SV.known, packR, ne_eq, reduceCtorEq, Nat.reduceEqDiff, ↓reduceIte, if_true, if_false, eq_self, Nat.reduceAdd, Nat.reduceMul, Nat.reduceSub, forall_const, oneCellS, Kd.isSca, flat, TYB]
--@tbl sIsGoodPath = spec.IsGoodPath
theorem sIsGoodPath_ok (R L : List Int) (e len cap : Nat) (hR : R.length = 24) (hL : len * 2 ≤ L.length) (hl : len ≤ 1048576) : PureH Try.prog 45 [.arr R, .slice 0 0 len cap] [(0, .ints L e)] (.tup [.bool (igOk R len && igB R L len), .bool (igOk R len)]) := by
  have tkR : R.take 24 = R := List.take_of_length_le (by omega)
  unfold igOk
  cases hr : rackB R
  · refine pure_of_vc (X := ⟨Try.prog, tys, [(64, l2Rack_F), (98, l6Can_F), (96, l2Pour_F), (99, l6Bound_F)], [], true, true, 1, [], []⟩) fn_45 ⟨tys_ok, (.cons l2Rack_T (.cons l6Can_T (.cons l2Pour_T (.cons l6Bound_T .nil)))), .nil, mixed⟩ (n0 := 1) (Nat.le_of_ble_eq_true rfl) (by simp [wfL, SV.wf]) (wfH_spec (by simp [wfH, SObj.wf])) (Nat.le_refl _) (fun _ => by simp [SV.wf, wfL]) ?_
    simp -implicitDefEqProofs only [Try.f45, Option.getD_some, argS, l2Rack_F, l6Can_F, l2Pour_F, l6Bound_F, hR, tkR, hr, ZB, Int.reduceToNat, Nat.reduceLT, Nat.reduceLeDiff, Int.reduceLE, Int.reduceLT, Nat.reduceEqDiff, Nat.reduceSub, SB, SV.known, packR, ne_eq, reduceCtorEq, Nat.reduceEqDiff, ↓reduceIte, if_true, if_false, eq_self, Nat.reduceAdd, Nat.reduceMul, Nat.reduceSub, forall_const, oneCellS, Kd.isSca, flat, TYB]
  · by_cases h60 : len ≤ 60
    · have h60' : ¬ (len : Int) > 60 := by omega
      refine pure_of_vc (X := ⟨Try.prog, tys, [(64, l2Rack_F), (98, l6Can_F), (96, l2Pour_F), (99, l6Bound_F)], [], true, true, 1, [], []⟩) fn_45 ⟨tys_ok, (.cons l2Rack_T (.cons l6Can_T (.cons l2Pour_T (.cons l6Bound_T .nil)))), .nil, mixed⟩ (n0 := 1) (Nat.le_of_ble_eq_true rfl) (by simp [wfL, SV.wf]) (wfH_spec (by simp [wfH, SObj.wf])) (Nat.le_refl _) (fun _ => by simp [SV.wf, wfL]) ?_
      simp -implicitDefEqProofs only [Try.f45, Option.getD_some, argS, l2Rack_F, l6Can_F, l2Pour_F, l6Bound_F, hR, tkR, hr, h60, h60', ZB, Int.reduceToNat, Nat.reduceLT, Nat.reduceLeDiff, Int.reduceLE, Int.reduceLT, Nat.reduceEqDiff, Nat.reduceSub, SB, SV.known, packR, ne_eq, reduceCtorEq, Nat.reduceEqDiff, ↓reduceIte, if_true, if_false, eq_self, Nat.reduceAdd, Nat.reduceMul, Nat.reduceSub, forall_const, oneCellS, Kd.isSca, flat, TYB]
      refine loop_intro (fun i : Nat => [(6, .int i), (5, .bool false), (4, .bool false), (2, .ptr 1 0), (1, .slice 0 0 len cap)]) (fun i => [(1, .ints (paR R L i) 30), (0, .ints L e)]) 2 (fun i => i ≤ len ∧ ∀ q, q < i → paG R L q = true) (fun i => len - i) ?_ ?_
      · refine ⟨0, ?_, Sub.mk_id ?_ ?_ ?_ ?_ ?_⟩
        all_goals (try (simp only [paR_zero, LB, subS, subH, wfS, wfH, SV.ren, renL, SObj.ren, SV.wf, SObj.wf, wfL, SV.known, Nat.reduceEqDiff, ↓reduceIte, if_true, if_false, eq_self, Nat.reduceAdd, Nat.reduceLT, Nat.reduceLeDiff, implies_true, reduceCtorEq, forall_const]; done))
        all_goals (try (simp only [paR_zero, LB, subS, subH, wfS, wfH, SV.ren, renL, SObj.ren, SV.wf, SObj.wf, wfL, SV.known, Nat.reduceEqDiff, ↓reduceIte, if_true, if_false, eq_self, Nat.reduceAdd, Nat.reduceLT, Nat.reduceLeDiff, implies_true, reduceCtorEq, forall_const]; simp; done))
        all_goals (try (simp only [paR_zero, LB, subS, subH, wfS, wfH, SV.ren, renL, SObj.ren, SV.wf, SObj.wf, wfL, SV.known, Nat.reduceEqDiff, ↓reduceIte, if_true, if_false, eq_self, Nat.reduceAdd, Nat.reduceLT, Nat.reduceLeDiff, implies_true, reduceCtorEq, forall_const]; (and_intros <;> (first | omega | rfl | (simp; done) | (simp; omega))); done))
        all_goals (try dsimp only)
        all_goals (and_intros <;> try (first | omega | (unfold In64; omega) | trivial | assumption))
      · rintro i ⟨hi, hall⟩
        obtain ⟨qR, qr⟩ := paR_facts hR hr i fun q hq => paG_C (hall q hq)
        have tkQ : (paR R L i).take 24 = paR R L i := List.take_of_length_le (by omega)
        have dQ : List.drop 24 (paR R L i) = [] := List.drop_eq_nil_of_le (by omega)
        by_cases hlt : i < len
        · have hil : (i : Int) < len := by omega
          have eP : List.take 2 (List.drop (i * 2) L) = [L.getD (i * 2) 0, L.getD (i * 2 + 1) 0] := take2_drop _ _ (by omega)
          have ec : paC R L i = cppB (paR R L i) (L.getD (i * 2) 0) (L.getD (i * 2 + 1) 0) := rfl
          cases hc : cppB (paR R L i) (L.getD (i * 2) 0) (L.getD (i * 2 + 1) 0) with
          | false =>
            have hf := igB_false (R := R) (L := L) hlt (by unfold paG; rw [ec, hc]; rfl)
            simp -implicitDefEqProofs only [lk_normal, l6Can_F, l2Pour_F, l6Bound_F, hil, eP, qR, qr, tkQ, hc, List.getD_cons_zero, List.getD_cons_succ, ZB, Int.reduceToNat, Nat.reduceLT, Nat.reduceLeDiff, Int.reduceLE, Int.reduceLT, Nat.reduceEqDiff, Nat.reduceSub, SB, SV.known, packR, ne_eq, reduceCtorEq, Nat.reduceEqDiff, ↓reduceIte, if_true, if_false, eq_self, Nat.reduceAdd, Nat.reduceMul, Nat.reduceSub, forall_const, oneCellS, Kd.isSca, flat, TYB]
            (try (and_intros <;> try (first | omega | (unfold In64; omega) | trivial | assumption)))
            exact hf.symm
          | true =>
            obtain ⟨c1, c2, c3⟩ := cppB_facts hc
            have qc : qCan (paR R L i) [L.getD (i * 2) 0, L.getD (i * 2 + 1) 0] := ⟨qr, ⟨rfl, c1, c2⟩, c3⟩
            have pl := pourF_len qR (L.getD (i * 2) 0).toNat (L.getD (i * 2 + 1) 0).toNat
            have pr := pour_rack qR qr c1 c2 c3
            have tkp : (pourF (paR R L i) (L.getD (i * 2) 0).toNat (L.getD (i * 2 + 1) 0).toNat).take 24 = pourF (paR R L i) (L.getD (i * 2) 0).toNat (L.getD (i * 2 + 1) 0).toNat := List.take_of_length_le (by omega)
            cases hg : goodF (paR R L i) [L.getD (i * 2) 0, L.getD (i * 2 + 1) 0] with
            | false =>
              have hge := goodF_ge hg
              have hf := igB_false (R := R) (L := L) hlt (by unfold paG; rw [ec, hc, hg]; rfl)
              simp -implicitDefEqProofs only [lk_normal, l6Can_F, l2Pour_F, l6Bound_F, hil, eP, qR, qr, tkQ, dQ, hc, hg, hge, qc, pl, pr, tkp, List.getD_cons_zero, List.getD_cons_succ, ZB, Int.reduceToNat, Nat.reduceLT, Nat.reduceLeDiff, Int.reduceLE, Int.reduceLT, Nat.reduceEqDiff, Nat.reduceSub, SB, SV.known, packR, ne_eq, reduceCtorEq, Nat.reduceEqDiff, ↓reduceIte, if_true, if_false, eq_self, Nat.reduceAdd, Nat.reduceMul, Nat.reduceSub, forall_const, oneCellS, Kd.isSca, flat, TYB]
              (try (and_intros <;> try (first | omega | (unfold In64; omega) | trivial | assumption)))
              exact hf.symm
            | true =>
              have hge := goodF_lt hg
              have hp : paG R L i = true := by unfold paG; rw [ec, hc, hg]; rfl
              simp -implicitDefEqProofs only [lk_normal, l6Can_F, l2Pour_F, l6Bound_F, hil, eP, qR, qr, tkQ, dQ, hc, hg, hge, qc, pl, pr, tkp, List.getD_cons_zero, List.getD_cons_succ, ZB, Int.reduceToNat, Nat.reduceLT, Nat.reduceLeDiff, Int.reduceLE, Int.reduceLT, Nat.reduceEqDiff, Nat.reduceSub, SB, SV.known, packR, ne_eq, reduceCtorEq, Nat.reduceEqDiff, ↓reduceIte, if_true, if_false, eq_self, Nat.reduceAdd, Nat.reduceMul, Nat.reduceSub, forall_const, oneCellS, Kd.isSca, flat, TYB]
              (try (and_intros <;> try (first | omega | (unfold In64; omega) | trivial | assumption)))
              all_goals (try refine ⟨by unfold In64; omega, ?_⟩)
              refine ⟨i + 1, ?_, ?_, Sub.mk_id ?_ ?_ ?_ ?_ ?_⟩
              all_goals (try (simp only [paR_succ, LB, subS, subH, wfS, wfH, SV.ren, renL, SObj.ren, SV.wf, SObj.wf, wfL, SV.known, Nat.reduceEqDiff, ↓reduceIte, if_true, if_false, eq_self, Nat.reduceAdd, Nat.reduceLT, Nat.reduceLeDiff, implies_true, reduceCtorEq, forall_const]; done))
              all_goals (try (simp only [paR_succ, LB, subS, subH, wfS, wfH, SV.ren, renL, SObj.ren, SV.wf, SObj.wf, wfL, SV.known, Nat.reduceEqDiff, ↓reduceIte, if_true, if_false, eq_self, Nat.reduceAdd, Nat.reduceLT, Nat.reduceLeDiff, implies_true, reduceCtorEq, forall_const]; simp; done))
              all_goals (try (simp only [paR_succ, LB, subS, subH, wfS, wfH, SV.ren, renL, SObj.ren, SV.wf, SObj.wf, wfL, SV.known, Nat.reduceEqDiff, ↓reduceIte, if_true, if_false, eq_self, Nat.reduceAdd, Nat.reduceLT, Nat.reduceLeDiff, implies_true, reduceCtorEq, forall_const]; (and_intros <;> (first | omega | rfl | (simp; done) | (simp; omega))); done))
              all_goals (try dsimp only)
              all_goals (and_intros <;> try (first | omega | (unfold In64; omega) | trivial | assumption))
              all_goals (intro q hq; by_cases hqi : q = i)
              · subst hqi; exact hp
              · exact hall q (by omega)
        · have hil : ¬ (i : Int) < len := by omega
          obtain rfl : i = len := by omega
          have ht := igB_true hall
          simp -implicitDefEqProofs only [lk_normal, hil, ht, h60, ZB, Int.reduceToNat, Nat.reduceLT, Nat.reduceLeDiff, Int.reduceLE, Int.reduceLT, Nat.reduceEqDiff, Nat.reduceSub, SB, SV.known, packR, ne_eq, reduceCtorEq, Nat.reduceEqDiff, ↓reduceIte, if_true, if_false, eq_self, Nat.reduceAdd, Nat.reduceMul, Nat.reduceSub, forall_const, oneCellS, Kd.isSca, flat, TYB]
    · have h60' : (len : Int) > 60 := by omega
      refine pure_of_vc (X := ⟨Try.prog, tys, [(64, l2Rack_F), (98, l6Can_F), (96, l2Pour_F), (99, l6Bound_F)], [], true, true, 1, [], []⟩) fn_45 ⟨tys_ok, (.cons l2Rack_T (.cons l6Can_T (.cons l2Pour_T (.cons l6Bound_T .nil)))), .nil, mixed⟩ (n0 := 1) (Nat.le_of_ble_eq_true rfl) (by simp [wfL, SV.wf]) (wfH_spec (by simp [wfH, SObj.wf])) (Nat.le_refl _) (fun _ => by simp [SV.wf, wfL]) ?_
      simp -implicitDefEqProofs only [Try.f45, Option.getD_some, argS, l2Rack_F, l6Can_F, l2Pour_F, l6Bound_F, hR, tkR, hr, h60, h60', ZB, Int.reduceToNat, Nat.reduceLT, Nat.reduceLeDiff, Int.reduceLE, Int.reduceLT, Nat.reduceEqDiff, Nat.reduceSub, SB, SV.known, packR, ne_eq, reduceCtorEq, Nat.reduceEqDiff, ↓reduceIte, if_true, if_false, eq_self, Nat.reduceAdd, Nat.reduceMul, Nat.reduceSub, forall_const, oneCellS, Kd.isSca, flat, TYB]
theorem igB_app (R L J : List Int) (len : Nat) (h : len * 2 ≤ L.length) : igB R (L ++ J) len = igB R L len := by
  have hp : ∀ k, k ≤ len → paR R (L ++ J) k = paR R L k := fun k => by
    induction k with
    | zero => intro _; rfl
    | succ k ih =>
      intro hk
      rw [paR_succ, paR_succ, ih (by omega), getD_app _ _ _ (by omega), getD_app _ _ _ (by omega)]
  have : ∀ n, n ≤ len → (List.range n).all (paG R (L ++ J)) = (List.range n).all (paG R L) := fun n => by
    induction n with
    | zero => intro _; rfl
    | succ n ih =>
      intro hn
      rw [List.range_succ, List.all_append, List.all_append, ih (by omega)]
      simp only [List.all_cons, List.all_nil, Bool.and_true]
      unfold paG paC
      rw [hp n (by omega), getD_app _ _ _ (by omega), getD_app _ _ _ (by omega)]
  exact this len (Nat.le_refl _)
def IsGoodPath_F : List SV → Heap → Option (Prop × SV)
  | [.arr R, .slice b 0 len _], H => match hget H b with
    | some (.ints L _) => some (R.length = 24 ∧ len * 2 ≤ L.length ∧ len ≤ 1048576, .tup [.bool (igOk R len && igB R (L.take (len * 2)) len), .bool (igOk R len)])
    | _ => none
  | _, _ => none
theorem IsGoodPath_T : ∀ args H p v, IsGoodPath_F args H = some (p, v) → p → PureH Try.prog 47 args H v := by
  intro args H p v h hp
  unfold IsGoodPath_F at h
  split at h
  · split at h
    · rename_i L e hb
      cases h
      rw [← igB_app _ (L.take _) (L.drop _) _ (by rw [List.length_take]; omega), List.take_append_drop]
      exact one_block (IsGoodPath_ok _ L e _ _ hp.1 hp.2.1 hp.2.2) hb rfl (fun _ => by simp [SV.wf, wfL])
    · cases h
  · cases h
def sIsGoodPath_F : List SV → Heap → Option (Prop × SV)
  | [.arr R, .slice b 0 len _], H => match hget H b with
    | some (.ints L _) => some (R.length = 24 ∧ len * 2 ≤ L.length ∧ len ≤ 1048576, .tup [.bool (igOk R len && igB R (L.take (len * 2)) len), .bool (igOk R len)])
    | _ => none
  | _, _ => none
theorem sIsGoodPath_T : ∀ args H p v, sIsGoodPath_F args H = some (p, v) → p → PureH Try.prog 45 args H v := by
  intro args H p v h hp
  unfold sIsGoodPath_F at h
  split at h
  · split at h
    · rename_i L e hb
      cases h
      rw [← igB_app _ (L.take _) (L.drop _) _ (by rw [List.length_take]; omega), List.take_append_drop]
      exact one_block (sIsGoodPath_ok _ L e _ _ hp.1 hp.2.1 hp.2.2) hb rfl (fun _ => by simp [SV.wf, wfL])
    · cases h
  · cases h
theorem lawIsGoodPath (R L : List Int) (off len cap : Nat) (hR : R.length = 24) (_ : ∀ x ∈ R, In64 x) (hle : len ≤ cap) (hcm : cap ≤ maxLen) (hL : L.length = len * 2) (_ : ∀ x ∈ L, In64 x) : PureH Try.prog 12 [.arr R, .slice 0 off len cap] [(0, .win off L)] (.bool true) := by
  have tkR : R.take 24 = R := List.take_of_length_le (by omega)
  have hb : len ≤ 9223372036854775807 := by unfold maxLen at hcm; omega
  have tkL : ∀ J, (L ++ J).take (len * 2) = L := fun J => List.take_left' hL
  by_cases hbig : 1048576 - (len : Int) < 0
  · refine pure_of_vc (X := ⟨Try.prog, tys, [(44, szA2_F), (16, toRack_F), (47, IsGoodPath_F), (45, sIsGoodPath_F), (19, eqS2_F)], [(46, toA2S_F)], true, true, 1, [46], []⟩) (show FnOK Try.prog 12 Try.f12 (Try.f12.body.getD .skip) [46] [] from ⟨Try.func12, rfl, by kernel_rfl, by kernel_rfl⟩) ⟨tys_ok, (.cons szA2_T (.cons toRack_T (.cons IsGoodPath_T (.cons sIsGoodPath_T (.cons eqS2_T .nil))))), (.cons toA2S_T .nil), mixed⟩ (n0 := 1) (Nat.le_of_ble_eq_true rfl) (by simp [wfL, SV.wf]) (wfH_spec (by simp [wfH, SObj.wf])) (Nat.le_refl _) (fun _ => by simp [SV.wf, wfL]) ?_
    simp -implicitDefEqProofs only [Try.f12, Option.getD_some, argS, szA2_F, toRack_F, IsGoodPath_F, sIsGoodPath_F, eqS2_F, toA2S_F, hR, tkR, hbig, hb, freshK, Wrap.ap, ZB, Int.reduceToNat, Nat.reduceLT, Nat.reduceLeDiff, Int.reduceLE, Int.reduceLT, Nat.reduceEqDiff, Nat.reduceSub, SB, SV.known, packR, ne_eq, reduceCtorEq, Nat.reduceEqDiff, ↓reduceIte, if_true, if_false, eq_self, Nat.reduceAdd, Nat.reduceMul, Nat.reduceSub, forall_const, oneCellS, Kd.isSca, flat, TYB]
  · have hl : len ≤ 1048576 := by omega
    refine pure_of_vc (X := ⟨Try.prog, tys, [(44, szA2_F), (16, toRack_F), (47, IsGoodPath_F), (45, sIsGoodPath_F), (19, eqS2_F)], [(46, toA2S_F)], true, true, 1, [46], []⟩) (show FnOK Try.prog 12 Try.f12 (Try.f12.body.getD .skip) [46] [] from ⟨Try.func12, rfl, by kernel_rfl, by kernel_rfl⟩) ⟨tys_ok, (.cons szA2_T (.cons toRack_T (.cons IsGoodPath_T (.cons sIsGoodPath_T (.cons eqS2_T .nil))))), (.cons toA2S_T .nil), mixed⟩ (n0 := 1) (Nat.le_of_ble_eq_true rfl) (by simp [wfL, SV.wf]) (wfH_spec (by simp [wfH, SObj.wf])) (Nat.le_refl _) (fun _ => by simp [SV.wf, wfL]) ?_
    simp -implicitDefEqProofs only [Try.f12, Option.getD_some, argS, szA2_F, toRack_F, IsGoodPath_F, sIsGoodPath_F, eqS2_F, toA2S_F, hR, tkR, hbig, hb, hl, hL, tkL, freshK, Wrap.ap, ZB, Int.reduceToNat, Nat.reduceLT, Nat.reduceLeDiff, Int.reduceLE, Int.reduceLT, Nat.reduceEqDiff, Nat.reduceSub, SB, SV.known, packR, ne_eq, reduceCtorEq, Nat.reduceEqDiff, ↓reduceIte, if_true, if_false, eq_self, Nat.reduceAdd, Nat.reduceMul, Nat.reduceSub, forall_const, oneCellS, Kd.isSca, flat, TYB]
    have ln : ∀ J : List Int, len * 2 ≤ (L ++ J).length := fun J => by rw [List.length_append]; omega
    exact fun _ _ _ => ⟨ln _, fun _ _ _ => ⟨ln _, fun _ _ _ => ⟨ln _, ln _, by omega⟩⟩⟩
theorem lawIsGoodPathN (R : List Int) (hR : R.length = 24) (_ : ∀ x ∈ R, In64 x) : PureH Try.prog 12 [.arr R, .nils] [] (.bool true) := by
  have tkR : R.take 24 = R := List.take_of_length_le (by omega)
  refine pure_of_vc (X := ⟨Try.prog, tys, [(44, szA2_F), (16, toRack_F), (47, IsGoodPath_F), (45, sIsGoodPath_F), (19, eqS2_F)], [(46, toA2S_F)], true, true, 0, [46], []⟩) (show FnOK Try.prog 12 Try.f12 (Try.f12.body.getD .skip) [46] [] from ⟨Try.func12, rfl, by kernel_rfl, by kernel_rfl⟩) ⟨tys_ok, (.cons szA2_T (.cons toRack_T (.cons IsGoodPath_T (.cons sIsGoodPath_T (.cons eqS2_T .nil))))), (.cons toA2S_T .nil), mixed⟩ (n0 := 0) (Nat.le_of_ble_eq_true rfl) (by simp [wfL, SV.wf]) (wfH_spec (by simp [wfH, SObj.wf])) (Nat.le_refl _) (fun _ => by simp [SV.wf, wfL]) ?_
  simp -implicitDefEqProofs only [Try.f12, Option.getD_some, argS, szA2_F, toRack_F, IsGoodPath_F, sIsGoodPath_F, eqS2_F, toA2S_F, hR, tkR, freshK, Wrap.ap, ZB, Int.reduceToNat, Nat.reduceLT, Nat.reduceLeDiff, Int.reduceLE, Int.reduceLT, Nat.reduceEqDiff, Nat.reduceSub, SB, SV.known, packR, ne_eq, reduceCtorEq, Nat.reduceEqDiff, ↓reduceIte, if_true, if_false, eq_self, Nat.reduceAdd, Nat.reduceMul, Nat.reduceSub, forall_const, oneCellS, Kd.isSca, flat, TYB]
  exact fun _ _ _ _ _ _ _ _ _ => trivial
end Go.Proofs.Ytaenmmebnifioaa
