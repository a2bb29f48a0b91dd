/- Texts of this claim, joined (Path, Backs, Sl1, Along, DrawP, GP0, LayI, SrtI, BH4, FP2, FP3, BH5). -/
import Derived.Test.YtopfnkmlgcjpbaaQ1
import Derived.Test.YtopfnkmlgcjpbaaQ2
import Derived.Test.YtopfnkmlgcjpbaaQ3
import Derived.Test.YtopfnkmlgcjpbaaQ4
import Derived.Test.YtopfnkmlgcjpbaaQ5
import Derived.Test.YtopfnkmlgcjpbaaQ6
import Derived.Shelf.SortM.Plain
import Derived.Shelf.SlGeneric
import Derived.Test.YtopfnkmlgcjpbaaProg
set_option maxRecDepth 100000
set_option linter.unusedSimpArgs false
set_option linter.unusedVariables false
namespace Go.Proofs.Ytopfnkmlgcjpbaa
open Go Go.RowKit
def cppB (R : List Int) (i j : Int) : Bool := plF i && plF j && canF R i j
theorem cppB_facts {R : List Int} {i j : Int} (h : cppB R i j = true) : (0 ≤ i ∧ i ≤ 5) ∧ (0 ≤ j ∧ j ≤ 5) ∧ canF R i j = true := by
  simp only [cppB, plF, Bool.and_eq_true, decide_eq_true_eq] at h
  exact ⟨h.1.1, h.1.2, h.2⟩
--@tbl canPourPath = impl.canPourPath
theorem canPourPath_ok (R p : List Int) (hR : R.length = 24) (hp : p.length = 2) : PureH Try.prog 79 [.arr R, .arr p] [] (.bool (cppB R (p.getD 0 0) (p.getD 1 0))) := by
  have tkR : R.take 24 = R := List.take_of_length_le (by omega)
  have tkp : p.take 2 = p := List.take_of_length_le (by omega)
  unfold cppB
  cases h1 : plF (p.getD 0 0)
  · refine pure_of_vc (X := ⟨Try.prog, tys, [(97, isPlace_F), (87, canPour_F)], [], true, true, 0, [], []⟩) fn_79 ⟨tys_ok, (.cons isPlace_T (.cons canPour_T .nil)), .nil, mixed⟩ (n0 := 0) (Nat.le_of_ble_eq_true rfl) (by simp [wfL, SV.wf]) (wfH_spec (by simp [wfH, SObj.wf])) (Nat.le_refl _) (fun _ => by simp [SV.wf, wfL]) ?_
    simp -implicitDefEqProofs only [Try.f79, Option.getD_some, argS, isPlace_F, canPour_F, hR, tkR, hp, tkp, h1, ZB, Int.reduceToNat, Nat.reduceLT, Nat.reduceLeDiff, Int.reduceLE, Int.reduceLT, Nat.reduceEqDiff, Nat.reduceSub, SB, SV.known, packR, ne_eq, reduceCtorEq, Nat.reduceEqDiff, ↓reduceIte, if_true, if_false, eq_self, Nat.reduceAdd, Nat.reduceMul, Nat.reduceSub, forall_const, oneCellS, litOne, flat1, Kd.isSca, flat, TYB]
  · cases h2 : plF (p.getD 1 0)
    · refine pure_of_vc (X := ⟨Try.prog, tys, [(97, isPlace_F), (87, canPour_F)], [], true, true, 0, [], []⟩) fn_79 ⟨tys_ok, (.cons isPlace_T (.cons canPour_T .nil)), .nil, mixed⟩ (n0 := 0) (Nat.le_of_ble_eq_true rfl) (by simp [wfL, SV.wf]) (wfH_spec (by simp [wfH, SObj.wf])) (Nat.le_refl _) (fun _ => by simp [SV.wf, wfL]) ?_
      simp -implicitDefEqProofs only [Try.f79, Option.getD_some, argS, isPlace_F, canPour_F, hR, tkR, hp, tkp, h1, h2, ZB, Int.reduceToNat, Nat.reduceLT, Nat.reduceLeDiff, Int.reduceLE, Int.reduceLT, Nat.reduceEqDiff, Nat.reduceSub, SB, SV.known, packR, ne_eq, reduceCtorEq, Nat.reduceEqDiff, ↓reduceIte, if_true, if_false, eq_self, Nat.reduceAdd, Nat.reduceMul, Nat.reduceSub, forall_const, oneCellS, litOne, flat1, Kd.isSca, flat, TYB]
    · have b1 : 0 ≤ p.getD 0 0 ∧ p.getD 0 0 ≤ 5 := of_decide_eq_true h1
      have b2 : 0 ≤ p.getD 1 0 ∧ p.getD 1 0 ≤ 5 := of_decide_eq_true h2
      refine pure_of_vc (X := ⟨Try.prog, tys, [(97, isPlace_F), (87, canPour_F)], [], true, true, 0, [], []⟩) fn_79 ⟨tys_ok, (.cons isPlace_T (.cons canPour_T .nil)), .nil, mixed⟩ (n0 := 0) (Nat.le_of_ble_eq_true rfl) (by simp [wfL, SV.wf]) (wfH_spec (by simp [wfH, SObj.wf])) (Nat.le_refl _) (fun _ => by simp [SV.wf, wfL]) ?_
      simp -implicitDefEqProofs only [Try.f79, Option.getD_some, argS, isPlace_F, canPour_F, hR, tkR, hp, tkp, h1, h2, ZB, Int.reduceToNat, Nat.reduceLT, Nat.reduceLeDiff, Int.reduceLE, Int.reduceLT, Nat.reduceEqDiff, Nat.reduceSub, SB, SV.known, packR, ne_eq, reduceCtorEq, Nat.reduceEqDiff, ↓reduceIte, if_true, if_false, eq_self, Nat.reduceAdd, Nat.reduceMul, Nat.reduceSub, forall_const, oneCellS, litOne, flat1, Kd.isSca, flat, TYB]
      exact ⟨b1, b2⟩
--@tbl l6Can = spec.l6Can
theorem l6Can_ok (R p : List Int) (hR : R.length = 24) (hr : rackB R = true) (hp : p.length = 2) : PureH Try.prog 81 [.arr R, .arr p] [] (.bool (cppB R (p.getD 0 0) (p.getD 1 0))) := by
  have tkR : R.take 24 = R := List.take_of_length_le (by omega)
  have tkp : p.take 2 = p := List.take_of_length_le (by omega)
  unfold cppB
  cases h1 : plF (p.getD 0 0)
  · refine pure_of_vc (X := ⟨Try.prog, tys, [(101, l2Place_F), (144, l2Can_F)], [], true, true, 0, [], []⟩) fn_81 ⟨tys_ok, (.cons l2Place_T (.cons l2Can_T .nil)), .nil, mixed⟩ (n0 := 0) (Nat.le_of_ble_eq_true rfl) (by simp [wfL, SV.wf]) (wfH_spec (by simp [wfH, SObj.wf])) (Nat.le_refl _) (fun _ => by simp [SV.wf, wfL]) ?_
    simp -implicitDefEqProofs only [Try.f81, Option.getD_some, argS, l2Place_F, l2Can_F, hR, tkR, hr, hp, tkp, h1, ZB, Int.reduceToNat, Nat.reduceLT, Nat.reduceLeDiff, Int.reduceLE, Int.reduceLT, Nat.reduceEqDiff, Nat.reduceSub, SB, SV.known, packR, ne_eq, reduceCtorEq, Nat.reduceEqDiff, ↓reduceIte, if_true, if_false, eq_self, Nat.reduceAdd, Nat.reduceMul, Nat.reduceSub, forall_const, oneCellS, litOne, flat1, Kd.isSca, flat, TYB]
  · cases h2 : plF (p.getD 1 0)
    · refine pure_of_vc (X := ⟨Try.prog, tys, [(101, l2Place_F), (144, l2Can_F)], [], true, true, 0, [], []⟩) fn_81 ⟨tys_ok, (.cons l2Place_T (.cons l2Can_T .nil)), .nil, mixed⟩ (n0 := 0) (Nat.le_of_ble_eq_true rfl) (by simp [wfL, SV.wf]) (wfH_spec (by simp [wfH, SObj.wf])) (Nat.le_refl _) (fun _ => by simp [SV.wf, wfL]) ?_
      simp -implicitDefEqProofs only [Try.f81, Option.getD_some, argS, l2Place_F, l2Can_F, hR, tkR, hr, hp, tkp, h1, h2, ZB, Int.reduceToNat, Nat.reduceLT, Nat.reduceLeDiff, Int.reduceLE, Int.reduceLT, Nat.reduceEqDiff, Nat.reduceSub, SB, SV.known, packR, ne_eq, reduceCtorEq, Nat.reduceEqDiff, ↓reduceIte, if_true, if_false, eq_self, Nat.reduceAdd, Nat.reduceMul, Nat.reduceSub, forall_const, oneCellS, litOne, flat1, Kd.isSca, flat, TYB]
    · have b1 : 0 ≤ p.getD 0 0 ∧ p.getD 0 0 ≤ 5 := of_decide_eq_true h1
      have b2 : 0 ≤ p.getD 1 0 ∧ p.getD 1 0 ≤ 5 := of_decide_eq_true h2
      refine pure_of_vc (X := ⟨Try.prog, tys, [(101, l2Place_F), (144, l2Can_F)], [], true, true, 0, [], []⟩) fn_81 ⟨tys_ok, (.cons l2Place_T (.cons l2Can_T .nil)), .nil, mixed⟩ (n0 := 0) (Nat.le_of_ble_eq_true rfl) (by simp [wfL, SV.wf]) (wfH_spec (by simp [wfH, SObj.wf])) (Nat.le_refl _) (fun _ => by simp [SV.wf, wfL]) ?_
      simp -implicitDefEqProofs only [Try.f81, Option.getD_some, argS, l2Place_F, l2Can_F, hR, tkR, hr, hp, tkp, h1, h2, ZB, Int.reduceToNat, Nat.reduceLT, Nat.reduceLeDiff, Int.reduceLE, Int.reduceLT, Nat.reduceEqDiff, Nat.reduceSub, SB, SV.known, packR, ne_eq, reduceCtorEq, Nat.reduceEqDiff, ↓reduceIte, if_true, if_false, eq_self, Nat.reduceAdd, Nat.reduceMul, Nat.reduceSub, forall_const, oneCellS, litOne, flat1, Kd.isSca, flat, TYB]
      exact ⟨b1, b2⟩
def canPourPath_F : List SV → Heap → Option (Prop × SV)
  | [.arr R, .arr p], _ => some (R.length = 24 ∧ p.length = 2, .bool (cppB R (p.getD 0 0) (p.getD 1 0)))
  | _, _ => none
theorem canPourPath_T : ∀ args H p v, canPourPath_F args H = some (p, v) → p → PureH Try.prog 79 args H v := by
  intro args H p v h hp
  unfold canPourPath_F at h
  split at h
  · cases h; exact (canPourPath_ok _ _ hp.1 hp.2).any _
  · cases h
def l6Can_F : List SV → Heap → Option (Prop × SV)
  | [.arr R, .arr p], _ => some (R.length = 24 ∧ rackB R = true ∧ p.length = 2, .bool (cppB R (p.getD 0 0) (p.getD 1 0)))
  | _, _ => none
theorem l6Can_T : ∀ args H p v, l6Can_F args H = some (p, v) → p → PureH Try.prog 81 args H v := by
  intro args H p v h hp
  unfold l6Can_F at h
  split at h
  · cases h; exact (l6Can_ok _ _ hp.1 hp.2.1 hp.2.2).any _
  · cases h
/-- A rack behind the first k pours of a list. -/
def paR (R L : List Int) : Nat → List Int
  | 0 => R
  | k + 1 => pourF (paR R L k) (L.getD (k * 2) 0).toNat (L.getD (k * 2 + 1) 0).toNat
theorem paR_zero (R L : List Int) : paR R L 0 = R := rfl
theorem paR_succ (R L : List Int) (k : Nat) : paR R L (k + 1) = pourF (paR R L k) (L.getD (k * 2) 0).toNat (L.getD (k * 2 + 1) 0).toNat := rfl
def paC (R L : List Int) (k : Nat) : Bool := cppB (paR R L k) (L.getD (k * 2) 0) (L.getD (k * 2 + 1) 0)
theorem paR_facts {R L : List Int} (hR : R.length = 24) (hr : rackB R = true) : ∀ k, (∀ i, i < k → paC R L i = true) → (paR R L k).length = 24 ∧ rackB (paR R L k) = true
  | 0, _ => ⟨hR, hr⟩
  | k + 1, h => by
    have ih := paR_facts hR hr k fun i hi => h i (by omega)
    have c := cppB_facts (h k (by omega))
    exact ⟨pourF_len ih.1 _ _, pour_rack ih.1 ih.2 c.1 c.2.1 c.2.2⟩
def paG (R L : List Int) (k : Nat) : Bool := paC R L k && goodF (paR R L k) [L.getD (k * 2) 0, L.getD (k * 2 + 1) 0]
def igB (R L : List Int) (len : Nat) : Bool := (List.range len).all (paG R L)
theorem igB_true {R L : List Int} {len : Nat} (h : ∀ i, i < len → paG R L i = true) : igB R L len = true := by
  unfold igB; rw [List.all_eq_true]; intro i hi; exact h i (List.mem_range.1 hi)
theorem igB_false {R L : List Int} {len i : Nat} (hi : i < len) (h : paG R L i = false) : igB R L len = false := by
  unfold igB; rw [List.all_eq_false]; exact ⟨i, List.mem_range.2 hi, by simp [h]⟩
theorem paG_C {R L : List Int} {i : Nat} (h : paG R L i = true) : paC R L i = true := by
  simp only [paG, Bool.and_eq_true] at h; exact h.1
theorem goodF_lt {R : List Int} {a b : Int} (h : goodF R [a, b] = true) : ¬ bndF R ≤ bndF (pourF R a.toNat b.toNat) := by
  have : bndF (pourF R a.toNat b.toNat) < bndF R := of_decide_eq_true h
  omega
theorem goodF_ge {R : List Int} {a b : Int} (h : goodF R [a, b] = false) : bndF R ≤ bndF (pourF R a.toNat b.toNat) := by
  have : ¬ bndF (pourF R a.toNat b.toNat) < bndF R := of_decide_eq_false h
  omega
attribute [local irreducible] pourF bndF canF goodF cppB
def igOk (R : List Int) (len : Nat) : Bool := rackB R && decide (len ≤ 60)
--@tbl IsGoodPath = impl.IsGoodPath
theorem IsGoodPath_ok (R L : List Int) (e len cap : Nat) (hR : R.length = 24) (hL : len * 2 ≤ L.length) (hl : len ≤ 1048576) : PureH Try.prog 16 [.arr R, .slice 0 0 len cap] [(0, .ints L e)] (.tup [.bool (igOk R len && igB R L len), .bool (igOk R len)]) := by
  have tkR : R.take 24 = R := List.take_of_length_le (by omega)
  unfold igOk
  cases hr : rackB R
  · refine pure_of_vc (X := ⟨Try.prog, tys, [(11, IsRack_F), (79, canPourPath_F), (80, isGood_F), (71, pour_F)], [], true, true, 1, [], []⟩) fn_16 ⟨tys_ok, (.cons IsRack_T (.cons canPourPath_T (.cons isGood_T (.cons pour_T .nil)))), .nil, mixed⟩ (n0 := 1) (Nat.le_of_ble_eq_true rfl) (by simp [wfL, SV.wf]) (wfH_spec (by simp [wfH, SObj.wf])) (Nat.le_refl _) (fun _ => by simp [SV.wf, wfL]) ?_
    simp -implicitDefEqProofs only [Try.f16, Option.getD_some, argS, IsRack_F, canPourPath_F, isGood_F, pour_F, hR, tkR, hr, ZB, Int.reduceToNat, Nat.reduceLT, Nat.reduceLeDiff, Int.reduceLE, Int.reduceLT, Nat.reduceEqDiff, Nat.reduceSub, SB, SV.known, packR, ne_eq, reduceCtorEq, Nat.reduceEqDiff, ↓reduceIte, if_true, if_false, eq_self, Nat.reduceAdd, Nat.reduceMul, Nat.reduceSub, forall_const, oneCellS, litOne, flat1, Kd.isSca, flat, TYB]
  · by_cases h60 : len ≤ 60
    · have h60' : ¬ (len : Int) > 60 := by omega
      refine pure_of_vc (X := ⟨Try.prog, tys, [(11, IsRack_F), (79, canPourPath_F), (80, isGood_F), (71, pour_F)], [], true, true, 1, [], []⟩) fn_16 ⟨tys_ok, (.cons IsRack_T (.cons canPourPath_T (.cons isGood_T (.cons pour_T .nil)))), .nil, mixed⟩ (n0 := 1) (Nat.le_of_ble_eq_true rfl) (by simp [wfL, SV.wf]) (wfH_spec (by simp [wfH, SObj.wf])) (Nat.le_refl _) (fun _ => by simp [SV.wf, wfL]) ?_
      simp -implicitDefEqProofs only [Try.f16, Option.getD_some, argS, IsRack_F, canPourPath_F, isGood_F, pour_F, hR, tkR, hr, h60, h60', ZB, Int.reduceToNat, Nat.reduceLT, Nat.reduceLeDiff, Int.reduceLE, Int.reduceLT, Nat.reduceEqDiff, Nat.reduceSub, SB, SV.known, packR, ne_eq, reduceCtorEq, Nat.reduceEqDiff, ↓reduceIte, if_true, if_false, eq_self, Nat.reduceAdd, Nat.reduceMul, Nat.reduceSub, forall_const, oneCellS, litOne, flat1, Kd.isSca, flat, TYB]
      refine loop_intro (fun i : Nat => [(18, .int i), (17, .int len), (16, .slice 0 0 len cap), (5, .bool false), (4, .bool false), (2, .ptr 1 0)]) (fun i => [(1, .ints (paR R L i) 27), (0, .ints L e)]) 2 (fun i => i ≤ len ∧ ∀ q, q < i → paG R L q = true) (fun i => len - i) ?_ ?_
      · refine ⟨0, ?_, Sub.mk_id ?_ ?_ ?_ ?_ ?_⟩
        all_goals (try (simp only [paR_zero, LB, subS, subH, wfS, wfH, SV.ren, renL, SObj.ren, SV.wf, SObj.wf, wfL, SV.known, Nat.reduceEqDiff, ↓reduceIte, if_true, if_false, eq_self, Nat.reduceAdd, Nat.reduceLT, Nat.reduceLeDiff, implies_true, reduceCtorEq, forall_const]; done))
        all_goals (try (simp only [paR_zero, LB, subS, subH, wfS, wfH, SV.ren, renL, SObj.ren, SV.wf, SObj.wf, wfL, SV.known, Nat.reduceEqDiff, ↓reduceIte, if_true, if_false, eq_self, Nat.reduceAdd, Nat.reduceLT, Nat.reduceLeDiff, implies_true, reduceCtorEq, forall_const]; simp; done))
        all_goals (try (simp only [paR_zero, LB, subS, subH, wfS, wfH, SV.ren, renL, SObj.ren, SV.wf, SObj.wf, wfL, SV.known, Nat.reduceEqDiff, ↓reduceIte, if_true, if_false, eq_self, Nat.reduceAdd, Nat.reduceLT, Nat.reduceLeDiff, implies_true, reduceCtorEq, forall_const]; (and_intros <;> (first | omega | rfl | (simp; done) | (simp; omega))); done))
        all_goals (try dsimp only)
        all_goals (and_intros <;> try (first | omega | (unfold In64; omega) | trivial | assumption))
      · rintro i ⟨hi, hall⟩
        obtain ⟨qR, qr⟩ := paR_facts hR hr i fun q hq => paG_C (hall q hq)
        have tkQ : (paR R L i).take 24 = paR R L i := List.take_of_length_le (by omega)
        have dQ : List.drop 24 (paR R L i) = [] := List.drop_eq_nil_of_le (by omega)
        by_cases hlt : i < len
        · have hil : (i : Int) < len := by omega
          have eP : List.take 2 (List.drop (i * 2) L) = [L.getD (i * 2) 0, L.getD (i * 2 + 1) 0] := take2_drop _ _ (by omega)
          have ec : paC R L i = cppB (paR R L i) (L.getD (i * 2) 0) (L.getD (i * 2 + 1) 0) := rfl
          cases hc : cppB (paR R L i) (L.getD (i * 2) 0) (L.getD (i * 2 + 1) 0) with
          | false =>
            have hf := igB_false (R := R) (L := L) hlt (by unfold paG; rw [ec, hc]; rfl)
            simp -implicitDefEqProofs only [lk_normal, canPourPath_F, isGood_F, pour_F, hil, eP, qR, qr, tkQ, hc, List.getD_cons_zero, List.getD_cons_succ, ZB, Int.reduceToNat, Nat.reduceLT, Nat.reduceLeDiff, Int.reduceLE, Int.reduceLT, Nat.reduceEqDiff, Nat.reduceSub, SB, SV.known, packR, ne_eq, reduceCtorEq, Nat.reduceEqDiff, ↓reduceIte, if_true, if_false, eq_self, Nat.reduceAdd, Nat.reduceMul, Nat.reduceSub, forall_const, oneCellS, litOne, flat1, Kd.isSca, flat, TYB]
            (try (and_intros <;> try (first | omega | (unfold In64; omega) | trivial | assumption)))
            exact hf.symm
          | true =>
            obtain ⟨c1, c2, c3⟩ := cppB_facts hc
            have qc : qCan (paR R L i) [L.getD (i * 2) 0, L.getD (i * 2 + 1) 0] := ⟨qr, ⟨rfl, c1, c2⟩, c3⟩
            have pl := pourF_len qR (L.getD (i * 2) 0).toNat (L.getD (i * 2 + 1) 0).toNat
            have pr := pour_rack qR qr c1 c2 c3
            have tkp : (pourF (paR R L i) (L.getD (i * 2) 0).toNat (L.getD (i * 2 + 1) 0).toNat).take 24 = pourF (paR R L i) (L.getD (i * 2) 0).toNat (L.getD (i * 2 + 1) 0).toNat := List.take_of_length_le (by omega)
            cases hg : goodF (paR R L i) [L.getD (i * 2) 0, L.getD (i * 2 + 1) 0] with
            | false =>
              have hge := goodF_ge hg
              have hf := igB_false (R := R) (L := L) hlt (by unfold paG; rw [ec, hc, hg]; rfl)
              simp -implicitDefEqProofs only [lk_normal, canPourPath_F, isGood_F, pour_F, hil, eP, qR, qr, tkQ, dQ, hc, hg, hge, qc, pl, pr, tkp, List.getD_cons_zero, List.getD_cons_succ, ZB, Int.reduceToNat, Nat.reduceLT, Nat.reduceLeDiff, Int.reduceLE, Int.reduceLT, Nat.reduceEqDiff, Nat.reduceSub, SB, SV.known, packR, ne_eq, reduceCtorEq, Nat.reduceEqDiff, ↓reduceIte, if_true, if_false, eq_self, Nat.reduceAdd, Nat.reduceMul, Nat.reduceSub, forall_const, oneCellS, litOne, flat1, Kd.isSca, flat, TYB]
              (try (and_intros <;> try (first | omega | (unfold In64; omega) | trivial | assumption)))
              exact hf.symm
            | true =>
              have hge := goodF_lt hg
              have hp : paG R L i = true := by unfold paG; rw [ec, hc, hg]; rfl
              simp -implicitDefEqProofs only [lk_normal, canPourPath_F, isGood_F, pour_F, hil, eP, qR, qr, tkQ, dQ, hc, hg, hge, qc, pl, pr, tkp, List.getD_cons_zero, List.getD_cons_succ, ZB, Int.reduceToNat, Nat.reduceLT, Nat.reduceLeDiff, Int.reduceLE, Int.reduceLT, Nat.reduceEqDiff, Nat.reduceSub, SB, SV.known, packR, ne_eq, reduceCtorEq, Nat.reduceEqDiff, ↓reduceIte, if_true, if_false, eq_self, Nat.reduceAdd, Nat.reduceMul, Nat.reduceSub, forall_const, oneCellS, litOne, flat1, Kd.isSca, flat, TYB]
              (try (and_intros <;> try (first | omega | (unfold In64; omega) | trivial | assumption)))
              all_goals (try refine ⟨by unfold In64; omega, ?_⟩)
              refine ⟨i + 1, ?_, ?_, Sub.mk_id ?_ ?_ ?_ ?_ ?_⟩
              all_goals (try (simp only [paR_succ, LB, subS, subH, wfS, wfH, SV.ren, renL, SObj.ren, SV.wf, SObj.wf, wfL, SV.known, Nat.reduceEqDiff, ↓reduceIte, if_true, if_false, eq_self, Nat.reduceAdd, Nat.reduceLT, Nat.reduceLeDiff, implies_true, reduceCtorEq, forall_const]; done))
              all_goals (try (simp only [paR_succ, LB, subS, subH, wfS, wfH, SV.ren, renL, SObj.ren, SV.wf, SObj.wf, wfL, SV.known, Nat.reduceEqDiff, ↓reduceIte, if_true, if_false, eq_self, Nat.reduceAdd, Nat.reduceLT, Nat.reduceLeDiff, implies_true, reduceCtorEq, forall_const]; simp; done))
              all_goals (try (simp only [paR_succ, LB, subS, subH, wfS, wfH, SV.ren, renL, SObj.ren, SV.wf, SObj.wf, wfL, SV.known, Nat.reduceEqDiff, ↓reduceIte, if_true, if_false, eq_self, Nat.reduceAdd, Nat.reduceLT, Nat.reduceLeDiff, implies_true, reduceCtorEq, forall_const]; (and_intros <;> (first | omega | rfl | (simp; done) | (simp; omega))); done))
              all_goals (try dsimp only)
              all_goals (and_intros <;> try (first | omega | (unfold In64; omega) | trivial | assumption))
              all_goals (intro q hq; by_cases hqi : q = i)
              · subst hqi; exact hp
              · exact hall q (by omega)
        · have hil : ¬ (i : Int) < len := by omega
          obtain rfl : i = len := by omega
          have ht := igB_true hall
          simp -implicitDefEqProofs only [lk_normal, hil, ht, h60, ZB, Int.reduceToNat, Nat.reduceLT, Nat.reduceLeDiff, Int.reduceLE, Int.reduceLT, Nat.reduceEqDiff, Nat.reduceSub, SB, SV.known, packR, ne_eq, reduceCtorEq, Nat.reduceEqDiff, ↓reduceIte, if_true, if_false, eq_self, Nat.reduceAdd, Nat.reduceMul, Nat.reduceSub, forall_const, oneCellS, litOne, flat1, Kd.isSca, flat, TYB]
    · have h60' : (len : Int) > 60 := by omega
      refine pure_of_vc (X := ⟨Try.prog, tys, [(11, IsRack_F), (79, canPourPath_F), (80, isGood_F), (71, pour_F)], [], true, true, 1, [], []⟩) fn_16 ⟨tys_ok, (.cons IsRack_T (.cons canPourPath_T (.cons isGood_T (.cons pour_T .nil)))), .nil, mixed⟩ (n0 := 1) (Nat.le_of_ble_eq_true rfl) (by simp [wfL, SV.wf]) (wfH_spec (by simp [wfH, SObj.wf])) (Nat.le_refl _) (fun _ => by simp [SV.wf, wfL]) ?_
      simp -implicitDefEqProofs only [Try.f16, Option.getD_some, argS, IsRack_F, canPourPath_F, isGood_F, pour_F, hR, tkR, hr, h60, h60', ZB, Int.reduceToNat, Nat.reduceLT, Nat.reduceLeDiff, Int.reduceLE, Int.reduceLT, Nat.reduceEqDiff, Nat.reduceSub, SB, SV.known, packR, ne_eq, reduceCtorEq, Nat.reduceEqDiff, ↓reduceIte, if_true, if_false, eq_self, Nat.reduceAdd, Nat.reduceMul, Nat.reduceSub, forall_const, oneCellS, litOne, flat1, Kd.isSca, flat, TYB]
--@tbl sIsGoodPath = spec.IsGoodPath
theorem sIsGoodPath_ok (R L : List Int) (e len cap : Nat) (hR : R.length = 24) (hL : len * 2 ≤ L.length) (hl : len ≤ 1048576) : PureH Try.prog 17 [.arr R, .slice 0 0 len cap] [(0, .ints L e)] (.tup [.bool (igOk R len && igB R L len), .bool (igOk R len)]) := by
  have tkR : R.take 24 = R := List.take_of_length_le (by omega)
  unfold igOk
  cases hr : rackB R
  · refine pure_of_vc (X := ⟨Try.prog, tys, [(72, l2Rack_F), (81, l6Can_F), (74, l2Pour_F), (82, l6Bound_F)], [], true, true, 1, [], []⟩) fn_17 ⟨tys_ok, (.cons l2Rack_T (.cons l6Can_T (.cons l2Pour_T (.cons l6Bound_T .nil)))), .nil, mixed⟩ (n0 := 1) (Nat.le_of_ble_eq_true rfl) (by simp [wfL, SV.wf]) (wfH_spec (by simp [wfH, SObj.wf])) (Nat.le_refl _) (fun _ => by simp [SV.wf, wfL]) ?_
    simp -implicitDefEqProofs only [Try.f17, Option.getD_some, argS, l2Rack_F, l6Can_F, l2Pour_F, l6Bound_F, hR, tkR, hr, ZB, Int.reduceToNat, Nat.reduceLT, Nat.reduceLeDiff, Int.reduceLE, Int.reduceLT, Nat.reduceEqDiff, Nat.reduceSub, SB, SV.known, packR, ne_eq, reduceCtorEq, Nat.reduceEqDiff, ↓reduceIte, if_true, if_false, eq_self, Nat.reduceAdd, Nat.reduceMul, Nat.reduceSub, forall_const, oneCellS, litOne, flat1, Kd.isSca, flat, TYB]
  · by_cases h60 : len ≤ 60
    · have h60' : ¬ (len : Int) > 60 := by omega
      refine pure_of_vc (X := ⟨Try.prog, tys, [(72, l2Rack_F), (81, l6Can_F), (74, l2Pour_F), (82, l6Bound_F)], [], true, true, 1, [], []⟩) fn_17 ⟨tys_ok, (.cons l2Rack_T (.cons l6Can_T (.cons l2Pour_T (.cons l6Bound_T .nil)))), .nil, mixed⟩ (n0 := 1) (Nat.le_of_ble_eq_true rfl) (by simp [wfL, SV.wf]) (wfH_spec (by simp [wfH, SObj.wf])) (Nat.le_refl _) (fun _ => by simp [SV.wf, wfL]) ?_
      simp -implicitDefEqProofs only [Try.f17, Option.getD_some, argS, l2Rack_F, l6Can_F, l2Pour_F, l6Bound_F, hR, tkR, hr, h60, h60', ZB, Int.reduceToNat, Nat.reduceLT, Nat.reduceLeDiff, Int.reduceLE, Int.reduceLT, Nat.reduceEqDiff, Nat.reduceSub, SB, SV.known, packR, ne_eq, reduceCtorEq, Nat.reduceEqDiff, ↓reduceIte, if_true, if_false, eq_self, Nat.reduceAdd, Nat.reduceMul, Nat.reduceSub, forall_const, oneCellS, litOne, flat1, Kd.isSca, flat, TYB]
      refine loop_intro (fun i : Nat => [(6, .int i), (5, .bool false), (4, .bool false), (2, .ptr 1 0), (1, .slice 0 0 len cap)]) (fun i => [(1, .ints (paR R L i) 27), (0, .ints L e)]) 2 (fun i => i ≤ len ∧ ∀ q, q < i → paG R L q = true) (fun i => len - i) ?_ ?_
      · refine ⟨0, ?_, Sub.mk_id ?_ ?_ ?_ ?_ ?_⟩
        all_goals (try (simp only [paR_zero, LB, subS, subH, wfS, wfH, SV.ren, renL, SObj.ren, SV.wf, SObj.wf, wfL, SV.known, Nat.reduceEqDiff, ↓reduceIte, if_true, if_false, eq_self, Nat.reduceAdd, Nat.reduceLT, Nat.reduceLeDiff, implies_true, reduceCtorEq, forall_const]; done))
        all_goals (try (simp only [paR_zero, LB, subS, subH, wfS, wfH, SV.ren, renL, SObj.ren, SV.wf, SObj.wf, wfL, SV.known, Nat.reduceEqDiff, ↓reduceIte, if_true, if_false, eq_self, Nat.reduceAdd, Nat.reduceLT, Nat.reduceLeDiff, implies_true, reduceCtorEq, forall_const]; simp; done))
        all_goals (try (simp only [paR_zero, LB, subS, subH, wfS, wfH, SV.ren, renL, SObj.ren, SV.wf, SObj.wf, wfL, SV.known, Nat.reduceEqDiff, ↓reduceIte, if_true, if_false, eq_self, Nat.reduceAdd, Nat.reduceLT, Nat.reduceLeDiff, implies_true, reduceCtorEq, forall_const]; (and_intros <;> (first | omega | rfl | (simp; done) | (simp; omega))); done))
        all_goals (try dsimp only)
        all_goals (and_intros <;> try (first | omega | (unfold In64; omega) | trivial | assumption))
      · rintro i ⟨hi, hall⟩
        obtain ⟨qR, qr⟩ := paR_facts hR hr i fun q hq => paG_C (hall q hq)
        have tkQ : (paR R L i).take 24 = paR R L i := List.take_of_length_le (by omega)
        have dQ : List.drop 24 (paR R L i) = [] := List.drop_eq_nil_of_le (by omega)
        by_cases hlt : i < len
        · have hil : (i : Int) < len := by omega
          have eP : List.take 2 (List.drop (i * 2) L) = [L.getD (i * 2) 0, L.getD (i * 2 + 1) 0] := take2_drop _ _ (by omega)
          have ec : paC R L i = cppB (paR R L i) (L.getD (i * 2) 0) (L.getD (i * 2 + 1) 0) := rfl
          cases hc : cppB (paR R L i) (L.getD (i * 2) 0) (L.getD (i * 2 + 1) 0) with
          | false =>
            have hf := igB_false (R := R) (L := L) hlt (by unfold paG; rw [ec, hc]; rfl)
            simp -implicitDefEqProofs only [lk_normal, l6Can_F, l2Pour_F, l6Bound_F, hil, eP, qR, qr, tkQ, hc, List.getD_cons_zero, List.getD_cons_succ, ZB, Int.reduceToNat, Nat.reduceLT, Nat.reduceLeDiff, Int.reduceLE, Int.reduceLT, Nat.reduceEqDiff, Nat.reduceSub, SB, SV.known, packR, ne_eq, reduceCtorEq, Nat.reduceEqDiff, ↓reduceIte, if_true, if_false, eq_self, Nat.reduceAdd, Nat.reduceMul, Nat.reduceSub, forall_const, oneCellS, litOne, flat1, Kd.isSca, flat, TYB]
            (try (and_intros <;> try (first | omega | (unfold In64; omega) | trivial | assumption)))
            exact hf.symm
          | true =>
            obtain ⟨c1, c2, c3⟩ := cppB_facts hc
            have qc : qCan (paR R L i) [L.getD (i * 2) 0, L.getD (i * 2 + 1) 0] := ⟨qr, ⟨rfl, c1, c2⟩, c3⟩
            have pl := pourF_len qR (L.getD (i * 2) 0).toNat (L.getD (i * 2 + 1) 0).toNat
            have pr := pour_rack qR qr c1 c2 c3
            have tkp : (pourF (paR R L i) (L.getD (i * 2) 0).toNat (L.getD (i * 2 + 1) 0).toNat).take 24 = pourF (paR R L i) (L.getD (i * 2) 0).toNat (L.getD (i * 2 + 1) 0).toNat := List.take_of_length_le (by omega)
            cases hg : goodF (paR R L i) [L.getD (i * 2) 0, L.getD (i * 2 + 1) 0] with
            | false =>
              have hge := goodF_ge hg
              have hf := igB_false (R := R) (L := L) hlt (by unfold paG; rw [ec, hc, hg]; rfl)
              simp -implicitDefEqProofs only [lk_normal, l6Can_F, l2Pour_F, l6Bound_F, hil, eP, qR, qr, tkQ, dQ, hc, hg, hge, qc, pl, pr, tkp, List.getD_cons_zero, List.getD_cons_succ, ZB, Int.reduceToNat, Nat.reduceLT, Nat.reduceLeDiff, Int.reduceLE, Int.reduceLT, Nat.reduceEqDiff, Nat.reduceSub, SB, SV.known, packR, ne_eq, reduceCtorEq, Nat.reduceEqDiff, ↓reduceIte, if_true, if_false, eq_self, Nat.reduceAdd, Nat.reduceMul, Nat.reduceSub, forall_const, oneCellS, litOne, flat1, Kd.isSca, flat, TYB]
              (try (and_intros <;> try (first | omega | (unfold In64; omega) | trivial | assumption)))
              exact hf.symm
            | true =>
              have hge := goodF_lt hg
              have hp : paG R L i = true := by unfold paG; rw [ec, hc, hg]; rfl
              simp -implicitDefEqProofs only [lk_normal, l6Can_F, l2Pour_F, l6Bound_F, hil, eP, qR, qr, tkQ, dQ, hc, hg, hge, qc, pl, pr, tkp, List.getD_cons_zero, List.getD_cons_succ, ZB, Int.reduceToNat, Nat.reduceLT, Nat.reduceLeDiff, Int.reduceLE, Int.reduceLT, Nat.reduceEqDiff, Nat.reduceSub, SB, SV.known, packR, ne_eq, reduceCtorEq, Nat.reduceEqDiff, ↓reduceIte, if_true, if_false, eq_self, Nat.reduceAdd, Nat.reduceMul, Nat.reduceSub, forall_const, oneCellS, litOne, flat1, Kd.isSca, flat, TYB]
              (try (and_intros <;> try (first | omega | (unfold In64; omega) | trivial | assumption)))
              all_goals (try refine ⟨by unfold In64; omega, ?_⟩)
              refine ⟨i + 1, ?_, ?_, Sub.mk_id ?_ ?_ ?_ ?_ ?_⟩
              all_goals (try (simp only [paR_succ, LB, subS, subH, wfS, wfH, SV.ren, renL, SObj.ren, SV.wf, SObj.wf, wfL, SV.known, Nat.reduceEqDiff, ↓reduceIte, if_true, if_false, eq_self, Nat.reduceAdd, Nat.reduceLT, Nat.reduceLeDiff, implies_true, reduceCtorEq, forall_const]; done))
              all_goals (try (simp only [paR_succ, LB, subS, subH, wfS, wfH, SV.ren, renL, SObj.ren, SV.wf, SObj.wf, wfL, SV.known, Nat.reduceEqDiff, ↓reduceIte, if_true, if_false, eq_self, Nat.reduceAdd, Nat.reduceLT, Nat.reduceLeDiff, implies_true, reduceCtorEq, forall_const]; simp; done))
              all_goals (try (simp only [paR_succ, LB, subS, subH, wfS, wfH, SV.ren, renL, SObj.ren, SV.wf, SObj.wf, wfL, SV.known, Nat.reduceEqDiff, ↓reduceIte, if_true, if_false, eq_self, Nat.reduceAdd, Nat.reduceLT, Nat.reduceLeDiff, implies_true, reduceCtorEq, forall_const]; (and_intros <;> (first | omega | rfl | (simp; done) | (simp; omega))); done))
              all_goals (try dsimp only)
              all_goals (and_intros <;> try (first | omega | (unfold In64; omega) | trivial | assumption))
              all_goals (intro q hq; by_cases hqi : q = i)
              · subst hqi; exact hp
              · exact hall q (by omega)
        · have hil : ¬ (i : Int) < len := by omega
          obtain rfl : i = len := by omega
          have ht := igB_true hall
          simp -implicitDefEqProofs only [lk_normal, hil, ht, h60, ZB, Int.reduceToNat, Nat.reduceLT, Nat.reduceLeDiff, Int.reduceLE, Int.reduceLT, Nat.reduceEqDiff, Nat.reduceSub, SB, SV.known, packR, ne_eq, reduceCtorEq, Nat.reduceEqDiff, ↓reduceIte, if_true, if_false, eq_self, Nat.reduceAdd, Nat.reduceMul, Nat.reduceSub, forall_const, oneCellS, litOne, flat1, Kd.isSca, flat, TYB]
    · have h60' : (len : Int) > 60 := by omega
      refine pure_of_vc (X := ⟨Try.prog, tys, [(72, l2Rack_F), (81, l6Can_F), (74, l2Pour_F), (82, l6Bound_F)], [], true, true, 1, [], []⟩) fn_17 ⟨tys_ok, (.cons l2Rack_T (.cons l6Can_T (.cons l2Pour_T (.cons l6Bound_T .nil)))), .nil, mixed⟩ (n0 := 1) (Nat.le_of_ble_eq_true rfl) (by simp [wfL, SV.wf]) (wfH_spec (by simp [wfH, SObj.wf])) (Nat.le_refl _) (fun _ => by simp [SV.wf, wfL]) ?_
      simp -implicitDefEqProofs only [Try.f17, Option.getD_some, argS, l2Rack_F, l6Can_F, l2Pour_F, l6Bound_F, hR, tkR, hr, h60, h60', ZB, Int.reduceToNat, Nat.reduceLT, Nat.reduceLeDiff, Int.reduceLE, Int.reduceLT, Nat.reduceEqDiff, Nat.reduceSub, SB, SV.known, packR, ne_eq, reduceCtorEq, Nat.reduceEqDiff, ↓reduceIte, if_true, if_false, eq_self, Nat.reduceAdd, Nat.reduceMul, Nat.reduceSub, forall_const, oneCellS, litOne, flat1, Kd.isSca, flat, TYB]
theorem igB_app (R L J : List Int) (len : Nat) (h : len * 2 ≤ L.length) : igB R (L ++ J) len = igB R L len := by
  have hp : ∀ k, k ≤ len → paR R (L ++ J) k = paR R L k := fun k => by
    induction k with
    | zero => intro _; rfl
    | succ k ih =>
      intro hk
      rw [paR_succ, paR_succ, ih (by omega), getD_app _ _ _ (by omega), getD_app _ _ _ (by omega)]
  have : ∀ n, n ≤ len → (List.range n).all (paG R (L ++ J)) = (List.range n).all (paG R L) := fun n => by
    induction n with
    | zero => intro _; rfl
    | succ n ih =>
      intro hn
      rw [List.range_succ, List.all_append, List.all_append, ih (by omega)]
      simp only [List.all_cons, List.all_nil, Bool.and_true]
      unfold paG paC
      rw [hp n (by omega), getD_app _ _ _ (by omega), getD_app _ _ _ (by omega)]
  exact this len (Nat.le_refl _)
def sIsGoodPath_F : List SV → Heap → Option (Prop × SV)
  | [.arr R, .slice b 0 len _], H => match hget H b with
    | some (.ints L _) => some (R.length = 24 ∧ len * 2 ≤ L.length ∧ len ≤ 1048576, .tup [.bool (igOk R len && igB R (L.take (len * 2)) len), .bool (igOk R len)])
    | _ => none
  | _, _ => none
theorem sIsGoodPath_T : ∀ args H p v, sIsGoodPath_F args H = some (p, v) → p → PureH Try.prog 17 args H v := by
  intro args H p v h hp
  unfold sIsGoodPath_F at h
  split at h
  · split at h
    · rename_i L e hb
      cases h
      rw [← igB_app _ (L.take _) (L.drop _) _ (by rw [List.length_take]; omega), List.take_append_drop]
      exact one_block (sIsGoodPath_ok _ L e _ _ hp.1 hp.2.1 hp.2.2) hb rfl (fun _ => by simp [SV.wf, wfL])
    · cases h
  · cases h
end Go.Proofs.Ytopfnkmlgcjpbaa
set_option maxRecDepth 100000
set_option linter.unusedSimpArgs false
set_option linter.unusedVariables false
namespace Go.Proofs.Ytopfnkmlgcjpbaa
open Go Go.RowKit
/-- The first number from i on, below i + f, at which p fails; else i + f. -/
def firstN (p : Nat → Bool) : Nat → Nat → Nat
  | 0, i => i
  | f + 1, i => if p i = true then firstN p f (i + 1) else i
theorem firstN_skip (p : Nat → Bool) (f : Nat) : ∀ d i, (∀ q, i ≤ q → q < i + d → p q = true) → firstN p (d + f) i = firstN p f (i + d)
  | 0, i, _ => by rw [Nat.zero_add, Nat.add_zero]
  | d + 1, i, h => by
    rw [show d + 1 + f = (d + f) + 1 by omega]
    show (if p i = true then firstN p (d + f) (i + 1) else i) = _
    rw [if_pos (h i (by omega) (by omega)), firstN_skip p f d (i + 1) fun q h1 h2 => h q (by omega) (by omega), show i + 1 + d = i + (d + 1) by omega]
theorem firstN_at {p : Nat → Bool} {len i : Nat} (hi : i < len) (h : ∀ q, q < i → p q = true) (hn : p i = false) : firstN p len 0 = i := by
  have := firstN_skip p (len - i) i 0 fun q _ h2 => h q (by omega)
  rw [show i + (len - i) = len by omega, Nat.zero_add] at this
  rw [this, show len - i = (len - i - 1) + 1 by omega]
  show (if p i = true then firstN p (len - i - 1) (i + 1) else i) = _
  rw [hn]; rfl
theorem firstN_end {p : Nat → Bool} {len : Nat} (h : ∀ q, q < len → p q = true) : firstN p len 0 = len := by
  have := firstN_skip p 0 len 0 fun q _ h2 => h q (by omega)
  rw [Nat.add_zero, Nat.zero_add] at this
  exact this
theorem firstN_le (p : Nat → Bool) : ∀ f i, firstN p f i ≤ i + f
  | 0, i => by simp [firstN]
  | f + 1, i => by
    unfold firstN
    split
    · have := firstN_le p f (i + 1); omega
    · omega
theorem firstN_congr {p q : Nat → Bool} : ∀ f i, (∀ k, i ≤ k → k < i + f → p k = q k) → firstN p f i = firstN q f i
  | 0, i, _ => rfl
  | f + 1, i, h => by
    show (if p i = true then firstN p f (i + 1) else i) = if q i = true then firstN q f (i + 1) else i
    rw [h i (by omega) (by omega), firstN_congr f (i + 1) fun k h1 h2 => h k (by omega) (by omega)]
attribute [local irreducible] bkR bkB bk2 bkT --@tbl PourBacks = impl.PourBacks --@tbl sPourBacks = spec.PourBacks
end Go.Proofs.Ytopfnkmlgcjpbaa
set_option maxRecDepth 100000
set_option linter.unusedSimpArgs false
set_option linter.unusedVariables false
namespace Go.Proofs.Ytopfnkmlgcjpbaa
open Go Go.RowKit
--@tbl eqS1 = laws.eqIntS
/-! Marks. -/
--@tbl mark1 = laws.markIntS
--@tbl held1 = laws.heldIntS
end Go.Proofs.Ytopfnkmlgcjpbaa
set_option maxRecDepth 100000
set_option linter.unusedSimpArgs false
set_option linter.unusedVariables false
namespace Go.Proofs.Ytopfnkmlgcjpbaa
open Go Go.RowKit
theorem FreshP.sub {P : Program} {f : FuncId} {args : List SV} {H0 H : Heap} {L : List Int} {len es e : Nat} {nl : Bool} {wr : Wrap} (h : FreshP P f args H0 L len es e nl wr) (ρ : Nat → Nat) (hs : subHs ρ 0 H H0) (hi : injOn ρ (H0.map (·.1))) : FreshP P f (renL ρ args) H L len es e nl wr := by
  refine ⟨h.ent, h.ok, fun B w hH => ?_⟩
  have := h.call (fun k => B (ρ k)) w ⟨fun k o hl hk => ?_, fun k j o o' g1 g2 g3 g4 he => ?_⟩
  · rw [denL_ren]
    refine this.mono fun r w' ⟨h1, h2⟩ => ⟨h1, h2.imp (fun ⟨a, b, c⟩ => ⟨a, b, c.trans (congrArg Ending.returned (Wrap.den_eq h.ok rfl))⟩) id⟩
  · obtain ⟨e1, _, _⟩ := hs k o hl
    have := hH.at_ _ _ e1 (by rw [SObj.live_ren]; exact hk)
    rw [SObj.sat_ren] at this
    exact this
  · obtain ⟨e1, _, m1⟩ := hs k o g1
    obtain ⟨e2, _, m2⟩ := hs j o' g3
    exact hi k m1 j m2 (hH.inj _ _ _ _ e1 (by rw [SObj.live_ren]; exact g2) e2 (by rw [SObj.live_ren]; exact g4) he)
theorem FreshP.one {P : Program} {f : FuncId} {args : List SV} {H : Heap} {o : SObj} {b : Nat} {L : List Int} {len es e : Nat} {nl : Bool} {wr : Wrap} (h : FreshP P f args [(0, o)] L len es e nl wr) (hb : hget H b = some o) (ho : o.ren (fun _ => b) = o) : FreshP P f (renL (fun _ => b) args) H L len es e nl wr :=
  h.sub (fun _ => b) (fun j o' hj => by
    rw [hget_cons] at hj
    split at hj
    · cases hj; exact ⟨by rw [ho]; exact hb, fun _ => by omega, by simp [*]⟩
    · cases hj) (fun a ha c hc _ => by simp at ha hc; omega)
def alN (R L : List Int) (len : Nat) : Nat := firstN (paC R L) len 0
def alS (R L : List Int) (n : Nat) : List Int := (List.range n).map fun k => bndF (paR R L k)
theorem alS_succ (R L : List Int) (n : Nat) : alS R L (n + 1) = alS R L n ++ [bndF (paR R L n)] := by simp [alS, List.range_succ]
theorem alS_len (R L : List Int) (n : Nat) : (alS R L n).length = n := by simp [alS]
def alL (R L : List Int) (len : Nat) : List Int := if igOk R len = true then alS R L (alN R L len + 1) else []
attribute [local irreducible] pourF bndF canF goodF cppB --@tbl BoundsAlong = impl.BoundsAlong
theorem BoundsAlong_ok (R L : List Int) (e len cap : Nat) (hR : R.length = 24) (hL : len * 2 ≤ L.length) (hl : len ≤ 1048576) : FreshP Try.prog 18 [.arr R, .slice 0 0 len cap] [(0, .ints L e)] (alL R L len) (alL R L len).length 1 3 true (.more [.bool (igOk R len)]) := by
  have tkR : R.take 24 = R := List.take_of_length_le (by omega)
  unfold alL igOk
  cases hr : rackB R
  · refine fresh_of_vc (X := ⟨Try.prog, tys, [(11, IsRack_F), (79, canPourPath_F), (71, pour_F), (83, bound_F)], [], true, true, 1, [], []⟩) fn_18 ⟨tys_ok, (.cons IsRack_T (.cons canPourPath_T (.cons pour_T (.cons bound_T .nil)))), .nil, mixed⟩ (n0 := 1) rfl (Nat.le_of_ble_eq_true rfl) (by simp [wfL, SV.wf]) (wfH_spec (by simp [wfH, SObj.wf])) (Nat.le_refl _) ?_
    simp -implicitDefEqProofs only [Try.f18, Option.getD_some, argS, IsRack_F, canPourPath_F, pour_F, bound_F, hR, tkR, hr, freshK, Wrap.ap, ZB, Int.reduceToNat, Nat.reduceLT, Nat.reduceLeDiff, Int.reduceLE, Int.reduceLT, Nat.reduceEqDiff, Nat.reduceSub, SB, SV.known, packR, ne_eq, reduceCtorEq, Nat.reduceEqDiff, ↓reduceIte, if_true, if_false, eq_self, Nat.reduceAdd, Nat.reduceMul, Nat.reduceSub, forall_const, oneCellS, litOne, flat1, Kd.isSca, flat, TYB]
    exact .inl ⟨rfl, rfl, rfl⟩
  · by_cases h60 : len ≤ 60
    · have h60' : ¬ (len : Int) > 60 := by omega
      refine fresh_of_vc (X := ⟨Try.prog, tys, [(11, IsRack_F), (79, canPourPath_F), (71, pour_F), (83, bound_F)], [], true, true, 1, [], []⟩) fn_18 ⟨tys_ok, (.cons IsRack_T (.cons canPourPath_T (.cons pour_T (.cons bound_T .nil)))), .nil, mixed⟩ (n0 := 1) rfl (Nat.le_of_ble_eq_true rfl) (by simp [wfL, SV.wf]) (wfH_spec (by simp [wfH, SObj.wf])) (Nat.le_refl _) ?_
      simp -implicitDefEqProofs only [Try.f18, Option.getD_some, argS, IsRack_F, canPourPath_F, pour_F, bound_F, hR, tkR, hr, h60, h60', freshK, Wrap.ap, ZB, Int.reduceToNat, Nat.reduceLT, Nat.reduceLeDiff, Int.reduceLE, Int.reduceLT, Nat.reduceEqDiff, Nat.reduceSub, SB, SV.known, packR, ne_eq, reduceCtorEq, Nat.reduceEqDiff, ↓reduceIte, if_true, if_false, eq_self, Nat.reduceAdd, Nat.reduceMul, Nat.reduceSub, forall_const, oneCellS, litOne, flat1, Kd.isSca, flat, TYB]
      have hs0 : (List.replicate 1 (0 : Int)).set 0 (bndF R) = [bndF R] := rfl
      rw [hs0]
      refine loop_intro (fun s : Nat × Nat × List Int => [(22, .int s.1), (21, .int len), (20, .slice 0 0 len cap), (6, .slice 2 0 (s.1 + 1) s.2.1), (5, .bool false), (4, .nils), (2, .ptr 1 0)]) (fun s => [(2, .ints (alS R L (s.1 + 1) ++ s.2.2) 3), (1, .ints (paR R L s.1) 27), (0, .ints L e)]) 3 (fun s => (s.1 ≤ len ∧ s.2.2.length + (s.1 + 1) = s.2.1) ∧ ∀ q, q < s.1 → paC R L q = true) (fun s => len - s.1) ?_ ?_
      · have a1 : alS R L 1 = [bndF R] := rfl
        refine ⟨(0, 1, []), ?_, Sub.mk_id ?_ ?_ ?_ ?_ ?_⟩
        all_goals (try (simp only [paR_zero, a1, List.append_nil, LB, subS, subH, wfS, wfH, SV.ren, renL, SObj.ren, SV.wf, SObj.wf, wfL, SV.known, Nat.reduceEqDiff, ↓reduceIte, if_true, if_false, eq_self, Nat.reduceAdd, Nat.reduceLT, Nat.reduceLeDiff, implies_true, reduceCtorEq, forall_const]; done))
        all_goals (try (simp only [paR_zero, a1, List.append_nil, LB, subS, subH, wfS, wfH, SV.ren, renL, SObj.ren, SV.wf, SObj.wf, wfL, SV.known, Nat.reduceEqDiff, ↓reduceIte, if_true, if_false, eq_self, Nat.reduceAdd, Nat.reduceLT, Nat.reduceLeDiff, implies_true, reduceCtorEq, forall_const]; simp; done))
        all_goals (try (simp only [paR_zero, a1, List.append_nil, LB, subS, subH, wfS, wfH, SV.ren, renL, SObj.ren, SV.wf, SObj.wf, wfL, SV.known, Nat.reduceEqDiff, ↓reduceIte, if_true, if_false, eq_self, Nat.reduceAdd, Nat.reduceLT, Nat.reduceLeDiff, implies_true, reduceCtorEq, forall_const]; (and_intros <;> (first | omega | rfl | (simp; done) | (simp; omega))); done))
        all_goals (try dsimp only)
        all_goals (and_intros <;> try (first | omega | (unfold In64; omega) | trivial | assumption))
      · rintro ⟨i, capo, jo⟩ ⟨⟨hi, hj⟩, hall⟩
        simp only at hi hj hall
        obtain ⟨qR, qr⟩ := paR_facts hR hr i hall
        have tkQ : (paR R L i).take 24 = paR R L i := List.take_of_length_le (by omega)
        have dQ : List.drop 24 (paR R L i) = [] := List.drop_eq_nil_of_le (by omega)
        have lA := alS_len R L (i + 1)
        have lenA : (alS R L (i + 1) ++ jo).length = capo := by rw [List.length_append]; omega
        have tkA : (alS R L (i + 1) ++ jo).take (i + 1) = alS R L (i + 1) := List.take_left' lA
        by_cases hlt : i < len
        · have hil : (i : Int) < len := by omega
          have eP : List.take 2 (List.drop (i * 2) L) = [L.getD (i * 2) 0, L.getD (i * 2 + 1) 0] := take2_drop _ _ (by omega)
          have ec : paC R L i = cppB (paR R L i) (L.getD (i * 2) 0) (L.getD (i * 2 + 1) 0) := rfl
          cases hc : cppB (paR R L i) (L.getD (i * 2) 0) (L.getD (i * 2 + 1) 0) with
          | false =>
            have hn : alN R L len = i := firstN_at hlt hall (by rw [ec, hc])
            simp -implicitDefEqProofs only [lk_normal, canPourPath_F, pour_F, bound_F, hil, eP, qR, qr, tkQ, dQ, hc, hn, lA, List.getD_cons_zero, List.getD_cons_succ, if_true, ZB, Int.reduceToNat, Nat.reduceLT, Nat.reduceLeDiff, Int.reduceLE, Int.reduceLT, Nat.reduceEqDiff, Nat.reduceSub, SB, SV.known, packR, ne_eq, reduceCtorEq, Nat.reduceEqDiff, ↓reduceIte, if_true, if_false, eq_self, Nat.reduceAdd, Nat.reduceMul, Nat.reduceSub, forall_const, oneCellS, litOne, flat1, Kd.isSca, flat, TYB]
            (try (and_intros <;> try (first | omega | (unfold In64; omega) | trivial | assumption)))
            refine .inr ⟨2, capo, jo, by simp [Wrap.ap, alS_len], by simp [hget_cons], by omega, by rw [alS_len]; omega, fun _ h0 => ?_⟩
            have := congrArg List.length h0
            rw [alS_len] at this
            simp at this
          | true =>
            obtain ⟨c1, c2, c3⟩ := cppB_facts hc
            have pl := pourF_len qR (L.getD (i * 2) 0).toNat (L.getD (i * 2 + 1) 0).toNat
            have pr := pour_rack qR qr c1 c2 c3
            have tkp : (pourF (paR R L i) (L.getD (i * 2) 0).toNat (L.getD (i * 2 + 1) 0).toNat).take 24 = pourF (paR R L i) (L.getD (i * 2) 0).toNat (L.getD (i * 2 + 1) 0).toNat := List.take_of_length_le (by omega)
            have hp : paC R L i = true := by rw [ec, hc]
            have es : alS R L (i + 1 + 1) = alS R L (i + 1) ++ [bndF (pourF (paR R L i) (L.getD (i * 2) 0).toNat (L.getD (i * 2 + 1) 0).toNat)] := by rw [alS_succ, paR_succ]
            simp -implicitDefEqProofs only [lk_normal, canPourPath_F, pour_F, bound_F, hil, eP, qR, qr, tkQ, dQ, hc, pl, pr, tkp, lenA, tkA, List.getD_cons_zero, List.getD_cons_succ, ZB, Int.reduceToNat, Nat.reduceLT, Nat.reduceLeDiff, Int.reduceLE, Int.reduceLT, Nat.reduceEqDiff, Nat.reduceSub, SB, SV.known, packR, ne_eq, reduceCtorEq, Nat.reduceEqDiff, ↓reduceIte, if_true, if_false, eq_self, Nat.reduceAdd, Nat.reduceMul, Nat.reduceSub, forall_const, oneCellS, litOne, flat1, Kd.isSca, flat, TYB]
            (try (and_intros <;> try (first | omega | (unfold In64; omega) | trivial | assumption)))
            intro junk' cap' hj'
            refine ⟨by unfold In64; omega, ?_⟩
            refine ⟨(i + 1, cap', junk'), ?_, ?_, Sub.mk_to 2 5 ?_ ?_ ?_ ?_ ?_ ?_ ?_⟩
            all_goals (try (simp only [es, paR_succ, LB, subS, subH, wfS, wfH, SV.ren, renL, SObj.ren, SV.wf, SObj.wf, wfL, SV.known, Nat.reduceEqDiff, ↓reduceIte, if_true, if_false, eq_self, Nat.reduceAdd, Nat.reduceLT, Nat.reduceLeDiff, implies_true, reduceCtorEq, forall_const]; done))
            all_goals (try (simp only [es, paR_succ, LB, subS, subH, wfS, wfH, SV.ren, renL, SObj.ren, SV.wf, SObj.wf, wfL, SV.known, Nat.reduceEqDiff, ↓reduceIte, if_true, if_false, eq_self, Nat.reduceAdd, Nat.reduceLT, Nat.reduceLeDiff, implies_true, reduceCtorEq, forall_const]; simp; done))
            all_goals (try (simp only [es, paR_succ, LB, subS, subH, wfS, wfH, SV.ren, renL, SObj.ren, SV.wf, SObj.wf, wfL, SV.known, Nat.reduceEqDiff, ↓reduceIte, if_true, if_false, eq_self, Nat.reduceAdd, Nat.reduceLT, Nat.reduceLeDiff, implies_true, reduceCtorEq, forall_const]; (and_intros <;> (first | omega | rfl | (simp; done) | (simp; omega))); done))
            all_goals (try dsimp only)
            all_goals (and_intros <;> try (first | omega | (unfold In64; omega) | trivial | assumption))
            all_goals (intro q hq; by_cases hqi : q = i)
            · subst hqi; exact hp
            · exact hall q (by omega)
        · have hil : ¬ (i : Int) < len := by omega
          obtain rfl : i = len := by omega
          have hn : alN R L i = i := firstN_end hall
          simp -implicitDefEqProofs only [lk_normal, hil, hn, lA, if_true, ZB, Int.reduceToNat, Nat.reduceLT, Nat.reduceLeDiff, Int.reduceLE, Int.reduceLT, Nat.reduceEqDiff, Nat.reduceSub, SB, SV.known, packR, ne_eq, reduceCtorEq, Nat.reduceEqDiff, ↓reduceIte, if_true, if_false, eq_self, Nat.reduceAdd, Nat.reduceMul, Nat.reduceSub, forall_const, oneCellS, litOne, flat1, Kd.isSca, flat, TYB]
          refine .inr ⟨2, capo, jo, by simp [Wrap.ap, alS_len], by simp [hget_cons], by omega, by rw [alS_len]; omega, fun _ h0 => ?_⟩
          have := congrArg List.length h0
          rw [alS_len] at this
          simp at this
    · have h60' : (len : Int) > 60 := by omega
      refine fresh_of_vc (X := ⟨Try.prog, tys, [(11, IsRack_F), (79, canPourPath_F), (71, pour_F), (83, bound_F)], [], true, true, 1, [], []⟩) fn_18 ⟨tys_ok, (.cons IsRack_T (.cons canPourPath_T (.cons pour_T (.cons bound_T .nil)))), .nil, mixed⟩ (n0 := 1) rfl (Nat.le_of_ble_eq_true rfl) (by simp [wfL, SV.wf]) (wfH_spec (by simp [wfH, SObj.wf])) (Nat.le_refl _) ?_
      simp -implicitDefEqProofs only [Try.f18, Option.getD_some, argS, IsRack_F, canPourPath_F, pour_F, bound_F, hR, tkR, hr, h60, h60', freshK, Wrap.ap, ZB, Int.reduceToNat, Nat.reduceLT, Nat.reduceLeDiff, Int.reduceLE, Int.reduceLT, Nat.reduceEqDiff, Nat.reduceSub, SB, SV.known, packR, ne_eq, reduceCtorEq, Nat.reduceEqDiff, ↓reduceIte, if_true, if_false, eq_self, Nat.reduceAdd, Nat.reduceMul, Nat.reduceSub, forall_const, oneCellS, litOne, flat1, Kd.isSca, flat, TYB]
      exact .inl ⟨rfl, rfl, rfl⟩
--@tbl sBoundsAlong = spec.BoundsAlong
theorem sBoundsAlong_ok (R L : List Int) (e len cap : Nat) (hR : R.length = 24) (hL : len * 2 ≤ L.length) (hl : len ≤ 1048576) : FreshP Try.prog 19 [.arr R, .slice 0 0 len cap] [(0, .ints L e)] (alL R L len) (alL R L len).length 1 3 false (.more [.bool (igOk R len)]) := by
  have tkR : R.take 24 = R := List.take_of_length_le (by omega)
  unfold alL igOk
  cases hr : rackB R
  · refine fresh_of_vc (X := ⟨Try.prog, tys, [(72, l2Rack_F), (81, l6Can_F), (74, l2Pour_F), (82, l6Bound_F)], [], true, true, 1, [], []⟩) fn_19 ⟨tys_ok, (.cons l2Rack_T (.cons l6Can_T (.cons l2Pour_T (.cons l6Bound_T .nil)))), .nil, mixed⟩ (n0 := 1) rfl (Nat.le_of_ble_eq_true rfl) (by simp [wfL, SV.wf]) (wfH_spec (by simp [wfH, SObj.wf])) (Nat.le_refl _) ?_
    simp -implicitDefEqProofs only [Try.f19, Option.getD_some, argS, l2Rack_F, l6Can_F, l2Pour_F, l6Bound_F, hR, tkR, hr, freshK, Wrap.ap, ZB, Int.reduceToNat, Nat.reduceLT, Nat.reduceLeDiff, Int.reduceLE, Int.reduceLT, Nat.reduceEqDiff, Nat.reduceSub, SB, SV.known, packR, ne_eq, reduceCtorEq, Nat.reduceEqDiff, ↓reduceIte, if_true, if_false, eq_self, Nat.reduceAdd, Nat.reduceMul, Nat.reduceSub, forall_const, oneCellS, litOne, flat1, Kd.isSca, flat, TYB]
    exact .inr ⟨2, 0, [], by simp [Wrap.ap], by simp [hget_cons], by omega, by simp, by simp⟩
  · by_cases h60 : len ≤ 60
    · have h60' : ¬ (len : Int) > 60 := by omega
      refine fresh_of_vc (X := ⟨Try.prog, tys, [(72, l2Rack_F), (81, l6Can_F), (74, l2Pour_F), (82, l6Bound_F)], [], true, true, 1, [], []⟩) fn_19 ⟨tys_ok, (.cons l2Rack_T (.cons l6Can_T (.cons l2Pour_T (.cons l6Bound_T .nil)))), .nil, mixed⟩ (n0 := 1) rfl (Nat.le_of_ble_eq_true rfl) (by simp [wfL, SV.wf]) (wfH_spec (by simp [wfH, SObj.wf])) (Nat.le_refl _) ?_
      simp -implicitDefEqProofs only [Try.f19, Option.getD_some, argS, l2Rack_F, l6Can_F, l2Pour_F, l6Bound_F, hR, tkR, hr, h60, h60', freshK, Wrap.ap, ZB, Int.reduceToNat, Nat.reduceLT, Nat.reduceLeDiff, Int.reduceLE, Int.reduceLT, Nat.reduceEqDiff, Nat.reduceSub, SB, SV.known, packR, ne_eq, reduceCtorEq, Nat.reduceEqDiff, ↓reduceIte, if_true, if_false, eq_self, Nat.reduceAdd, Nat.reduceMul, Nat.reduceSub, forall_const, oneCellS, litOne, flat1, Kd.isSca, flat, TYB]
      have hs0 : (List.replicate 1 (0 : Int)).set 0 (bndF R) = [bndF R] := rfl
      rw [hs0]
      refine loop_intro (fun s : Nat × Nat × List Int => [(7, .int s.1), (6, .slice 2 0 (s.1 + 1) s.2.1), (5, .bool false), (4, .nils), (2, .ptr 1 0), (1, .slice 0 0 len cap)]) (fun s => [(2, .ints (alS R L (s.1 + 1) ++ s.2.2) 3), (1, .ints (paR R L s.1) 27), (0, .ints L e)]) 3 (fun s => (s.1 ≤ len ∧ s.2.2.length + (s.1 + 1) = s.2.1) ∧ ∀ q, q < s.1 → paC R L q = true) (fun s => len - s.1) ?_ ?_
      · have a1 : alS R L 1 = [bndF R] := rfl
        refine ⟨(0, 1, []), ?_, Sub.mk_id ?_ ?_ ?_ ?_ ?_⟩
        all_goals (try (simp only [paR_zero, a1, List.append_nil, LB, subS, subH, wfS, wfH, SV.ren, renL, SObj.ren, SV.wf, SObj.wf, wfL, SV.known, Nat.reduceEqDiff, ↓reduceIte, if_true, if_false, eq_self, Nat.reduceAdd, Nat.reduceLT, Nat.reduceLeDiff, implies_true, reduceCtorEq, forall_const]; done))
        all_goals (try (simp only [paR_zero, a1, List.append_nil, LB, subS, subH, wfS, wfH, SV.ren, renL, SObj.ren, SV.wf, SObj.wf, wfL, SV.known, Nat.reduceEqDiff, ↓reduceIte, if_true, if_false, eq_self, Nat.reduceAdd, Nat.reduceLT, Nat.reduceLeDiff, implies_true, reduceCtorEq, forall_const]; simp; done))
        all_goals (try (simp only [paR_zero, a1, List.append_nil, LB, subS, subH, wfS, wfH, SV.ren, renL, SObj.ren, SV.wf, SObj.wf, wfL, SV.known, Nat.reduceEqDiff, ↓reduceIte, if_true, if_false, eq_self, Nat.reduceAdd, Nat.reduceLT, Nat.reduceLeDiff, implies_true, reduceCtorEq, forall_const]; (and_intros <;> (first | omega | rfl | (simp; done) | (simp; omega))); done))
        all_goals (try dsimp only)
        all_goals (and_intros <;> try (first | omega | (unfold In64; omega) | trivial | assumption))
      · rintro ⟨i, capo, jo⟩ ⟨⟨hi, hj⟩, hall⟩
        simp only at hi hj hall
        obtain ⟨qR, qr⟩ := paR_facts hR hr i hall
        have tkQ : (paR R L i).take 24 = paR R L i := List.take_of_length_le (by omega)
        have dQ : List.drop 24 (paR R L i) = [] := List.drop_eq_nil_of_le (by omega)
        have lA := alS_len R L (i + 1)
        have lenA : (alS R L (i + 1) ++ jo).length = capo := by rw [List.length_append]; omega
        have tkA : (alS R L (i + 1) ++ jo).take (i + 1) = alS R L (i + 1) := List.take_left' lA
        by_cases hlt : i < len
        · have hil : (i : Int) < len := by omega
          have eP : List.take 2 (List.drop (i * 2) L) = [L.getD (i * 2) 0, L.getD (i * 2 + 1) 0] := take2_drop _ _ (by omega)
          have ec : paC R L i = cppB (paR R L i) (L.getD (i * 2) 0) (L.getD (i * 2 + 1) 0) := rfl
          cases hc : cppB (paR R L i) (L.getD (i * 2) 0) (L.getD (i * 2 + 1) 0) with
          | false =>
            have hn : alN R L len = i := firstN_at hlt hall (by rw [ec, hc])
            simp -implicitDefEqProofs only [lk_normal, l6Can_F, l2Pour_F, l6Bound_F, hil, eP, qR, qr, tkQ, dQ, hc, hn, lA, List.getD_cons_zero, List.getD_cons_succ, if_true, ZB, Int.reduceToNat, Nat.reduceLT, Nat.reduceLeDiff, Int.reduceLE, Int.reduceLT, Nat.reduceEqDiff, Nat.reduceSub, SB, SV.known, packR, ne_eq, reduceCtorEq, Nat.reduceEqDiff, ↓reduceIte, if_true, if_false, eq_self, Nat.reduceAdd, Nat.reduceMul, Nat.reduceSub, forall_const, oneCellS, litOne, flat1, Kd.isSca, flat, TYB]
            (try (and_intros <;> try (first | omega | (unfold In64; omega) | trivial | assumption)))
            refine .inr ⟨2, capo, jo, by simp [Wrap.ap, alS_len], by simp [hget_cons], by omega, by rw [alS_len]; omega, fun _ h0 => ?_⟩
            have := congrArg List.length h0
            rw [alS_len] at this
            simp at this
          | true =>
            obtain ⟨c1, c2, c3⟩ := cppB_facts hc
            have pl := pourF_len qR (L.getD (i * 2) 0).toNat (L.getD (i * 2 + 1) 0).toNat
            have pr := pour_rack qR qr c1 c2 c3
            have tkp : (pourF (paR R L i) (L.getD (i * 2) 0).toNat (L.getD (i * 2 + 1) 0).toNat).take 24 = pourF (paR R L i) (L.getD (i * 2) 0).toNat (L.getD (i * 2 + 1) 0).toNat := List.take_of_length_le (by omega)
            have hp : paC R L i = true := by rw [ec, hc]
            have es : alS R L (i + 1 + 1) = alS R L (i + 1) ++ [bndF (pourF (paR R L i) (L.getD (i * 2) 0).toNat (L.getD (i * 2 + 1) 0).toNat)] := by rw [alS_succ, paR_succ]
            simp -implicitDefEqProofs only [lk_normal, l6Can_F, l2Pour_F, l6Bound_F, hil, eP, qR, qr, tkQ, dQ, hc, pl, pr, tkp, lenA, tkA, List.getD_cons_zero, List.getD_cons_succ, ZB, Int.reduceToNat, Nat.reduceLT, Nat.reduceLeDiff, Int.reduceLE, Int.reduceLT, Nat.reduceEqDiff, Nat.reduceSub, SB, SV.known, packR, ne_eq, reduceCtorEq, Nat.reduceEqDiff, ↓reduceIte, if_true, if_false, eq_self, Nat.reduceAdd, Nat.reduceMul, Nat.reduceSub, forall_const, oneCellS, litOne, flat1, Kd.isSca, flat, TYB]
            (try (and_intros <;> try (first | omega | (unfold In64; omega) | trivial | assumption)))
            intro junk' cap' hj'
            refine ⟨by unfold In64; omega, ?_⟩
            refine ⟨(i + 1, cap', junk'), ?_, ?_, Sub.mk_to 2 5 ?_ ?_ ?_ ?_ ?_ ?_ ?_⟩
            all_goals (try (simp only [es, paR_succ, LB, subS, subH, wfS, wfH, SV.ren, renL, SObj.ren, SV.wf, SObj.wf, wfL, SV.known, Nat.reduceEqDiff, ↓reduceIte, if_true, if_false, eq_self, Nat.reduceAdd, Nat.reduceLT, Nat.reduceLeDiff, implies_true, reduceCtorEq, forall_const]; done))
            all_goals (try (simp only [es, paR_succ, LB, subS, subH, wfS, wfH, SV.ren, renL, SObj.ren, SV.wf, SObj.wf, wfL, SV.known, Nat.reduceEqDiff, ↓reduceIte, if_true, if_false, eq_self, Nat.reduceAdd, Nat.reduceLT, Nat.reduceLeDiff, implies_true, reduceCtorEq, forall_const]; simp; done))
            all_goals (try (simp only [es, paR_succ, LB, subS, subH, wfS, wfH, SV.ren, renL, SObj.ren, SV.wf, SObj.wf, wfL, SV.known, Nat.reduceEqDiff, ↓reduceIte, if_true, if_false, eq_self, Nat.reduceAdd, Nat.reduceLT, Nat.reduceLeDiff, implies_true, reduceCtorEq, forall_const]; (and_intros <;> (first | omega | rfl | (simp; done) | (simp; omega))); done))
            all_goals (try dsimp only)
            all_goals (and_intros <;> try (first | omega | (unfold In64; omega) | trivial | assumption))
            all_goals (intro q hq; by_cases hqi : q = i)
            · subst hqi; exact hp
            · exact hall q (by omega)
        · have hil : ¬ (i : Int) < len := by omega
          obtain rfl : i = len := by omega
          have hn : alN R L i = i := firstN_end hall
          simp -implicitDefEqProofs only [lk_normal, hil, hn, lA, if_true, ZB, Int.reduceToNat, Nat.reduceLT, Nat.reduceLeDiff, Int.reduceLE, Int.reduceLT, Nat.reduceEqDiff, Nat.reduceSub, SB, SV.known, packR, ne_eq, reduceCtorEq, Nat.reduceEqDiff, ↓reduceIte, if_true, if_false, eq_self, Nat.reduceAdd, Nat.reduceMul, Nat.reduceSub, forall_const, oneCellS, litOne, flat1, Kd.isSca, flat, TYB]
          refine .inr ⟨2, capo, jo, by simp [Wrap.ap, alS_len], by simp [hget_cons], by omega, by rw [alS_len]; omega, fun _ h0 => ?_⟩
          have := congrArg List.length h0
          rw [alS_len] at this
          simp at this
    · have h60' : (len : Int) > 60 := by omega
      refine fresh_of_vc (X := ⟨Try.prog, tys, [(72, l2Rack_F), (81, l6Can_F), (74, l2Pour_F), (82, l6Bound_F)], [], true, true, 1, [], []⟩) fn_19 ⟨tys_ok, (.cons l2Rack_T (.cons l6Can_T (.cons l2Pour_T (.cons l6Bound_T .nil)))), .nil, mixed⟩ (n0 := 1) rfl (Nat.le_of_ble_eq_true rfl) (by simp [wfL, SV.wf]) (wfH_spec (by simp [wfH, SObj.wf])) (Nat.le_refl _) ?_
      simp -implicitDefEqProofs only [Try.f19, Option.getD_some, argS, l2Rack_F, l6Can_F, l2Pour_F, l6Bound_F, hR, tkR, hr, h60, h60', freshK, Wrap.ap, ZB, Int.reduceToNat, Nat.reduceLT, Nat.reduceLeDiff, Int.reduceLE, Int.reduceLT, Nat.reduceEqDiff, Nat.reduceSub, SB, SV.known, packR, ne_eq, reduceCtorEq, Nat.reduceEqDiff, ↓reduceIte, if_true, if_false, eq_self, Nat.reduceAdd, Nat.reduceMul, Nat.reduceSub, forall_const, oneCellS, litOne, flat1, Kd.isSca, flat, TYB]
      exact .inr ⟨2, 0, [], by simp [Wrap.ap], by simp [hget_cons], by omega, by simp, by simp⟩
theorem paR_app (R L J : List Int) (len : Nat) (h : len * 2 ≤ L.length) : ∀ k, k ≤ len → paR R (L ++ J) k = paR R L k
  | 0, _ => rfl
  | k + 1, hk => by rw [paR_succ, paR_succ, paR_app R L J len h k (by omega), getD_app _ _ _ (by omega), getD_app _ _ _ (by omega)]
theorem alL_app (R L J : List Int) (len : Nat) (h : len * 2 ≤ L.length) : alL R (L ++ J) len = alL R L len := by
  have hn : alN R (L ++ J) len = alN R L len := firstN_congr len 0 fun k _ hk => by
    unfold paC
    rw [paR_app R L J len h k (by omega), getD_app _ _ _ (by omega), getD_app _ _ _ (by omega)]
  have hle : alN R L len ≤ 0 + len := firstN_le _ _ _
  unfold alL alS
  rw [hn]
  split
  · refine List.map_congr_left fun k hk => ?_
    have := List.mem_range.1 hk
    rw [paR_app R L J len h k (by omega)]
  · rfl
theorem alL_len (R L : List Int) (len : Nat) : (alL R L len).length ≤ 61 := by
  unfold alL
  split
  · rename_i h
    simp only [igOk, Bool.and_eq_true, decide_eq_true_eq] at h
    have hle : alN R L len ≤ 0 + len := firstN_le _ _ _
    rw [alS_len]; omega
  · simp
def BoundsAlong_F : List SV → Heap → Nat → Nat → K1 → Prop
  | [.arr R, .slice b 0 len _], H, n, _, κ => match hget H b with
    | some (.ints L _) => (R.length = 24 ∧ len * 2 ≤ L.length ∧ len ≤ 1048576) ∧ freshK (.more [.bool (igOk R len)]) (alL R (L.take (len * 2)) len) (alL R (L.take (len * 2)) len).length 1 3 true H n κ
    | _ => False
  | _, _, _, _, _ => False
theorem BoundsAlong_T : ∀ args H n m κ, BoundsAlong_F args H n m κ → GenOK Try.prog 18 args H n m κ := by
  intro args H n m κ h
  unfold BoundsAlong_F at h
  split at h
  · rename_i R b len cap
    split at h
    · rename_i L e hb
      obtain ⟨⟨h1, h2, h3⟩, h4⟩ := h
      rw [← alL_app _ (L.take _) (L.drop _) _ (by rw [List.length_take]; omega), List.take_append_drop] at h4
      exact gen_of_fresh (((BoundsAlong_ok R L e len cap h1 h2 h3).one hb rfl)) (fun k o hk => hk) h4
    · exact h.elim
  · exact h.elim
def sBoundsAlong_F : List SV → Heap → Nat → Nat → K1 → Prop
  | [.arr R, .slice b 0 len _], H, n, _, κ => match hget H b with
    | some (.ints L _) => (R.length = 24 ∧ len * 2 ≤ L.length ∧ len ≤ 1048576) ∧ freshK (.more [.bool (igOk R len)]) (alL R (L.take (len * 2)) len) (alL R (L.take (len * 2)) len).length 1 3 false H n κ
    | _ => False
  | _, _, _, _, _ => False
theorem sBoundsAlong_T : ∀ args H n m κ, sBoundsAlong_F args H n m κ → GenOK Try.prog 19 args H n m κ := by
  intro args H n m κ h
  unfold sBoundsAlong_F at h
  split at h
  · rename_i R b len cap
    split at h
    · rename_i L e hb
      obtain ⟨⟨h1, h2, h3⟩, h4⟩ := h
      rw [← alL_app _ (L.take _) (L.drop _) _ (by rw [List.length_take]; omega), List.take_append_drop] at h4
      exact gen_of_fresh (((sBoundsAlong_ok R L e len cap h1 h2 h3).one hb rfl)) (fun k o hk => hk) h4
    · exact h.elim
  · exact h.elim
end Go.Proofs.Ytopfnkmlgcjpbaa
set_option maxRecDepth 100000
set_option linter.unusedSimpArgs false
set_option linter.unusedVariables false
namespace Go.Proofs.Ytopfnkmlgcjpbaa
open Go Go.RowKit
theorem BytA.wfv {v : SV} {H : Heap} {n : Nat} (h : BytA v H) (hw : hwf n H) : v.wf n := by
  rcases h with rfl | ⟨kc, off, len, cap, L, rfl, h, _⟩
  · trivial
  · exact (hw _ _ h).1
/-- A cursor just made. -/
theorem cur_new {cv : SV} {H : Heap} {n k : Nat} (hB : BytA cv H) (hw : hwf n H) (hk : k < n) (hx : ∃ o, hget H k = some o) :
    ∃ kc, (n < n + 1 ∧ kc < n + 1 ∧ kc ≠ n) ∧ Drawn n kc 0 0 (n + 1) ((n, .cells [cv, .int 0, .lit (.int .u64 0)] 88) :: H) ((n, .cells [cv, .int 0, .lit (.int .u64 0)] 88) :: H) (n + 1) := by
  obtain ⟨kc, hkn, hBv⟩ := hB.at hw hk hx
  have hw1 : hwf (n + 1) ((n, .cells [cv, .int 0, .lit (.int .u64 0)] 88) :: H) := hwf_cons (hwf_mono (by omega) hw) (by omega) (by
    simp [SObj.wf, wfL, SV.wf]; exact SV.wf_mono (show n ≤ n + 1 by omega) cv (hB.wfv hw))
  refine ⟨kc, by omega, Drawn.start ⟨cv, 0, by simp [hget_cons], hBv.at (fun o ho => by rw [hget_cons, if_neg (show ¬ kc = n by omega)]; exact ho), by omega⟩ hw1⟩
theorem fnx_DrawIsRack : FnOK Try.prog 69 Try.f69 (Try.f69.body.getD .skip) [77] [] := ⟨Try.func69, rfl, by kernel_rfl, by kernel_rfl⟩
theorem DrawIsRack_vc (cv : SV) (m n : Nat) (H : Heap) (hB : BytA cv H) (hmn : m ≤ n) (hwH : hwf n H) :
    codeVC (⟨Try.prog, tys, [], [(77, rack_F)], true, true, m, [77], []⟩ : Cx) n (Try.f69.body.getD .skip) (argS 0 [cv]) H n
      (retK tys Try.f69.results.toList fun v H' n' => ∃ R : List Int, v = .arr R ∧ R.length = 24 ∧ (∀ z ∈ R, In64 z) ∧ Kpt n H H' n') := by
  have hB' := hB
  rcases hB with rfl | ⟨kc0, off0, len0, cap0, L0, rfl, hh0⟩
  all_goals
    simp -implicitDefEqProofs only [Try.f69, Option.getD_some, argS, Nat.add_assoc, add_self, self_add, add_add, ZB, Int.reduceToNat, Nat.reduceLT, Nat.reduceLeDiff, Int.reduceLE, Int.reduceLT, Nat.reduceEqDiff, Nat.reduceSub, SB, SV.known, packR, ne_eq, reduceCtorEq, Nat.reduceEqDiff, ↓reduceIte, if_true, if_false, eq_self, Nat.reduceAdd, Nat.reduceMul, Nat.reduceSub, forall_const, oneCellS, litOne, flat1, Kd.isSca, flat, TYB]
    obtain ⟨kc, hlt, d0⟩ := cur_new (hB'.put hwH (Nat.le_refl n) (.ints (List.replicate 24 0) 27)) (hwf_cons (hwf_mono (by omega) hwH) (Nat.lt_succ_self n) trivial) (Nat.lt_succ_self n) ⟨_, by simp [hget_cons]; rfl⟩
    refine rack_use d0 hlt (by omega) (by omega) (by omega) fun R H1 n1 hR hRi hd1 hle1 hf1 => ?_
    have hz1 := hd1.fr n _ (by omega) (by omega) (show hget _ n = some (.ints (List.replicate 24 0) 27) by simp [hget_cons])
    have tkR : R.take 24 = R := List.take_of_length_le (by omega)
    simp -implicitDefEqProofs only [hz1, hR, tkR, Nat.add_assoc, add_self, self_add, add_add, ZB, Int.reduceToNat, Nat.reduceLT, Nat.reduceLeDiff, Int.reduceLE, Int.reduceLT, Nat.reduceEqDiff, Nat.reduceSub, SB, SV.known, packR, ne_eq, reduceCtorEq, Nat.reduceEqDiff, ↓reduceIte, if_true, if_false, eq_self, Nat.reduceAdd, Nat.reduceMul, Nat.reduceSub, forall_const, oneCellS, litOne, flat1, Kd.isSca, flat, TYB]
    exact ⟨hmn, R, rfl, hR, hRi, by omega, hwf_cons hd1.wf (by omega) trivial, fun i o hi ho => by
      rw [hget_cons, if_neg (by omega)]
      exact hd1.fr i o (by omega) (by omega) (by rw [hget_cons, if_neg (by omega), hget_cons, if_neg (by omega)]; exact ho)⟩
--@tbl DrawIsRack = spec.DrawIsRack
theorem DrawIsRack_T : ∀ args H n m κ, DrawIsSorted_F args H n m κ → GenOK Try.prog 69 args H n m κ := by
  intro args H n m κ h
  unfold DrawIsSorted_F at h
  split at h
  · rename_i cv
    obtain ⟨hB, hmn, h1⟩ := h
    exact gen_direct (X := ⟨Try.prog, tys, [], [(77, rack_F)], true, true, m, [77], []⟩) fnx_DrawIsRack ⟨tys_ok, .nil, .cons rack_T .nil, mixed⟩ rfl (Nat.le_of_ble_eq_true rfl) (fun hwH hwa => DrawIsRack_vc cv m n H hB hmn hwH) fun hwH v H' n' hψ h3 h4 h5 => by
      obtain ⟨R, rfl, g1, g2, g3⟩ := hψ
      exact h1 R H' n' g1 g2 g3
  · exact h.elim
theorem fnx_DrawGoodPath : FnOK Try.prog 8 Try.f8 (Try.f8.body.getD .skip) [] [] := ⟨Try.func8, rfl, by kernel_rfl, by kernel_rfl⟩
theorem DrawGoodPath_vc (cv : SV) (m n : Nat) (H : Heap) (hB : BytA cv H) (hmn : m ≤ n) (hwH : hwf n H) :
    codeVC (⟨Try.prog, tys, [], [(69, DrawIsSorted_F)], true, true, m, [], []⟩ : Cx) n (Try.f8.body.getD .skip) (argS 0 [cv]) H n
      (retK tys Try.f8.results.toList fun v H' n' => ∃ R : List Int, v = .arr R ∧ R.length = 24 ∧ (∀ z ∈ R, In64 z) ∧ Kpt n H H' n') := by
  have hB' := hB
  rcases hB with rfl | ⟨kc, off, len, cap, L, rfl, hh⟩
  all_goals
    simp -implicitDefEqProofs only [Try.f8, Option.getD_some, argS, DrawIsSorted_F, Nat.add_assoc, add_self, self_add, add_add, ZB, Int.reduceToNat, Nat.reduceLT, Nat.reduceLeDiff, Int.reduceLE, Int.reduceLT, Nat.reduceEqDiff, Nat.reduceSub, SB, SV.known, packR, ne_eq, reduceCtorEq, Nat.reduceEqDiff, ↓reduceIte, if_true, if_false, eq_self, Nat.reduceAdd, Nat.reduceMul, Nat.reduceSub, forall_const, oneCellS, litOne, flat1, Kd.isSca, flat, TYB]
    refine ⟨hB'.put hwH (Nat.le_refl n) _, by omega, fun R H' n' hR hRi hK => ?_⟩
    have hz := hK.fr n _ (by omega) (show hget _ n = some (.ints (List.replicate 24 0) 27) by simp [hget_cons])
    have tkR : R.take 24 = R := List.take_of_length_le (by omega)
    have hle := hK.le
    simp -implicitDefEqProofs only [hz, hR, tkR, ZB, Int.reduceToNat, Nat.reduceLT, Nat.reduceLeDiff, Int.reduceLE, Int.reduceLT, Nat.reduceEqDiff, Nat.reduceSub, SB, SV.known, packR, ne_eq, reduceCtorEq, Nat.reduceEqDiff, ↓reduceIte, if_true, if_false, eq_self, Nat.reduceAdd, Nat.reduceMul, Nat.reduceSub, forall_const, oneCellS, litOne, flat1, Kd.isSca, flat, TYB]
    exact ⟨hmn, R, rfl, hR, hRi, by omega, hwf_cons hK.wf (by omega) trivial, fun i o hi ho => by
      rw [hget_cons, if_neg (by omega)]
      exact hK.under (by omega) i o hi ho⟩
--@tbl DrawGoodPath = spec.DrawGoodPath
def DrawGoodPath_F := DrawIsSorted_F
theorem DrawGoodPath_T : ∀ args H n m κ, DrawIsSorted_F args H n m κ → GenOK Try.prog 8 args H n m κ := by
  intro args H n m κ h
  unfold DrawIsSorted_F at h
  split at h
  · rename_i cv
    obtain ⟨hB, hmn, h1⟩ := h
    exact gen_direct (X := ⟨Try.prog, tys, [], [(69, DrawIsSorted_F)], true, true, m, [], []⟩) fnx_DrawGoodPath ⟨tys_ok, .nil, .cons DrawIsRack_T .nil, mixed⟩ rfl (Nat.le_of_ble_eq_true rfl) (fun hwH hwa => DrawGoodPath_vc cv m n H hB hmn hwH) fun hwH v H' n' hψ h3 h4 h5 => by
      obtain ⟨R, rfl, g1, g2, g3⟩ := hψ
      exact h1 R H' n' g1 g2 g3
  · exact h.elim
/-! Paths. -/
/-- A path that is being drawn. -/
structure PtS (c kc a n : Nat) (H : Heap) (b len cap : Nat) (M Q : List Int) (k : Nat) (H' : Heap) (n' : Nat) : Prop where
  d : Drawn c kc a k n H H' n'
  lt : n < b ∧ b < n'
  o : hget H' b = some (.ints M 44)
  ml : M.length = cap * 2
  lc : len ≤ cap
  r : hget H' n = some (.ints Q 27)
  l : Q.length = 24
  v : rackB Q = true
theorem good_use {c kc a k n0 n m : Nat} {H0 H : Heap} {κ : K1} (h : Drawn c kc a k n0 H0 H n) (hc : c < n0 ∧ kc < n0 ∧ kc ≠ c) {Q : List Int} (hQ : Q.length = 24) (hv : rackB Q = true)
    (hκ : ∀ (cap : Nat) (junk : List Int) H', junk.length + (gdL Q).length = cap * 2 → Drawn c kc a k n0 H0 H' (n + 1) → Fr n0 n H H' → hget H' n = some (.ints (gdL Q ++ junk) 44) → κ (.slice n 0 ((gdL Q).length / 2) cap) H' (n + 1)) : l6Good_F [.arr Q] H n m κ := by
  refine ⟨⟨hQ, hv⟩, ?_⟩
  unfold freshK
  exact ⟨(fun h => by cases h), fun _ cap junk hj => hκ cap junk _ hj (h.pushI hc) (fun j o h1 h2 h3 => by rw [hget_cons, if_neg (by omega)]; exact h3) (by simp [hget_cons])⟩
theorem fnx_path : FnOK Try.prog 78 Try.f78 (Try.f78.body.getD .skip) [92, 119, 90] [] := ⟨Try.func78, rfl, by kernel_rfl, by kernel_rfl⟩
theorem path_vc (c kc a m n : Nat) (H : Heap) (R : List Int) (hR : R.length = 24) (hr : rackB R = true) (hC : CurH c kc a H) (hm : m ≤ c) (hmn : m ≤ n) (ha : a ≤ 900000) (hwH : hwf n H) :
    codeVC (⟨Try.prog, tys, [(72, l2Rack_F), (81, l6Can_F), (74, l2Pour_F)], [(92, one_F), (119, among_F), (90, dpour_F), (73, l6Good_F)], true, true, m, [92, 119, 90], []⟩ : Cx) n (Try.f78.body.getD .skip) (argS 0 [.ptr c 0, .arr R]) H n
      (retK tys Try.f78.results.toList fun v H' n' => ∃ (b len cap : Nat) (M : List Int), v = .slice b 0 len cap ∧ n ≤ b ∧ b < n' ∧ hget H' b = some (.ints M 44) ∧ len * 2 ≤ M.length ∧ len ≤ 61 ∧ Drawn c kc a 20000 n H H' n') := by
  have hlt := hC.lt hwH
  have tkR : R.take 24 = R := List.take_of_length_le (by omega)
  simp -implicitDefEqProofs only [Try.f78, Option.getD_some, argS, hR, tkR, Nat.add_assoc, add_self, self_add, add_add, ZB, Int.reduceToNat, Nat.reduceLT, Nat.reduceLeDiff, Int.reduceLE, Int.reduceLT, Nat.reduceEqDiff, Nat.reduceSub, SB, SV.known, packR, ne_eq, reduceCtorEq, Nat.reduceEqDiff, ↓reduceIte, if_true, if_false, eq_self, Nat.reduceAdd, Nat.reduceMul, Nat.reduceSub, forall_const, oneCellS, litOne, flat1, Kd.isSca, flat, TYB]
  have d0 : Drawn c kc a 0 n H ((n + 1, .ints [] 44) :: (n, .ints R 27) :: H) (n + 2) := ((Drawn.start hC hwH).pushI hlt).pushI hlt
  refine among_use (d0.pushI hlt) hlt hm (by omega) (L := [3, 5, 2, 1, 0, 8, 61]) (by simp [hget_cons]; rfl) (by omega) (by simp) fun N0 H1 hx1 hd1 hf1 => ?_
  have hN0 : 0 ≤ N0 ∧ N0 ≤ 61 := by simp at hx1; omega
  obtain ⟨N, rfl⟩ : ∃ N : Nat, N0 = N := ⟨N0.toNat, by omega⟩
  have hS0 : PtS c kc a n H (n + 1) 0 0 [] R (2 + 110 * (61 - N)) H1 (n + 3) := ⟨hd1.more (by omega), by omega, hf1.use (by omega) (by omega) (by simp [hget_cons]), rfl, by omega, hf1.use (by omega) (by omega) (by simp [hget_cons]), hR, hr⟩
  clear hf1 hd1 d0
  simp -implicitDefEqProofs only [Nat.add_assoc, add_self, self_add, add_add, ZB, Int.reduceToNat, Nat.reduceLT, Nat.reduceLeDiff, Int.reduceLE, Int.reduceLT, Nat.reduceEqDiff, Nat.reduceSub, SB, SV.known, packR, ne_eq, reduceCtorEq, Nat.reduceEqDiff, ↓reduceIte, if_true, if_false, eq_self, Nat.reduceAdd, Nat.reduceMul, Nat.reduceSub, forall_const, oneCellS, litOne, flat1, Kd.isSca, flat, TYB]
  refine loop_introN (fun s : (Nat × Nat × Nat × Nat × List Int × List Int) × Heap × Nat => [(6, .int s.1.1), (5, .slice s.1.2.1 0 s.1.2.2.1 s.1.2.2.2.1), (3, .ptr n 0), (0, .ptr c 0)]) (fun s => s.2.1) (fun s => s.2.2)
    (fun s => (s.1.1 ≤ 61 ∧ s.1.1 + s.1.2.2.1 ≤ 61) ∧ PtS c kc a n H s.1.2.1 s.1.2.2.1 s.1.2.2.2.1 s.1.2.2.2.2.1 s.1.2.2.2.2.2 (2 + 110 * (61 - s.1.1)) s.2.1 s.2.2) (fun s => s.1.1) ?_ ?_
  · have hle := hS0.d.le
    exact ⟨((N, n + 1, 0, 0, [], R), H1, n + 3), ⟨⟨by show N ≤ 61; omega, by show N + 0 ≤ 61; omega⟩, hS0⟩, Sub.same (by simp only [LB, subS, subH, wfS, wfH, SV.ren, renL, SObj.ren, SV.wf, SObj.wf, wfL, SV.known, Nat.reduceEqDiff, ↓reduceIte, if_true, if_false, eq_self, Nat.reduceAdd, Nat.reduceLT, Nat.reduceLeDiff, implies_true, reduceCtorEq, forall_const]; try rfl) (by simp [subS, subH, wfS, wfH, SV.ren, renL, SObj.ren, SV.wf, SObj.wf, wfL, sget_cons, hget_cons] <;> omega) hS0.d.wf hle⟩
  · rintro ⟨⟨N, b, len, cap, M, Q⟩, H2, n2⟩ ⟨⟨hN, hNl⟩, hS⟩
    simp only at hN hNl hS
    have hq := hS.lt
    have hml := hS.ml
    have hlc := hS.lc
    have hQ := hS.l
    have hv := hS.v
    have tkQ : Q.take 24 = Q := List.take_of_length_le (by omega)
    have hr2 := hS.r
    by_cases h0 : 0 < N
    · obtain ⟨N, rfl⟩ : ∃ k : Nat, N = k + 1 := ⟨N - 1, by omega⟩
      have hNi : 0 < ((N + 1 : Nat) : Int) := by omega
      have eN : ((N + 1 : Nat) : Int) - 1 = N := by omega
      simp -implicitDefEqProofs only [lk_normal, hNi, hr2, hQ, tkQ, Nat.add_assoc, add_self, self_add, add_add, ZB, Int.reduceToNat, Nat.reduceLT, Nat.reduceLeDiff, Int.reduceLE, Int.reduceLT, Nat.reduceEqDiff, Nat.reduceSub, SB, SV.known, packR, ne_eq, reduceCtorEq, Nat.reduceEqDiff, ↓reduceIte, if_true, if_false, eq_self, Nat.reduceAdd, Nat.reduceMul, Nat.reduceSub, forall_const, oneCellS, litOne, flat1, Kd.isSca, flat, TYB]
      refine dpour_use hS.d hlt hm (by omega) (by omega) hQ fun x y H3 n3 hx hy hd3 hle3 hf3 => ?_
      have hr3 := hf3.use (by omega) (by omega) hr2
      have ho3 := hf3.use (by omega) (by omega) hS.o
      have e1 : (n = n3) = False := by simp; omega
      simp -implicitDefEqProofs only [lk_normal, hr3, e1, hQ, tkQ, hv, Nat.add_assoc, add_self, self_add, add_add, ZB, Int.reduceToNat, Nat.reduceLT, Nat.reduceLeDiff, Int.reduceLE, Int.reduceLT, Nat.reduceEqDiff, Nat.reduceSub, SB, SV.known, packR, ne_eq, reduceCtorEq, Nat.reduceEqDiff, ↓reduceIte, if_true, if_false, eq_self, Nat.reduceAdd, Nat.reduceMul, Nat.reduceSub, forall_const, oneCellS, litOne, flat1, Kd.isSca, flat, TYB]
      refine ⟨by omega, good_use ((hd3.pushI hlt (L := List.replicate 2 0) (e := 44)).putI hlt (L := [x, y]) (e := 44) (k0 := n3) (by omega) (by omega)) hlt hQ hv fun cg jg H4 hjg hd4 hf4 hg4 => ?_⟩
      have hr4 := hf4.use (by omega) (by omega) (show hget _ n = some (.ints Q 27) by rw [hget_cons, if_neg (by omega), hget_cons, if_neg (by omega)]; exact hr3)
      have ho4 := hf4.use (by omega) (by omega) (show hget _ b = some (.ints M 44) by rw [hget_cons, if_neg (by omega), hget_cons, if_neg (by omega)]; exact ho3)
      have hp4 := hf4.use (by omega) (by omega) (show hget _ n3 = some (.ints [x, y] 44) by simp [hget_cons])
      have e2 : (b = n3 + 1 + 1) = False := by simp; omega
      have e3 : (n = n3 + 1 + 1) = False := by simp; omega
      have e9 : (b = n3) = False := by simp; omega
      have e8 : (n = n3 + 4) = False := by simp; omega
      have e4 : (n = n3 + 3) = False := by simp; omega
      have e5 : (n = b) = False := by simp; omega
      have e6 : (n3 = b) = False := by simp; omega
      have e7 : (b = n3 + 2) = False := by simp; omega
      clear hf4 hf3 ho3 hr3
      simp -implicitDefEqProofs only [lk_normal, ZB, Int.reduceToNat, Nat.reduceLT, Nat.reduceLeDiff, Int.reduceLE, Int.reduceLT, Nat.reduceEqDiff, Nat.reduceSub, SB, SV.known, packR, ne_eq, reduceCtorEq, Nat.reduceEqDiff, ↓reduceIte, if_true, if_false, eq_self, Nat.reduceAdd, Nat.reduceMul, Nat.reduceSub, forall_const, oneCellS, litOne, flat1, Kd.isSca, flat, TYB]
      refine ⟨fun hg => ?_, fun hg => ?_⟩
      · refine one_use hd4 hlt hm (by omega) fun o H5 hd5 hf5 => ?_
        have hr5 := hf5.use (by omega) (by omega) hr4
        have ho5 := hf5.use (by omega) (by omega) ho4
        have hp5 := hf5.use (by omega) (by omega) hp4
        have hg5 := hf5.use (by omega) (by omega) hg4
        have gl : 2 ≤ (gdL Q).length := by omega
        have gA : 2 ≤ (gdL Q ++ jg).length := by rw [List.length_append]; omega
        have gT : (gdL Q ++ jg).take 2 = [(gdL Q ++ jg).getD 0 0, (gdL Q ++ jg).getD 1 0] := by
          have := take2_drop (gdL Q ++ jg) 0 (by omega)
          simpa using this
        cases o
        · simp -implicitDefEqProofs only [lk_normal, hg5, hp5, hg, gA, gT, ZB, Int.reduceToNat, Nat.reduceLT, Nat.reduceLeDiff, Int.reduceLE, Int.reduceLT, Nat.reduceEqDiff, Nat.reduceSub, SB, SV.known, packR, ne_eq, reduceCtorEq, Nat.reduceEqDiff, ↓reduceIte, if_true, if_false, eq_self, Nat.reduceAdd, Nat.reduceMul, Nat.reduceSub, forall_const, oneCellS, litOne, flat1, Kd.isSca, flat, TYB]
          refine ⟨by omega, ?_⟩
          have hd6 := hd5.putI hlt (L := [(gdL Q ++ jg).getD 0 0, (gdL Q ++ jg).getD 1 0]) (e := 44) (k0 := n3) (by omega) (by omega)
          have hr6 : hget ((n3, .ints [(gdL Q ++ jg).getD 0 0, (gdL Q ++ jg).getD 1 0] 44) :: H5) n = some (.ints Q 27) := by rw [hget_cons, if_neg (by omega)]; exact hr5
          have ho6 : hget ((n3, .ints [(gdL Q ++ jg).getD 0 0, (gdL Q ++ jg).getD 1 0] 44) :: H5) b = some (.ints M 44) := by rw [hget_cons, if_neg (by omega)]; exact ho5
          have hp6 : hget ((n3, .ints [(gdL Q ++ jg).getD 0 0, (gdL Q ++ jg).getD 1 0] 44) :: H5) n3 = some (.ints [(gdL Q ++ jg).getD 0 0, (gdL Q ++ jg).getD 1 0] 44) := by simp [hget_cons]
          cases hcp : cppB Q ((gdL Q ++ jg).getD 0 0) ((gdL Q ++ jg).getD 1 0)
          · simp -implicitDefEqProofs only [lk_normal, l2Rack_F, l6Can_F, l2Pour_F, hr5, ho5, hp5, e1, e9, hcp, eN, e2, e3, e4, e5, e6, e7, hQ, tkQ, hv, hml, hlc, Nat.add_assoc, add_self, self_add, add_add, List.getD_cons_zero, List.getD_cons_succ, ZB, Int.reduceToNat, Nat.reduceLT, Nat.reduceLeDiff, Int.reduceLE, Int.reduceLT, Nat.reduceEqDiff, Nat.reduceSub, SB, SV.known, packR, ne_eq, reduceCtorEq, Nat.reduceEqDiff, ↓reduceIte, if_true, if_false, eq_self, Nat.reduceAdd, Nat.reduceMul, Nat.reduceSub, forall_const, oneCellS, litOne, flat1, Kd.isSca, flat, TYB]
            refine ⟨by omega, by omega, by omega, fun jp cp hjp => ?_⟩
            have hS6 : PtS c kc a n H (n3 + 3) (len + 1) cp (M.take (len * 2) ++ [(gdL Q ++ jg).getD 0 0, (gdL Q ++ jg).getD 1 0] ++ jp) Q (2 + 110 * (61 - N)) ((n3 + 3, .ints (M.take (len * 2) ++ [(gdL Q ++ jg).getD 0 0, (gdL Q ++ jg).getD 1 0] ++ jp) 44) :: (b, .dead) :: (n3 + 2, .ints [(gdL Q ++ jg).getD 0 0, (gdL Q ++ jg).getD 1 0] 44) :: (n3, .ints [(gdL Q ++ jg).getD 0 0, (gdL Q ++ jg).getD 1 0] 44) :: H5) (n3 + 4) :=
              ⟨((((hd6.pushI hlt).put hlt (k0 := b) .dead (by omega) (by omega) (Nat.le_refl _) trivial).pushI hlt).more (by omega)), by omega, by simp [hget_cons], by simp; omega, by omega, by rw [hget_cons, if_neg (by omega), hget_cons, if_neg (by omega), hget_cons, if_neg (by omega)]; exact hr6, hQ, hv⟩
            have hle6 := hS6.d.le
            exact ⟨by unfold In64; omega, ((N, n3 + 3, len + 1, cp, _, Q), _, n3 + 4), ⟨⟨by show N ≤ 61; omega, by show N + (len + 1) ≤ 61; omega⟩, hS6⟩, by show N < N + 1; omega, Sub.same (by simp only [LB, subS, subH, wfS, wfH, SV.ren, renL, SObj.ren, SV.wf, SObj.wf, wfL, SV.known, Nat.reduceEqDiff, ↓reduceIte, if_true, if_false, eq_self, Nat.reduceAdd, Nat.reduceLT, Nat.reduceLeDiff, implies_true, reduceCtorEq, forall_const]; try rfl) (by simp [subS, subH, wfS, wfH, SV.ren, renL, SObj.ren, SV.wf, SObj.wf, wfL, sget_cons, hget_cons] <;> omega) hS6.d.wf hle6⟩
          · obtain ⟨c1, c2, c3⟩ := cppB_facts hcp
            have pl := pourF_len hQ ((gdL Q ++ jg).getD 0 0).toNat ((gdL Q ++ jg).getD 1 0).toNat
            have pr := pour_rack hQ hv c1 c2 c3
            have tkp : (pourF Q ((gdL Q ++ jg).getD 0 0).toNat ((gdL Q ++ jg).getD 1 0).toNat).take 24 = pourF Q ((gdL Q ++ jg).getD 0 0).toNat ((gdL Q ++ jg).getD 1 0).toNat := List.take_of_length_le (by omega)
            have dQ : Q.drop 24 = [] := List.drop_eq_nil_of_le (by omega)
            simp -implicitDefEqProofs only [lk_normal, l2Rack_F, l6Can_F, l2Pour_F, hr5, ho5, hp5, e1, e9, hcp, c1, c2, c3, pl, pr, tkp, dQ, eN, e2, e3, e4, e5, e6, e7, e8, hQ, tkQ, hv, hml, hlc, Nat.add_assoc, add_self, self_add, add_add, List.getD_cons_zero, List.getD_cons_succ, ZB, Int.reduceToNat, Nat.reduceLT, Nat.reduceLeDiff, Int.reduceLE, Int.reduceLT, Nat.reduceEqDiff, Nat.reduceSub, SB, SV.known, packR, ne_eq, reduceCtorEq, Nat.reduceEqDiff, ↓reduceIte, if_true, if_false, eq_self, Nat.reduceAdd, Nat.reduceMul, Nat.reduceSub, forall_const, oneCellS, litOne, flat1, Kd.isSca, flat, TYB]
            refine ⟨by omega, by omega, by omega, fun jp cp hjp => ⟨by omega, by omega, ?_⟩⟩
            have hS6 : PtS c kc a n H (n3 + 3) (len + 1) cp (M.take (len * 2) ++ [(gdL Q ++ jg).getD 0 0, (gdL Q ++ jg).getD 1 0] ++ jp) (pourF Q ((gdL Q ++ jg).getD 0 0).toNat ((gdL Q ++ jg).getD 1 0).toNat) (2 + 110 * (61 - N)) ((n, .ints (pourF Q ((gdL Q ++ jg).getD 0 0).toNat ((gdL Q ++ jg).getD 1 0).toNat) 27) :: (n3 + 4, .ints (pourF Q ((gdL Q ++ jg).getD 0 0).toNat ((gdL Q ++ jg).getD 1 0).toNat) 27) :: (n3 + 4, .ints (List.replicate 24 0) 27) :: (n3 + 3, .ints (M.take (len * 2) ++ [(gdL Q ++ jg).getD 0 0, (gdL Q ++ jg).getD 1 0] ++ jp) 44) :: (b, .dead) :: (n3 + 2, .ints [(gdL Q ++ jg).getD 0 0, (gdL Q ++ jg).getD 1 0] 44) :: (n3, .ints [(gdL Q ++ jg).getD 0 0, (gdL Q ++ jg).getD 1 0] 44) :: H5) (n3 + 5) :=
              ⟨(((((((hd6.pushI hlt).put hlt (k0 := b) .dead (by omega) (by omega) (Nat.le_refl _) trivial).pushI hlt).pushI hlt).putI hlt (by omega) (by omega)).putI hlt (by omega) (by omega)).more (by omega)), by omega, by rw [hget_cons, if_neg (by omega), hget_cons, if_neg (by omega), hget_cons, if_neg (by omega)]; simp [hget_cons], by simp; omega, by omega, by simp [hget_cons], pl, pr⟩
            have hle6 := hS6.d.le
            exact ⟨by unfold In64; omega, ((N, n3 + 3, len + 1, cp, _, pourF Q ((gdL Q ++ jg).getD 0 0).toNat ((gdL Q ++ jg).getD 1 0).toNat), _, n3 + 5), ⟨⟨by show N ≤ 61; omega, by show N + (len + 1) ≤ 61; omega⟩, hS6⟩, by show N < N + 1; omega, Sub.same (by simp only [LB, subS, subH, wfS, wfH, SV.ren, renL, SObj.ren, SV.wf, SObj.wf, wfL, SV.known, Nat.reduceEqDiff, ↓reduceIte, if_true, if_false, eq_self, Nat.reduceAdd, Nat.reduceLT, Nat.reduceLeDiff, implies_true, reduceCtorEq, forall_const]; try rfl) (by simp [subS, subH, wfS, wfH, SV.ren, renL, SObj.ren, SV.wf, SObj.wf, wfL, sget_cons, hget_cons] <;> omega) hS6.d.wf hle6⟩
        · skip
          cases hcp : cppB Q (x) (y)
          · simp -implicitDefEqProofs only [lk_normal, l2Rack_F, l6Can_F, l2Pour_F, hr5, ho5, hp5, hcp, eN, e2, e3, e4, e5, e6, e7, hQ, tkQ, hv, hml, hlc, Nat.add_assoc, add_self, self_add, add_add, List.getD_cons_zero, List.getD_cons_succ, ZB, Int.reduceToNat, Nat.reduceLT, Nat.reduceLeDiff, Int.reduceLE, Int.reduceLT, Nat.reduceEqDiff, Nat.reduceSub, SB, SV.known, packR, ne_eq, reduceCtorEq, Nat.reduceEqDiff, ↓reduceIte, if_true, if_false, eq_self, Nat.reduceAdd, Nat.reduceMul, Nat.reduceSub, forall_const, oneCellS, litOne, flat1, Kd.isSca, flat, TYB]
            refine ⟨by omega, by omega, by omega, fun jp cp hjp => ?_⟩
            have hS6 : PtS c kc a n H (n3 + 3) (len + 1) cp (M.take (len * 2) ++ [x, y] ++ jp) Q (2 + 110 * (61 - N)) ((n3 + 3, .ints (M.take (len * 2) ++ [x, y] ++ jp) 44) :: (b, .dead) :: (n3 + 2, .ints [x, y] 44) :: H5) (n3 + 4) :=
              ⟨((((hd5.pushI hlt).put hlt (k0 := b) .dead (by omega) (by omega) (Nat.le_refl _) trivial).pushI hlt).more (by omega)), by omega, by simp [hget_cons], by simp; omega, by omega, by rw [hget_cons, if_neg (by omega), hget_cons, if_neg (by omega), hget_cons, if_neg (by omega)]; exact hr5, hQ, hv⟩
            have hle6 := hS6.d.le
            exact ⟨by unfold In64; omega, ((N, n3 + 3, len + 1, cp, _, Q), _, n3 + 4), ⟨⟨by show N ≤ 61; omega, by show N + (len + 1) ≤ 61; omega⟩, hS6⟩, by show N < N + 1; omega, Sub.same (by simp only [LB, subS, subH, wfS, wfH, SV.ren, renL, SObj.ren, SV.wf, SObj.wf, wfL, SV.known, Nat.reduceEqDiff, ↓reduceIte, if_true, if_false, eq_self, Nat.reduceAdd, Nat.reduceLT, Nat.reduceLeDiff, implies_true, reduceCtorEq, forall_const]; try rfl) (by simp [subS, subH, wfS, wfH, SV.ren, renL, SObj.ren, SV.wf, SObj.wf, wfL, sget_cons, hget_cons] <;> omega) hS6.d.wf hle6⟩
          · obtain ⟨c1, c2, c3⟩ := cppB_facts hcp
            have pl := pourF_len hQ (x).toNat (y).toNat
            have pr := pour_rack hQ hv c1 c2 c3
            have tkp : (pourF Q (x).toNat (y).toNat).take 24 = pourF Q (x).toNat (y).toNat := List.take_of_length_le (by omega)
            have dQ : Q.drop 24 = [] := List.drop_eq_nil_of_le (by omega)
            simp -implicitDefEqProofs only [lk_normal, l2Rack_F, l6Can_F, l2Pour_F, hr5, ho5, hp5, hcp, c1, c2, c3, pl, pr, tkp, dQ, eN, e2, e3, e4, e5, e6, e7, e8, hQ, tkQ, hv, hml, hlc, Nat.add_assoc, add_self, self_add, add_add, List.getD_cons_zero, List.getD_cons_succ, ZB, Int.reduceToNat, Nat.reduceLT, Nat.reduceLeDiff, Int.reduceLE, Int.reduceLT, Nat.reduceEqDiff, Nat.reduceSub, SB, SV.known, packR, ne_eq, reduceCtorEq, Nat.reduceEqDiff, ↓reduceIte, if_true, if_false, eq_self, Nat.reduceAdd, Nat.reduceMul, Nat.reduceSub, forall_const, oneCellS, litOne, flat1, Kd.isSca, flat, TYB]
            refine ⟨by omega, by omega, by omega, fun jp cp hjp => ⟨by omega, by omega, ?_⟩⟩
            have hS6 : PtS c kc a n H (n3 + 3) (len + 1) cp (M.take (len * 2) ++ [x, y] ++ jp) (pourF Q (x).toNat (y).toNat) (2 + 110 * (61 - N)) ((n, .ints (pourF Q (x).toNat (y).toNat) 27) :: (n3 + 4, .ints (pourF Q (x).toNat (y).toNat) 27) :: (n3 + 4, .ints (List.replicate 24 0) 27) :: (n3 + 3, .ints (M.take (len * 2) ++ [x, y] ++ jp) 44) :: (b, .dead) :: (n3 + 2, .ints [x, y] 44) :: H5) (n3 + 5) :=
              ⟨(((((((hd5.pushI hlt).put hlt (k0 := b) .dead (by omega) (by omega) (Nat.le_refl _) trivial).pushI hlt).pushI hlt).putI hlt (by omega) (by omega)).putI hlt (by omega) (by omega)).more (by omega)), by omega, by rw [hget_cons, if_neg (by omega), hget_cons, if_neg (by omega), hget_cons, if_neg (by omega)]; simp [hget_cons], by simp; omega, by omega, by simp [hget_cons], pl, pr⟩
            have hle6 := hS6.d.le
            exact ⟨by unfold In64; omega, ((N, n3 + 3, len + 1, cp, _, pourF Q (x).toNat (y).toNat), _, n3 + 5), ⟨⟨by show N ≤ 61; omega, by show N + (len + 1) ≤ 61; omega⟩, hS6⟩, by show N < N + 1; omega, Sub.same (by simp only [LB, subS, subH, wfS, wfH, SV.ren, renL, SObj.ren, SV.wf, SObj.wf, wfL, SV.known, Nat.reduceEqDiff, ↓reduceIte, if_true, if_false, eq_self, Nat.reduceAdd, Nat.reduceLT, Nat.reduceLeDiff, implies_true, reduceCtorEq, forall_const]; try rfl) (by simp [subS, subH, wfS, wfH, SV.ren, renL, SObj.ren, SV.wf, SObj.wf, wfL, sget_cons, hget_cons] <;> omega) hS6.d.wf hle6⟩
      · skip
        cases hcp : cppB Q (x) (y)
        · simp -implicitDefEqProofs only [lk_normal, l2Rack_F, l6Can_F, l2Pour_F, hr4, ho4, hp4, hcp, eN, e2, e3, e4, e5, e6, e7, hQ, tkQ, hv, hml, hlc, Nat.add_assoc, add_self, self_add, add_add, List.getD_cons_zero, List.getD_cons_succ, ZB, Int.reduceToNat, Nat.reduceLT, Nat.reduceLeDiff, Int.reduceLE, Int.reduceLT, Nat.reduceEqDiff, Nat.reduceSub, SB, SV.known, packR, ne_eq, reduceCtorEq, Nat.reduceEqDiff, ↓reduceIte, if_true, if_false, eq_self, Nat.reduceAdd, Nat.reduceMul, Nat.reduceSub, forall_const, oneCellS, litOne, flat1, Kd.isSca, flat, TYB]
          refine ⟨by omega, by omega, by omega, fun jp cp hjp => ?_⟩
          have hS6 : PtS c kc a n H (n3 + 3) (len + 1) cp (M.take (len * 2) ++ [x, y] ++ jp) Q (2 + 110 * (61 - N)) ((n3 + 3, .ints (M.take (len * 2) ++ [x, y] ++ jp) 44) :: (b, .dead) :: (n3 + 2, .ints [x, y] 44) :: H4) (n3 + 4) :=
            ⟨((((hd4.pushI hlt).put hlt (k0 := b) .dead (by omega) (by omega) (Nat.le_refl _) trivial).pushI hlt).more (by omega)), by omega, by simp [hget_cons], by simp; omega, by omega, by rw [hget_cons, if_neg (by omega), hget_cons, if_neg (by omega), hget_cons, if_neg (by omega)]; exact hr4, hQ, hv⟩
          have hle6 := hS6.d.le
          exact ⟨by unfold In64; omega, ((N, n3 + 3, len + 1, cp, _, Q), _, n3 + 4), ⟨⟨by show N ≤ 61; omega, by show N + (len + 1) ≤ 61; omega⟩, hS6⟩, by show N < N + 1; omega, Sub.same (by simp only [LB, subS, subH, wfS, wfH, SV.ren, renL, SObj.ren, SV.wf, SObj.wf, wfL, SV.known, Nat.reduceEqDiff, ↓reduceIte, if_true, if_false, eq_self, Nat.reduceAdd, Nat.reduceLT, Nat.reduceLeDiff, implies_true, reduceCtorEq, forall_const]; try rfl) (by simp [subS, subH, wfS, wfH, SV.ren, renL, SObj.ren, SV.wf, SObj.wf, wfL, sget_cons, hget_cons] <;> omega) hS6.d.wf hle6⟩
        · obtain ⟨c1, c2, c3⟩ := cppB_facts hcp
          have pl := pourF_len hQ (x).toNat (y).toNat
          have pr := pour_rack hQ hv c1 c2 c3
          have tkp : (pourF Q (x).toNat (y).toNat).take 24 = pourF Q (x).toNat (y).toNat := List.take_of_length_le (by omega)
          have dQ : Q.drop 24 = [] := List.drop_eq_nil_of_le (by omega)
          simp -implicitDefEqProofs only [lk_normal, l2Rack_F, l6Can_F, l2Pour_F, hr4, ho4, hp4, hcp, c1, c2, c3, pl, pr, tkp, dQ, eN, e2, e3, e4, e5, e6, e7, e8, hQ, tkQ, hv, hml, hlc, Nat.add_assoc, add_self, self_add, add_add, List.getD_cons_zero, List.getD_cons_succ, ZB, Int.reduceToNat, Nat.reduceLT, Nat.reduceLeDiff, Int.reduceLE, Int.reduceLT, Nat.reduceEqDiff, Nat.reduceSub, SB, SV.known, packR, ne_eq, reduceCtorEq, Nat.reduceEqDiff, ↓reduceIte, if_true, if_false, eq_self, Nat.reduceAdd, Nat.reduceMul, Nat.reduceSub, forall_const, oneCellS, litOne, flat1, Kd.isSca, flat, TYB]
          refine ⟨by omega, by omega, by omega, fun jp cp hjp => ⟨by omega, by omega, ?_⟩⟩
          have hS6 : PtS c kc a n H (n3 + 3) (len + 1) cp (M.take (len * 2) ++ [x, y] ++ jp) (pourF Q (x).toNat (y).toNat) (2 + 110 * (61 - N)) ((n, .ints (pourF Q (x).toNat (y).toNat) 27) :: (n3 + 4, .ints (pourF Q (x).toNat (y).toNat) 27) :: (n3 + 4, .ints (List.replicate 24 0) 27) :: (n3 + 3, .ints (M.take (len * 2) ++ [x, y] ++ jp) 44) :: (b, .dead) :: (n3 + 2, .ints [x, y] 44) :: H4) (n3 + 5) :=
            ⟨(((((((hd4.pushI hlt).put hlt (k0 := b) .dead (by omega) (by omega) (Nat.le_refl _) trivial).pushI hlt).pushI hlt).putI hlt (by omega) (by omega)).putI hlt (by omega) (by omega)).more (by omega)), by omega, by rw [hget_cons, if_neg (by omega), hget_cons, if_neg (by omega), hget_cons, if_neg (by omega)]; simp [hget_cons], by simp; omega, by omega, by simp [hget_cons], pl, pr⟩
          have hle6 := hS6.d.le
          exact ⟨by unfold In64; omega, ((N, n3 + 3, len + 1, cp, _, pourF Q (x).toNat (y).toNat), _, n3 + 5), ⟨⟨by show N ≤ 61; omega, by show N + (len + 1) ≤ 61; omega⟩, hS6⟩, by show N < N + 1; omega, Sub.same (by simp only [LB, subS, subH, wfS, wfH, SV.ren, renL, SObj.ren, SV.wf, SObj.wf, wfL, SV.known, Nat.reduceEqDiff, ↓reduceIte, if_true, if_false, eq_self, Nat.reduceAdd, Nat.reduceLT, Nat.reduceLeDiff, implies_true, reduceCtorEq, forall_const]; try rfl) (by simp [subS, subH, wfS, wfH, SV.ren, renL, SObj.ren, SV.wf, SObj.wf, wfL, sget_cons, hget_cons] <;> omega) hS6.d.wf hle6⟩
    · have hNi : ¬ 0 < (N : Int) := by omega
      simp -implicitDefEqProofs only [lk_normal, hNi, ZB, Int.reduceToNat, Nat.reduceLT, Nat.reduceLeDiff, Int.reduceLE, Int.reduceLT, Nat.reduceEqDiff, Nat.reduceSub, SB, SV.known, packR, ne_eq, reduceCtorEq, Nat.reduceEqDiff, ↓reduceIte, if_true, if_false, eq_self, Nat.reduceAdd, Nat.reduceMul, Nat.reduceSub, forall_const, oneCellS, litOne, flat1, Kd.isSca, flat, TYB]
      exact ⟨b, len, cap, M, rfl, by omega, hq.2, hS.o, by omega, by omega, hS.d.more (by omega)⟩
def path_F : List SV → Heap → Nat → Nat → K1 → Prop
  | [.ptr c 0, .arr R], H, n, m, κ => (R.length = 24 ∧ rackB R = true) ∧ ∃ kc a, CurH c kc a H ∧ m ≤ c ∧ m ≤ n ∧ a ≤ 900000 ∧ ∀ (b len cap : Nat) (M : List Int) H' n', n ≤ b → b < n' → hget H' b = some (.ints M 44) → len * 2 ≤ M.length → len ≤ 61 → Drawn c kc a 20000 n H H' n' → κ (.slice b 0 len cap) H' n'
  | _, _, _, _, _ => False
theorem path_T : ∀ args H n m κ, path_F args H n m κ → GenOK Try.prog 78 args H n m κ := by
  intro args H n m κ h
  unfold path_F at h
  split at h
  · rename_i c R
    obtain ⟨hR, kc, a, hC, hm, hmn, ha, h1⟩ := h
    exact gen_direct (X := ⟨Try.prog, tys, [(72, l2Rack_F), (81, l6Can_F), (74, l2Pour_F)], [(92, one_F), (119, among_F), (90, dpour_F), (73, l6Good_F)], true, true, m, [92, 119, 90], []⟩) fnx_path ⟨tys_ok, .cons l2Rack_T (.cons l6Can_T (.cons l2Pour_T .nil)), .cons one_T (.cons among_T (.cons dpour_T (.cons l6Good_T .nil))), mixed⟩ rfl (Nat.le_of_ble_eq_true rfl) (fun hwH hwa => path_vc c kc a m n H R hR.1 hR.2 hC hm hmn ha hwH) fun hwH v H' n' hψ h3 h4 h5 => by
      obtain ⟨b, len, cap, M, rfl, g1, g2, g3, g4, g5, g6⟩ := hψ
      exact h1 b len cap M H' n' g1 g2 g3 g4 g5 g6
  · exact h.elim
theorem path_use {c kc a k n0 n m : Nat} {H0 H : Heap} {κ : K1} (h : Drawn c kc a k n0 H0 H n) (hc : c < n0 ∧ kc < n0 ∧ kc ≠ c) (hm : m ≤ c) (hmn : m ≤ n) (ha : a + k ≤ 900000) {R : List Int} (hR : R.length = 24) (hr : rackB R = true)
    (hκ : ∀ (b len cap : Nat) (M : List Int) H' n', n ≤ b → b < n' → hget H' b = some (.ints M 44) → len * 2 ≤ M.length → len ≤ 61 → Drawn c kc a (k + 20000) n0 H0 H' n' → n ≤ n' → Fr n0 n H H' → κ (.slice b 0 len cap) H' n') : path_F [.ptr c 0, .arr R] H n m κ := by
  obtain ⟨b', g1, g2, g3⟩ := h.cur
  exact ⟨⟨hR, hr⟩, kc, b', g3, hm, hmn, by omega, fun b len cap M H' n' h1 h2 h3 h4 h5 hd => hκ b len cap M H' n' h1 h2 h3 h4 h5 (h.trans hd g2 g1) hd.le (hd.own hc.1)⟩
structure PthR (H : Heap) (n : Nat) (p : Nat × Nat × Nat × List Int × Heap × Nat) : Prop where
  b : n + 2 ≤ p.1 ∧ p.1 < p.2.2.2.2.2
  o : hget p.2.2.2.2.1 p.1 = some (.ints p.2.2.2.1 44)
  l : p.2.1 * 2 ≤ p.2.2.2.1.length ∧ p.2.1 ≤ 61
  w : hwf p.2.2.2.2.2 p.2.2.2.2.1
  f : ∀ i o, i < n → hget H i = some o → hget p.2.2.2.2.1 i = some o
  z : hget p.2.2.2.2.1 n = some (.ints (List.replicate 24 0) 27)
theorem fnx_DrawIsGoodPath : FnOK Try.prog 15 Try.f15 (Try.f15.body.getD .skip) [77, 78] [(5, .tree (.one 1 (.one 2 (.alt 0 (.one 3 (.one 4 (.one 5 .done))) (.alt 3 (.one 0 (.one 4 (.one 5 .done))) .stop)))))] := ⟨Try.func15, rfl, by kernel_rfl, by kernel_rfl⟩
theorem DrawIsGoodPath_vc (cv : SV) (m n : Nat) (H : Heap) (hB : BytA cv H) (hmn : m ≤ n) (hwH : hwf n H) :
    codeVC (⟨Try.prog, tys, [(72, l2Rack_F)], [(77, rack_F), (78, path_F)], true, true, m, [77, 78], [(5, .tree (.one 1 (.one 2 (.alt 0 (.one 3 (.one 4 (.one 5 .done))) (.alt 3 (.one 0 (.one 4 (.one 5 .done))) .stop)))))]⟩ : Cx) n (Try.f15.body.getD .skip) (argS 0 [cv]) H n
      (retK tys Try.f15.results.toList fun v H' n' => ∃ (R : List Int) (b len cap : Nat) (M : List Int), v = .tup [.arr R, .slice b 0 len cap] ∧ R.length = 24 ∧ (∀ z ∈ R, In64 z) ∧ n ≤ b ∧ b < n' ∧ hget H' b = some (.ints M 44) ∧ len * 2 ≤ M.length ∧ len ≤ 61 ∧ Kpt n H H' n') := by
  have hB' := hB
  rcases hB with rfl | ⟨kc0, off0, len0, cap0, L0, rfl, hh0⟩
  all_goals
    simp -implicitDefEqProofs only [Try.f15, Option.getD_some, argS, Nat.add_assoc, add_self, self_add, add_add, ZB, Int.reduceToNat, Nat.reduceLT, Nat.reduceLeDiff, Int.reduceLE, Int.reduceLT, Nat.reduceEqDiff, Nat.reduceSub, SB, SV.known, packR, ne_eq, reduceCtorEq, Nat.reduceEqDiff, ↓reduceIte, if_true, if_false, eq_self, Nat.reduceAdd, Nat.reduceMul, Nat.reduceSub, forall_const, oneCellS, litOne, flat1, Kd.isSca, flat, TYB]
    obtain ⟨kc, hlt, d0⟩ := cur_new (hB'.put hwH (Nat.le_refl n) (.ints (List.replicate 24 0) 27)) (hwf_cons (hwf_mono (by omega) hwH) (Nat.lt_succ_self n) trivial) (Nat.lt_succ_self n) ⟨_, by simp [hget_cons]; rfl⟩
    refine rack_use d0 hlt (by omega) (by omega) (by omega) fun R H1 n1 hR hRi hd1 hle1 hf1 => ?_
    have hz1 := hd1.fr n _ (by omega) (by omega) (show hget _ n = some (.ints (List.replicate 24 0) 27) by simp [hget_cons])
    have tkR : R.take 24 = R := List.take_of_length_le (by omega)
    have hd2 := (hd1.pushI hlt (L := List.replicate 24 0) (e := 27)).putI hlt (L := R) (e := 27) (k0 := n1) (by omega) (by omega)
    have e1 : (n = n1) = False := by simp; omega
    have hR2 : hget ((n1, .ints R 27) :: (n1, .ints (List.replicate 24 0) 27) :: H1) n1 = some (.ints R 27) := by simp [hget_cons]
    have hz2 : hget ((n1, .ints R 27) :: (n1, .ints (List.replicate 24 0) 27) :: H1) n = some (.ints (List.replicate 24 0) 27) := by rw [hget_cons, if_neg (by omega), hget_cons, if_neg (by omega)]; exact hz1
    cases hr : rackB R
    · have e4 : (n = n1 + 1) = False := by simp; omega
      have e5 : (n1 + 1 = n) = False := by simp; omega
      have hd3 := (hd2.pushI hlt (L := [0, 1]) (e := 44))
      simp -implicitDefEqProofs only [l2Rack_F, hz1, hR, tkR, hr, e1, e4, e5, Nat.add_assoc, add_self, self_add, add_add, ZB, Int.reduceToNat, Nat.reduceLT, Nat.reduceLeDiff, Int.reduceLE, Int.reduceLT, Nat.reduceEqDiff, Nat.reduceSub, SB, SV.known, packR, ne_eq, reduceCtorEq, Nat.reduceEqDiff, ↓reduceIte, if_true, if_false, eq_self, Nat.reduceAdd, Nat.reduceMul, Nat.reduceSub, forall_const, oneCellS, litOne, flat1, Kd.isSca, flat, TYB]
      exact ⟨by omega, hmn, R, n1 + 1, 1, 1, [0, 1], ⟨rfl, rfl⟩, hR, hRi, by omega, by omega, by simp [hget_cons, e5], by simp, by omega, by omega, hwf_cons hd3.wf (by omega) trivial, fun i o hi ho => by
        rw [hget_cons, if_neg (by omega)]
        exact hd3.fr i o (by omega) (by omega) (by rw [hget_cons, if_neg (by omega), hget_cons, if_neg (by omega)]; exact ho)⟩
    · simp -implicitDefEqProofs only [l2Rack_F, hz1, hR, tkR, hr, e1, Nat.add_assoc, add_self, self_add, add_add, ZB, Int.reduceToNat, Nat.reduceLT, Nat.reduceLeDiff, Int.reduceLE, Int.reduceLT, Nat.reduceEqDiff, Nat.reduceSub, SB, SV.known, packR, ne_eq, reduceCtorEq, Nat.reduceEqDiff, ↓reduceIte, if_true, if_false, eq_self, Nat.reduceAdd, Nat.reduceMul, Nat.reduceSub, forall_const, oneCellS, litOne, flat1, Kd.isSca, flat, TYB]
      refine ⟨by omega, { p : Nat × Nat × Nat × List Int × Heap × Nat // PthR H n p }, fun i => [(3, .slice i.1.1 0 i.1.2.1 i.1.2.2.1), (2, .ptr n 0)], fun i => (n, .ints R 27) :: i.1.2.2.2.2.1, fun i => i.1.2.2.2.2.2, ?_, fun i => ?_⟩
      · simp -implicitDefEqProofs only [hz1, hR, tkR, hr, e1, Nat.add_assoc, add_self, self_add, add_add, ZB, Int.reduceToNat, Nat.reduceLT, Nat.reduceLeDiff, Int.reduceLE, Int.reduceLT, Nat.reduceEqDiff, Nat.reduceSub, SB, SV.known, packR, ne_eq, reduceCtorEq, Nat.reduceEqDiff, ↓reduceIte, if_true, if_false, eq_self, Nat.reduceAdd, Nat.reduceMul, Nat.reduceSub, forall_const, oneCellS, litOne, flat1, Kd.isSca, flat, TYB]
        refine ⟨path_use hd2 hlt (by omega) (by omega) (by omega) hR hr fun b len cap M H2 n2 q1 q2 q3 q4 q5 hd5 hle5 hf5 => ?_, path_use hd2 hlt (by omega) (by omega) (by omega) hR hr fun b len cap M H2 n2 q1 q2 q3 q4 q5 hd5 hle5 hf5 => ?_⟩
        all_goals
          have hR5 := hf5.use (by omega) (by omega) hR2
          have hz5 := hd5.fr n _ (by omega) (by omega) (show hget _ n = some (.ints (List.replicate 24 0) 27) by simp [hget_cons])
          have e6 : (n1 = n) = False := by simp; omega
          simp -implicitDefEqProofs only [hR5, hz5, hR, tkR, e1, e6, Nat.add_assoc, add_self, self_add, add_add, ZB, Int.reduceToNat, Nat.reduceLT, Nat.reduceLeDiff, Int.reduceLE, Int.reduceLT, Nat.reduceEqDiff, Nat.reduceSub, SB, SV.known, packR, ne_eq, reduceCtorEq, Nat.reduceEqDiff, ↓reduceIte, if_true, if_false, eq_self, Nat.reduceAdd, Nat.reduceMul, Nat.reduceSub, forall_const, oneCellS, litOne, flat1, Kd.isSca, flat, TYB]
          have hP : PthR H n (b, len, cap, M, H2, n2) := ⟨⟨by show n + 2 ≤ b; omega, q2⟩, q3, ⟨q4, q5⟩, hd5.wf, (fun i o hi ho => hd5.fr i o (by omega) (by omega) (by rw [hget_cons, if_neg (by omega), hget_cons, if_neg (by omega)]; exact ho)), hz5⟩
          exact ⟨hmn, ⟨_, hP⟩, Sub.same (by simp only [LB, subS, subH, wfS, wfH, SV.ren, renL, SObj.ren, SV.wf, SObj.wf, wfL, SV.known, Nat.reduceEqDiff, ↓reduceIte, if_true, if_false, eq_self, Nat.reduceAdd, Nat.reduceLT, Nat.reduceLeDiff, implies_true, reduceCtorEq, forall_const]; try rfl) (by simp [subS, subH, wfS, wfH, SV.ren, renL, SObj.ren, SV.wf, SObj.wf, wfL, sget_cons, hget_cons] <;> omega) (hwf_cons hd5.wf (show n < n2 by omega) trivial) (show n ≤ n2 by omega)⟩
      · obtain ⟨⟨b, len, cap, M, H2, n2⟩, hP⟩ := i
        obtain ⟨h1, h2, h3, h4, h5, h6⟩ := hP
        simp only at h1 h2 h3 h4 h5 h6
        have e6 : hget ((n, SObj.ints R 27) :: H2) b = hget H2 b := by rw [hget_cons, if_neg (by omega)]
        simp -implicitDefEqProofs only [lk_normal, hR, tkR, ZB, Int.reduceToNat, Nat.reduceLT, Nat.reduceLeDiff, Int.reduceLE, Int.reduceLT, Nat.reduceEqDiff, Nat.reduceSub, SB, SV.known, packR, ne_eq, reduceCtorEq, Nat.reduceEqDiff, ↓reduceIte, if_true, if_false, eq_self, Nat.reduceAdd, Nat.reduceMul, Nat.reduceSub, forall_const, oneCellS, litOne, flat1, Kd.isSca, flat, TYB]
        exact ⟨R, b, len, cap, M, ⟨rfl, rfl⟩, hR, hRi, by omega, h1.2, by rw [if_neg (show ¬ b = n by omega)]; exact h2, h3.1, h3.2, by omega, hwf_cons h4 (by omega) trivial, fun i o hi ho => by
          rw [hget_cons, if_neg (by omega)]
          exact h5 i o hi ho⟩
--@tbl DrawIsGoodPath = spec.DrawIsGoodPath
/-- Any rack and a short list of pairs. -/
def DrawIsGoodPath_F : List SV → Heap → Nat → Nat → K1 → Prop
  | [cv], H, n, m, κ => BytA cv H ∧ m ≤ n ∧ ∀ (R : List Int) (b len cap : Nat) (M : List Int) H' n', R.length = 24 → (∀ z ∈ R, In64 z) → n ≤ b → b < n' → hget H' b = some (.ints M 44) → len * 2 ≤ M.length → len ≤ 61 → Kpt n H H' n' → κ (.tup [.arr R, .slice b 0 len cap]) H' n'
  | _, _, _, _, _ => False
theorem drawPath_use {cv : SV} {H : Heap} {n m : Nat} {κ : K1} (h1 : BytA cv H) (h2 : m ≤ n) (h3 : ∀ (R : List Int) (b len cap : Nat) (M : List Int) H' n', R.length = 24 → (∀ z ∈ R, In64 z) → n ≤ b → b < n' → hget H' b = some (.ints M 44) → len * 2 ≤ M.length → len ≤ 61 → Kpt n H H' n' → κ (.tup [.arr R, .slice b 0 len cap]) H' n') : DrawIsGoodPath_F [cv] H n m κ := ⟨h1, h2, h3⟩
theorem DrawIsGoodPath_T : ∀ args H n m κ, DrawIsGoodPath_F args H n m κ → GenOK Try.prog 15 args H n m κ := by
  intro args H n m κ h
  unfold DrawIsGoodPath_F at h
  split at h
  · rename_i cv
    obtain ⟨hB, hmn, h1⟩ := h
    exact gen_direct (X := ⟨Try.prog, tys, [(72, l2Rack_F)], [(77, rack_F), (78, path_F)], true, true, m, [77, 78], [(5, .tree (.one 1 (.one 2 (.alt 0 (.one 3 (.one 4 (.one 5 .done))) (.alt 3 (.one 0 (.one 4 (.one 5 .done))) .stop)))))]⟩) fnx_DrawIsGoodPath ⟨tys_ok, .cons l2Rack_T .nil, .cons rack_T (.cons path_T .nil), mixed⟩ rfl (Nat.le_of_ble_eq_true rfl) (fun hwH hwa => DrawIsGoodPath_vc cv m n H hB hmn hwH) fun hwH v H' n' hψ h3 h4 h5 => by
      obtain ⟨R, b, len, cap, M, rfl, g1, g2, g3, g4, g5, g6, g7, g8⟩ := hψ
      exact h1 R b len cap M H' n' g1 g2 g3 g4 g5 g6 g7 g8
  · exact h.elim
end Go.Proofs.Ytopfnkmlgcjpbaa
set_option maxRecDepth 100000
set_option linter.unusedSimpArgs false
set_option linter.unusedVariables false
namespace Go.Proofs.Ytopfnkmlgcjpbaa
open Go Go.RowKit
theorem firstN_all {p : Nat → Bool} {len : Nat} (h : firstN p len 0 = len) : ∀ q, q < len → p q = true := by
  intro q
  induction q using Nat.strongRecOn with
  | _ q ih =>
    intro hq
    cases hp : p q with
    | true => rfl
    | false =>
      have := firstN_at hq (fun k hk => ih k hk (by omega)) hp
      omega
theorem cppB_cpO {R : List Int} {x y : Int} (hr : rackB R = true) (h : cppB R x y = true) : cpO R x y = true ∧ canF R x y = true := by
  unfold cppB at h
  simp only [Bool.and_eq_true] at h
  refine ⟨?_, h.2⟩
  have h2 := h.2
  unfold canF at h2
  simp only [Bool.and_eq_true] at h2
  unfold cpO
  rw [hr, h.1.1, h.1.2, h2.1.1.1]; rfl
/-- A good pour lowers the bound by 1. -/
theorem good_one {R : List Int} (hR : R.length = 24) (hr : rackB R = true) {x y : Int} (h : cppB R x y = true) : goodF R [x, y] = decide (bndF (pourF R x.toNat y.toNat) = bndF R - 1) := by
  obtain ⟨ho, hc⟩ := cppB_cpO hr h
  have hb := (pour_bnd hR hr ho hc).2.2
  show decide (bndF (pourF R x.toNat y.toNat) < bndF R) = _
  by_cases hlt : bndF (pourF R x.toNat y.toNat) < bndF R
  · rw [decide_eq_true hlt]; exact (decide_eq_true (by omega)).symm
  · rw [decide_eq_false hlt]; exact (decide_eq_false (by omega)).symm
def fallB (A : List Int) (k : Nat) : Bool := (List.range k).all fun i => decide (A.getD (i + 1) 0 = A.getD i 0 - 1)
theorem fallB_zero (A : List Int) : fallB A 0 = true := rfl
theorem fallB_succ (A : List Int) (k : Nat) : fallB A (k + 1) = (fallB A k && decide (A.getD (k + 1) 0 = A.getD k 0 - 1)) := by simp [fallB, List.range_succ]
theorem alS_getD (R L : List Int) {n k : Nat} (h : k < n) : (alS R L n).getD k 0 = bndF (paR R L k) := by simp [alS, List.getD, h]
theorem all_congr' {p q : Nat → Bool} : ∀ n, (∀ k, k < n → p k = q k) → (List.range n).all p = (List.range n).all q
  | 0, _ => rfl
  | n + 1, h => by
    rw [List.range_succ, List.all_append, List.all_append, all_congr' n fun k hk => h k (by omega)]
    simp [h n (by omega)]
theorem path_falls {R L : List Int} (hR : R.length = 24) (hr : rackB R = true) (len : Nat) : igB R L len = (decide (alN R L len = len) && fallB (alS R L (alN R L len + 1)) (alN R L len)) := by
  by_cases h : alN R L len = len
  · rw [decide_eq_true h, Bool.true_and, h]
    have hall := firstN_all h
    unfold igB fallB
    refine all_congr' len fun k hk => ?_
    obtain ⟨g1, g2⟩ := paR_facts hR hr k fun i hi => hall i (by omega)
    rw [alS_getD R L (by omega), alS_getD R L (by omega), paR_succ]
    have hc := hall k hk
    unfold paG
    rw [hc, Bool.true_and]
    exact good_one g1 g2 hc
  · rw [decide_eq_false h, Bool.false_and]
    cases hb : igB R L len with
    | false => rfl
    | true =>
      unfold igB at hb
      rw [List.all_eq_true] at hb
      exact absurd (firstN_end fun q hq => paG_C (hb q (List.mem_range.2 hq))) h
/-- The path of first good pours. -/
theorem gp_path {R : List Int} (hR : R.length = 24) (hr : rackB R = true) : ∀ n, (∀ k, k < n → gdL (gpR R k) ≠ []) → bndF (gpR R n) = bndF R - n ∧ (gpL R n).length = n * 2 ∧ (∀ k, k < n → (gpL R n).getD (k * 2) 0 = (gdL (gpR R k)).getD 0 0 ∧ (gpL R n).getD (k * 2 + 1) 0 = (gdL (gpR R k)).getD 1 0)
  | 0, _ => ⟨by rw [gpR_zero]; omega, by rw [gpL_zero]; rfl, fun k hk => absurd hk (by omega)⟩
  | n + 1, h => by
    obtain ⟨h1, h2, h3⟩ := gp_path hR hr n fun k hk => h k (by omega)
    have hg := h n (by omega)
    obtain ⟨q1, q2⟩ := gpR_facts hR hr n
    obtain ⟨f1, f2, f3, f4, f5, f6⟩ := gd_first hg
    refine ⟨?_, by rw [gpL_next hg, List.length_append, h2]; simp; omega, fun k hk => ?_⟩
    · have hcp : cppB (gpR R n) ((gdL (gpR R n)).getD 0 0) ((gdL (gpR R n)).getD 1 0) = true := by
        unfold cppB plF
        rw [decide_eq_true f1, decide_eq_true f2, f3]; rfl
      have hgo := good_one q1 q2 hcp
      rw [f4] at hgo
      have := of_decide_eq_true hgo.symm
      rw [gpR_next hg, this, h1]; omega
    · rw [gpL_next hg]
      by_cases hkn : k = n
      · subst hkn
        rw [← h2]
        refine ⟨?_, ?_⟩
        · rw [show (gpL R k).length = (gpL R k).length + 0 by omega, getD_app_right]; rfl
        · rw [getD_app_right]; rfl
      · rw [getD_app _ _ _ (by omega), getD_app _ _ _ (by omega)]
        exact h3 k (by omega)
theorem gp_pa {R : List Int} {n : Nat} (h : ∀ k, k < n → gdL (gpR R k) ≠ []) (h3 : ∀ k, k < n → (gpL R n).getD (k * 2) 0 = (gdL (gpR R k)).getD 0 0 ∧ (gpL R n).getD (k * 2 + 1) 0 = (gdL (gpR R k)).getD 1 0) : ∀ k, k ≤ n → paR R (gpL R n) k = gpR R k
  | 0, _ => rfl
  | k + 1, hk => by
    rw [paR_succ, gp_pa h h3 k (by omega), (h3 k (by omega)).1, (h3 k (by omega)).2, gpR_next (h k (by omega))]
theorem gp_all {R : List Int} (hR : R.length = 24) (hr : rackB R = true) : ∃ n, n ≤ 54 ∧ gdL (gpR R n) = [] ∧ gpR R 100 = gpR R n ∧ gpL R 100 = gpL R n ∧ bndF R - bndF (gpR R n) = n ∧ (gpL R n).length = n * 2 ∧ igB R (gpL R n) n = true := by
  have b54 := (bnd_bd R hR).2.2.2.1
  have ex : ∃ n, gdL (gpR R n) = [] ∧ ∀ k, k < n → gdL (gpR R k) ≠ [] := by
    have key : ∀ m, (∃ n, n < m ∧ gdL (gpR R n) = [] ∧ ∀ k, k < n → gdL (gpR R k) ≠ []) ∨ ∀ k, k < m → gdL (gpR R k) ≠ [] := by
      intro m
      induction m with
      | zero => exact .inr fun k hk => absurd hk (by omega)
      | succ m ih =>
        rcases ih with ⟨n, h1, h2, h3⟩ | h
        · exact .inl ⟨n, by omega, h2, h3⟩
        · by_cases hg : gdL (gpR R m) = []
          · exact .inl ⟨m, by omega, hg, h⟩
          · refine .inr fun k hk => ?_
            by_cases hkm : k = m
            · subst hkm; exact hg
            · exact h k (by omega)
    rcases key 60 with ⟨n, _, h2, h3⟩ | h
    · exact ⟨n, h2, h3⟩
    · have h1 := (gp_path hR hr 60 h).1
      have := (bnd_bd (gpR R 60) (gpR_facts hR hr 60).1).2.2.1
      omega
  obtain ⟨n, hn, hk⟩ := ex
  obtain ⟨h1, h2, h3⟩ := gp_path hR hr n hk
  have b0 := (bnd_bd (gpR R n) (gpR_facts hR hr n).1).2.2.1
  have e := gp_end hn (by omega)
  refine ⟨n, by omega, hn, e.1, e.2, by omega, h2, igB_true fun i hi => ?_⟩
  obtain ⟨f1, f2, f3, f4, f5, f6⟩ := gd_first (hk i hi)
  unfold paG paC
  rw [gp_pa hk h3 i (by omega), (h3 i hi).1, (h3 i hi).2, f4, Bool.and_true]
  unfold cppB plF
  rw [decide_eq_true f1, decide_eq_true f2, f3]; rfl
/-! The pour that moves most. -/
theorem mostF_at (R P : List Int) : ∀ k, mostF R P k = (0, [0, 0]) ∨ ∃ i, i < k ∧ mostF R P k = (pmN R (P.getD (i * 2) 0).toNat (P.getD (i * 2 + 1) 0).toNat, [P.getD (i * 2) 0, P.getD (i * 2 + 1) 0])
  | 0 => .inl rfl
  | k + 1 => by
    rw [mostF_succ]
    unfold stepM
    split
    · exact .inr ⟨k, by omega, rfl⟩
    · rcases mostF_at R P k with h | ⟨i, hi, h⟩
      · exact .inl h
      · exact .inr ⟨i, by omega, h⟩
theorem most_pour {R : List Int} (h : 0 < mpN R) : pourB R ((mpL R).getD 0 0) ((mpL R).getD 1 0) = true ∧ pourM R ((mpL R).getD 0 0) ((mpL R).getD 1 0) = mpN R := by
  unfold mpN at h
  cases hr : rackB R with
  | false => rw [hr] at h; simp at h
  | true =>
    rw [if_pos hr] at h
    have e1 : mpN R = (mostF R (PL R 36) ((PL R 36).length / 2)).1 := by unfold mpN; rw [if_pos hr]
    have e2 : mpL R = (mostF R (PL R 36) ((PL R 36).length / 2)).2 := by unfold mpL; rw [if_pos hr]
    rcases mostF_at R (PL R 36) ((PL R 36).length / 2) with q | ⟨i, hi, q⟩
    · rw [q] at h; exact absurd h (by omega)
    · rw [e1, e2, q]
      obtain ⟨a, b, ha, hb, hc, he⟩ := GL_pair (fun i j => canF R i j) 36 (Nat.le_refl _) i (by rw [← PL_GL]; omega)
      rw [← PL_GL, take2_drop _ _ (by omega)] at he
      injection he with x1 he
      injection he with x2 _
      show pourB R ((PL R 36).getD (i * 2) 0) ((PL R 36).getD (i * 2 + 1) 0) = true ∧ pourM R ((PL R 36).getD (i * 2) 0) ((PL R 36).getD (i * 2 + 1) 0) = pmN R ((PL R 36).getD (i * 2) 0).toNat ((PL R 36).getD (i * 2 + 1) 0).toNat
      rw [x1, x2]
      have hc : canF R (a : Int) (b : Int) = true := hc
      have hp : pourB R (a : Int) (b : Int) = true := by
        unfold pourB plF
        rw [hr, hc, decide_eq_true (show (0 : Int) ≤ (a : Int) ∧ (a : Int) ≤ 5 by omega), decide_eq_true (show (0 : Int) ≤ (b : Int) ∧ (b : Int) ≤ 5 by omega)]; rfl
      exact ⟨hp, by unfold pourM; rw [if_pos hp]⟩
/-- A loop that leaves the blocks as they are. -/
theorem loop_here {X : Cx} {p : Nat} {c : Code} {S : Env} {H : Heap} {n : Nat} {K : KE} {ι : Type} (Sι : ι → Env) (φ : ι → Prop) (μ : ι → Nat) (j0 : ι) (h0 : φ j0) (h1 : subS (fun k => k) S (Sι j0)) (h2 : wfS n (Sι j0)) (h3 : hwf n H) (h4 : p ≤ n)
    (h : hwf n H → ∀ i, φ i → codeVC X p c (Sι i) H n (loopK p X.m Sι (fun _ => H) (fun _ => n) φ μ i K)) : codeVC X p (.loop c) S H n K :=
  loop_intro Sι (fun _ => H) n φ μ ⟨j0, h0, Sub.same h1 h2 h3 h4⟩ (h h3)
theorem paR_len24 {R L : List Int} (hR : R.length = 24) : ∀ k, (paR R L k).length = 24
  | 0 => hR
  | k + 1 => pourF_len (paR_len24 hR k) _ _
/-! Lists that may be nil. -/
theorem IsGoodPath_nil (R : List Int) (hR : R.length = 24) : PureH Try.prog 16 [.arr R, .nils] [] (.tup [.bool (igOk R 0), .bool (igOk R 0)]) := by
  have tkR : R.take 24 = R := List.take_of_length_le (by omega)
  unfold igOk
  cases hr : rackB R
  · refine pure_of_vc (X := ⟨Try.prog, tys, [(11, IsRack_F), (79, canPourPath_F), (80, isGood_F), (71, pour_F)], [], true, true, 0, [], []⟩) fn_16 ⟨tys_ok, (.cons IsRack_T (.cons canPourPath_T (.cons isGood_T (.cons pour_T .nil)))), .nil, mixed⟩ (n0 := 0) (Nat.le_of_ble_eq_true rfl) (by simp [wfL, SV.wf]) (wfH_spec (by simp [wfH, SObj.wf])) (Nat.le_refl _) (fun _ => by simp [SV.wf, wfL]) ?_
    simp -implicitDefEqProofs only [Try.f16, Option.getD_some, argS, IsRack_F, canPourPath_F, isGood_F, pour_F, hR, tkR, hr, ZB, Int.reduceToNat, Nat.reduceLT, Nat.reduceLeDiff, Int.reduceLE, Int.reduceLT, Nat.reduceEqDiff, Nat.reduceSub, SB, SV.known, packR, ne_eq, reduceCtorEq, Nat.reduceEqDiff, ↓reduceIte, if_true, if_false, eq_self, Nat.reduceAdd, Nat.reduceMul, Nat.reduceSub, forall_const, oneCellS, litOne, flat1, Kd.isSca, flat, TYB]
  · refine pure_of_vc (X := ⟨Try.prog, tys, [(11, IsRack_F), (79, canPourPath_F), (80, isGood_F), (71, pour_F)], [], true, true, 0, [], []⟩) fn_16 ⟨tys_ok, (.cons IsRack_T (.cons canPourPath_T (.cons isGood_T (.cons pour_T .nil)))), .nil, mixed⟩ (n0 := 0) (Nat.le_of_ble_eq_true rfl) (by simp [wfL, SV.wf]) (wfH_spec (by simp [wfH, SObj.wf])) (Nat.le_refl _) (fun _ => by simp [SV.wf, wfL]) ?_
    simp -implicitDefEqProofs only [Try.f16, Option.getD_some, argS, IsRack_F, canPourPath_F, isGood_F, pour_F, hR, tkR, hr, ZB, Int.reduceToNat, Nat.reduceLT, Nat.reduceLeDiff, Int.reduceLE, Int.reduceLT, Nat.reduceEqDiff, Nat.reduceSub, SB, SV.known, packR, ne_eq, reduceCtorEq, Nat.reduceEqDiff, ↓reduceIte, if_true, if_false, eq_self, Nat.reduceAdd, Nat.reduceMul, Nat.reduceSub, forall_const, oneCellS, litOne, flat1, Kd.isSca, flat, TYB]
    refine loop_intro (fun _ : Unit => [(18, .int 0), (17, .int 0), (16, .nils)]) (fun _ => []) 1 (fun _ => True) (fun _ => 0) ?_ ?_
    · refine ⟨(), ?_, Sub.mk_id ?_ ?_ ?_ ?_ ?_⟩
      all_goals (try (simp only [LB, subS, subH, wfS, wfH, SV.ren, renL, SObj.ren, SV.wf, SObj.wf, wfL, SV.known, Nat.reduceEqDiff, ↓reduceIte, if_true, if_false, eq_self, Nat.reduceAdd, Nat.reduceLT, Nat.reduceLeDiff, implies_true, reduceCtorEq, forall_const]; done))
      all_goals (try (simp only [LB, subS, subH, wfS, wfH, SV.ren, renL, SObj.ren, SV.wf, SObj.wf, wfL, SV.known, Nat.reduceEqDiff, ↓reduceIte, if_true, if_false, eq_self, Nat.reduceAdd, Nat.reduceLT, Nat.reduceLeDiff, implies_true, reduceCtorEq, forall_const]; simp; done))
      all_goals (try (simp only [LB, subS, subH, wfS, wfH, SV.ren, renL, SObj.ren, SV.wf, SObj.wf, wfL, SV.known, Nat.reduceEqDiff, ↓reduceIte, if_true, if_false, eq_self, Nat.reduceAdd, Nat.reduceLT, Nat.reduceLeDiff, implies_true, reduceCtorEq, forall_const]; (and_intros <;> (first | omega | rfl | (simp; done) | (simp; omega))); done))
      all_goals (try dsimp only)
      all_goals (and_intros <;> try (first | omega | (unfold In64; omega) | trivial | assumption))
    · intro _ _
      simp -implicitDefEqProofs only [lk_normal, ZB, Int.reduceToNat, Nat.reduceLT, Nat.reduceLeDiff, Int.reduceLE, Int.reduceLT, Nat.reduceEqDiff, Nat.reduceSub, SB, SV.known, packR, ne_eq, reduceCtorEq, Nat.reduceEqDiff, ↓reduceIte, if_true, if_false, eq_self, Nat.reduceAdd, Nat.reduceMul, Nat.reduceSub, forall_const, oneCellS, litOne, flat1, Kd.isSca, flat, TYB]
--@tbl IsGoodPath2 = impl.IsGoodPath
def IsGoodPath2_F : List SV → Heap → Option (Prop × SV)
  | [.arr R, .slice b 0 len _], H => match hget H b with
    | some (.ints L _) => some (R.length = 24 ∧ len * 2 ≤ L.length ∧ len ≤ 1048576, .tup [.bool (igOk R len && igB R (L.take (len * 2)) len), .bool (igOk R len)])
    | _ => none
  | [.arr R, .nils], _ => some (R.length = 24, .tup [.bool (igOk R 0), .bool (igOk R 0)])
  | _, _ => none
theorem IsGoodPath2_T : ∀ args H p v, IsGoodPath2_F args H = some (p, v) → p → PureH Try.prog 16 args H v := by
  intro args H p v h hp
  unfold IsGoodPath2_F at h
  split at h
  · split at h
    · rename_i R b len cap L e hb
      cases h
      rw [← igB_app _ (L.take _) (L.drop _) _ (by rw [List.length_take]; omega), List.take_append_drop]
      exact one_block (IsGoodPath_ok _ L e _ _ hp.1 hp.2.1 hp.2.2) hb rfl (fun _ => by simp [SV.wf, wfL])
    · cases h
  · cases h
    exact (IsGoodPath_nil _ hp).any H
  · cases h
end Go.Proofs.Ytopfnkmlgcjpbaa
namespace Go.Proofs
open Go.Shelf
end Go.Proofs
set_option maxRecDepth 100000
set_option linter.unusedSimpArgs false
set_option linter.unusedVariables false
namespace Go.Proofs.Ytopfnkmlgcjpbaa
open Go Go.RowKit
/-! Rooms. -/
/-- Sorting by counting. -/
def cs (l : List Int) (n : Nat) : List Int := (List.range n).flatMap fun (v : Nat) => l.filter fun x => decide (x = (v : Int))
end Go.Proofs.Ytopfnkmlgcjpbaa
set_option maxRecDepth 100000
set_option linter.unusedSimpArgs false
set_option linter.unusedVariables false
namespace Go.Proofs.Ytopfnkmlgcjpbaa
open Go Go.RowKit
--@tbl rInts = laws.rInts
theorem rInts_ok (L1 L2 : List Int) (e1 e2 c1 c2 m : Nat) (h1 : m ≤ L1.length) (h2 : m ≤ L2.length) (h : L1.take m = L2.take m) (hm : m ≤ 4611686018427387903) :
    PureH Try.prog 20 [.slice 0 0 m c1, .slice 1 0 m c2] [(0, .ints L1 e1), (1, .ints L2 e2)] (.bool true) := by
  refine pure_of_vc (X := ⟨Try.prog, tys, [], [], true, true, 2, [], []⟩) fn_20 ⟨tys_ok, .nil, .nil, mixed⟩ (n0 := 2) (Nat.le_of_ble_eq_true rfl) (by simp [wfL, SV.wf]) (wfH_spec (by simp [wfH, SObj.wf])) (Nat.le_refl _) (fun _ => by simp [SV.wf, wfL]) ?_
  simp -implicitDefEqProofs only [Try.f20, Option.getD_some, argS, ZB, Int.reduceToNat, Nat.reduceLT, Nat.reduceLeDiff, Int.reduceLE, Int.reduceLT, Nat.reduceEqDiff, Nat.reduceSub, SB, SV.known, packR, ne_eq, reduceCtorEq, Nat.reduceEqDiff, ↓reduceIte, if_true, if_false, eq_self, Nat.reduceAdd, Nat.reduceMul, Nat.reduceSub, forall_const, oneCellS, litOne, flat1, Kd.isSca, flat, TYB]
  refine loop_intro (fun i : Nat => [(5, .int i), (0, .slice 0 0 m c1), (1, .slice 1 0 m c2)]) (fun _ => [(0, .ints L1 e1), (1, .ints L2 e2)]) 2 (fun i => i ≤ m) (fun i => m - i) ?_ ?_
  · refine ⟨0, ?_, Sub.mk_id ?_ ?_ ?_ ?_ ?_⟩
    all_goals (try (simp only [LB, subS, subH, wfS, wfH, SV.ren, renL, SObj.ren, SV.wf, SObj.wf, wfL, SV.known, Nat.reduceEqDiff, ↓reduceIte, if_true, if_false, eq_self, Nat.reduceAdd, Nat.reduceLT, Nat.reduceLeDiff, implies_true, reduceCtorEq, forall_const]; done))
    all_goals (try (simp only [LB, subS, subH, wfS, wfH, SV.ren, renL, SObj.ren, SV.wf, SObj.wf, wfL, SV.known, Nat.reduceEqDiff, ↓reduceIte, if_true, if_false, eq_self, Nat.reduceAdd, Nat.reduceLT, Nat.reduceLeDiff, implies_true, reduceCtorEq, forall_const]; simp; done))
    all_goals (try (simp only [LB, subS, subH, wfS, wfH, SV.ren, renL, SObj.ren, SV.wf, SObj.wf, wfL, SV.known, Nat.reduceEqDiff, ↓reduceIte, if_true, if_false, eq_self, Nat.reduceAdd, Nat.reduceLT, Nat.reduceLeDiff, implies_true, reduceCtorEq, forall_const]; (and_intros <;> (first | omega | rfl | (simp; done) | (simp; omega))); done))
    all_goals (try dsimp only)
    all_goals (and_intros <;> try (first | omega | (unfold In64; omega) | trivial | assumption))
  · intro i hi
    by_cases hlt : i < m
    · have hil : (i : Int) < m := by omega
      have ee : L1.getD i 0 = L2.getD i 0 := by
        have := congrArg (fun l => l.getD i 0) h
        simpa [List.getD_eq_getElem?_getD, List.getElem?_take, hlt] using this
      have q1 : i < L1.length := by omega
      have q2 : i < L2.length := by omega
      simp -implicitDefEqProofs only [lk_normal, hil, ee, q1, q2, ZB, Int.reduceToNat, Nat.reduceLT, Nat.reduceLeDiff, Int.reduceLE, Int.reduceLT, Nat.reduceEqDiff, Nat.reduceSub, SB, SV.known, packR, ne_eq, reduceCtorEq, Nat.reduceEqDiff, ↓reduceIte, if_true, if_false, eq_self, Nat.reduceAdd, Nat.reduceMul, Nat.reduceSub, forall_const, oneCellS, litOne, flat1, Kd.isSca, flat, TYB]
      (try (and_intros <;> try (first | omega | (unfold In64; omega) | trivial | assumption)))
      refine ⟨i + 1, ?_, ?_, Sub.mk_id ?_ ?_ ?_ ?_ ?_⟩
      all_goals (try (simp only [LB, subS, subH, wfS, wfH, SV.ren, renL, SObj.ren, SV.wf, SObj.wf, wfL, SV.known, Nat.reduceEqDiff, ↓reduceIte, if_true, if_false, eq_self, Nat.reduceAdd, Nat.reduceLT, Nat.reduceLeDiff, implies_true, reduceCtorEq, forall_const]; done))
      all_goals (try (simp only [LB, subS, subH, wfS, wfH, SV.ren, renL, SObj.ren, SV.wf, SObj.wf, wfL, SV.known, Nat.reduceEqDiff, ↓reduceIte, if_true, if_false, eq_self, Nat.reduceAdd, Nat.reduceLT, Nat.reduceLeDiff, implies_true, reduceCtorEq, forall_const]; simp; done))
      all_goals (try (simp only [LB, subS, subH, wfS, wfH, SV.ren, renL, SObj.ren, SV.wf, SObj.wf, wfL, SV.known, Nat.reduceEqDiff, ↓reduceIte, if_true, if_false, eq_self, Nat.reduceAdd, Nat.reduceLT, Nat.reduceLeDiff, implies_true, reduceCtorEq, forall_const]; (and_intros <;> (first | omega | rfl | (simp; done) | (simp; omega))); done))
      all_goals (try dsimp only)
      all_goals (and_intros <;> try (first | omega | (unfold In64; omega) | trivial | assumption))
    · have hil : ¬ (i : Int) < m := by omega
      simp -implicitDefEqProofs only [lk_normal, hil, ZB, Int.reduceToNat, Nat.reduceLT, Nat.reduceLeDiff, Int.reduceLE, Int.reduceLT, Nat.reduceEqDiff, Nat.reduceSub, SB, SV.known, packR, ne_eq, reduceCtorEq, Nat.reduceEqDiff, ↓reduceIte, if_true, if_false, eq_self, Nat.reduceAdd, Nat.reduceMul, Nat.reduceSub, forall_const, oneCellS, litOne, flat1, Kd.isSca, flat, TYB]
theorem rInts_ns (L2 : List Int) (e2 c2 : Nat) : PureH Try.prog 20 [.nils, .slice 0 0 0 c2] [(0, .ints L2 e2)] (.bool true) := by
  refine pure_of_vc (X := ⟨Try.prog, tys, [], [], true, true, 1, [], []⟩) fn_20 ⟨tys_ok, .nil, .nil, mixed⟩ (n0 := 1) (Nat.le_of_ble_eq_true rfl) (by simp [wfL, SV.wf]) (wfH_spec (by simp [wfH, SObj.wf])) (Nat.le_refl _) (fun _ => by simp [SV.wf, wfL]) ?_
  simp -implicitDefEqProofs only [Try.f20, Option.getD_some, argS, ZB, Int.reduceToNat, Nat.reduceLT, Nat.reduceLeDiff, Int.reduceLE, Int.reduceLT, Nat.reduceEqDiff, Nat.reduceSub, SB, SV.known, packR, ne_eq, reduceCtorEq, Nat.reduceEqDiff, ↓reduceIte, if_true, if_false, eq_self, Nat.reduceAdd, Nat.reduceMul, Nat.reduceSub, forall_const, oneCellS, litOne, flat1, Kd.isSca, flat, TYB]
  refine loop_intro (fun i : Nat => [(5, .int 0), (0, .nils), (1, .slice 0 0 0 c2)]) (fun _ => [(0, .ints L2 e2)]) 1 (fun i => True) (fun i => 0) ?_ ?_
  · refine ⟨0, ?_, Sub.mk_id ?_ ?_ ?_ ?_ ?_⟩
    all_goals (try (simp only [LB, subS, subH, wfS, wfH, SV.ren, renL, SObj.ren, SV.wf, SObj.wf, wfL, SV.known, Nat.reduceEqDiff, ↓reduceIte, if_true, if_false, eq_self, Nat.reduceAdd, Nat.reduceLT, Nat.reduceLeDiff, implies_true, reduceCtorEq, forall_const]; done))
    all_goals (try (simp only [LB, subS, subH, wfS, wfH, SV.ren, renL, SObj.ren, SV.wf, SObj.wf, wfL, SV.known, Nat.reduceEqDiff, ↓reduceIte, if_true, if_false, eq_self, Nat.reduceAdd, Nat.reduceLT, Nat.reduceLeDiff, implies_true, reduceCtorEq, forall_const]; simp; done))
    all_goals (try (simp only [LB, subS, subH, wfS, wfH, SV.ren, renL, SObj.ren, SV.wf, SObj.wf, wfL, SV.known, Nat.reduceEqDiff, ↓reduceIte, if_true, if_false, eq_self, Nat.reduceAdd, Nat.reduceLT, Nat.reduceLeDiff, implies_true, reduceCtorEq, forall_const]; (and_intros <;> (first | omega | rfl | (simp; done) | (simp; omega))); done))
    all_goals (try dsimp only)
    all_goals (and_intros <;> try (first | omega | (unfold In64; omega) | trivial | assumption))
  · intro i hi
    simp -implicitDefEqProofs only [lk_normal, ZB, Int.reduceToNat, Nat.reduceLT, Nat.reduceLeDiff, Int.reduceLE, Int.reduceLT, Nat.reduceEqDiff, Nat.reduceSub, SB, SV.known, packR, ne_eq, reduceCtorEq, Nat.reduceEqDiff, ↓reduceIte, if_true, if_false, eq_self, Nat.reduceAdd, Nat.reduceMul, Nat.reduceSub, forall_const, oneCellS, litOne, flat1, Kd.isSca, flat, TYB]
def rInts_F : List SV → Heap → Option (Prop × SV)
  | [.slice a 0 l1 _, .slice b 0 l2 _], H => match hget H a, hget H b with
    | some (.ints L1 _), some (.ints L2 _) => some (a ≠ b ∧ l1 = l2 ∧ l1 ≤ L1.length ∧ l2 ≤ L2.length ∧ L1.take l1 = L2.take l2 ∧ l1 ≤ 4611686018427387903, .bool true)
    | _, _ => none
  | [.nils, .slice b 0 l2 _], H => match hget H b with
    | some (.ints _ _) => some (l2 = 0, .bool true)
    | _ => none
  | _, _ => none
theorem rInts_T : ∀ args H p v, rInts_F args H = some (p, v) → p → PureH Try.prog 20 args H v := by
  intro args H p v h hp
  unfold rInts_F at h
  split at h
  · rename_i a l1 c1 b l2 c2
    split at h
    · rename_i L1 e1 L2 e2 g1 g2
      cases h
      obtain ⟨hab, rfl, q1, q2, q3, q4⟩ := hp
      have := (rInts_ok L1 L2 e1 e2 c1 c2 l1 q1 q2 q3 q4).sub (H := H) (fun j => if j = 0 then a else b) (fun j o hj => by
        simp only [hget_cons] at hj
        split at hj
        · rename_i hj0; cases hj; refine ⟨?_, fun _ => by omega, by simp [hj0]⟩; show hget H (if j = 0 then a else b) = _; rw [if_pos hj0]; exact g1
        · rename_i hj0
          split at hj
          · rename_i hj1; cases hj; refine ⟨?_, fun _ => by omega, by simp [hj1]⟩; show hget H (if j = 0 then a else b) = _; rw [if_neg hj0]; exact g2
          · cases hj) (fun x hx y hy he => by
        simp at hx hy
        rcases hx with rfl | rfl <;> rcases hy with rfl | rfl <;> simp at he <;> omega) (fun _ => trivial)
      simpa [renL, SV.ren] using this
    · cases h
  · rename_i b l2 c2
    split at h
    · rename_i L2 e2 g2
      cases h
      subst hp
      exact one_block (rInts_ns L2 e2 c2) g2 rfl (fun _ => trivial)
    · cases h
  · cases h
end Go.Proofs.Ytopfnkmlgcjpbaa
set_option maxRecDepth 100000
set_option linter.unusedSimpArgs false
set_option linter.unusedVariables false
namespace Go.Proofs.Ytopfnkmlgcjpbaa
open Go Go.RowKit
theorem eqI_p2 : EqI Try.prog 44 2 := eqI_of (D := 2) (by omega) (eqA_ints (i := (Try.prog.info? 3).getD default) Try.underlying44 (by kernel_rfl) (by kernel_rfl) rfl Try.underlying3) (by kernel_rfl)
--@tbl rPairs = laws.rPairs
--@tbl rIn = laws.rIn
--@tbl rPart = laws.rPart
theorem rPairs_ok (L1 L2 : List Int) (e1 e2 c1 c2 m : Nat) (h1 : m * 2 ≤ L1.length) (h2 : m * 2 ≤ L2.length) (h : L1.take (m * 2) = L2.take (m * 2)) (hm : m ≤ 4611686018427387903) :
    PureH Try.prog 12 [.slice 0 0 m c1, .slice 1 0 m c2] [(0, .ints L1 e1), (1, .ints L2 e2)] (.bool true) := by
  refine pure_of_vc (X := ⟨Try.prog, tys, [], [], true, true, 2, [], []⟩) fn_12 ⟨tys_ok, .nil, .nil, mixed⟩ (n0 := 2) (Nat.le_of_ble_eq_true rfl) (by simp [wfL, SV.wf]) (wfH_spec (by simp [wfH, SObj.wf])) (Nat.le_refl _) (fun _ => by simp [SV.wf, wfL]) ?_
  simp -implicitDefEqProofs only [Try.f12, Option.getD_some, argS, ZB, Int.reduceToNat, Nat.reduceLT, Nat.reduceLeDiff, Int.reduceLE, Int.reduceLT, Nat.reduceEqDiff, Nat.reduceSub, SB, SV.known, packR, ne_eq, reduceCtorEq, Nat.reduceEqDiff, ↓reduceIte, if_true, if_false, eq_self, Nat.reduceAdd, Nat.reduceMul, Nat.reduceSub, forall_const, oneCellS, litOne, flat1, Kd.isSca, flat, TYB]
  refine loop_intro (fun i : Nat => [(5, .int i), (0, .slice 0 0 m c1), (1, .slice 1 0 m c2)]) (fun _ => [(0, .ints L1 e1), (1, .ints L2 e2)]) 2 (fun i => i ≤ m) (fun i => m - i) ?_ ?_
  · refine ⟨0, ?_, Sub.mk_id ?_ ?_ ?_ ?_ ?_⟩
    all_goals (try (simp only [LB, subS, subH, wfS, wfH, SV.ren, renL, SObj.ren, SV.wf, SObj.wf, wfL, SV.known, Nat.reduceEqDiff, ↓reduceIte, if_true, if_false, eq_self, Nat.reduceAdd, Nat.reduceLT, Nat.reduceLeDiff, implies_true, reduceCtorEq, forall_const]; done))
    all_goals (try (simp only [LB, subS, subH, wfS, wfH, SV.ren, renL, SObj.ren, SV.wf, SObj.wf, wfL, SV.known, Nat.reduceEqDiff, ↓reduceIte, if_true, if_false, eq_self, Nat.reduceAdd, Nat.reduceLT, Nat.reduceLeDiff, implies_true, reduceCtorEq, forall_const]; simp; done))
    all_goals (try (simp only [LB, subS, subH, wfS, wfH, SV.ren, renL, SObj.ren, SV.wf, SObj.wf, wfL, SV.known, Nat.reduceEqDiff, ↓reduceIte, if_true, if_false, eq_self, Nat.reduceAdd, Nat.reduceLT, Nat.reduceLeDiff, implies_true, reduceCtorEq, forall_const]; (and_intros <;> (first | omega | rfl | (simp; done) | (simp; omega))); done))
    all_goals (try dsimp only)
    all_goals (and_intros <;> try (first | omega | (unfold In64; omega) | trivial | assumption))
  · intro i hi
    by_cases hlt : i < m
    · have hil : (i : Int) < m := by omega
      have ee : (L1.drop (i * 2)).take 2 = (L2.drop (i * 2)).take 2 := by
        have := congrArg (fun l => (List.drop (i * 2) l).take 2) h
        simp only [List.drop_take, List.take_take] at this
        rw [Nat.min_eq_left (by omega)] at this
        exact this
      have l2 : ((L2.drop (i * 2)).take 2).length = 2 := by rw [List.length_take, List.length_drop]; omega
      simp -implicitDefEqProofs only [lk_normal, hil, ee, l2, eqI_p2, ZB, Int.reduceToNat, Nat.reduceLT, Nat.reduceLeDiff, Int.reduceLE, Int.reduceLT, Nat.reduceEqDiff, Nat.reduceSub, SB, SV.known, packR, ne_eq, reduceCtorEq, Nat.reduceEqDiff, ↓reduceIte, if_true, if_false, eq_self, Nat.reduceAdd, Nat.reduceMul, Nat.reduceSub, forall_const, oneCellS, litOne, flat1, Kd.isSca, flat, TYB]
      (try (and_intros <;> try (first | omega | (unfold In64; omega) | trivial | assumption)))
      refine ⟨i + 1, ?_, ?_, Sub.mk_id ?_ ?_ ?_ ?_ ?_⟩
      all_goals (try (simp only [LB, subS, subH, wfS, wfH, SV.ren, renL, SObj.ren, SV.wf, SObj.wf, wfL, SV.known, Nat.reduceEqDiff, ↓reduceIte, if_true, if_false, eq_self, Nat.reduceAdd, Nat.reduceLT, Nat.reduceLeDiff, implies_true, reduceCtorEq, forall_const]; done))
      all_goals (try (simp only [LB, subS, subH, wfS, wfH, SV.ren, renL, SObj.ren, SV.wf, SObj.wf, wfL, SV.known, Nat.reduceEqDiff, ↓reduceIte, if_true, if_false, eq_self, Nat.reduceAdd, Nat.reduceLT, Nat.reduceLeDiff, implies_true, reduceCtorEq, forall_const]; simp; done))
      all_goals (try (simp only [LB, subS, subH, wfS, wfH, SV.ren, renL, SObj.ren, SV.wf, SObj.wf, wfL, SV.known, Nat.reduceEqDiff, ↓reduceIte, if_true, if_false, eq_self, Nat.reduceAdd, Nat.reduceLT, Nat.reduceLeDiff, implies_true, reduceCtorEq, forall_const]; (and_intros <;> (first | omega | rfl | (simp; done) | (simp; omega))); done))
      all_goals (try dsimp only)
      all_goals (and_intros <;> try (first | omega | (unfold In64; omega) | trivial | assumption))
    · have hil : ¬ (i : Int) < m := by omega
      simp -implicitDefEqProofs only [lk_normal, hil, ZB, Int.reduceToNat, Nat.reduceLT, Nat.reduceLeDiff, Int.reduceLE, Int.reduceLT, Nat.reduceEqDiff, Nat.reduceSub, SB, SV.known, packR, ne_eq, reduceCtorEq, Nat.reduceEqDiff, ↓reduceIte, if_true, if_false, eq_self, Nat.reduceAdd, Nat.reduceMul, Nat.reduceSub, forall_const, oneCellS, litOne, flat1, Kd.isSca, flat, TYB]
theorem rPairs_ns (L2 : List Int) (e2 c2 : Nat) : PureH Try.prog 12 [.nils, .slice 0 0 0 c2] [(0, .ints L2 e2)] (.bool true) := by
  refine pure_of_vc (X := ⟨Try.prog, tys, [], [], true, true, 1, [], []⟩) fn_12 ⟨tys_ok, .nil, .nil, mixed⟩ (n0 := 1) (Nat.le_of_ble_eq_true rfl) (by simp [wfL, SV.wf]) (wfH_spec (by simp [wfH, SObj.wf])) (Nat.le_refl _) (fun _ => by simp [SV.wf, wfL]) ?_
  simp -implicitDefEqProofs only [Try.f12, Option.getD_some, argS, ZB, Int.reduceToNat, Nat.reduceLT, Nat.reduceLeDiff, Int.reduceLE, Int.reduceLT, Nat.reduceEqDiff, Nat.reduceSub, SB, SV.known, packR, ne_eq, reduceCtorEq, Nat.reduceEqDiff, ↓reduceIte, if_true, if_false, eq_self, Nat.reduceAdd, Nat.reduceMul, Nat.reduceSub, forall_const, oneCellS, litOne, flat1, Kd.isSca, flat, TYB]
  refine loop_intro (fun i : Nat => [(5, .int 0), (0, .nils), (1, .slice 0 0 0 c2)]) (fun _ => [(0, .ints L2 e2)]) 1 (fun i => True) (fun i => 0) ?_ ?_
  · refine ⟨0, ?_, Sub.mk_id ?_ ?_ ?_ ?_ ?_⟩
    all_goals (try (simp only [LB, subS, subH, wfS, wfH, SV.ren, renL, SObj.ren, SV.wf, SObj.wf, wfL, SV.known, Nat.reduceEqDiff, ↓reduceIte, if_true, if_false, eq_self, Nat.reduceAdd, Nat.reduceLT, Nat.reduceLeDiff, implies_true, reduceCtorEq, forall_const]; done))
    all_goals (try (simp only [LB, subS, subH, wfS, wfH, SV.ren, renL, SObj.ren, SV.wf, SObj.wf, wfL, SV.known, Nat.reduceEqDiff, ↓reduceIte, if_true, if_false, eq_self, Nat.reduceAdd, Nat.reduceLT, Nat.reduceLeDiff, implies_true, reduceCtorEq, forall_const]; simp; done))
    all_goals (try (simp only [LB, subS, subH, wfS, wfH, SV.ren, renL, SObj.ren, SV.wf, SObj.wf, wfL, SV.known, Nat.reduceEqDiff, ↓reduceIte, if_true, if_false, eq_self, Nat.reduceAdd, Nat.reduceLT, Nat.reduceLeDiff, implies_true, reduceCtorEq, forall_const]; (and_intros <;> (first | omega | rfl | (simp; done) | (simp; omega))); done))
    all_goals (try dsimp only)
    all_goals (and_intros <;> try (first | omega | (unfold In64; omega) | trivial | assumption))
  · intro i hi
    simp -implicitDefEqProofs only [lk_normal, ZB, Int.reduceToNat, Nat.reduceLT, Nat.reduceLeDiff, Int.reduceLE, Int.reduceLT, Nat.reduceEqDiff, Nat.reduceSub, SB, SV.known, packR, ne_eq, reduceCtorEq, Nat.reduceEqDiff, ↓reduceIte, if_true, if_false, eq_self, Nat.reduceAdd, Nat.reduceMul, Nat.reduceSub, forall_const, oneCellS, litOne, flat1, Kd.isSca, flat, TYB]
def rPairs_F : List SV → Heap → Option (Prop × SV)
  | [.slice a 0 l1 _, .slice b 0 l2 _], H => match hget H a, hget H b with
    | some (.ints L1 _), some (.ints L2 _) => some (a ≠ b ∧ l1 = l2 ∧ l1 * 2 ≤ L1.length ∧ l2 * 2 ≤ L2.length ∧ L1.take (l1 * 2) = L2.take (l2 * 2) ∧ l1 ≤ 4611686018427387903, .bool true)
    | _, _ => none
  | [.nils, .slice b 0 l2 _], H => match hget H b with
    | some (.ints _ _) => some (l2 = 0, .bool true)
    | _ => none
  | _, _ => none
theorem rPairs_T : ∀ args H p v, rPairs_F args H = some (p, v) → p → PureH Try.prog 12 args H v := by
  intro args H p v h hp
  unfold rPairs_F at h
  split at h
  · rename_i a l1 c1 b l2 c2
    split at h
    · rename_i L1 e1 L2 e2 g1 g2
      cases h
      obtain ⟨hab, rfl, q1, q2, q3, q4⟩ := hp
      have := (rPairs_ok L1 L2 e1 e2 c1 c2 l1 q1 q2 q3 q4).sub (H := H) (fun j => if j = 0 then a else b) (fun j o hj => by
        simp only [hget_cons] at hj
        split at hj
        · rename_i hj0; cases hj; refine ⟨?_, fun _ => by omega, by simp [hj0]⟩; show hget H (if j = 0 then a else b) = _; rw [if_pos hj0]; exact g1
        · rename_i hj0
          split at hj
          · rename_i hj1; cases hj; refine ⟨?_, fun _ => by omega, by simp [hj1]⟩; show hget H (if j = 0 then a else b) = _; rw [if_neg hj0]; exact g2
          · cases hj) (fun x hx y hy he => by
        simp at hx hy
        rcases hx with rfl | rfl <;> rcases hy with rfl | rfl <;> simp at he <;> omega) (fun _ => trivial)
      simpa [renL, SV.ren] using this
    · cases h
  · rename_i b l2 c2
    split at h
    · rename_i L2 e2 g2
      cases h
      subst hp
      exact one_block (rPairs_ns L2 e2 c2) g2 rfl (fun _ => trivial)
    · cases h
  · cases h
end Go.Proofs.Ytopfnkmlgcjpbaa
set_option maxRecDepth 100000
set_option linter.unusedSimpArgs false
set_option linter.unusedVariables false
namespace Go.Proofs.Ytopfnkmlgcjpbaa
open Go Go.RowKit
theorem rBig_ok (L : List Int) (off len cap : Nat) : PureH Try.prog 7 [.slice 0 off len cap] [(0, .winU off L)] (.bool (decide (65536 < (len : Int)))) := by
  refine pure_of_vc (X := ⟨Try.prog, tys, [], [], true, true, 1, [], []⟩) fn_7 ⟨tys_ok, .nil, .nil, mixed⟩ (n0 := 1) (Nat.le_of_ble_eq_true rfl) (by simp [wfL, SV.wf]) (wfH_spec (by simp [wfH, SObj.wf])) (Nat.le_refl _) (fun _ => by simp [SV.wf, wfL]) ?_
  simp -implicitDefEqProofs only [Try.f7, Option.getD_some, argS, ZB, Int.reduceToNat, Nat.reduceLT, Nat.reduceLeDiff, Int.reduceLE, Int.reduceLT, Nat.reduceEqDiff, Nat.reduceSub, SB, SV.known, packR, ne_eq, reduceCtorEq, Nat.reduceEqDiff, ↓reduceIte, if_true, if_false, eq_self, Nat.reduceAdd, Nat.reduceMul, Nat.reduceSub, forall_const, oneCellS, litOne, flat1, Kd.isSca, flat, TYB]
theorem rBig_nil (H : Heap) : PureH Try.prog 7 [.nils] H (.bool false) := by
  refine PureH.any ?_ H
  refine pure_of_vc (X := ⟨Try.prog, tys, [], [], true, true, 0, [], []⟩) fn_7 ⟨tys_ok, .nil, .nil, mixed⟩ (n0 := 0) (Nat.le_of_ble_eq_true rfl) (by simp [wfL, SV.wf]) (wfH_spec (by simp [wfH, SObj.wf])) (Nat.le_refl _) (fun _ => by simp [SV.wf, wfL]) ?_
  simp -implicitDefEqProofs only [Try.f7, Option.getD_some, argS, ZB, Int.reduceToNat, Nat.reduceLT, Nat.reduceLeDiff, Int.reduceLE, Int.reduceLT, Nat.reduceEqDiff, Nat.reduceSub, SB, SV.known, packR, ne_eq, reduceCtorEq, Nat.reduceEqDiff, ↓reduceIte, if_true, if_false, eq_self, Nat.reduceAdd, Nat.reduceMul, Nat.reduceSub, forall_const, oneCellS, litOne, flat1, Kd.isSca, flat, TYB]
def rBig_F : List SV → Heap → Option (Prop × SV)
  | [.slice a o len _], H => match hget H a with
    | some (.winU off _) => some (o = off, .bool (decide (65536 < (len : Int))))
    | _ => none
  | [.nils], _ => some (True, .bool false)
  | _, _ => none
theorem rBig_T : ∀ args H p v, rBig_F args H = some (p, v) → p → PureH Try.prog 7 args H v := by
  intro args H p v h hp
  unfold rBig_F at h
  split at h
  · rename_i a o len cap
    split at h
    · rename_i off L g
      cases h
      subst hp
      exact one_block (rBig_ok L o len cap) g rfl (fun _ => trivial)
    · cases h
  · cases h
    exact rBig_nil H
  · cases h
end Go.Proofs.Ytopfnkmlgcjpbaa
set_option maxRecDepth 100000
set_option linter.unusedSimpArgs false
set_option linter.unusedVariables false
namespace Go.Proofs.Ytopfnkmlgcjpbaa
open Go Go.RowKit
theorem Kpt.get {n n' k : Nat} {H H' : Heap} {o : SObj} (h : Kpt n H H' n') (hk : k < n) (ho : hget H k = some o) : hget H' k = some o := h.fr k o hk ho
def ps (L : List Int) : Nat → Int
  | 0 => 0
  | k + 1 => ps L k + L.getD k 0
end Go.Proofs.Ytopfnkmlgcjpbaa
