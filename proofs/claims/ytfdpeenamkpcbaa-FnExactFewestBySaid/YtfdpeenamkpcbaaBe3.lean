/- Walks: ReachBy, FewestBy. -/
import Derived.Test.YtfdpeenamkpcbaaBe2
import Derived.Test.YtfdpeenamkpcbaaGPath
set_option maxRecDepth 100000
set_option linter.unusedSimpArgs false
set_option linter.unusedVariables false
namespace Go.Proofs.Ytfdpeenamkpcbaa
open Go Go.RowKit
/-! l8Sorts. -/
def srtN (D : List Int) (u : Int) : Nat → List Int → Bool
  | 0, R => sortB R
  | n + 1, R => sortB R || (sucL D u R).any (srtN D u n)
theorem l8Sorts_ok (D : List Int) (u : Int) (hD : D.length = 6) (hu : ruF u = true) : ∀ (most : Nat), most ≤ 100 → ∀ R : List Int, R.length = 24 → forB R D = true → PureH Try.prog 86 [.arr R, .arr D, .int u, .int most] [] (.bool (srtN D u most R))
  | most, hm, R, hR, hf => by
    have tkR : R.take 24 = R := List.take_of_length_le (by omega)
    have tkD : D.take 6 = D := List.take_of_length_le (by omega)
    have rr := (forB_facts hD hf).1
    cases most with
    | zero =>
      show PureH Try.prog 86 [.arr R, .arr D, .int u, .int 0] [] (.bool (sortB R))
      cases hs : sortB R
      · refine pure_of_vc (X := ⟨Try.prog, tys, [(74, l2Sorted_F)], [], true, true, 0, [], []⟩) fn_86 ⟨tys_ok, (.cons l2Sorted_T .nil), .nil, mixed⟩ (n0 := 0) (Nat.le_of_ble_eq_true rfl) (by simp [wfL, SV.wf]) (wfH_spec (by simp [wfH, SObj.wf])) (Nat.le_refl _) (fun _ => by simp [SV.wf, wfL]) ?_
        simp -implicitDefEqProofs only [Try.f86, Option.getD_some, argS, l2Sorted_F, hR, hD, tkR, tkD, rr, hs, ZB, Int.reduceToNat, Nat.reduceLT, Nat.reduceLeDiff, Int.reduceLE, Int.reduceLT, Nat.reduceEqDiff, Nat.reduceSub, SB, SV.known, packR, ne_eq, reduceCtorEq, Nat.reduceEqDiff, ↓reduceIte, if_true, if_false, eq_self, Nat.reduceAdd, Nat.reduceMul, Nat.reduceSub, forall_const, oneCellS, Kd.isSca, flat, TYB]
      · refine pure_of_vc (X := ⟨Try.prog, tys, [(74, l2Sorted_F)], [], true, true, 0, [], []⟩) fn_86 ⟨tys_ok, (.cons l2Sorted_T .nil), .nil, mixed⟩ (n0 := 0) (Nat.le_of_ble_eq_true rfl) (by simp [wfL, SV.wf]) (wfH_spec (by simp [wfH, SObj.wf])) (Nat.le_refl _) (fun _ => by simp [SV.wf, wfL]) ?_
        simp -implicitDefEqProofs only [Try.f86, Option.getD_some, argS, l2Sorted_F, hR, hD, tkR, tkD, rr, hs, ZB, Int.reduceToNat, Nat.reduceLT, Nat.reduceLeDiff, Int.reduceLE, Int.reduceLT, Nat.reduceEqDiff, Nat.reduceSub, SB, SV.known, packR, ne_eq, reduceCtorEq, Nat.reduceEqDiff, ↓reduceIte, if_true, if_false, eq_self, Nat.reduceAdd, Nat.reduceMul, Nat.reduceSub, forall_const, oneCellS, Kd.isSca, flat, TYB]
    | succ most =>
      have ih := l8Sorts_ok D u hD hu most (by omega)
      have e1 : (((most + 1 : Nat) : Int) - 1) = (most : Nat) := by omega
      have ne0 : ¬ ((most + 1 : Nat) : Int) = 0 := by omega
      show PureH Try.prog 86 _ [] (.bool (sortB R || (sucL D u R).any (srtN D u most)))
      refine pure_of_vc (X := ⟨Try.prog, tys, [(86, fun args H => match args with | [.arr x, .arr D', .int u', .int k] => some ((x.length = 24 ∧ forB x D = true) ∧ D' = D ∧ u' = u ∧ k = (most : Nat), .bool (srtN D u most x)) | _ => none), (74, l2Sorted_F), (112, l8Moves_F), (111, l8Move_F)], [(110, l8Pours_F)], true, true, 0, [], []⟩) fn_86
        ⟨tys_ok, .cons (fun args H p v h hp => ?_) (.cons l2Sorted_T (.cons l8Moves_T (.cons l8Move_T .nil))), .cons l8Pours_T .nil, mixed⟩ (n0 := 0) (Nat.le_of_ble_eq_true rfl) (by simp [wfL, SV.wf]) (wfH_spec (by simp [wfH, SObj.wf])) (Nat.le_refl _) (fun _ => by simp [SV.wf]) ?_
      · split at h
        · cases h
          obtain ⟨⟨h1, h2⟩, rfl, rfl, rfl⟩ := hp
          exact (ih _ h1 h2).any _
        · cases h
      obtain ⟨np, hnp, hnp36⟩ := GL_even (pbB R D u) 36
      have ehp : (GL (pbB R D u) 36).length / 2 = np := by omega
      have pairs := GL_pairB (pbB R D u) 36 (by omega)
      have esn : sucN R D u = np := by unfold sucN; omega
      have sgd := fun q (hq : q < sucN R D u) => sucL_getD D u R hq
      have sl := sucL_len D u R
      generalize hP : GL (pbB R D u) 36 = P at *
      rw [esn] at sgd sl
      cases hs : sortB R
      · simp -implicitDefEqProofs only [Try.f86, Option.getD_some, argS, l2Sorted_F, l8Moves_F, l8Move_F, l8Pours_F, hR, hD, tkR, tkD, rr, hs, hf, hu, hP, ehp, ne0, freshK, Wrap.ap, ZB, Int.reduceToNat, Nat.reduceLT, Nat.reduceLeDiff, Int.reduceLE, Int.reduceLT, Nat.reduceEqDiff, Nat.reduceSub, SB, SV.known, packR, ne_eq, reduceCtorEq, Nat.reduceEqDiff, ↓reduceIte, if_true, if_false, eq_self, Nat.reduceAdd, Nat.reduceMul, Nat.reduceSub, forall_const, oneCellS, Kd.isSca, flat, TYB]
        refine fun cp jp hjp => ?_
        have lenP : (P ++ jp).length = cp * 2 := by rw [List.length_append]; omega
        simp only [Bool.false_or]
        refine loop_intro (fun q : Nat => [(10, .int q), (9, .slice 2 0 np cp), (5, .ptr 1 0), (4, .ptr 0 0), (2, .int u), (3, .int (most + 1 : Nat))])
          (fun q => [(2, .ints (P ++ jp) 50), (1, .ints D 39), (0, .ints R 28)]) 3
          (fun q => q ≤ np ∧ ∀ k, k < q → srtN D u most ((sucL D u R).getD k []) = false) (fun q => np - q) ?_ ?_
        · refine ⟨0, ⟨by omega, by simp⟩, Sub.mk_id ?_ ?_ ?_ ?_ ?_⟩
          all_goals (simp only [LB, subS, subH, wfS, wfH, SV.ren, renL, SObj.ren, SV.wf, SObj.wf, wfL, SV.known, Nat.reduceEqDiff, ↓reduceIte, if_true, if_false, eq_self, Nat.reduceAdd, Nat.reduceLT, Nat.reduceLeDiff, implies_true, reduceCtorEq, forall_const] <;> simp)
        · rintro q ⟨hq, hno⟩
          by_cases hqn : q < np
          · have hql : (q : Int) < np := by omega
            obtain ⟨a, b, ha, hb, hc, ga, gb⟩ := pairs q (by omega)
            have eP : List.take 2 (List.drop (q * 2) (P ++ jp)) = [(a : Int), (b : Int)] := by
              rw [take2_drop _ _ (by rw [List.length_append]; omega), getD_app _ _ _ (by omega), getD_app _ _ _ (by omega), ga, gb]
            have eP0 : (P ++ jp).getD (q * 2) 0 = (a : Int) := by rw [getD_app _ _ _ (by omega), ga]
            have eP1 : (P ++ jp).getD (q * 2 + 1) 0 = (b : Int) := by rw [getD_app _ _ _ (by omega), gb]
            obtain ⟨x24, xf, mp, mne, m1, m2⟩ := for_suc hR hD hf ha hb hc
            have ex := sgd q hqn
            rw [ga, gb] at ex
            have a0 : 0 ≤ (a : Int) ∧ (a : Int) ≤ 5 := by omega
            have b0 : 0 ≤ (b : Int) ∧ (b : Int) ≤ 5 := by omega
            have m0 : 0 ≤ movF R D u a b := by omega
            have exx : mvR R a b (movF R D u a b).toNat = sucP R D u a b := by unfold sucP; simp only [Int.toNat_natCast]
            have tkx : List.take 24 (sucP R D u a b) = sucP R D u a b := List.take_of_length_le (by omega)
            generalize hx : sucP R D u a b = x at *
            have hin : x ∈ sucL D u R := by
              have hl : q < (sucL D u R).length := by omega
              rw [← ex]; exact getD_mem hl
            cases hsx : srtN D u most x
            · simp -implicitDefEqProofs only [lk_normal, l8Moves_F, l8Move_F, hql, eP, eP0, eP1, lenP, hR, hf, rr, hu, tkR, hD, tkD, a0, b0, mne, m0, m1, m2, exx, x24, xf, tkx, e1, hsx, List.getD_cons_zero, List.getD_cons_succ, Int.toNat_natCast, ZB, Int.reduceToNat, Nat.reduceLT, Nat.reduceLeDiff, Int.reduceLE, Int.reduceLT, Nat.reduceEqDiff, Nat.reduceSub, SB, SV.known, packR, ne_eq, reduceCtorEq, Nat.reduceEqDiff, ↓reduceIte, if_true, if_false, eq_self, Nat.reduceAdd, Nat.reduceMul, Nat.reduceSub, forall_const, oneCellS, Kd.isSca, flat, TYB]
              refine ⟨by omega, by omega, by omega, by omega, by unfold In64; omega, by unfold In64; omega, q + 1, ⟨by omega, fun k hk => ?_⟩, by omega, Sub.mk_id ?_ ?_ ?_ ?_ ?_⟩
              · by_cases hkq : k = q
                · subst hkq; rw [ex]; exact hsx
                · exact hno k (by omega)
              all_goals (simp only [LB, subS, subH, wfS, wfH, SV.ren, renL, SObj.ren, SV.wf, SObj.wf, wfL, SV.known, Nat.reduceEqDiff, ↓reduceIte, if_true, if_false, eq_self, Nat.reduceAdd, Nat.reduceLT, Nat.reduceLeDiff, implies_true, reduceCtorEq, forall_const] <;> simp)
            · simp -implicitDefEqProofs only [lk_normal, l8Moves_F, l8Move_F, hql, eP, eP0, eP1, lenP, hR, hf, rr, hu, tkR, hD, tkD, a0, b0, mne, m0, m1, m2, exx, x24, xf, tkx, e1, hsx, List.getD_cons_zero, List.getD_cons_succ, Int.toNat_natCast, ZB, Int.reduceToNat, Nat.reduceLT, Nat.reduceLeDiff, Int.reduceLE, Int.reduceLT, Nat.reduceEqDiff, Nat.reduceSub, SB, SV.known, packR, ne_eq, reduceCtorEq, Nat.reduceEqDiff, ↓reduceIte, if_true, if_false, eq_self, Nat.reduceAdd, Nat.reduceMul, Nat.reduceSub, forall_const, oneCellS, Kd.isSca, flat, TYB]
              refine ⟨by omega, by omega, by omega, by omega, by unfold In64; omega, ?_⟩
              symm
              rw [List.any_eq_true]
              exact ⟨x, hin, hsx⟩
          · have hql : ¬ (q : Int) < np := by omega
            obtain rfl : q = np := by omega
            simp -implicitDefEqProofs only [lk_normal, hql, ZB, Int.reduceToNat, Nat.reduceLT, Nat.reduceLeDiff, Int.reduceLE, Int.reduceLT, Nat.reduceEqDiff, Nat.reduceSub, SB, SV.known, packR, ne_eq, reduceCtorEq, Nat.reduceEqDiff, ↓reduceIte, if_true, if_false, eq_self, Nat.reduceAdd, Nat.reduceMul, Nat.reduceSub, forall_const, oneCellS, Kd.isSca, flat, TYB]
            symm
            rw [List.any_eq_false]
            intro y hy
            obtain ⟨k, hk, rfl⟩ := List.mem_iff_getElem.1 hy
            have := hno k (by omega)
            rw [List.getD_eq_getElem?_getD, List.getElem?_eq_getElem hk] at this
            simpa using this
      · simp -implicitDefEqProofs only [Try.f86, Option.getD_some, argS, l2Sorted_F, l8Moves_F, l8Move_F, l8Pours_F, hR, hD, tkR, tkD, rr, hs, hf, hu, hP, ehp, ne0, freshK, Wrap.ap, Bool.true_or, ZB, Int.reduceToNat, Nat.reduceLT, Nat.reduceLeDiff, Int.reduceLE, Int.reduceLT, Nat.reduceEqDiff, Nat.reduceSub, SB, SV.known, packR, ne_eq, reduceCtorEq, Nat.reduceEqDiff, ↓reduceIte, if_true, if_false, eq_self, Nat.reduceAdd, Nat.reduceMul, Nat.reduceSub, forall_const, oneCellS, Kd.isSca, flat, TYB]
theorem l8Sorts_ok2 (R D : List Int) (u k : Int) (h1 : R.length = 24 ∧ forB R D = true) (hD : D.length = 6) (hu : ruF u = true) (h0 : 0 ≤ k) (hk : k ≤ 100) : PureH Try.prog 86 [.arr R, .arr D, .int u, .int k] [] (.bool (srtN D u k.toNat R)) := by
  have h2 := l8Sorts_ok D u hD hu k.toNat (by omega) R h1.1 h1.2
  rw [show ((k.toNat : Nat) : Int) = k by omega] at h2
  exact h2
def l8Sorts_F : List SV → Heap → Option (Prop × SV)
  | [.arr R, .arr D, .int u, .int k], _ => some ((R.length = 24 ∧ forB R D = true) ∧ D.length = 6 ∧ ruF u = true ∧ 0 ≤ k ∧ k ≤ 100, .bool (srtN D u k.toNat R))
  | _, _ => none
theorem l8Sorts_T : ∀ args H p v, l8Sorts_F args H = some (p, v) → p → PureH Try.prog 86 args H v := by
  intro args H p v h hp
  unfold l8Sorts_F at h
  split at h
  · cases h; exact (l8Sorts_ok2 _ _ _ _ hp.1 hp.2.1 hp.2.2.1 hp.2.2.2.1 hp.2.2.2.2).any _
  · cases h
--@tbl l8Sorts = spec.l8Sorts
/-! ContainsFunc over racks. -/
theorem containsFuncR_ok (g : Nat) (caps : List SV) (H Hc : Heap) (pr : List Int → Bool) (n0 b : Nat) (L : List Int) (e len cap : Nat) (hb : hget H b = some (.ints L e)) (hl : len * 24 ≤ L.length) (hm : len ≤ 9223372036854775806)
    (Q : List Int → Prop) (hQ : ∀ i, i < len → Q ((L.drop (i * 24)).take 24)) (hc : ∀ x : List Int, Q x → PureH Try.prog g (.arr x :: caps) Hc (.bool (pr x))) (hE : Ext Hc H) (hw : wfL n0 caps) (hwH : hwf n0 H) :
    PureH Try.prog 87 [.slice b 0 len cap, .fn g caps] H (.bool ((chkR L 0 len).any pr)) := by
  have h00 : b < n0 := (hwH b _ hb).1
  refine pure_of_vc (X := ⟨Try.prog, tys, [(123, fun args H' => some (args = [.slice b 0 len cap, .fn g caps] ∧ H' = H, .int (idxG pr (chkR L 0 len))))], [], true, true, n0, [], []⟩) fn_87
    ⟨tys_ok, .cons (fun args H p v h hp => ?_) .nil, .nil, mixed⟩ (n0 := n0) (Nat.le_of_ble_eq_true rfl) ⟨by simpa [SV.wf] using h00, by simpa [SV.wf] using hw, trivial⟩ hwH (Nat.le_refl _) (fun _ => trivial) ?_
  · cases h
    obtain ⟨rfl, rfl⟩ := hp
    exact indexFuncR_ok g caps _ Hc pr n0 b L e len cap hb hl hm Q hQ hc hE hw hwH
  simp -implicitDefEqProofs only [Try.f87, Option.getD_some, argS, SB, SV.known, packR, ne_eq, reduceCtorEq, Nat.reduceEqDiff, ↓reduceIte, if_true, if_false, eq_self, Nat.reduceAdd, Nat.reduceMul, Nat.reduceSub, forall_const, oneCellS, Kd.isSca, flat, TYB, idxG_any]
theorem containsFuncR_nil (g : Nat) : PureH Try.prog 87 [.nils, .fn g []] [] (.bool false) := by
  have hi : PureH Try.prog 123 [.nils, .fn g []] [] (.int (-1)) := by
    refine pure_of_vc (X := ⟨Try.prog, tys, [], [], true, true, 0, [], []⟩) fn_123 ⟨tys_ok, .nil, .nil, mixed⟩ (n0 := 0) (Nat.le_of_ble_eq_true rfl) (by simp [wfL, SV.wf]) (wfH_spec (by simp [wfH, SObj.wf])) (Nat.le_refl _) (fun _ => by simp [SV.wf, wfL]) ?_
    simp -implicitDefEqProofs only [Try.f123, Option.getD_some, argS, Int.lt_irrefl, ZB, Int.reduceToNat, Nat.reduceLT, Nat.reduceLeDiff, Int.reduceLE, Int.reduceLT, Nat.reduceEqDiff, Nat.reduceSub, SB, SV.known, packR, ne_eq, reduceCtorEq, Nat.reduceEqDiff, ↓reduceIte, if_true, if_false, eq_self, Nat.reduceAdd, Nat.reduceMul, Nat.reduceSub, forall_const, oneCellS, Kd.isSca, flat, TYB]
    refine loop_intro (fun i : Unit => [(0, .nils), (1, .fn g []), (7, .int 0), (8, .int 0)]) (fun i => []) 0 (fun i => True) (fun i => 0) ?_ ?_
    · refine ⟨(), trivial, Sub.mk_id ?_ ?_ ?_ ?_ ?_⟩
      all_goals (simp only [LB, subS, subH, wfS, wfH, SV.ren, renL, SObj.ren, SV.wf, SObj.wf, wfL, SV.known, Nat.reduceEqDiff, ↓reduceIte, if_true, if_false, eq_self, Nat.reduceAdd, Nat.reduceLT, Nat.reduceLeDiff, implies_true, reduceCtorEq, forall_const] <;> simp)
    · intro _ _
      simp -implicitDefEqProofs only [lk_normal, SB, SV.known, packR, ne_eq, reduceCtorEq, Nat.reduceEqDiff, ↓reduceIte, if_true, if_false, eq_self, Nat.reduceAdd, Nat.reduceMul, Nat.reduceSub, forall_const, oneCellS, Kd.isSca, flat, TYB]
      simp
  refine pure_of_vc (X := ⟨Try.prog, tys, [(123, fun args H' => some (args = [.nils, .fn g []], .int (-1)))], [], true, true, 0, [], []⟩) fn_87 ⟨tys_ok, .cons (fun args H' p v h hp => ?_) .nil, .nil, mixed⟩ (n0 := 0) (Nat.le_of_ble_eq_true rfl) (by simp [wfL, SV.wf]) (wfH_spec (by simp [wfH, SObj.wf])) (Nat.le_refl _) (fun _ => trivial) ?_
  · cases h
    subst hp
    exact hi.any _
  simp -implicitDefEqProofs only [Try.f87, Option.getD_some, argS, SB, SV.known, packR, ne_eq, reduceCtorEq, Nat.reduceEqDiff, ↓reduceIte, if_true, if_false, eq_self, Nat.reduceAdd, Nat.reduceMul, Nat.reduceSub, forall_const, oneCellS, Kd.isSca, flat, TYB]
  all_goals simp
/-! isSorted over a list of racks. -/
def srtAny_F : List SV → Heap → Option (Prop × SV)
  | [.slice b 0 len _, .fn g []], H => match hget H b with
    | some (.ints L _) => some (g = 78 ∧ len * 24 ≤ L.length ∧ len ≤ 9223372036854775806 ∧ (∀ i, i < len → rackB ((L.drop (i * 24)).take 24) = true), .bool ((chkR L 0 len).any sortB))
    | _ => none
  | [.nils, .fn _ []], _ => some (True, .bool false)
  | _, _ => none
--@tbl srtAny = slices.ContainsFunc[[]impl.Rack,impl.Rack]
theorem srtAny_T : ∀ args H p v, srtAny_F args H = some (p, v) → p → PureH Try.prog 87 args H v := by
  intro args H p v h hp
  unfold srtAny_F at h
  split at h
  · rename_i b len cap g
    split at h
    · rename_i L e hb
      cases h
      obtain ⟨rfl, hl, hm, hr⟩ := hp
      have h0 : PureH Try.prog 87 [.slice 0 0 len cap, .fn 78 []] [(0, .ints L e)] (.bool ((chkR L 0 len).any sortB)) :=
        containsFuncR_ok 78 [] _ [] sortB 1 0 L e len cap rfl hl hm (fun x => x.length = 24 ∧ rackB x = true) (fun i hi => ⟨by rw [List.length_take, List.length_drop]; omega, hr i hi⟩)
          (fun x hx => (isSorted_ok x hx.1 hx.2).any _) (fun k o h => by cases h) (by simp [wfL]) (wfH_spec (by simp [wfH, SObj.wf]))
      exact h0.sub (H := H) (fun _ => b) (fun j o' hj => by
        simp only [hget_cons] at hj
        split at hj
        · rename_i h0; cases hj; exact ⟨hb, fun h => Nat.zero_le _, by simp [h0]⟩
        · cases hj) (fun x hx y hy _ => by simp at hx hy; omega) (fun _ => trivial)
    · cases h
  · cases h
    exact (containsFuncR_nil _).any _
  · cases h
/-! The lists of racks. -/
def bsN (D : List Int) (u : Int) (R : List Int) : Nat → List (List Int) × List (List Int)
  | 0 => ([R], [R])
  | n + 1 => (nwL D u (bsN D u R n).1 (bsN D u R n).2, (bsN D u R n).2 ++ nwL D u (bsN D u R n).1 (bsN D u R n).2)
theorem bsN_ok {R D : List Int} {u : Int} (hD : D.length = 6) (hu : ruF u = true) (hR : R.length = 24) (hf : forB R D = true) : ∀ i, okR D (bsN D u R i).1 ∧ okR D (bsN D u R i).2
  | 0 => ⟨fun x hx => by simp [bsN] at hx; subst hx; exact ⟨hR, hf⟩, fun x hx => by simp [bsN] at hx; subst hx; exact ⟨hR, hf⟩⟩
  | i + 1 => by
    obtain ⟨h1, h2⟩ := bsN_ok hD hu hR hf i
    have h3 : okR D (nwL D u (bsN D u R i).1 (bsN D u R i).2) := okR_nw (okR_suc hD h1)
    exact ⟨h3, okR_app h2 h3⟩
theorem nwL_len (D : List Int) (u : Int) (Q K : List (List Int)) : (nwL D u Q K).length ≤ 36 * Q.length := Nat.le_trans (nwF_len _ _) (fm_len D u Q)
theorem bsN_len (D : List Int) (u : Int) (R : List Int) : ∀ i, (bsN D u R i).1.length ≤ 36 ^ i
  | 0 => by simp [bsN]
  | i + 1 => by
    have h1 := bsN_len D u R i
    have h2 := nwL_len D u (bsN D u R i).1 (bsN D u R i).2
    show (nwL D u (bsN D u R i).1 (bsN D u R i).2).length ≤ _
    rw [Nat.pow_succ]
    omega
theorem bsN_zero {D : List Int} {u : Int} {R : List Int} {i : Nat} (h : (bsN D u R i).1.length = 0) : bsN D u R (i + 1) = ([], (bsN D u R i).2) := by
  have h1 : (bsN D u R i).1 = [] := List.length_eq_zero_iff.1 h
  show (nwL D u (bsN D u R i).1 (bsN D u R i).2, (bsN D u R i).2 ++ nwL D u (bsN D u R i).1 (bsN D u R i).2) = _
  rw [h1]
  simp [nwL, nwF]
def rbB (R D : List Int) (u n : Int) : Bool := forB R D && ruF u && decide (0 ≤ n ∧ n ≤ 2)
def rbF (R D : List Int) (u n : Int) : Int := if rbB R D u n = true then ((bsN D u R n.toNat).2.length : Nat) else 0
theorem ReachBy_ok (R D : List Int) (u n : Int) (hR : R.length = 24) (hD : D.length = 6) : PureH Try.prog 27 [.arr R, .arr D, .int u, .int n] [] (.tup [.int (rbF R D u n), .bool (rbB R D u n)]) := by
  have tkR : R.take 24 = R := List.take_of_length_le (by omega)
  have tkD : D.take 6 = D := List.take_of_length_le (by omega)
  have kI := keyI_rack
  unfold rbF rbB
  cases hf : forB R D
  · refine pure_of_vc (X := ⟨Try.prog, tys, [(70, isFor_F), (71, isRule_F), (72, within_F)], [(73, behind_F)], true, true, 0, [], [(3, .tree (.one 3 (.alt 0 (.alt 1 (.one 2 (.one 4 (.one 5 (.one 6 (.one 7 .done))))) (.alt 2 (.alt 1 (.one 4 (.one 5 (.one 6 (.one 7 .done)))) (.alt 4 (.one 1 (.one 5 (.one 6 (.one 7 .done)))) .stop)) .stop)) (.alt 2 (.alt 0 (.alt 1 (.one 4 (.one 5 (.one 6 (.one 7 .done)))) (.alt 4 (.one 1 (.one 5 (.one 6 (.one 7 .done)))) .stop)) (.alt 4 (.one 0 (.one 1 (.one 5 (.one 6 (.one 7 .done))))) .stop)) .stop))))]⟩) fn_27 ⟨tys_ok, (.cons isFor_T (.cons isRule_T (.cons within_T .nil))), (.cons behind_T .nil), mixed⟩ (n0 := 0) (Nat.le_of_ble_eq_true rfl) (by simp [wfL, SV.wf]) (wfH_spec (by simp [wfH, SObj.wf])) (Nat.le_refl _) (fun _ => by simp [SV.wf, wfL]) ?_
    simp -implicitDefEqProofs only [Try.f27, Option.getD_some, argS, isFor_F, isRule_F, within_F, behind_F, hR, hD, tkR, tkD, hf, ZB, Int.reduceToNat, Nat.reduceLT, Nat.reduceLeDiff, Int.reduceLE, Int.reduceLT, Nat.reduceEqDiff, Nat.reduceSub, SB, SV.known, packR, ne_eq, reduceCtorEq, Nat.reduceEqDiff, ↓reduceIte, if_true, if_false, eq_self, Nat.reduceAdd, Nat.reduceMul, Nat.reduceSub, forall_const, oneCellS, Kd.isSca, flat, TYB]
  cases hu : ruF u
  · refine pure_of_vc (X := ⟨Try.prog, tys, [(70, isFor_F), (71, isRule_F), (72, within_F)], [(73, behind_F)], true, true, 0, [], [(3, .tree (.one 3 (.alt 0 (.alt 1 (.one 2 (.one 4 (.one 5 (.one 6 (.one 7 .done))))) (.alt 2 (.alt 1 (.one 4 (.one 5 (.one 6 (.one 7 .done)))) (.alt 4 (.one 1 (.one 5 (.one 6 (.one 7 .done)))) .stop)) .stop)) (.alt 2 (.alt 0 (.alt 1 (.one 4 (.one 5 (.one 6 (.one 7 .done)))) (.alt 4 (.one 1 (.one 5 (.one 6 (.one 7 .done)))) .stop)) (.alt 4 (.one 0 (.one 1 (.one 5 (.one 6 (.one 7 .done))))) .stop)) .stop))))]⟩) fn_27 ⟨tys_ok, (.cons isFor_T (.cons isRule_T (.cons within_T .nil))), (.cons behind_T .nil), mixed⟩ (n0 := 0) (Nat.le_of_ble_eq_true rfl) (by simp [wfL, SV.wf]) (wfH_spec (by simp [wfH, SObj.wf])) (Nat.le_refl _) (fun _ => by simp [SV.wf, wfL]) ?_
    simp -implicitDefEqProofs only [Try.f27, Option.getD_some, argS, isFor_F, isRule_F, within_F, behind_F, hR, hD, tkR, tkD, hf, hu, ZB, Int.reduceToNat, Nat.reduceLT, Nat.reduceLeDiff, Int.reduceLE, Int.reduceLT, Nat.reduceEqDiff, Nat.reduceSub, SB, SV.known, packR, ne_eq, reduceCtorEq, Nat.reduceEqDiff, ↓reduceIte, if_true, if_false, eq_self, Nat.reduceAdd, Nat.reduceMul, Nat.reduceSub, forall_const, oneCellS, Kd.isSca, flat, TYB]
  by_cases hn : 0 ≤ n ∧ n ≤ 2
  · refine pure_of_vc (X := ⟨Try.prog, tys, [(70, isFor_F), (71, isRule_F), (72, within_F)], [(73, behind_F)], true, true, 0, [], [(3, .tree (.one 3 (.alt 0 (.alt 1 (.one 2 (.one 4 (.one 5 (.one 6 (.one 7 .done))))) (.alt 2 (.alt 1 (.one 4 (.one 5 (.one 6 (.one 7 .done)))) (.alt 4 (.one 1 (.one 5 (.one 6 (.one 7 .done)))) .stop)) .stop)) (.alt 2 (.alt 0 (.alt 1 (.one 4 (.one 5 (.one 6 (.one 7 .done)))) (.alt 4 (.one 1 (.one 5 (.one 6 (.one 7 .done)))) .stop)) (.alt 4 (.one 0 (.one 1 (.one 5 (.one 6 (.one 7 .done))))) .stop)) .stop))))]⟩) fn_27 ⟨tys_ok, (.cons isFor_T (.cons isRule_T (.cons within_T .nil))), (.cons behind_T .nil), mixed⟩ (n0 := 0) (Nat.le_of_ble_eq_true rfl) (by simp [wfL, SV.wf]) (wfH_spec (by simp [wfH, SObj.wf])) (Nat.le_refl _) (fun _ => by simp [SV.wf, wfL]) ?_
    simp -implicitDefEqProofs only [Try.f27, Option.getD_some, argS, isFor_F, isRule_F, within_F, behind_F, hR, hD, tkR, tkD, hf, hu, hn, ZB, Int.reduceToNat, Nat.reduceLT, Nat.reduceLeDiff, Int.reduceLE, Int.reduceLT, Nat.reduceEqDiff, Nat.reduceSub, SB, SV.known, packR, ne_eq, reduceCtorEq, Nat.reduceEqDiff, ↓reduceIte, if_true, if_false, eq_self, Nat.reduceAdd, Nat.reduceMul, Nat.reduceSub, forall_const, oneCellS, Kd.isSca, flat, TYB]
    have k24 : keysOK ([] : List (List Int × Int)) 24 := fun q hq => by simp at hq
    refine ⟨[(10, .slice 2 0 1 1), (11, .mp 3), (5, .ptr 1 0), (2, .int u), (3, .int n)], [(2, .ints R 28), (3, .mp true (mk1 [R])), (1, .ints D 39), (0, .ints R 28)], 4, ?_, ?_⟩
    · simp -implicitDefEqProofs only [kI, k24, hR, tkR, ZB, Int.reduceToNat, Nat.reduceLT, Nat.reduceLeDiff, Int.reduceLE, Int.reduceLT, Nat.reduceEqDiff, Nat.reduceSub, SB, SV.known, packR, ne_eq, reduceCtorEq, Nat.reduceEqDiff, ↓reduceIte, if_true, if_false, eq_self, Nat.reduceAdd, Nat.reduceMul, Nat.reduceSub, forall_const, oneCellS, Kd.isSca, flat, TYB]
      have em : mset [] R 1 = mk1 [R] := rfl
      simp only [em]
      refine ⟨⟨Sub.mk_id ?_ ?_ ?_ ?_ ?_, Sub.mk_to2 2 3 3 2 ?_ ?_ ?_ ?_ ?_ ?_ ?_ ?_, Sub.mk_to2 2 3 3 2 ?_ ?_ ?_ ?_ ?_ ?_ ?_ ?_⟩, ⟨Sub.mk_to2 2 3 3 2 ?_ ?_ ?_ ?_ ?_ ?_ ?_ ?_, Sub.mk_to2 2 3 3 2 ?_ ?_ ?_ ?_ ?_ ?_ ?_ ?_⟩, Sub.mk_to2 2 3 3 2 ?_ ?_ ?_ ?_ ?_ ?_ ?_ ?_⟩
      all_goals ((try simp only [LB, subS, subH, wfS, wfH, SV.ren, renL, SObj.ren, SV.wf, SObj.wf, wfL, SV.known, Nat.reduceEqDiff, ↓reduceIte, if_true, if_false, eq_self, Nat.reduceAdd, Nat.reduceLT, Nat.reduceLeDiff, implies_true, reduceCtorEq, forall_const]) <;> simp)
    · simp -implicitDefEqProofs only [lk_normal, hn, ZB, Int.reduceToNat, Nat.reduceLT, Nat.reduceLeDiff, Int.reduceLE, Int.reduceLT, Nat.reduceEqDiff, Nat.reduceSub, SB, SV.known, packR, ne_eq, reduceCtorEq, Nat.reduceEqDiff, ↓reduceIte, if_true, if_false, eq_self, Nat.reduceAdd, Nat.reduceMul, Nat.reduceSub, forall_const, oneCellS, Kd.isSca, flat, TYB]
      obtain ⟨N, rfl⟩ : ∃ N : Nat, n = N := ⟨n.toNat, by omega⟩
      refine loop_intro (fun s : Nat × Nat × List Int => [(32, .int s.1), (31, .int N), (10, outVn 2 (bsN D u R s.1).1.length (bsN D u R s.1).1.length s.2.1), (11, .mp 3), (5, .ptr 1 0), (2, .int u)])
        (fun s => outHn 2 (bsN D u R s.1).1.length ((bsN D u R s.1).1.flatten ++ s.2.2) 28 [(3, .mp true (mk1 (bsN D u R s.1).2)), (1, .ints D 39)]) 4
        (fun s => s.1 ≤ N ∧ s.2.2.length + (bsN D u R s.1).1.length * 24 = s.2.1 * 24) (fun s => N - s.1) ?_ ?_
      · refine ⟨(0, 1, []), ⟨by simp, by simp [bsN]⟩, Sub.mk_id ?_ ?_ ?_ ?_ ?_⟩
        all_goals simp only [bsN, List.length_cons, List.length_nil, Nat.zero_add, outVn_succ, outHn_succ, List.flatten_cons, List.flatten_nil, List.append_nil, LB, subS, subH, wfS, wfH, SV.ren, renL, SObj.ren, SV.wf, SObj.wf, wfL, SV.known, Nat.reduceEqDiff, ↓reduceIte, if_true, if_false, eq_self, Nat.reduceAdd, Nat.reduceLT, Nat.reduceLeDiff, implies_true, reduceCtorEq, forall_const]
        all_goals (try simp)
      · rintro ⟨i, c, j⟩ ⟨hi, hj⟩
        simp only at hi hj
        have hQ := bsN_ok hD hu hR hf i
        by_cases hlt : i < N
        · have hil : (i : Int) < N := by omega
          have hlen := bsN_len D u R i
          have p36 : 36 ^ i ≤ 1296 := by
            have : i ≤ 1 := by omega
            obtain rfl | rfl : i = 0 ∨ i = 1 := by omega
            · decide
            · decide
          cases hl : (bsN D u R i).1.length with
          | zero =>
            have e1 := bsN_zero (D := D) (u := u) (R := R) (i := i) hl
            simp -implicitDefEqProofs only [lk_normal, behind_F, hil, hD, tkD, outVn_zero, outHn_zero, ZB, Int.reduceToNat, Nat.reduceLT, Nat.reduceLeDiff, Int.reduceLE, Int.reduceLT, Nat.reduceEqDiff, Nat.reduceSub, SB, SV.known, packR, ne_eq, reduceCtorEq, Nat.reduceEqDiff, ↓reduceIte, if_true, if_false, eq_self, Nat.reduceAdd, Nat.reduceMul, Nat.reduceSub, forall_const, oneCellS, Kd.isSca, flat, TYB]
            refine ⟨by unfold In64; omega, (i + 1, 0, []), ⟨by simp only; omega, by simp only [e1]; simp⟩, by simp only; omega, Sub.mk_id ?_ ?_ ?_ ?_ ?_⟩
            all_goals (try simp only [e1, List.length_nil, outVn_zero, outHn_zero])
            all_goals ((try simp only [LB, subS, subH, wfS, wfH, SV.ren, renL, SObj.ren, SV.wf, SObj.wf, wfL, SV.known, Nat.reduceEqDiff, ↓reduceIte, if_true, if_false, eq_self, Nat.reduceAdd, Nat.reduceLT, Nat.reduceLeDiff, implies_true, reduceCtorEq, forall_const]) <;> simp)
          | succ l =>
            simp -implicitDefEqProofs only [lk_normal, behind_F, hil, hD, tkD, hu, outVn_succ, outHn_succ, ZB, Int.reduceToNat, Nat.reduceLT, Nat.reduceLeDiff, Int.reduceLE, Int.reduceLT, Nat.reduceEqDiff, Nat.reduceSub, SB, SV.known, packR, ne_eq, reduceCtorEq, Nat.reduceEqDiff, ↓reduceIte, if_true, if_false, eq_self, Nat.reduceAdd, Nat.reduceMul, Nat.reduceSub, forall_const, oneCellS, Kd.isSca, flat, TYB]
            refine ⟨by omega, (bsN D u R i).1, j, (bsN D u R i).2, rfl, hl, rfl, hQ.1, hQ.2.all24, fun c' j' hj' => ?_⟩
            refine ⟨by unfold In64; omega, (i + 1, c', j'), ⟨by simp only; omega, hj'⟩, by simp only; omega, Sub.mk_to 2 4 ?_ ?_ ?_ ?_ ?_ ?_ ?_⟩
            all_goals (try simp only [bsN])
            all_goals (cases (nwL D u (bsN D u R i).1 (bsN D u R i).2).length <;> simp only [outVn_zero, outVn_succ, outHn_zero, outHn_succ, LB, subS, subH, wfS, wfH, SV.ren, renL, SObj.ren, SV.wf, SObj.wf, wfL, SV.known, Nat.reduceEqDiff, ↓reduceIte, if_true, if_false, eq_self, Nat.reduceAdd, Nat.reduceLT, Nat.reduceLeDiff, implies_true, reduceCtorEq, forall_const] <;> simp)
        · have hil : ¬ (i : Int) < N := by omega
          obtain rfl : i = N := by omega
          simp -implicitDefEqProofs only [lk_normal, hget_outHn, known_outVn, hil, ZB, Int.reduceToNat, Nat.reduceLT, Nat.reduceLeDiff, Int.reduceLE, Int.reduceLT, Nat.reduceEqDiff, Nat.reduceSub, SB, SV.known, packR, ne_eq, reduceCtorEq, Nat.reduceEqDiff, ↓reduceIte, if_true, if_false, eq_self, Nat.reduceAdd, Nat.reduceMul, Nat.reduceSub, forall_const, oneCellS, Kd.isSca, flat, TYB]
          rw [mk1_len]
  · refine pure_of_vc (X := ⟨Try.prog, tys, [(70, isFor_F), (71, isRule_F), (72, within_F)], [(73, behind_F)], true, true, 0, [], [(3, .tree (.one 3 (.alt 0 (.alt 1 (.one 2 (.one 4 (.one 5 (.one 6 (.one 7 .done))))) (.alt 2 (.alt 1 (.one 4 (.one 5 (.one 6 (.one 7 .done)))) (.alt 4 (.one 1 (.one 5 (.one 6 (.one 7 .done)))) .stop)) .stop)) (.alt 2 (.alt 0 (.alt 1 (.one 4 (.one 5 (.one 6 (.one 7 .done)))) (.alt 4 (.one 1 (.one 5 (.one 6 (.one 7 .done)))) .stop)) (.alt 4 (.one 0 (.one 1 (.one 5 (.one 6 (.one 7 .done))))) .stop)) .stop))))]⟩) fn_27 ⟨tys_ok, (.cons isFor_T (.cons isRule_T (.cons within_T .nil))), (.cons behind_T .nil), mixed⟩ (n0 := 0) (Nat.le_of_ble_eq_true rfl) (by simp [wfL, SV.wf]) (wfH_spec (by simp [wfH, SObj.wf])) (Nat.le_refl _) (fun _ => by simp [SV.wf, wfL]) ?_
    simp -implicitDefEqProofs only [Try.f27, Option.getD_some, argS, isFor_F, isRule_F, within_F, behind_F, hR, hD, tkR, tkD, hf, hu, hn, ZB, Int.reduceToNat, Nat.reduceLT, Nat.reduceLeDiff, Int.reduceLE, Int.reduceLT, Nat.reduceEqDiff, Nat.reduceSub, SB, SV.known, packR, ne_eq, reduceCtorEq, Nat.reduceEqDiff, ↓reduceIte, if_true, if_false, eq_self, Nat.reduceAdd, Nat.reduceMul, Nat.reduceSub, forall_const, oneCellS, Kd.isSca, flat, TYB]

/-! Every known rack is looked at anew: nothing else comes of it. -/
def akN (D : List Int) (u : Int) (R : List Int) : Nat → List (List Int)
  | 0 => [R]
  | n + 1 => akN D u R n ++ nwL D u (akN D u R n) (akN D u R n)
theorem akN_ok {R D : List Int} {u : Int} (hD : D.length = 6) (hR : R.length = 24) (hf : forB R D = true) : ∀ i, okR D (akN D u R i)
  | 0 => fun x hx => by simp [akN] at hx; subst hx; exact ⟨hR, hf⟩
  | i + 1 => okR_app (akN_ok hD hR hf i) (okR_nw (okR_suc hD (akN_ok hD hR hf i)))
theorem akN_len (D : List Int) (u : Int) (R : List Int) : ∀ i, (akN D u R i).length ≤ 37 ^ i
  | 0 => by simp [akN]
  | i + 1 => by
    have h1 := akN_len D u R i
    have h2 := nwL_len D u (akN D u R i) (akN D u R i)
    show (akN D u R i ++ nwL D u (akN D u R i) (akN D u R i)).length ≤ _
    rw [Nat.pow_succ, List.length_append]
    omega
theorem akN_pos (D : List Int) (u : Int) (R : List Int) : ∀ i, 0 < (akN D u R i).length
  | 0 => by simp [akN]
  | i + 1 => by
    have := akN_pos D u R i
    show 0 < (akN D u R i ++ nwL D u (akN D u R i) (akN D u R i)).length
    rw [List.length_append]; omega
theorem nwL_skip (D : List Int) (u : Int) (A Q K : List (List Int)) (h : ∀ y ∈ A.flatMap (sucL D u), y ∈ K) : nwL D u (A ++ Q) K = nwL D u Q K := by
  unfold nwL
  rw [List.flatMap_append]
  exact nwF_skip K _ _ h
theorem nwL_all (D : List Int) (u : Int) (Q K : List (List Int)) : ∀ y ∈ Q.flatMap (sucL D u), y ∈ K ++ nwL D u Q K := nwF_all K _
/-- The last round's racks end the list, and what lies behind the others is known. -/
theorem bsN_split (D : List Int) (u : Int) (R : List Int) : ∀ i, ∃ A, (bsN D u R i).2 = A ++ (bsN D u R i).1 ∧ ∀ y ∈ A.flatMap (sucL D u), y ∈ (bsN D u R i).2
  | 0 => ⟨[], rfl, fun y hy => by simp at hy⟩
  | i + 1 => by
    obtain ⟨A, h1, h2⟩ := bsN_split D u R i
    refine ⟨(bsN D u R i).2, rfl, fun y hy => ?_⟩
    show y ∈ (bsN D u R i).2 ++ nwL D u (bsN D u R i).1 (bsN D u R i).2
    rw [h1, List.flatMap_append] at hy
    rcases List.mem_append.1 hy with hy | hy
    · exact List.mem_append_left _ (h2 y hy)
    · exact nwL_all D u _ _ y hy
theorem akN_eq (D : List Int) (u : Int) (R : List Int) : ∀ i, akN D u R i = (bsN D u R i).2
  | 0 => rfl
  | i + 1 => by
    show akN D u R i ++ nwL D u (akN D u R i) (akN D u R i) = (bsN D u R i).2 ++ nwL D u (bsN D u R i).1 (bsN D u R i).2
    obtain ⟨A, h1, h2⟩ := bsN_split D u R i
    rw [akN_eq D u R i]
    congr 1
    have h3 := nwL_skip D u A (bsN D u R i).1 (bsN D u R i).2 h2
    rw [← h1] at h3
    exact h3
theorem sReachBy_ok (R D : List Int) (u n : Int) (hR : R.length = 24) (hD : D.length = 6) : PureH Try.prog 25 [.arr R, .arr D, .int u, .int n] [] (.tup [.int (rbF R D u n), .bool (rbB R D u n)]) := by
  have tkR : R.take 24 = R := List.take_of_length_le (by omega)
  have tkD : D.take 6 = D := List.take_of_length_le (by omega)
  unfold rbF rbB
  cases hf : forB R D
  · refine pure_of_vc (X := ⟨Try.prog, tys, [(66, l8Fits2_F), (67, l8Rule_F), (68, l1In_F)], [(69, l8Next_F)], true, true, 0, [], []⟩) fn_25 ⟨tys_ok, (.cons l8Fits2_T (.cons l8Rule_T (.cons l1In_T .nil))), (.cons l8Next_T .nil), mixed⟩ (n0 := 0) (Nat.le_of_ble_eq_true rfl) (by simp [wfL, SV.wf]) (wfH_spec (by simp [wfH, SObj.wf])) (Nat.le_refl _) (fun _ => by simp [SV.wf, wfL]) ?_
    simp -implicitDefEqProofs only [Try.f25, Option.getD_some, argS, l8Fits2_F, l8Rule_F, l1In_F, l8Next_F, hR, hD, tkR, tkD, hf, ZB, Int.reduceToNat, Nat.reduceLT, Nat.reduceLeDiff, Int.reduceLE, Int.reduceLT, Nat.reduceEqDiff, Nat.reduceSub, SB, SV.known, packR, ne_eq, reduceCtorEq, Nat.reduceEqDiff, ↓reduceIte, if_true, if_false, eq_self, Nat.reduceAdd, Nat.reduceMul, Nat.reduceSub, forall_const, oneCellS, Kd.isSca, flat, TYB]
  cases hu : ruF u
  · refine pure_of_vc (X := ⟨Try.prog, tys, [(66, l8Fits2_F), (67, l8Rule_F), (68, l1In_F)], [(69, l8Next_F)], true, true, 0, [], []⟩) fn_25 ⟨tys_ok, (.cons l8Fits2_T (.cons l8Rule_T (.cons l1In_T .nil))), (.cons l8Next_T .nil), mixed⟩ (n0 := 0) (Nat.le_of_ble_eq_true rfl) (by simp [wfL, SV.wf]) (wfH_spec (by simp [wfH, SObj.wf])) (Nat.le_refl _) (fun _ => by simp [SV.wf, wfL]) ?_
    simp -implicitDefEqProofs only [Try.f25, Option.getD_some, argS, l8Fits2_F, l8Rule_F, l1In_F, l8Next_F, hR, hD, tkR, tkD, hf, hu, ZB, Int.reduceToNat, Nat.reduceLT, Nat.reduceLeDiff, Int.reduceLE, Int.reduceLT, Nat.reduceEqDiff, Nat.reduceSub, SB, SV.known, packR, ne_eq, reduceCtorEq, Nat.reduceEqDiff, ↓reduceIte, if_true, if_false, eq_self, Nat.reduceAdd, Nat.reduceMul, Nat.reduceSub, forall_const, oneCellS, Kd.isSca, flat, TYB]
  by_cases hn : 0 ≤ n ∧ n ≤ 2
  · obtain ⟨N, rfl⟩ : ∃ N : Nat, n = N := ⟨n.toNat, by omega⟩
    refine pure_of_vc (X := ⟨Try.prog, tys, [(66, l8Fits2_F), (67, l8Rule_F), (68, l1In_F)], [(69, l8Next_F)], true, true, 0, [], []⟩) fn_25 ⟨tys_ok, (.cons l8Fits2_T (.cons l8Rule_T (.cons l1In_T .nil))), (.cons l8Next_T .nil), mixed⟩ (n0 := 0) (Nat.le_of_ble_eq_true rfl) (by simp [wfL, SV.wf]) (wfH_spec (by simp [wfH, SObj.wf])) (Nat.le_refl _) (fun _ => by simp [SV.wf, wfL]) ?_
    simp -implicitDefEqProofs only [Try.f25, Option.getD_some, argS, l8Fits2_F, l8Rule_F, l1In_F, l8Next_F, hR, hD, tkR, tkD, hf, hu, hn, ZB, Int.reduceToNat, Nat.reduceLT, Nat.reduceLeDiff, Int.reduceLE, Int.reduceLT, Nat.reduceEqDiff, Nat.reduceSub, SB, SV.known, packR, ne_eq, reduceCtorEq, Nat.reduceEqDiff, ↓reduceIte, if_true, if_false, eq_self, Nat.reduceAdd, Nat.reduceMul, Nat.reduceSub, forall_const, oneCellS, Kd.isSca, flat, TYB]
    refine loop_intro (fun s : Nat × Nat × List Int => [(11, .int s.1), (10, .slice 2 0 (akN D u R s.1).length s.2.1), (5, .ptr 1 0), (2, .int u), (3, .int N)])
      (fun s => [(2, .ints ((akN D u R s.1).flatten ++ s.2.2) 28), (1, .ints D 39)]) 3
      (fun s => s.1 ≤ N ∧ s.2.2.length + (akN D u R s.1).length * 24 = s.2.1 * 24) (fun s => N - s.1) ?_ ?_
    · refine ⟨(0, 1, []), ⟨by simp, by simp [akN]⟩, Sub.mk_id ?_ ?_ ?_ ?_ ?_⟩
      all_goals simp only [akN, List.length_cons, List.length_nil, Nat.zero_add, List.flatten_cons, List.flatten_nil, List.append_nil, LB, subS, subH, wfS, wfH, SV.ren, renL, SObj.ren, SV.wf, SObj.wf, wfL, SV.known, Nat.reduceEqDiff, ↓reduceIte, if_true, if_false, eq_self, Nat.reduceAdd, Nat.reduceLT, Nat.reduceLeDiff, implies_true, reduceCtorEq, forall_const]
      all_goals (try simp)
    · rintro ⟨i, c, j⟩ ⟨hi, hj⟩
      simp only at hi hj
      have hQ := akN_ok (u := u) hD hR hf i
      have hfl := flat_len hQ.all24
      by_cases hlt : i < N
      · have hil : (i : Int) < N := by omega
        have hlen := akN_len D u R i
        have p37 : 37 ^ i ≤ 37 := by
          obtain rfl | rfl : i = 0 ∨ i = 1 := by omega
          · decide
          · decide
        have hpos := akN_pos D u R i
        have lJ : ((akN D u R i).flatten ++ j).length = c * 24 := by rw [List.length_append]; omega
        simp -implicitDefEqProofs only [lk_normal, l8Next_F, hil, hD, tkD, hu, lJ, freshK, Wrap.ap, ZB, Int.reduceToNat, Nat.reduceLT, Nat.reduceLeDiff, Int.reduceLE, Int.reduceLT, Nat.reduceEqDiff, Nat.reduceSub, SB, SV.known, packR, ne_eq, reduceCtorEq, Nat.reduceEqDiff, ↓reduceIte, if_true, if_false, eq_self, Nat.reduceAdd, Nat.reduceMul, Nat.reduceSub, forall_const, oneCellS, Kd.isSca, flat, TYB]
        refine ⟨hpos, by omega, akN D u R i, j, rfl, rfl, hQ, fun c' j' hj' => ?_⟩
        have e1 : akN D u R i ++ nwL D u (akN D u R i) (akN D u R i) = akN D u R (i + 1) := rfl
        have hf1 := flat_len (akN_ok (u := u) hD hR hf (i + 1)).all24
        simp only [e1] at hj' ⊢
        refine ⟨by unfold In64; omega, (i + 1, c', j'), ⟨by simp only; omega, by simp only; omega⟩, by simp only; omega, Sub.mk_to 2 3 ?_ ?_ ?_ ?_ ?_ ?_ ?_⟩
        all_goals ((try simp only [LB, subS, subH, wfS, wfH, SV.ren, renL, SObj.ren, SV.wf, SObj.wf, wfL, SV.known, Nat.reduceEqDiff, ↓reduceIte, if_true, if_false, eq_self, Nat.reduceAdd, Nat.reduceLT, Nat.reduceLeDiff, implies_true, reduceCtorEq, forall_const]) <;> simp)
      · have hil : ¬ (i : Int) < N := by omega
        obtain rfl : i = N := by omega
        simp -implicitDefEqProofs only [lk_normal, hil, akN_eq, ZB, Int.reduceToNat, Nat.reduceLT, Nat.reduceLeDiff, Int.reduceLE, Int.reduceLT, Nat.reduceEqDiff, Nat.reduceSub, SB, SV.known, packR, ne_eq, reduceCtorEq, Nat.reduceEqDiff, ↓reduceIte, if_true, if_false, eq_self, Nat.reduceAdd, Nat.reduceMul, Nat.reduceSub, forall_const, oneCellS, Kd.isSca, flat, TYB]
  · refine pure_of_vc (X := ⟨Try.prog, tys, [(66, l8Fits2_F), (67, l8Rule_F), (68, l1In_F)], [(69, l8Next_F)], true, true, 0, [], []⟩) fn_25 ⟨tys_ok, (.cons l8Fits2_T (.cons l8Rule_T (.cons l1In_T .nil))), (.cons l8Next_T .nil), mixed⟩ (n0 := 0) (Nat.le_of_ble_eq_true rfl) (by simp [wfL, SV.wf]) (wfH_spec (by simp [wfH, SObj.wf])) (Nat.le_refl _) (fun _ => by simp [SV.wf, wfL]) ?_
    simp -implicitDefEqProofs only [Try.f25, Option.getD_some, argS, l8Fits2_F, l8Rule_F, l1In_F, l8Next_F, hR, hD, tkR, tkD, hf, hu, hn, ZB, Int.reduceToNat, Nat.reduceLT, Nat.reduceLeDiff, Int.reduceLE, Int.reduceLT, Nat.reduceEqDiff, Nat.reduceSub, SB, SV.known, packR, ne_eq, reduceCtorEq, Nat.reduceEqDiff, ↓reduceIte, if_true, if_false, eq_self, Nat.reduceAdd, Nat.reduceMul, Nat.reduceSub, forall_const, oneCellS, Kd.isSca, flat, TYB]
/-! FewestBy. -/
theorem srtN_sort {D : List Int} {u : Int} {x : List Int} (h : sortB x = true) : ∀ m, srtN D u m x = true
  | 0 => h
  | m + 1 => by show (sortB x || _) = true; rw [h]; rfl
theorem srtN_mono {D : List Int} {u : Int} : ∀ {m : Nat} {x : List Int}, srtN D u m x = true → srtN D u (m + 1) x = true
  | 0, x, h => by
    have h' : sortB x = true := h
    show (sortB x || _) = true; rw [h']; rfl
  | m + 1, x, h => by
    have h' : (sortB x || (sucL D u x).any (srtN D u m)) = true := h
    show (sortB x || (sucL D u x).any (srtN D u (m + 1))) = true
    rw [Bool.or_eq_true] at h' ⊢
    rcases h' with h' | h'
    · exact .inl h'
    · rw [List.any_eq_true] at h' ⊢
      obtain ⟨z, hz, h2⟩ := h'
      exact .inr ⟨z, hz, srtN_mono h2⟩
theorem akN_srt (D : List Int) (u : Int) (R : List Int) : ∀ n m, (akN D u R n).any (srtN D u m) = srtN D u (n + m) R
  | 0, m => by simp [akN]
  | n + 1, m => by
    rw [show n + 1 + m = n + (m + 1) by omega, ← akN_srt D u R n (m + 1)]
    apply Bool.eq_iff_iff.2
    rw [List.any_eq_true, List.any_eq_true]
    constructor
    · rintro ⟨x, hx, h⟩
      rcases List.mem_append.1 (show x ∈ akN D u R n ++ nwL D u (akN D u R n) (akN D u R n) from hx) with hx | hx
      · exact ⟨x, hx, srtN_mono h⟩
      · have := (nwF_sub _ _ x hx).1
        obtain ⟨z, hz, hxz⟩ := List.mem_flatMap.1 this
        refine ⟨z, hz, ?_⟩
        show (sortB z || (sucL D u z).any (srtN D u m)) = true
        rw [Bool.or_eq_true, List.any_eq_true]
        exact .inr ⟨x, hxz, h⟩
    · rintro ⟨x, hx, h⟩
      have h' : (sortB x || (sucL D u x).any (srtN D u m)) = true := h
      rw [Bool.or_eq_true, List.any_eq_true] at h'
      rcases h' with h' | ⟨z, hz, h2⟩
      · exact ⟨x, List.mem_append_left _ hx, srtN_sort h' m⟩
      · exact ⟨z, nwL_all D u _ _ z (List.mem_flatMap.2 ⟨x, hx, hz⟩), h2⟩
def fwA (D : List Int) (u : Int) (R : List Int) (i : Nat) : Bool := (bsN D u R i).1.any sortB
theorem srt_fwA (D : List Int) (u : Int) (R : List Int) (i : Nat) : srtN D u i R = (akN D u R i).any sortB := by
  have := akN_srt D u R i 0
  rw [Nat.add_zero] at this
  rw [← this]; rfl
theorem srt_zero (D : List Int) (u : Int) (R : List Int) : srtN D u 0 R = fwA D u R 0 := by rw [srt_fwA]; rfl
theorem srt_succ (D : List Int) (u : Int) (R : List Int) (i : Nat) : srtN D u (i + 1) R = (srtN D u i R || fwA D u R (i + 1)) := by
  rw [srt_fwA, srt_fwA, akN_eq, akN_eq]
  show ((bsN D u R i).2 ++ (bsN D u R (i + 1)).1).any sortB = _
  rw [List.any_append]; rfl
theorem srt_fst {D : List Int} {u : Int} {R : List Int} : ∀ {i : Nat}, (∀ k, k < i → srtN D u k R = false) → (∀ k, k < i → fwA D u R k = false) ∧ srtN D u i R = fwA D u R i
  | 0, _ => ⟨fun k h => by omega, srt_zero D u R⟩
  | i + 1, h => by
    obtain ⟨h1, h2⟩ := srt_fst (i := i) fun k hk => h k (by omega)
    have h3 := h i (by omega)
    refine ⟨fun k hk => ?_, by rw [srt_succ, h3, Bool.false_or]⟩
    by_cases hki : k = i
    · subst hki; rw [← h2]; exact h3
    · exact h1 k (by omega)
def fwO (R D : List Int) (u : Int) : Option Nat := if (forB R D && ruF u) = true then (List.range 4).find? (fwA D u R) else none
theorem fw_hit {f : Nat → Bool} {i m : Nat} (hm : i < m) (h : f i = true) (h2 : ∀ k, k < i → f k = false) : (List.range m).find? f = some i := by
  rw [List.find?_range_eq_some]
  exact ⟨h, List.mem_range.2 hm, fun k hk => by simp [h2 k hk]⟩
theorem fw_none {f : Nat → Bool} {m : Nat} (h2 : ∀ k, k < m → f k = false) : (List.range m).find? f = none := by
  rw [List.find?_eq_none]
  intro x hx
  rw [h2 x (List.mem_range.1 hx)]; simp
def fwF (o : Option Nat) : Int := match o with
  | some i => (i : Nat)
  | none => 0
theorem sFewestBy_ok (R D : List Int) (u : Int) (hR : R.length = 24) (hD : D.length = 6) : PureH Try.prog 36 [.arr R, .arr D, .int u] [] (.tup [.int (fwF (fwO R D u)), .bool (fwO R D u).isSome]) := by
  have tkR : R.take 24 = R := List.take_of_length_le (by omega)
  have tkD : D.take 6 = D := List.take_of_length_le (by omega)
  unfold fwO
  cases hf : forB R D
  · refine pure_of_vc (X := ⟨Try.prog, tys, [(66, l8Fits2_F), (67, l8Rule_F), (86, l8Sorts_F)], [], true, true, 0, [], []⟩) fn_36 ⟨tys_ok, (.cons l8Fits2_T (.cons l8Rule_T (.cons l8Sorts_T .nil))), .nil, mixed⟩ (n0 := 0) (Nat.le_of_ble_eq_true rfl) (by simp [wfL, SV.wf]) (wfH_spec (by simp [wfH, SObj.wf])) (Nat.le_refl _) (fun _ => by simp [SV.wf, wfL]) ?_
    simp -implicitDefEqProofs only [Try.f36, Option.getD_some, argS, l8Fits2_F, l8Rule_F, l8Sorts_F, hR, hD, tkR, tkD, hf, ZB, Int.reduceToNat, Nat.reduceLT, Nat.reduceLeDiff, Int.reduceLE, Int.reduceLT, Nat.reduceEqDiff, Nat.reduceSub, SB, SV.known, packR, ne_eq, reduceCtorEq, Nat.reduceEqDiff, ↓reduceIte, if_true, if_false, eq_self, Nat.reduceAdd, Nat.reduceMul, Nat.reduceSub, forall_const, oneCellS, Kd.isSca, flat, TYB]
    exact ⟨rfl, rfl⟩
  cases hu : ruF u
  · refine pure_of_vc (X := ⟨Try.prog, tys, [(66, l8Fits2_F), (67, l8Rule_F), (86, l8Sorts_F)], [], true, true, 0, [], []⟩) fn_36 ⟨tys_ok, (.cons l8Fits2_T (.cons l8Rule_T (.cons l8Sorts_T .nil))), .nil, mixed⟩ (n0 := 0) (Nat.le_of_ble_eq_true rfl) (by simp [wfL, SV.wf]) (wfH_spec (by simp [wfH, SObj.wf])) (Nat.le_refl _) (fun _ => by simp [SV.wf, wfL]) ?_
    simp -implicitDefEqProofs only [Try.f36, Option.getD_some, argS, l8Fits2_F, l8Rule_F, l8Sorts_F, hR, hD, tkR, tkD, hf, hu, ZB, Int.reduceToNat, Nat.reduceLT, Nat.reduceLeDiff, Int.reduceLE, Int.reduceLT, Nat.reduceEqDiff, Nat.reduceSub, SB, SV.known, packR, ne_eq, reduceCtorEq, Nat.reduceEqDiff, ↓reduceIte, if_true, if_false, eq_self, Nat.reduceAdd, Nat.reduceMul, Nat.reduceSub, forall_const, oneCellS, Kd.isSca, flat, TYB]
    exact ⟨rfl, rfl⟩
  · refine pure_of_vc (X := ⟨Try.prog, tys, [(66, l8Fits2_F), (67, l8Rule_F), (86, l8Sorts_F)], [], true, true, 0, [], []⟩) fn_36 ⟨tys_ok, (.cons l8Fits2_T (.cons l8Rule_T (.cons l8Sorts_T .nil))), .nil, mixed⟩ (n0 := 0) (Nat.le_of_ble_eq_true rfl) (by simp [wfL, SV.wf]) (wfH_spec (by simp [wfH, SObj.wf])) (Nat.le_refl _) (fun _ => by simp [SV.wf, wfL]) ?_
    simp -implicitDefEqProofs only [Try.f36, Option.getD_some, argS, l8Fits2_F, l8Rule_F, l8Sorts_F, hR, hD, tkR, tkD, hf, hu, ZB, Int.reduceToNat, Nat.reduceLT, Nat.reduceLeDiff, Int.reduceLE, Int.reduceLT, Nat.reduceEqDiff, Nat.reduceSub, SB, SV.known, packR, ne_eq, reduceCtorEq, Nat.reduceEqDiff, ↓reduceIte, if_true, if_false, eq_self, Nat.reduceAdd, Nat.reduceMul, Nat.reduceSub, forall_const, oneCellS, Kd.isSca, flat, TYB]
    refine loop_intro (fun i : Nat => [(8, .int i), (4, .ptr 1 0), (3, .ptr 0 0), (2, .int u)]) (fun _ => [(1, .ints D 39), (0, .ints R 28)]) 2
      (fun i => i ≤ 4 ∧ ∀ k, k < i → srtN D u k R = false) (fun i => 4 - i) ?_ ?_
    · refine ⟨0, ⟨by omega, by simp⟩, Sub.mk_id ?_ ?_ ?_ ?_ ?_⟩
      all_goals ((try simp only [LB, subS, subH, wfS, wfH, SV.ren, renL, SObj.ren, SV.wf, SObj.wf, wfL, SV.known, Nat.reduceEqDiff, ↓reduceIte, if_true, if_false, eq_self, Nat.reduceAdd, Nat.reduceLT, Nat.reduceLeDiff, implies_true, reduceCtorEq, forall_const]) <;> simp)
    · rintro i ⟨hi, hno⟩
      obtain ⟨s1, s2⟩ := srt_fst hno
      by_cases hlt : i < 4
      · have hil : (i : Int) ≤ 3 := by omega
        cases hs : srtN D u i R
        · simp -implicitDefEqProofs only [lk_normal, l8Sorts_F, hil, hR, hD, tkR, tkD, hf, hu, hs, Int.toNat_natCast, ZB, Int.reduceToNat, Nat.reduceLT, Nat.reduceLeDiff, Int.reduceLE, Int.reduceLT, Nat.reduceEqDiff, Nat.reduceSub, SB, SV.known, packR, ne_eq, reduceCtorEq, Nat.reduceEqDiff, ↓reduceIte, if_true, if_false, eq_self, Nat.reduceAdd, Nat.reduceMul, Nat.reduceSub, forall_const, oneCellS, Kd.isSca, flat, TYB]
          refine ⟨by omega, by unfold In64; omega, i + 1, ⟨by omega, fun k hk => ?_⟩, by omega, Sub.mk_id ?_ ?_ ?_ ?_ ?_⟩
          · by_cases hki : k = i
            · subst hki; exact hs
            · exact hno k (by omega)
          all_goals ((try simp only [LB, subS, subH, wfS, wfH, SV.ren, renL, SObj.ren, SV.wf, SObj.wf, wfL, SV.known, Nat.reduceEqDiff, ↓reduceIte, if_true, if_false, eq_self, Nat.reduceAdd, Nat.reduceLT, Nat.reduceLeDiff, implies_true, reduceCtorEq, forall_const]) <;> simp)
        · simp -implicitDefEqProofs only [lk_normal, l8Sorts_F, hil, hR, hD, tkR, tkD, hf, hu, hs, Int.toNat_natCast, ZB, Int.reduceToNat, Nat.reduceLT, Nat.reduceLeDiff, Int.reduceLE, Int.reduceLT, Nat.reduceEqDiff, Nat.reduceSub, SB, SV.known, packR, ne_eq, reduceCtorEq, Nat.reduceEqDiff, ↓reduceIte, if_true, if_false, eq_self, Nat.reduceAdd, Nat.reduceMul, Nat.reduceSub, forall_const, oneCellS, Kd.isSca, flat, TYB]
          rw [fw_hit hlt (s2 ▸ hs) s1]
          exact ⟨by omega, rfl, rfl⟩
      · have hil : ¬ (i : Int) ≤ 3 := by omega
        obtain rfl : i = 4 := by omega
        rw [fw_none s1]
        simp -implicitDefEqProofs only [lk_normal, hil, ZB, Int.reduceToNat, Nat.reduceLT, Nat.reduceLeDiff, Int.reduceLE, Int.reduceLT, Nat.reduceEqDiff, Nat.reduceSub, SB, SV.known, packR, ne_eq, reduceCtorEq, Nat.reduceEqDiff, ↓reduceIte, if_true, if_false, eq_self, Nat.reduceAdd, Nat.reduceMul, Nat.reduceSub, forall_const, oneCellS, Kd.isSca, flat, TYB]
        exact ⟨rfl, rfl⟩
theorem chkR_flat2 {Q : List (List Int)} (h : all24 Q) (J : List Int) : chkR (Q.flatten ++ J) 0 Q.length = Q := by
  apply List.ext_getElem
  · rw [chkR_len]
  · intro i h1 h2
    simp only [chkR, List.getElem_map, List.getElem_range, Nat.zero_add]
    rw [flat_get h h2 J, List.getD_eq_getElem?_getD, List.getElem?_eq_getElem h2]; rfl
theorem FewestBy_ok (R D : List Int) (u : Int) (hR : R.length = 24) (hD : D.length = 6) : PureH Try.prog 37 [.arr R, .arr D, .int u] [] (.tup [.int (fwF (fwO R D u)), .bool (fwO R D u).isSome]) := by
  have tkR : R.take 24 = R := List.take_of_length_le (by omega)
  have tkD : D.take 6 = D := List.take_of_length_le (by omega)
  have kI := keyI_rack
  have k24 : keysOK ([] : List (List Int × Int)) 24 := fun q hq => by simp at hq
  unfold fwO
  cases hf : forB R D
  · refine pure_of_vc (X := ⟨Try.prog, tys, [(70, isFor_F), (71, isRule_F), (87, srtAny_F)], [(73, behind_F)], true, true, 0, [], [(3, .tree (.one 3 (.alt 0 (.alt 1 (.one 2 (.one 4 (.one 5 (.one 6 (.one 7 .done))))) (.alt 2 (.alt 1 (.one 4 (.one 5 (.one 6 (.one 7 .done)))) (.alt 4 (.one 1 (.one 5 (.one 6 (.one 7 .done)))) .stop)) .stop)) (.alt 2 (.alt 0 (.alt 1 (.one 4 (.one 5 (.one 6 (.one 7 .done)))) (.alt 4 (.one 1 (.one 5 (.one 6 (.one 7 .done)))) .stop)) (.alt 4 (.one 0 (.one 1 (.one 5 (.one 6 (.one 7 .done))))) .stop)) .stop))))]⟩) fn_37 ⟨tys_ok, (.cons isFor_T (.cons isRule_T (.cons srtAny_T .nil))), (.cons behind_T .nil), mixed⟩ (n0 := 0) (Nat.le_of_ble_eq_true rfl) (by simp [wfL, SV.wf]) (wfH_spec (by simp [wfH, SObj.wf])) (Nat.le_refl _) (fun _ => by simp [SV.wf, wfL]) ?_
    simp -implicitDefEqProofs only [Try.f37, Option.getD_some, argS, isFor_F, isRule_F, srtAny_F, behind_F, hR, hD, tkR, tkD, hf, ZB, Int.reduceToNat, Nat.reduceLT, Nat.reduceLeDiff, Int.reduceLE, Int.reduceLT, Nat.reduceEqDiff, Nat.reduceSub, SB, SV.known, packR, ne_eq, reduceCtorEq, Nat.reduceEqDiff, ↓reduceIte, if_true, if_false, eq_self, Nat.reduceAdd, Nat.reduceMul, Nat.reduceSub, forall_const, oneCellS, Kd.isSca, flat, TYB]
    exact ⟨rfl, rfl⟩
  cases hu : ruF u
  · refine pure_of_vc (X := ⟨Try.prog, tys, [(70, isFor_F), (71, isRule_F), (87, srtAny_F)], [(73, behind_F)], true, true, 0, [], [(3, .tree (.one 3 (.alt 0 (.alt 1 (.one 2 (.one 4 (.one 5 (.one 6 (.one 7 .done))))) (.alt 2 (.alt 1 (.one 4 (.one 5 (.one 6 (.one 7 .done)))) (.alt 4 (.one 1 (.one 5 (.one 6 (.one 7 .done)))) .stop)) .stop)) (.alt 2 (.alt 0 (.alt 1 (.one 4 (.one 5 (.one 6 (.one 7 .done)))) (.alt 4 (.one 1 (.one 5 (.one 6 (.one 7 .done)))) .stop)) (.alt 4 (.one 0 (.one 1 (.one 5 (.one 6 (.one 7 .done))))) .stop)) .stop))))]⟩) fn_37 ⟨tys_ok, (.cons isFor_T (.cons isRule_T (.cons srtAny_T .nil))), (.cons behind_T .nil), mixed⟩ (n0 := 0) (Nat.le_of_ble_eq_true rfl) (by simp [wfL, SV.wf]) (wfH_spec (by simp [wfH, SObj.wf])) (Nat.le_refl _) (fun _ => by simp [SV.wf, wfL]) ?_
    simp -implicitDefEqProofs only [Try.f37, Option.getD_some, argS, isFor_F, isRule_F, srtAny_F, behind_F, hR, hD, tkR, tkD, hf, hu, ZB, Int.reduceToNat, Nat.reduceLT, Nat.reduceLeDiff, Int.reduceLE, Int.reduceLT, Nat.reduceEqDiff, Nat.reduceSub, SB, SV.known, packR, ne_eq, reduceCtorEq, Nat.reduceEqDiff, ↓reduceIte, if_true, if_false, eq_self, Nat.reduceAdd, Nat.reduceMul, Nat.reduceSub, forall_const, oneCellS, Kd.isSca, flat, TYB]
    exact ⟨rfl, rfl⟩
  · refine pure_of_vc (X := ⟨Try.prog, tys, [(70, isFor_F), (71, isRule_F), (87, srtAny_F)], [(73, behind_F)], true, true, 0, [], [(3, .tree (.one 3 (.alt 0 (.alt 1 (.one 2 (.one 4 (.one 5 (.one 6 (.one 7 .done))))) (.alt 2 (.alt 1 (.one 4 (.one 5 (.one 6 (.one 7 .done)))) (.alt 4 (.one 1 (.one 5 (.one 6 (.one 7 .done)))) .stop)) .stop)) (.alt 2 (.alt 0 (.alt 1 (.one 4 (.one 5 (.one 6 (.one 7 .done)))) (.alt 4 (.one 1 (.one 5 (.one 6 (.one 7 .done)))) .stop)) (.alt 4 (.one 0 (.one 1 (.one 5 (.one 6 (.one 7 .done))))) .stop)) .stop))))]⟩) fn_37 ⟨tys_ok, (.cons isFor_T (.cons isRule_T (.cons srtAny_T .nil))), (.cons behind_T .nil), mixed⟩ (n0 := 0) (Nat.le_of_ble_eq_true rfl) (by simp [wfL, SV.wf]) (wfH_spec (by simp [wfH, SObj.wf])) (Nat.le_refl _) (fun _ => by simp [SV.wf, wfL]) ?_
    simp -implicitDefEqProofs only [Try.f37, Option.getD_some, argS, isFor_F, isRule_F, srtAny_F, behind_F, hR, hD, tkR, tkD, hf, hu, ZB, Int.reduceToNat, Nat.reduceLT, Nat.reduceLeDiff, Int.reduceLE, Int.reduceLT, Nat.reduceEqDiff, Nat.reduceSub, SB, SV.known, packR, ne_eq, reduceCtorEq, Nat.reduceEqDiff, ↓reduceIte, if_true, if_false, eq_self, Nat.reduceAdd, Nat.reduceMul, Nat.reduceSub, forall_const, oneCellS, Kd.isSca, flat, TYB]
    refine ⟨[(8, .slice 2 0 1 1), (9, .mp 3), (4, .ptr 1 0), (2, .int u)], [(2, .ints R 28), (3, .mp true (mk1 [R])), (1, .ints D 39), (0, .ints R 28)], 4, ?_, ?_⟩
    · simp -implicitDefEqProofs only [kI, k24, hR, tkR, ZB, Int.reduceToNat, Nat.reduceLT, Nat.reduceLeDiff, Int.reduceLE, Int.reduceLT, Nat.reduceEqDiff, Nat.reduceSub, SB, SV.known, packR, ne_eq, reduceCtorEq, Nat.reduceEqDiff, ↓reduceIte, if_true, if_false, eq_self, Nat.reduceAdd, Nat.reduceMul, Nat.reduceSub, forall_const, oneCellS, Kd.isSca, flat, TYB]
      have em : mset [] R 1 = mk1 [R] := rfl
      simp only [em]
      refine ⟨⟨Sub.mk_id ?_ ?_ ?_ ?_ ?_, Sub.mk_to2 2 3 3 2 ?_ ?_ ?_ ?_ ?_ ?_ ?_ ?_, Sub.mk_to2 2 3 3 2 ?_ ?_ ?_ ?_ ?_ ?_ ?_ ?_⟩, ⟨Sub.mk_to2 2 3 3 2 ?_ ?_ ?_ ?_ ?_ ?_ ?_ ?_, Sub.mk_to2 2 3 3 2 ?_ ?_ ?_ ?_ ?_ ?_ ?_ ?_⟩, Sub.mk_to2 2 3 3 2 ?_ ?_ ?_ ?_ ?_ ?_ ?_ ?_⟩
      all_goals ((try simp only [LB, subS, subH, wfS, wfH, SV.ren, renL, SObj.ren, SV.wf, SObj.wf, wfL, SV.known, Nat.reduceEqDiff, ↓reduceIte, if_true, if_false, eq_self, Nat.reduceAdd, Nat.reduceLT, Nat.reduceLeDiff, implies_true, reduceCtorEq, forall_const]) <;> simp)
    · simp -implicitDefEqProofs only [lk_normal, ZB, Int.reduceToNat, Nat.reduceLT, Nat.reduceLeDiff, Int.reduceLE, Int.reduceLT, Nat.reduceEqDiff, Nat.reduceSub, SB, SV.known, packR, ne_eq, reduceCtorEq, Nat.reduceEqDiff, ↓reduceIte, if_true, if_false, eq_self, Nat.reduceAdd, Nat.reduceMul, Nat.reduceSub, forall_const, oneCellS, Kd.isSca, flat, TYB]
      refine loop_intro (fun s : Nat × Nat × List Int => [(25, .int s.1), (8, outVn 2 (bsN D u R (min s.1 3)).1.length (bsN D u R (min s.1 3)).1.length s.2.1), (9, .mp 3), (4, .ptr 1 0), (2, .int u)])
        (fun s => outHn 2 (bsN D u R (min s.1 3)).1.length ((bsN D u R (min s.1 3)).1.flatten ++ s.2.2) 28 [(3, .mp true (mk1 (bsN D u R (min s.1 3)).2)), (1, .ints D 39)]) 4
        (fun s => (s.1 ≤ 4 ∧ ∀ k, k < s.1 → fwA D u R k = false) ∧ s.2.2.length + (bsN D u R (min s.1 3)).1.length * 24 = s.2.1 * 24) (fun s => 4 - s.1) ?_ ?_
      · refine ⟨(0, 1, []), ⟨⟨by simp, by simp⟩, by simp [bsN]⟩, Sub.mk_id ?_ ?_ ?_ ?_ ?_⟩
        all_goals simp only [Nat.zero_min, bsN, List.length_cons, List.length_nil, Nat.zero_add, outVn_succ, outHn_succ, List.flatten_cons, List.flatten_nil, List.append_nil, LB, subS, subH, wfS, wfH, SV.ren, renL, SObj.ren, SV.wf, SObj.wf, wfL, SV.known, Nat.reduceEqDiff, ↓reduceIte, if_true, if_false, eq_self, Nat.reduceAdd, Nat.reduceLT, Nat.reduceLeDiff, implies_true, reduceCtorEq, forall_const]
        all_goals (try simp)
      · rintro ⟨i, c, j⟩ ⟨⟨hi, hno⟩, hj⟩
        simp only at hi hj hno
        by_cases hlt : i < 4
        · have hil : (i : Int) < 4 := by omega
          have emi : min i 3 = i := by omega
          have hQ := bsN_ok hD hu hR hf i
          have hA := hQ.1.all24
          have hlen := bsN_len D u R i
          have hfl := flat_len hA
          have hck := chkR_flat2 hA j
          simp only [emi] at hj ⊢
          have fwe : fwA D u R i = (bsN D u R i).1.any sortB := rfl
          have nxt : fwA D u R i = false → ∀ k, k < i + 1 → fwA D u R k = false := fun h k hk => by
            by_cases hki : k = i
            · subst hki; exact h
            · exact hno k (by omega)
          have hgt : ∀ k, k < (bsN D u R i).1.length → rackB (((bsN D u R i).1.flatten ++ j).drop (k * 24) |>.take 24) = true := fun k hk => by
            rw [flat_get hA hk j]
            exact (forB_facts hD (hQ.1 _ (getD_mem hk)).2).1
          have p36 : 36 ^ i ≤ 46656 := by
            obtain rfl | rfl | rfl | rfl : i = 0 ∨ i = 1 ∨ i = 2 ∨ i = 3 := by omega
            all_goals decide
          have p362 : i < 3 → 36 ^ i ≤ 1296 := fun h => by
            obtain rfl | rfl | rfl : i = 0 ∨ i = 1 ∨ i = 2 := by omega
            all_goals decide
          cases hl : (bsN D u R i).1.length with
          | zero =>
            have e1 := bsN_zero (D := D) (u := u) (R := R) (i := i) hl
            have h0 : fwA D u R i = false := by
              rw [fwe, List.length_eq_zero_iff.1 hl]; rfl
            by_cases h3 : i < 3
            · have h3i : (i : Int) < 3 := by omega
              have em2 : min (i + 1) 3 = i + 1 := by omega
              simp -implicitDefEqProofs only [lk_normal, behind_F, srtAny_F, hil, h3i, hD, tkD, outVn_zero, outHn_zero, ZB, Int.reduceToNat, Nat.reduceLT, Nat.reduceLeDiff, Int.reduceLE, Int.reduceLT, Nat.reduceEqDiff, Nat.reduceSub, SB, SV.known, packR, ne_eq, reduceCtorEq, Nat.reduceEqDiff, ↓reduceIte, if_true, if_false, eq_self, Nat.reduceAdd, Nat.reduceMul, Nat.reduceSub, forall_const, oneCellS, Kd.isSca, flat, TYB]
              refine ⟨by unfold In64; omega, (i + 1, 0, []), ⟨⟨by simp only; omega, nxt h0⟩, by simp only [em2, e1]; simp⟩, by simp only; omega, Sub.mk_id ?_ ?_ ?_ ?_ ?_⟩
              all_goals (try simp only [em2, e1, List.length_nil, outVn_zero, outHn_zero])
              all_goals ((try simp only [LB, subS, subH, wfS, wfH, SV.ren, renL, SObj.ren, SV.wf, SObj.wf, wfL, SV.known, Nat.reduceEqDiff, ↓reduceIte, if_true, if_false, eq_self, Nat.reduceAdd, Nat.reduceLT, Nat.reduceLeDiff, implies_true, reduceCtorEq, forall_const]) <;> simp)
            · have h3i : ¬ (i : Int) < 3 := by omega
              have em2 : min (i + 1) 3 = i := by omega
              simp -implicitDefEqProofs only [lk_normal, behind_F, srtAny_F, hil, h3i, hD, tkD, outVn_zero, outHn_zero, ZB, Int.reduceToNat, Nat.reduceLT, Nat.reduceLeDiff, Int.reduceLE, Int.reduceLT, Nat.reduceEqDiff, Nat.reduceSub, SB, SV.known, packR, ne_eq, reduceCtorEq, Nat.reduceEqDiff, ↓reduceIte, if_true, if_false, eq_self, Nat.reduceAdd, Nat.reduceMul, Nat.reduceSub, forall_const, oneCellS, Kd.isSca, flat, TYB]
              refine ⟨by unfold In64; omega, (i + 1, c, j), ⟨⟨by simp only; omega, nxt h0⟩, by simp only [em2]; exact hj⟩, by simp only; omega, Sub.mk_id ?_ ?_ ?_ ?_ ?_⟩
              all_goals (try simp only [em2, hl, outVn_zero, outHn_zero])
              all_goals ((try simp only [LB, subS, subH, wfS, wfH, SV.ren, renL, SObj.ren, SV.wf, SObj.wf, wfL, SV.known, Nat.reduceEqDiff, ↓reduceIte, if_true, if_false, eq_self, Nat.reduceAdd, Nat.reduceLT, Nat.reduceLeDiff, implies_true, reduceCtorEq, forall_const]) <;> simp)
          | succ l =>
            rw [hl] at hck hgt
            have hl24 : (l + 1) * 24 ≤ ((bsN D u R i).1.flatten ++ j).length := by rw [List.length_append, hfl, hl]; omega
            cases h0 : fwA D u R i
            · rw [fwe] at h0
              by_cases h3 : i < 3
              · have h3i : (i : Int) < 3 := by omega
                have em2 : min (i + 1) 3 = i + 1 := by omega
                simp -implicitDefEqProofs only [lk_normal, behind_F, srtAny_F, hil, h3i, hD, tkD, hu, hck, h0, outVn_succ, outHn_succ, ZB, Int.reduceToNat, Nat.reduceLT, Nat.reduceLeDiff, Int.reduceLE, Int.reduceLT, Nat.reduceEqDiff, Nat.reduceSub, SB, SV.known, packR, ne_eq, reduceCtorEq, Nat.reduceEqDiff, ↓reduceIte, if_true, if_false, eq_self, Nat.reduceAdd, Nat.reduceMul, Nat.reduceSub, forall_const, oneCellS, Kd.isSca, flat, TYB]
                refine ⟨⟨hl24, by omega, hgt⟩, by have := p362 h3; omega, (bsN D u R i).1, j, (bsN D u R i).2, rfl, hl, rfl, hQ.1, hQ.2.all24, fun c' j' hj' => ?_⟩
                refine ⟨by unfold In64; omega, (i + 1, c', j'), ⟨⟨by simp only; omega, nxt h0⟩, by simp only [em2]; exact hj'⟩, by simp only; omega, Sub.mk_to 2 4 ?_ ?_ ?_ ?_ ?_ ?_ ?_⟩
                all_goals (try simp only [em2, bsN])
                all_goals (cases (nwL D u (bsN D u R i).1 (bsN D u R i).2).length <;> simp only [outVn_zero, outVn_succ, outHn_zero, outHn_succ, LB, subS, subH, wfS, wfH, SV.ren, renL, SObj.ren, SV.wf, SObj.wf, wfL, SV.known, Nat.reduceEqDiff, ↓reduceIte, if_true, if_false, eq_self, Nat.reduceAdd, Nat.reduceLT, Nat.reduceLeDiff, implies_true, reduceCtorEq, forall_const] <;> simp)
              · have h3i : ¬ (i : Int) < 3 := by omega
                have em2 : min (i + 1) 3 = i := by omega
                simp -implicitDefEqProofs only [lk_normal, behind_F, srtAny_F, hil, h3i, hD, tkD, hu, hck, h0, outVn_succ, outHn_succ, ZB, Int.reduceToNat, Nat.reduceLT, Nat.reduceLeDiff, Int.reduceLE, Int.reduceLT, Nat.reduceEqDiff, Nat.reduceSub, SB, SV.known, packR, ne_eq, reduceCtorEq, Nat.reduceEqDiff, ↓reduceIte, if_true, if_false, eq_self, Nat.reduceAdd, Nat.reduceMul, Nat.reduceSub, forall_const, oneCellS, Kd.isSca, flat, TYB]
                refine ⟨⟨hl24, by omega, hgt⟩, by unfold In64; omega, (i + 1, c, j), ⟨⟨by simp only; omega, nxt h0⟩, by simp only [em2]; exact hj⟩, by simp only; omega, Sub.mk_id ?_ ?_ ?_ ?_ ?_⟩
                all_goals (try simp only [em2, hl, outVn_succ, outHn_succ])
                all_goals ((try simp only [LB, subS, subH, wfS, wfH, SV.ren, renL, SObj.ren, SV.wf, SObj.wf, wfL, SV.known, Nat.reduceEqDiff, ↓reduceIte, if_true, if_false, eq_self, Nat.reduceAdd, Nat.reduceLT, Nat.reduceLeDiff, implies_true, reduceCtorEq, forall_const]) <;> simp)
            · rw [fw_hit hlt h0 hno]
              rw [fwe] at h0
              simp -implicitDefEqProofs only [lk_normal, behind_F, srtAny_F, hil, hD, tkD, hu, hck, h0, outVn_succ, outHn_succ, ZB, Int.reduceToNat, Nat.reduceLT, Nat.reduceLeDiff, Int.reduceLE, Int.reduceLT, Nat.reduceEqDiff, Nat.reduceSub, SB, SV.known, packR, ne_eq, reduceCtorEq, Nat.reduceEqDiff, ↓reduceIte, if_true, if_false, eq_self, Nat.reduceAdd, Nat.reduceMul, Nat.reduceSub, forall_const, oneCellS, Kd.isSca, flat, TYB]
              exact ⟨⟨hl24, by omega, hgt⟩, rfl, rfl⟩
        · have hil : ¬ (i : Int) < 4 := by omega
          obtain rfl : i = 4 := by omega
          rw [fw_none hno]
          simp -implicitDefEqProofs only [lk_normal, hget_outHn, known_outVn, hil, ZB, Int.reduceToNat, Nat.reduceLT, Nat.reduceLeDiff, Int.reduceLE, Int.reduceLT, Nat.reduceEqDiff, Nat.reduceSub, SB, SV.known, packR, ne_eq, reduceCtorEq, Nat.reduceEqDiff, ↓reduceIte, if_true, if_false, eq_self, Nat.reduceAdd, Nat.reduceMul, Nat.reduceSub, forall_const, oneCellS, Kd.isSca, flat, TYB]
          exact ⟨rfl, rfl⟩
--@tbl ReachBy = impl.ReachBy
--@tbl sReachBy = spec.ReachBy
--@tbl FewestBy = impl.FewestBy
--@tbl sFewestBy = spec.FewestBy
def ReachBy_F : List SV → Heap → Option (Prop × SV)
  | [.arr R, .arr D, .int u, .int n], _ => some (R.length = 24 ∧ D.length = 6, .tup [.int (rbF R D u n), .bool (rbB R D u n)])
  | _, _ => none
theorem ReachBy_T : ∀ args H p v, ReachBy_F args H = some (p, v) → p → PureH Try.prog 27 args H v := by
  intro args H p v h hp
  unfold ReachBy_F at h
  split at h
  · cases h; exact (ReachBy_ok _ _ _ _ hp.1 hp.2).any _
  · cases h
def sReachBy_F : List SV → Heap → Option (Prop × SV)
  | [.arr R, .arr D, .int u, .int n], _ => some (R.length = 24 ∧ D.length = 6, .tup [.int (rbF R D u n), .bool (rbB R D u n)])
  | _, _ => none
theorem sReachBy_T : ∀ args H p v, sReachBy_F args H = some (p, v) → p → PureH Try.prog 25 args H v := by
  intro args H p v h hp
  unfold sReachBy_F at h
  split at h
  · cases h; exact (sReachBy_ok _ _ _ _ hp.1 hp.2).any _
  · cases h
def FewestBy_F : List SV → Heap → Option (Prop × SV)
  | [.arr R, .arr D, .int u], _ => some (R.length = 24 ∧ D.length = 6, .tup [.int (fwF (fwO R D u)), .bool (fwO R D u).isSome])
  | _, _ => none
theorem FewestBy_T : ∀ args H p v, FewestBy_F args H = some (p, v) → p → PureH Try.prog 37 args H v := by
  intro args H p v h hp
  unfold FewestBy_F at h
  split at h
  · cases h; exact (FewestBy_ok _ _ _ hp.1 hp.2).any _
  · cases h
def sFewestBy_F : List SV → Heap → Option (Prop × SV)
  | [.arr R, .arr D, .int u], _ => some (R.length = 24 ∧ D.length = 6, .tup [.int (fwF (fwO R D u)), .bool (fwO R D u).isSome])
  | _, _ => none
theorem sFewestBy_T : ∀ args H p v, sFewestBy_F args H = some (p, v) → p → PureH Try.prog 36 args H v := by
  intro args H p v h hp
  unfold sFewestBy_F at h
  split at h
  · cases h; exact (sFewestBy_ok _ _ _ hp.1 hp.2).any _
  · cases h
theorem lawReachBy (R D : List Int) (u n : Int) (hR : R.length = 24) (_ : ∀ x ∈ R, In64 x) (hD : D.length = 6) (_ : ∀ x ∈ D, In64 x) (_ : In64 u) (_ : In64 n) : PureH Try.prog 6 [.arr R, .arr D, .int u, .int n] [] (.bool true) := by
  have tkR : R.take 24 = R := List.take_of_length_le (by omega)
  have tkD : D.take 6 = D := List.take_of_length_le (by omega)
  refine pure_of_vc (X := ⟨Try.prog, tys, [(13, toRack_F), (26, toIntA6_F), (27, ReachBy_F), (25, sReachBy_F)], [], true, true, 0, [], []⟩) fn_6 ⟨tys_ok, (.cons toRack_T (.cons toIntA6_T (.cons ReachBy_T (.cons sReachBy_T .nil)))), .nil, mixed⟩ (n0 := 0) (Nat.le_of_ble_eq_true rfl) (by simp [wfL, SV.wf]) (wfH_spec (by simp [wfH, SObj.wf])) (Nat.le_refl _) (fun _ => by simp [SV.wf, wfL]) ?_
  simp -implicitDefEqProofs only [Try.f6, Option.getD_some, argS, toRack_F, toIntA6_F, ReachBy_F, sReachBy_F, hR, hD, tkR, tkD, ZB, Int.reduceToNat, Nat.reduceLT, Nat.reduceLeDiff, Int.reduceLE, Int.reduceLT, Nat.reduceEqDiff, Nat.reduceSub, SB, SV.known, packR, ne_eq, reduceCtorEq, Nat.reduceEqDiff, ↓reduceIte, if_true, if_false, eq_self, Nat.reduceAdd, Nat.reduceMul, Nat.reduceSub, forall_const, oneCellS, Kd.isSca, flat, TYB]
theorem lawFewestBy (R D : List Int) (u : Int) (hR : R.length = 24) (_ : ∀ x ∈ R, In64 x) (hD : D.length = 6) (_ : ∀ x ∈ D, In64 x) (_ : In64 u) : PureH Try.prog 9 [.arr R, .arr D, .int u] [] (.bool true) := by
  have tkR : R.take 24 = R := List.take_of_length_le (by omega)
  have tkD : D.take 6 = D := List.take_of_length_le (by omega)
  refine pure_of_vc (X := ⟨Try.prog, tys, [(13, toRack_F), (26, toIntA6_F), (37, FewestBy_F), (36, sFewestBy_F)], [], true, true, 0, [], []⟩) fn_9 ⟨tys_ok, (.cons toRack_T (.cons toIntA6_T (.cons FewestBy_T (.cons sFewestBy_T .nil)))), .nil, mixed⟩ (n0 := 0) (Nat.le_of_ble_eq_true rfl) (by simp [wfL, SV.wf]) (wfH_spec (by simp [wfH, SObj.wf])) (Nat.le_refl _) (fun _ => by simp [SV.wf, wfL]) ?_
  simp -implicitDefEqProofs only [Try.f9, Option.getD_some, argS, toRack_F, toIntA6_F, FewestBy_F, sFewestBy_F, hR, hD, tkR, tkD, ZB, Int.reduceToNat, Nat.reduceLT, Nat.reduceLeDiff, Int.reduceLE, Int.reduceLT, Nat.reduceEqDiff, Nat.reduceSub, SB, SV.known, packR, ne_eq, reduceCtorEq, Nat.reduceEqDiff, ↓reduceIte, if_true, if_false, eq_self, Nat.reduceAdd, Nat.reduceMul, Nat.reduceSub, forall_const, oneCellS, Kd.isSca, flat, TYB]
end Go.Proofs.Ytfdpeenamkpcbaa

