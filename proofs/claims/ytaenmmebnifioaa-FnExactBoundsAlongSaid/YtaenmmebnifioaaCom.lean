/- Walks: CommonPours, SamePours. -/
import Derived.Test.YtaenmmebnifioaaRulC
import Derived.Test.YtaenmmebnifioaaSl
set_option maxRecDepth 100000
set_option linter.unusedSimpArgs false
set_option linter.unusedVariables false
namespace Go.Proofs.Ytaenmmebnifioaa
open Go Go.RowKit
theorem GL_pair (c : Nat → Nat → Bool) : ∀ m, m ≤ 36 → ∀ i, i * 2 + 2 ≤ (GL c m).length → ∃ a b : Nat, a < 6 ∧ b < 6 ∧ c a b = true ∧ ((GL c m).drop (i * 2)).take 2 = [(a : Int), (b : Int)]
  | 0, _, i, h => by simp [GL_zero] at h
  | m + 1, hm, i, h => by
    obtain ⟨n, hn, _⟩ := GL_even c m
    rw [GL_succ, List.length_append, hn] at h
    by_cases hi : i * 2 + 2 ≤ n * 2
    · obtain ⟨a, b, h1, h2, h3, h4⟩ := GL_pair c m (by omega) i (by omega)
      refine ⟨a, b, h1, h2, h3, ?_⟩
      rw [GL_succ, List.drop_append_of_le_length (by omega), List.take_append_of_le_length (by rw [List.length_drop]; omega)]
      exact h4
    · unfold prG at h
      split at h
      · rename_i hc
        simp at h
        have : i = n := by omega
        subst this
        refine ⟨m / 6, m % 6, by omega, by omega, hc, ?_⟩
        rw [GL_succ, List.drop_left' hn]
        unfold prG
        rw [if_pos hc]; rfl
      · simp at h; omega
theorem GL_pair' (c : Nat → Nat → Bool) (i : Nat) (junk : List Int) (h : i * 2 + 2 ≤ (GL c 36).length) : ∃ a b : Nat, a < 6 ∧ b < 6 ∧ c a b = true ∧ (((GL c 36) ++ junk).drop (i * 2)).take 2 = [(a : Int), (b : Int)] := by
  obtain ⟨a, b, h1, h2, h3, h4⟩ := GL_pair c 36 (by omega) i h
  refine ⟨a, b, h1, h2, h3, ?_⟩
  rw [List.drop_append_of_le_length (by omega), List.take_append_of_le_length (by rw [List.length_drop]; omega)]
  exact h4
/-! DeleteFunc with a closure over a rack and depths. -/
def delRD_F (g : Nat) (pr : List Int → List Int → List Int → Bool) (Q : List Int → List Int → List Int → Prop) : List SV → Heap → Nat → Nat → K1 → Prop
  | [.slice b 0 len cap, .fn f [.ptr k 0, .ptr k2 0]], H, n, m, κ => match hget H b, hget H k, hget H k2 with
    | some (.ints L e), some (.ints R _), some (.ints D _) => f = g ∧ (R.length = 24 ∧ D.length = 6) ∧ L.length = cap * 2 ∧ len ≤ cap ∧ len ≤ 4611686018427387903 ∧ (b ≠ k ∧ b ≠ k2 ∧ k ≠ k2) ∧ m ≤ b ∧ (∀ i, i < len → Q R D ((L.drop (i * 2)).take 2)) ∧
        κ (.slice b 0 ((kept (fun x => !pr R D x) L len).length / 2) cap) ((b, .ints (kept (fun x => !pr R D x) L len ++ List.replicate (len * 2 - (kept (fun x => !pr R D x) L len).length) 0 ++ L.drop (len * 2)) e) :: H) n
    | _, _, _ => False
  | [.nils, .fn _ [.ptr k 0, .ptr k2 0]], H, n, _, κ => match hget H k, hget H k2 with
    | some (.ints _ _), some (.ints _ _) => κ .nils H n
    | _, _ => False
  | _, _, _, _, _ => False
--@tbl delRD = slices.DeleteFunc[[][2]int,[2]int]
theorem delRD_T (g : Nat) (pr : List Int → List Int → List Int → Bool) (Q : List Int → List Int → List Int → Prop) (hg : g ≠ 117) (hc : ∀ (R D : List Int) (e e' : Nat) (p : List Int), R.length = 24 → D.length = 6 → Q R D p → PureH Try.prog g [.arr p, .ptr 0 0, .ptr 1 0] [(0, .ints R e), (1, .ints D e')] (.bool (pr R D p))) :
    ∀ args H n m κ, delRD_F g pr Q args H n m κ → GenOK Try.prog 68 args H n m κ := by
  intro args H n m κ h
  unfold delRD_F at h
  split at h
  · rename_i b len cap f k k2
    split at h
    · rename_i L e R e2 D e3 h1 h2 h3
      obtain ⟨rfl, ⟨hR, hD⟩, hL, hlc, hm, ⟨hb1, hb2, hb3⟩, hmb, hQ, h⟩ := h
      have hu := deleteFunc_ok f hg [.ptr 0 0, .ptr 1 0] [(0, .ints R e2), (1, .ints D e3)] (pr R D) 2 L e len cap hL hlc hm (Q R D) hQ (fun x hx => hc R D e2 e3 x hR hD hx) (by simp [wfL, SV.wf]) (wfH_spec (by simp [wfH, SObj.wf]))
      have := gen_of_upd (H := H) (n := n) (m := m) (κ := κ) hu (fun j => if j = 2 then b else if j = 1 then k2 else k) (fun j o1 hj => by
        simp only [hget_cons] at hj
        split at hj
        · rename_i hj1; cases hj; rw [if_pos hj1]; exact h1
        · rename_i hj1
          rw [if_neg hj1]
          split at hj
          · rename_i hj0; cases hj; rw [if_neg (by omega)]; exact h2
          · split at hj
            · rename_i hj2; cases hj; rw [if_pos hj2]; exact h3
            · cases hj) (fun j1 o1 j2 o2 g1 g2 he => by
        have dom : ∀ j o, hget [(2, SObj.ints L e), (0, .ints R e2), (1, .ints D e3)] j = some o → j = 2 ∨ j = 0 ∨ j = 1 := fun j o hj => by
          simp only [hget_cons] at hj
          split at hj
          · omega
          · split at hj
            · omega
            · split at hj
              · omega
              · cases hj
        rcases dom j1 o1 g1 with rfl | rfl | rfl <;> rcases dom j2 o2 g2 with rfl | rfl | rfl <;> simp at he <;> omega) (by simpa using hmb) rfl (fun n hn => by simpa [SV.wf, SV.ren] using hn) (by simpa [SV.ren] using h)
      simpa [renL, SV.ren] using this
    · exact h.elim
  · rename_i f k k2
    split at h
    · have hp := deleteFunc_nil f [.ptr k 0, .ptr k2 0] [] (k + k2 + 1) (by simp [wfL, SV.wf]; omega) (hwf_nil _)
      refine ⟨hp.ent, fun B M w hH hwH hwa hown hM => ?_⟩
      refine (hp.call B w (HR.nil B w)).mono fun e w' hh => ?_
      exact ⟨.nils, H, n, B, hh.1, h, Nat.le_refl _, trivial, hwH, fun _ _ => rfl, hH.of_below hh.2, hown, Kept.of_below hh.2⟩
    · exact h.elim
  · exact h.elim
/-! The lists. -/
def comD (R D : List Int) (i j : Nat) : Bool := decide (0 < movF R D 1 i j) && (decide (0 < movF R D 2 i j) && decide (0 < movF R D 3 i j) && decide (0 < movF R D 4 i j))
def samD (R D : List Int) (i j : Nat) : Bool := decide (movF R D 3 i j = 1)
def comP (R D p : List Int) : Bool := !(decide (0 < movF R D 2 (p.getD 0 0) (p.getD 1 0)) && decide (0 < movF R D 3 (p.getD 0 0) (p.getD 1 0)) && decide (0 < movF R D 4 (p.getD 0 0) (p.getD 1 0)))
def samP (R D p : List Int) : Bool := !decide (movF R D 3 (p.getD 0 0) (p.getD 1 0) = 1)
def qRD (R D p : List Int) : Prop := forB R D = true ∧ okP p
theorem com1_ok (R D : List Int) (e e' : Nat) (p : List Int) (hR : R.length = 24) (hD : D.length = 6) (hq : qRD R D p) : PureH Try.prog 78 [.arr p, .ptr 0 0, .ptr 1 0] [(0, .ints R e), (1, .ints D e')] (.bool (comP R D p)) := by
  obtain ⟨hf, hp⟩ := hq
  have tkR : R.take 24 = R := List.take_of_length_le (by omega)
  have tkD : D.take 6 = D := List.take_of_length_le (by omega)
  have tkp := okP_take hp
  obtain ⟨pl, b0, b1⟩ := hp
  refine pure_of_vc (X := ⟨Try.prog, tys, [(77, movedBy_F)], [], true, true, 2, [], []⟩) fn_78 ⟨tys_ok, (.cons movedBy_T .nil), .nil, mixed⟩ (n0 := 2) (Nat.le_of_ble_eq_true rfl) (by simp [wfL, SV.wf]) (wfH_spec (by simp [wfH, SObj.wf])) (Nat.le_refl _) (fun _ => by simp [SV.wf, wfL]) ?_
  simp -implicitDefEqProofs only [Try.f78, Option.getD_some, argS, movedBy_F, hR, hD, tkR, tkD, pl, tkp, hf, ZB, Int.reduceToNat, Nat.reduceLT, Nat.reduceLeDiff, Int.reduceLE, Int.reduceLT, Nat.reduceEqDiff, Nat.reduceSub, SB, SV.known, packR, ne_eq, reduceCtorEq, Nat.reduceEqDiff, ↓reduceIte, if_true, if_false, eq_self, Nat.reduceAdd, Nat.reduceMul, Nat.reduceSub, forall_const, oneCellS, Kd.isSca, flat, TYB]
  refine loop_intro (fun k : Nat => [(5, .int ((k + 2 : Nat) : Int)), (4, .bool false), (3, .ptr 2 0), (1, .ptr 0 0), (2, .ptr 1 0)]) (fun _ => [(2, .ints p 51), (0, .ints R e), (1, .ints D e')]) 3 (fun k => k ≤ 3 ∧ ∀ q, q < k → 0 < movF R D ((q + 2 : Nat) : Int) (p.getD 0 0) (p.getD 1 0)) (fun k => 3 - k) ?_ ?_
  · refine ⟨0, ?_, Sub.mk_id ?_ ?_ ?_ ?_ ?_⟩
    all_goals (try (simp only [LB, subS, subH, wfS, wfH, SV.ren, renL, SObj.ren, SV.wf, SObj.wf, wfL, SV.known, Nat.reduceEqDiff, ↓reduceIte, if_true, if_false, eq_self, Nat.reduceAdd, Nat.reduceLT, Nat.reduceLeDiff, implies_true, reduceCtorEq, forall_const]; done))
    all_goals (try (simp only [LB, subS, subH, wfS, wfH, SV.ren, renL, SObj.ren, SV.wf, SObj.wf, wfL, SV.known, Nat.reduceEqDiff, ↓reduceIte, if_true, if_false, eq_self, Nat.reduceAdd, Nat.reduceLT, Nat.reduceLeDiff, implies_true, reduceCtorEq, forall_const]; simp; done))
    all_goals (try (simp only [LB, subS, subH, wfS, wfH, SV.ren, renL, SObj.ren, SV.wf, SObj.wf, wfL, SV.known, Nat.reduceEqDiff, ↓reduceIte, if_true, if_false, eq_self, Nat.reduceAdd, Nat.reduceLT, Nat.reduceLeDiff, implies_true, reduceCtorEq, forall_const]; (and_intros <;> (first | omega | rfl | (simp; done) | (simp; omega))); done))
    all_goals (try dsimp only)
    all_goals (and_intros <;> try (first | omega | (unfold In64; omega) | trivial | assumption))
  · rintro k ⟨hk, hall⟩
    have mb := (movF_bd (u := ((k + 2 : Nat) : Int)) hR hD hf b0 b1).1
    by_cases hkt : k < 3
    · have hkl : ((k + 2 : Nat) : Int) ≤ 4 := by omega
      simp -implicitDefEqProofs only [lk_normal, movedBy_F, hkl, hR, hD, tkR, tkD, pl, tkp, hf, ZB, Int.reduceToNat, Nat.reduceLT, Nat.reduceLeDiff, Int.reduceLE, Int.reduceLT, Nat.reduceEqDiff, Nat.reduceSub, SB, SV.known, packR, ne_eq, reduceCtorEq, Nat.reduceEqDiff, ↓reduceIte, if_true, if_false, eq_self, Nat.reduceAdd, Nat.reduceMul, Nat.reduceSub, forall_const, oneCellS, Kd.isSca, flat, TYB]
      refine ⟨⟨b0, b1⟩, fun h0 => ?_, fun h0 => ?_⟩
      · have h3 : k = 0 ∨ k = 1 ∨ k = 2 := by omega
        rcases h3 with rfl | rfl | rfl <;> (simp at h0; simp [comP, h0])
      · refine ⟨by unfold In64; omega, ?_⟩
        refine ⟨k + 1, ?_, ?_, Sub.mk_id ?_ ?_ ?_ ?_ ?_⟩
        all_goals (try (simp only [Nat.add_right_comm k 1 2, LB, subS, subH, wfS, wfH, SV.ren, renL, SObj.ren, SV.wf, SObj.wf, wfL, SV.known, Nat.reduceEqDiff, ↓reduceIte, if_true, if_false, eq_self, Nat.reduceAdd, Nat.reduceLT, Nat.reduceLeDiff, implies_true, reduceCtorEq, forall_const]; done))
        all_goals (try (simp only [Nat.add_right_comm k 1 2, LB, subS, subH, wfS, wfH, SV.ren, renL, SObj.ren, SV.wf, SObj.wf, wfL, SV.known, Nat.reduceEqDiff, ↓reduceIte, if_true, if_false, eq_self, Nat.reduceAdd, Nat.reduceLT, Nat.reduceLeDiff, implies_true, reduceCtorEq, forall_const]; simp; done))
        all_goals (try (simp only [Nat.add_right_comm k 1 2, LB, subS, subH, wfS, wfH, SV.ren, renL, SObj.ren, SV.wf, SObj.wf, wfL, SV.known, Nat.reduceEqDiff, ↓reduceIte, if_true, if_false, eq_self, Nat.reduceAdd, Nat.reduceLT, Nat.reduceLeDiff, implies_true, reduceCtorEq, forall_const]; (and_intros <;> (first | omega | rfl | (simp; done) | (simp; omega))); done))
        all_goals (try dsimp only)
        all_goals (and_intros <;> try (first | omega | (unfold In64; omega) | trivial | assumption))
        all_goals (intro q hq; by_cases hqk : q = k)
        · subst hqk; omega
        · exact hall q (by omega)
    · have hkl : ¬ ((k + 2 : Nat) : Int) ≤ 4 := by omega
      obtain rfl : k = 3 := by omega
      have h0 := hall 0 (by omega)
      have h1 := hall 1 (by omega)
      have h2 := hall 2 (by omega)
      simp -implicitDefEqProofs only [lk_normal, hkl, ZB, Int.reduceToNat, Nat.reduceLT, Nat.reduceLeDiff, Int.reduceLE, Int.reduceLT, Nat.reduceEqDiff, Nat.reduceSub, SB, SV.known, packR, ne_eq, reduceCtorEq, Nat.reduceEqDiff, ↓reduceIte, if_true, if_false, eq_self, Nat.reduceAdd, Nat.reduceMul, Nat.reduceSub, forall_const, oneCellS, Kd.isSca, flat, TYB]
      simp at h0 h1 h2
      simp [comP, h0, h1, h2]
theorem sam1_ok (R D : List Int) (e e' : Nat) (p : List Int) (hR : R.length = 24) (hD : D.length = 6) (hq : qRD R D p) : PureH Try.prog 76 [.arr p, .ptr 0 0, .ptr 1 0] [(0, .ints R e), (1, .ints D e')] (.bool (samP R D p)) := by
  obtain ⟨hf, hp⟩ := hq
  have tkR : R.take 24 = R := List.take_of_length_le (by omega)
  have tkD : D.take 6 = D := List.take_of_length_le (by omega)
  have tkp := okP_take hp
  obtain ⟨pl, b0, b1⟩ := hp
  refine pure_of_vc (X := ⟨Try.prog, tys, [(77, movedBy_F)], [], true, true, 2, [], []⟩) fn_76 ⟨tys_ok, (.cons movedBy_T .nil), .nil, mixed⟩ (n0 := 2) (Nat.le_of_ble_eq_true rfl) (by simp [wfL, SV.wf]) (wfH_spec (by simp [wfH, SObj.wf])) (Nat.le_refl _) (fun _ => by simp [SV.wf, wfL]) ?_
  simp -implicitDefEqProofs only [Try.f76, Option.getD_some, argS, movedBy_F, hR, hD, tkR, tkD, pl, tkp, hf, ZB, Int.reduceToNat, Nat.reduceLT, Nat.reduceLeDiff, Int.reduceLE, Int.reduceLT, Nat.reduceEqDiff, Nat.reduceSub, SB, SV.known, packR, ne_eq, reduceCtorEq, Nat.reduceEqDiff, ↓reduceIte, if_true, if_false, eq_self, Nat.reduceAdd, Nat.reduceMul, Nat.reduceSub, forall_const, oneCellS, Kd.isSca, flat, TYB]
  exact ⟨⟨b0, b1⟩, rfl⟩
--@com
theorem mov3_1 {R D : List Int} {i j : Int} (h : movF R D 3 i j = 1) : movF R D 1 i j = 1 := by
  unfold movF at *
  split at h
  · omega
  · rename_i h1
    rw [if_neg h1]
    simp only [show ¬ ((3 : Int) = 4) by omega, show ¬ ((1 : Int) = 4) by omega, if_false, show ¬ ((3 : Int) = 2) by omega, show ¬ ((1 : Int) = 2) by omega, show ¬ ((1 : Int) = 3) by omega, true_and, false_and] at h ⊢
    split at h
    · omega
    · rename_i h2
      rw [if_neg h2]
      split at h
      · omega
      · exact h
def bothN (R D : List Int) (a b : Int) (r : Nat) : Bool := (List.range r).all fun q => decide (0 < movF R D ((q + 1 : Nat) : Int) a b)
theorem bothN_zero (R D : List Int) (a b : Int) : bothN R D a b 0 = true := rfl
theorem bothN_succ (R D : List Int) (a b : Int) (r : Nat) : bothN R D a b (r + 1) = (bothN R D a b r && decide (0 < movF R D ((r + 1 : Nat) : Int) a b)) := by simp [bothN, List.range_succ]
def comQ (R D p : List Int) : Bool := decide (0 < movF R D 1 (p.getD 0 0) (p.getD 1 0)) && decide (0 < movF R D 2 (p.getD 0 0) (p.getD 1 0)) && decide (0 < movF R D 3 (p.getD 0 0) (p.getD 1 0)) && decide (0 < movF R D 4 (p.getD 0 0) (p.getD 1 0))
def samQ (R D p : List Int) : Bool := decide (movF R D 1 (p.getD 0 0) (p.getD 1 0) = 1) && decide (movF R D 3 (p.getD 0 0) (p.getD 1 0) = 1)
def comL (R D : List Int) : List Int := if forB R D = true then GL (comD R D) 36 else []
theorem comL_even (R D : List Int) : ∃ k, (comL R D).length = k * 2 ∧ k ≤ 36 := by
  unfold comL
  split
  · exact GL_even _ 36
  · exact ⟨0, rfl, by omega⟩
theorem com_kept (R D : List Int) (m : Nat) (hm : (GL (pbB R D 1) 36).length = m * 2) : kept (fun p => !comP R D p) (GL (pbB R D 1) 36) m = GL (comD R D) 36 := by
  obtain ⟨n, h1, h2⟩ := kept_GL (pbB R D 1) (comD R D) (fun p => !comP R D p) (fun i j _ _ hc => by
    unfold pbB at hc
    simp [comP, comD, hc, Bool.and_assoc]) (fun i j _ _ hc => by
    unfold comD at hc
    unfold pbB
    simp only [Bool.and_eq_true] at hc; exact hc.1) 36 (by omega)
  obtain rfl : n = m := by omega
  exact h2
def comDel_F := delRD_F 78 comP qRD
--@tbl comDel = slices.DeleteFunc[[][2]int,[2]int]
theorem comDel_T : ∀ args H n m κ, comDel_F args H n m κ → GenOK Try.prog 68 args H n m κ := delRD_T _ _ _ (by decide) com1_ok
theorem CommonPours_ok (R D : List Int) (hR : R.length = 24) (hD : D.length = 6) : FreshP Try.prog 30 [.arr R, .arr D] [] (comL R D) ((comL R D).length / 2) 2 51 (decide (forB R D = false ∨ GL (pbB R D 1) 36 = [])) (.more [.bool (forB R D)]) := by
  have tkR : R.take 24 = R := List.take_of_length_le (by omega)
  have tkD : D.take 6 = D := List.take_of_length_le (by omega)
  unfold comL
  cases hf : forB R D
  · refine fresh_of_vc (X := ⟨Try.prog, tys, [(61, isFor_F)], [(63, poursBy_F), (68, comDel_F)], true, true, 0, [], []⟩) fn_30 ⟨tys_ok, (.cons isFor_T .nil), (.cons poursBy_T (.cons comDel_T .nil)), mixed⟩ (n0 := 0) rfl (Nat.le_of_ble_eq_true rfl) (by simp [wfL, SV.wf]) (wfH_spec (by simp [wfH, SObj.wf])) (Nat.le_refl _) ?_
    simp -implicitDefEqProofs only [Try.f30, Option.getD_some, argS, isFor_F, poursBy_F, comDel_F, hR, hD, tkR, tkD, hf, freshK, Wrap.ap, ZB, Int.reduceToNat, Nat.reduceLT, Nat.reduceLeDiff, Int.reduceLE, Int.reduceLT, Nat.reduceEqDiff, Nat.reduceSub, SB, SV.known, packR, ne_eq, reduceCtorEq, Nat.reduceEqDiff, ↓reduceIte, if_true, if_false, eq_self, Nat.reduceAdd, Nat.reduceMul, Nat.reduceSub, forall_const, oneCellS, Kd.isSca, flat, TYB]
    exact .inl ⟨by simp, rfl, rfl⟩
  · refine fresh_of_vc (X := ⟨Try.prog, tys, [(61, isFor_F)], [(63, poursBy_F), (68, comDel_F)], true, true, 0, [], []⟩) fn_30 ⟨tys_ok, (.cons isFor_T .nil), (.cons poursBy_T (.cons comDel_T .nil)), mixed⟩ (n0 := 0) rfl (Nat.le_of_ble_eq_true rfl) (by simp [wfL, SV.wf]) (wfH_spec (by simp [wfH, SObj.wf])) (Nat.le_refl _) ?_
    simp -implicitDefEqProofs only [Try.f30, Option.getD_some, argS, isFor_F, poursBy_F, comDel_F, hR, hD, tkR, tkD, hf, freshK, Wrap.ap, comDel_F, delRD_F, ZB, Int.reduceToNat, Nat.reduceLT, Nat.reduceLeDiff, Int.reduceLE, Int.reduceLT, Nat.reduceEqDiff, Nat.reduceSub, SB, SV.known, packR, ne_eq, reduceCtorEq, Nat.reduceEqDiff, ↓reduceIte, if_true, if_false, eq_self, Nat.reduceAdd, Nat.reduceMul, Nat.reduceSub, forall_const, oneCellS, Kd.isSca, flat, TYB]
    obtain ⟨m, hm, hm36⟩ := GL_even (pbB R D 1) 36
    have e2 : (GL (pbB R D 1) 36).length / 2 = m := by omega
    have ck := com_kept R D m hm
    refine ⟨fun h0 => ?_, fun h0 cap junk hj => ?_⟩
    · refine .inl ⟨by simp [h0], ?_, rfl⟩
      rw [← ck, show m = 0 by rw [h0] at hm; simp at hm; omega]; rfl
    · have ka := kept_app (fun p => !comP R D p) (GL (pbB R D 1) 36) junk m (by omega)
      obtain ⟨k, hk, hkm⟩ := kept_even (fun p => !comP R D p) (GL (pbB R D 1) 36) m (by omega)
      rw [e2, ka, ck]
      rw [ck] at hk
      refine ⟨by rw [List.length_append]; omega, by omega, by omega, fun i hi => ⟨hf, GL_okP _ i junk (by omega)⟩, .inr ⟨2, cap, List.replicate (m * 2 - (GL (comD R D) 36).length) 0 ++ List.drop (m * 2) (GL (pbB R D 1) 36 ++ junk), ?_, ?_, by omega, ?_, by simp [h0]⟩⟩
      · rfl
      · rw [hget_cons, if_pos rfl, List.append_assoc]
      · rw [List.length_append, List.length_replicate, List.length_drop, List.length_append]
        omega
theorem scom_kept (R D : List Int) (m : Nat) (hm : (GL (pbB R D 1) 36).length = m * 2) : kept (fun p => comQ R D p) (GL (pbB R D 1) 36) m = GL (comD R D) 36 := by
  obtain ⟨n, h1, h2⟩ := kept_GL (pbB R D 1) (comD R D) (fun p => comQ R D p) (fun i j _ _ hc => by
    unfold pbB at hc
    simp only [comQ, comD, List.getD_cons_zero, List.getD_cons_succ]
    simp [hc, Bool.and_assoc]) (fun i j _ _ hc => by
    unfold comD at hc
    unfold pbB
    simp only [Bool.and_eq_true] at hc; exact hc.1) 36 (by omega)
  obtain rfl : n = m := by omega
  exact h2
theorem sCommonPours_ok (R D : List Int) (hR : R.length = 24) (hD : D.length = 6) : FreshP Try.prog 29 [.arr R, .arr D] [] (comL R D) ((comL R D).length / 2) 2 51 false (.more [.bool (forB R D)]) := by
  have tkR : R.take 24 = R := List.take_of_length_le (by omega)
  have tkD : D.take 6 = D := List.take_of_length_le (by omega)
  unfold comL
  have hru : ruF 1 = true := by decide
  have hru3 : ruF 3 = true := by decide
  cases hf : forB R D
  · refine fresh_of_vc (X := ⟨Try.prog, tys, [(57, l8Fits2_F), (75, l8Moves_F)], [(59, l8Pours_F)], true, true, 0, [], []⟩) fn_29 ⟨tys_ok, (.cons l8Fits2_T (.cons l8Moves_T .nil)), (.cons l8Pours_T .nil), mixed⟩ (n0 := 0) rfl (Nat.le_of_ble_eq_true rfl) (by simp [wfL, SV.wf]) (wfH_spec (by simp [wfH, SObj.wf])) (Nat.le_refl _) ?_
    simp -implicitDefEqProofs only [Try.f29, Option.getD_some, argS, l8Fits2_F, l8Moves_F, l8Pours_F, hR, hD, tkR, tkD, hf, freshK, Wrap.ap, ZB, Int.reduceToNat, Nat.reduceLT, Nat.reduceLeDiff, Int.reduceLE, Int.reduceLT, Nat.reduceEqDiff, Nat.reduceSub, SB, SV.known, packR, ne_eq, reduceCtorEq, Nat.reduceEqDiff, ↓reduceIte, if_true, if_false, eq_self, Nat.reduceAdd, Nat.reduceMul, Nat.reduceSub, forall_const, oneCellS, Kd.isSca, flat, TYB]
    exact .inr ⟨2, 0, [], by simp [Wrap.ap], by simp [hget_cons], by omega, by simp, by simp⟩
  obtain ⟨m, hm, hm36⟩ := GL_even (pbB R D 1) 36
  have e2 : (GL (pbB R D 1) 36).length / 2 = m := by omega
  have ck := scom_kept R D m hm
  refine fresh_of_vc (X := ⟨Try.prog, tys, [(57, l8Fits2_F), (75, l8Moves_F)], [(59, l8Pours_F)], true, true, 0, [], []⟩) fn_29 ⟨tys_ok, (.cons l8Fits2_T (.cons l8Moves_T .nil)), (.cons l8Pours_T .nil), mixed⟩ (n0 := 0) rfl (Nat.le_of_ble_eq_true rfl) (by simp [wfL, SV.wf]) (wfH_spec (by simp [wfH, SObj.wf])) (Nat.le_refl _) ?_
  simp -implicitDefEqProofs only [Try.f29, Option.getD_some, argS, l8Fits2_F, l8Moves_F, l8Pours_F, hR, hD, tkR, tkD, hf, hru, e2, freshK, Wrap.ap, ZB, Int.reduceToNat, Nat.reduceLT, Nat.reduceLeDiff, Int.reduceLE, Int.reduceLT, Nat.reduceEqDiff, Nat.reduceSub, SB, SV.known, packR, ne_eq, reduceCtorEq, Nat.reduceEqDiff, ↓reduceIte, if_true, if_false, eq_self, Nat.reduceAdd, Nat.reduceMul, Nat.reduceSub, forall_const, oneCellS, Kd.isSca, flat, TYB]
  have hbd : Bd 0 5 (GL (pbB R D 1) 36) := GL_mem (by omega)
  rw [← ck]
  generalize GL (pbB R D 1) 36 = P at *
  intro cap junk hj
  refine loop_intro (fun s : Nat × Nat × Nat × List Int => [(8, .int s.1), (7, .slice 3 0 m cap), (6, .slice 2 0 s.2.1 s.2.2.1), (3, .ptr 1 0), (2, .ptr 0 0)]) (fun s => [(2, .ints (kept (fun p => comQ R D p) P s.1 ++ s.2.2.2) 51), (3, .ints (P ++ junk) 51), (1, .ints D 26), (0, .ints R 30)]) 4
    (fun s => s.1 ≤ m ∧ (kept (fun p => comQ R D p) P s.1).length = s.2.1 * 2 ∧ s.2.1 ≤ s.1 ∧ s.2.2.2.length + s.2.1 * 2 = s.2.2.1 * 2) (fun s => m - s.1) ?_ ?_
  · refine ⟨(0, 0, 0, []), ?_, Sub.mk_id ?_ ?_ ?_ ?_ ?_⟩
    all_goals (try (simp only [kept_zero, List.append_nil, LB, subS, subH, wfS, wfH, SV.ren, renL, SObj.ren, SV.wf, SObj.wf, wfL, SV.known, Nat.reduceEqDiff, ↓reduceIte, if_true, if_false, eq_self, Nat.reduceAdd, Nat.reduceLT, Nat.reduceLeDiff, implies_true, reduceCtorEq, forall_const]; done))
    all_goals (try (simp only [kept_zero, List.append_nil, LB, subS, subH, wfS, wfH, SV.ren, renL, SObj.ren, SV.wf, SObj.wf, wfL, SV.known, Nat.reduceEqDiff, ↓reduceIte, if_true, if_false, eq_self, Nat.reduceAdd, Nat.reduceLT, Nat.reduceLeDiff, implies_true, reduceCtorEq, forall_const]; simp; done))
    all_goals (try (simp only [kept_zero, List.append_nil, LB, subS, subH, wfS, wfH, SV.ren, renL, SObj.ren, SV.wf, SObj.wf, wfL, SV.known, Nat.reduceEqDiff, ↓reduceIte, if_true, if_false, eq_self, Nat.reduceAdd, Nat.reduceLT, Nat.reduceLeDiff, implies_true, reduceCtorEq, forall_const]; (and_intros <;> (first | omega | rfl | (simp; done) | (simp; omega))); done))
    all_goals (try dsimp only)
    all_goals (and_intros <;> try (first | omega | (unfold In64; omega) | trivial | assumption))
    all_goals simp [kept_zero]
  · rintro ⟨i, n, capo, jo⟩ ⟨hi, hL, hni, hjo⟩
    simp only at hi hL hni hjo
    have lenL : (kept (fun p => comQ R D p) P i ++ jo).length = capo * 2 := by rw [List.length_append]; omega
    have tkL : (kept (fun p => comQ R D p) P i ++ jo).take (n * 2) = kept (fun p => comQ R D p) P i := List.take_left' hL
    have lenP : (P ++ junk).length = cap * 2 := by rw [List.length_append]; omega
    by_cases hlt : i < m
    · have hil : (i : Int) < m := by omega
      have g0 := getD_app P junk (i * 2) (by omega)
      have g1 := getD_app P junk (i * 2 + 1) (by omega)
      have bA : 0 ≤ P.getD (i * 2) 0 ∧ P.getD (i * 2) 0 ≤ 5 := hbd.getD (by omega)
      have bB : 0 ≤ P.getD (i * 2 + 1) 0 ∧ P.getD (i * 2 + 1) 0 ≤ 5 := hbd.getD (by omega)
      have eP : List.take 2 (List.drop (i * 2) (P ++ junk)) = [P.getD (i * 2) 0, P.getD (i * 2 + 1) 0] := by
        rw [take2_drop _ _ (by rw [List.length_append]; omega), g0, g1]
      have eQ : List.take 2 (List.drop (i * 2) P) = [P.getD (i * 2) 0, P.getD (i * 2 + 1) 0] := take2_drop _ _ (by omega)
      have es := kept_succ (fun p => comQ R D p) P i
      rw [eQ] at es
      have hc0 : comQ R D [P.getD (i * 2) 0, P.getD (i * 2 + 1) 0] = bothN R D (P.getD (i * 2) 0) (P.getD (i * 2 + 1) 0) 4 := by
        simp [comQ, bothN, List.range_succ, Bool.and_assoc]
      rw [hc0] at es
      simp -implicitDefEqProofs only [lk_normal, hil, lenP, ZB, Int.reduceToNat, Nat.reduceLT, Nat.reduceLeDiff, Int.reduceLE, Int.reduceLT, Nat.reduceEqDiff, Nat.reduceSub, SB, SV.known, packR, ne_eq, reduceCtorEq, Nat.reduceEqDiff, ↓reduceIte, if_true, if_false, eq_self, Nat.reduceAdd, Nat.reduceMul, Nat.reduceSub, forall_const, oneCellS, Kd.isSca, flat, TYB]
      refine loop_intro (fun r : Nat => [(10, .int ((r + 1 : Nat) : Int)), (9, .bool (bothN R D (P.getD (i * 2) 0) (P.getD (i * 2 + 1) 0) r)), (8, .int i), (7, .slice 3 0 m cap), (6, .slice 2 0 n capo), (3, .ptr 1 0), (2, .ptr 0 0)]) (fun _ => [(2, .ints (kept (fun p => comQ R D p) P i ++ jo) 51), (3, .ints (P ++ junk) 51), (1, .ints D 26), (0, .ints R 30)]) 4 (fun r => r ≤ 4) (fun r => 4 - r) ?_ ?_
      · refine ⟨0, ?_, Sub.mk_id ?_ ?_ ?_ ?_ ?_⟩
        all_goals (try (simp only [bothN_zero, LB, subS, subH, wfS, wfH, SV.ren, renL, SObj.ren, SV.wf, SObj.wf, wfL, SV.known, Nat.reduceEqDiff, ↓reduceIte, if_true, if_false, eq_self, Nat.reduceAdd, Nat.reduceLT, Nat.reduceLeDiff, implies_true, reduceCtorEq, forall_const]; done))
        all_goals (try (simp only [bothN_zero, LB, subS, subH, wfS, wfH, SV.ren, renL, SObj.ren, SV.wf, SObj.wf, wfL, SV.known, Nat.reduceEqDiff, ↓reduceIte, if_true, if_false, eq_self, Nat.reduceAdd, Nat.reduceLT, Nat.reduceLeDiff, implies_true, reduceCtorEq, forall_const]; simp; done))
        all_goals (try (simp only [bothN_zero, LB, subS, subH, wfS, wfH, SV.ren, renL, SObj.ren, SV.wf, SObj.wf, wfL, SV.known, Nat.reduceEqDiff, ↓reduceIte, if_true, if_false, eq_self, Nat.reduceAdd, Nat.reduceLT, Nat.reduceLeDiff, implies_true, reduceCtorEq, forall_const]; (and_intros <;> (first | omega | rfl | (simp; done) | (simp; omega))); done))
        all_goals (try dsimp only)
        all_goals (and_intros <;> try (first | omega | (unfold In64; omega) | trivial | assumption))
      · intro r hr
        have hbs := bothN_succ R D (P.getD (i * 2) 0) (P.getD (i * 2 + 1) 0) r
        by_cases hrl : r < 4
        · have hrl' : ((r + 1 : Nat) : Int) ≤ 4 := by omega
          have hrr : ruF ((r + 1 : Nat) : Int) = true := by simp [ruF]; omega
          cases hb : bothN R D (P.getD (i * 2) 0) (P.getD (i * 2 + 1) 0) r with
          | false =>
            rw [hb] at hbs
            simp only [Bool.false_and] at hbs
            simp -implicitDefEqProofs only [lk_normal, hrl', hb, lenP, ZB, Int.reduceToNat, Nat.reduceLT, Nat.reduceLeDiff, Int.reduceLE, Int.reduceLT, Nat.reduceEqDiff, Nat.reduceSub, SB, SV.known, packR, ne_eq, reduceCtorEq, Nat.reduceEqDiff, ↓reduceIte, if_true, if_false, eq_self, Nat.reduceAdd, Nat.reduceMul, Nat.reduceSub, forall_const, oneCellS, Kd.isSca, flat, TYB]
            refine ⟨by unfold In64; omega, ?_⟩
            refine ⟨r + 1, ?_, ?_, Sub.mk_id ?_ ?_ ?_ ?_ ?_⟩
            all_goals (try (simp only [hbs, LB, subS, subH, wfS, wfH, SV.ren, renL, SObj.ren, SV.wf, SObj.wf, wfL, SV.known, Nat.reduceEqDiff, ↓reduceIte, if_true, if_false, eq_self, Nat.reduceAdd, Nat.reduceLT, Nat.reduceLeDiff, implies_true, reduceCtorEq, forall_const]; done))
            all_goals (try (simp only [hbs, LB, subS, subH, wfS, wfH, SV.ren, renL, SObj.ren, SV.wf, SObj.wf, wfL, SV.known, Nat.reduceEqDiff, ↓reduceIte, if_true, if_false, eq_self, Nat.reduceAdd, Nat.reduceLT, Nat.reduceLeDiff, implies_true, reduceCtorEq, forall_const]; simp; done))
            all_goals (try (simp only [hbs, LB, subS, subH, wfS, wfH, SV.ren, renL, SObj.ren, SV.wf, SObj.wf, wfL, SV.known, Nat.reduceEqDiff, ↓reduceIte, if_true, if_false, eq_self, Nat.reduceAdd, Nat.reduceLT, Nat.reduceLeDiff, implies_true, reduceCtorEq, forall_const]; (and_intros <;> (first | omega | rfl | (simp; done) | (simp; omega))); done))
            all_goals (try dsimp only)
            all_goals (and_intros <;> try (first | omega | (unfold In64; omega) | trivial | assumption))
          | true =>
            rw [hb] at hbs
            simp only [Bool.true_and] at hbs
            simp -implicitDefEqProofs only [lk_normal, l8Moves_F, hrl', hb, hR, hD, tkR, tkD, hf, hrr, g0, g1, eP, lenP, ZB, Int.reduceToNat, Nat.reduceLT, Nat.reduceLeDiff, Int.reduceLE, Int.reduceLT, Nat.reduceEqDiff, Nat.reduceSub, SB, SV.known, packR, ne_eq, reduceCtorEq, Nat.reduceEqDiff, ↓reduceIte, if_true, if_false, eq_self, Nat.reduceAdd, Nat.reduceMul, Nat.reduceSub, forall_const, oneCellS, Kd.isSca, flat, TYB]
            (try (and_intros <;> try (first | omega | (unfold In64; omega) | trivial | assumption)))
            refine ⟨r + 1, ?_, ?_, Sub.mk_id ?_ ?_ ?_ ?_ ?_⟩
            all_goals (try (simp only [hbs, LB, subS, subH, wfS, wfH, SV.ren, renL, SObj.ren, SV.wf, SObj.wf, wfL, SV.known, Nat.reduceEqDiff, ↓reduceIte, if_true, if_false, eq_self, Nat.reduceAdd, Nat.reduceLT, Nat.reduceLeDiff, implies_true, reduceCtorEq, forall_const]; done))
            all_goals (try (simp only [hbs, LB, subS, subH, wfS, wfH, SV.ren, renL, SObj.ren, SV.wf, SObj.wf, wfL, SV.known, Nat.reduceEqDiff, ↓reduceIte, if_true, if_false, eq_self, Nat.reduceAdd, Nat.reduceLT, Nat.reduceLeDiff, implies_true, reduceCtorEq, forall_const]; simp; done))
            all_goals (try (simp only [hbs, LB, subS, subH, wfS, wfH, SV.ren, renL, SObj.ren, SV.wf, SObj.wf, wfL, SV.known, Nat.reduceEqDiff, ↓reduceIte, if_true, if_false, eq_self, Nat.reduceAdd, Nat.reduceLT, Nat.reduceLeDiff, implies_true, reduceCtorEq, forall_const]; (and_intros <;> (first | omega | rfl | (simp; done) | (simp; omega))); done))
            all_goals (try dsimp only)
            all_goals (and_intros <;> try (first | omega | (unfold In64; omega) | trivial | assumption))
        · have hrl' : ¬ ((r + 1 : Nat) : Int) ≤ 4 := by omega
          obtain rfl : r = 4 := by omega
          cases hb : bothN R D (P.getD (i * 2) 0) (P.getD (i * 2 + 1) 0) 4 with
          | true =>
            rw [hb] at es
            simp only [if_true] at es
            simp -implicitDefEqProofs only [lk_normal, hrl', hb, g0, g1, eP, lenP, lenL, tkL, ZB, Int.reduceToNat, Nat.reduceLT, Nat.reduceLeDiff, Int.reduceLE, Int.reduceLT, Nat.reduceEqDiff, Nat.reduceSub, SB, SV.known, packR, ne_eq, reduceCtorEq, Nat.reduceEqDiff, ↓reduceIte, if_true, if_false, eq_self, Nat.reduceAdd, Nat.reduceMul, Nat.reduceSub, forall_const, oneCellS, Kd.isSca, flat, TYB]
            (try (and_intros <;> try (first | omega | (unfold In64; omega) | trivial | assumption)))
            intro junk' cap' hj'
            (try (and_intros <;> try (first | omega | (unfold In64; omega) | trivial | assumption)))
            refine ⟨(i + 1, n + 1, cap', junk'), ?_, ?_, Sub.mk_to 2 5 ?_ ?_ ?_ ?_ ?_ ?_ ?_⟩
            all_goals (try (simp only [es, LB, subS, subH, wfS, wfH, SV.ren, renL, SObj.ren, SV.wf, SObj.wf, wfL, SV.known, Nat.reduceEqDiff, ↓reduceIte, if_true, if_false, eq_self, Nat.reduceAdd, Nat.reduceLT, Nat.reduceLeDiff, implies_true, reduceCtorEq, forall_const]; done))
            all_goals (try (simp only [es, LB, subS, subH, wfS, wfH, SV.ren, renL, SObj.ren, SV.wf, SObj.wf, wfL, SV.known, Nat.reduceEqDiff, ↓reduceIte, if_true, if_false, eq_self, Nat.reduceAdd, Nat.reduceLT, Nat.reduceLeDiff, implies_true, reduceCtorEq, forall_const]; simp; done))
            all_goals (try (simp only [es, LB, subS, subH, wfS, wfH, SV.ren, renL, SObj.ren, SV.wf, SObj.wf, wfL, SV.known, Nat.reduceEqDiff, ↓reduceIte, if_true, if_false, eq_self, Nat.reduceAdd, Nat.reduceLT, Nat.reduceLeDiff, implies_true, reduceCtorEq, forall_const]; (and_intros <;> (first | omega | rfl | (simp; done) | (simp; omega))); done))
            all_goals (try dsimp only)
            all_goals (and_intros <;> try (first | omega | (unfold In64; omega) | trivial | assumption))
            all_goals (try (rw [es, List.length_append, hL]; simp; omega))
          | false =>
            rw [hb] at es
            simp only [Bool.false_eq_true, if_false, List.append_nil] at es
            simp -implicitDefEqProofs only [lk_normal, hrl', hb, g0, g1, eP, lenP, lenL, tkL, ZB, Int.reduceToNat, Nat.reduceLT, Nat.reduceLeDiff, Int.reduceLE, Int.reduceLT, Nat.reduceEqDiff, Nat.reduceSub, SB, SV.known, packR, ne_eq, reduceCtorEq, Nat.reduceEqDiff, ↓reduceIte, if_true, if_false, eq_self, Nat.reduceAdd, Nat.reduceMul, Nat.reduceSub, forall_const, oneCellS, Kd.isSca, flat, TYB]
            (try (and_intros <;> try (first | omega | (unfold In64; omega) | trivial | assumption)))
            refine ⟨(i + 1, n, capo, jo), ?_, ?_, Sub.mk_id ?_ ?_ ?_ ?_ ?_⟩
            all_goals (try (simp only [es, LB, subS, subH, wfS, wfH, SV.ren, renL, SObj.ren, SV.wf, SObj.wf, wfL, SV.known, Nat.reduceEqDiff, ↓reduceIte, if_true, if_false, eq_self, Nat.reduceAdd, Nat.reduceLT, Nat.reduceLeDiff, implies_true, reduceCtorEq, forall_const]; done))
            all_goals (try (simp only [es, LB, subS, subH, wfS, wfH, SV.ren, renL, SObj.ren, SV.wf, SObj.wf, wfL, SV.known, Nat.reduceEqDiff, ↓reduceIte, if_true, if_false, eq_self, Nat.reduceAdd, Nat.reduceLT, Nat.reduceLeDiff, implies_true, reduceCtorEq, forall_const]; simp; done))
            all_goals (try (simp only [es, LB, subS, subH, wfS, wfH, SV.ren, renL, SObj.ren, SV.wf, SObj.wf, wfL, SV.known, Nat.reduceEqDiff, ↓reduceIte, if_true, if_false, eq_self, Nat.reduceAdd, Nat.reduceLT, Nat.reduceLeDiff, implies_true, reduceCtorEq, forall_const]; (and_intros <;> (first | omega | rfl | (simp; done) | (simp; omega))); done))
            all_goals (try dsimp only)
            all_goals (and_intros <;> try (first | omega | (unfold In64; omega) | trivial | assumption))
            all_goals (try (rw [es]; exact hL))
    · have hil : ¬ (i : Int) < m := by omega
      obtain rfl : i = m := by omega
      simp -implicitDefEqProofs only [lk_normal, hil, lenP, lenL, tkL, ZB, Int.reduceToNat, Nat.reduceLT, Nat.reduceLeDiff, Int.reduceLE, Int.reduceLT, Nat.reduceEqDiff, Nat.reduceSub, SB, SV.known, packR, ne_eq, reduceCtorEq, Nat.reduceEqDiff, ↓reduceIte, if_true, if_false, eq_self, Nat.reduceAdd, Nat.reduceMul, Nat.reduceSub, forall_const, oneCellS, Kd.isSca, flat, TYB]
      refine .inr ⟨2, capo, jo, ?_, ?_, by omega, ?_, by simp⟩
      · rw [hL]; simp [Wrap.ap]
      · simp [hget_cons]
      · omega
def CommonPours_F : List SV → Heap → Nat → Nat → K1 → Prop
  | [.arr R, .arr D], H, n, _, κ => (R.length = 24 ∧ D.length = 6) ∧ freshK (.more [.bool (forB R D)]) (comL R D) ((comL R D).length / 2) 2 51 (decide (forB R D = false ∨ GL (pbB R D 1) 36 = [])) H n κ
  | _, _, _, _, _ => False
--@tbl CommonPours = impl.CommonPours
theorem CommonPours_T : ∀ args H n m κ, CommonPours_F args H n m κ → GenOK Try.prog 30 args H n m κ := by
  intro args H n m κ h
  unfold CommonPours_F at h
  split at h
  · exact gen_of_fresh (CommonPours_ok _ _ h.1.1 h.1.2) (fun k o hk => by cases hk) h.2
  · exact h.elim
def sCommonPours_F : List SV → Heap → Nat → Nat → K1 → Prop
  | [.arr R, .arr D], H, n, _, κ => (R.length = 24 ∧ D.length = 6) ∧ freshK (.more [.bool (forB R D)]) (comL R D) ((comL R D).length / 2) 2 51 (false) H n κ
  | _, _, _, _, _ => False
--@tbl sCommonPours = spec.CommonPours
theorem sCommonPours_T : ∀ args H n m κ, sCommonPours_F args H n m κ → GenOK Try.prog 29 args H n m κ := by
  intro args H n m κ h
  unfold sCommonPours_F at h
  split at h
  · exact gen_of_fresh (sCommonPours_ok _ _ h.1.1 h.1.2) (fun k o hk => by cases hk) h.2
  · exact h.elim
theorem lawCommonPours (R D : List Int) (hR : R.length = 24) (_ : ∀ x ∈ R, In64 x) (hD : D.length = 6) (_ : ∀ x ∈ D, In64 x) : PureH Try.prog 7 [.arr R, .arr D] [] (.bool true) := by
  have tkR : R.take 24 = R := List.take_of_length_le (by omega)
  have tkD : D.take 6 = D := List.take_of_length_le (by omega)
  obtain ⟨m, hm, hm36⟩ := comL_even R D
  have e2 : (comL R D).length / 2 = m := by omega
  generalize hnl : decide (forB R D = false ∨ GL (pbB R D 1) 36 = []) = nl
  refine pure_of_vc (X := ⟨Try.prog, tys, [(16, toRack_F), (17, toIntA6_F), (19, eqS2_F), (21, held2_F)], [(30, CommonPours_F), (29, sCommonPours_F), (20, mark2_F)], true, true, 0, [30, 29], []⟩) (show FnOK Try.prog 7 Try.f7 (Try.f7.body.getD .skip) [30, 29] [] from ⟨Try.func7, rfl, by kernel_rfl, by kernel_rfl⟩) ⟨tys_ok, (.cons toRack_T (.cons toIntA6_T (.cons eqS2_T (.cons held2_T .nil)))), (.cons CommonPours_T (.cons sCommonPours_T (.cons mark2_T .nil))), mixed⟩ (n0 := 0) (Nat.le_of_ble_eq_true rfl) (by simp [wfL, SV.wf]) (wfH_spec (by simp [wfH, SObj.wf])) (Nat.le_refl _) (fun _ => by simp [SV.wf, wfL]) ?_
  simp -implicitDefEqProofs only [Try.f7, Option.getD_some, argS, toRack_F, toIntA6_F, eqS2_F, held2_F, CommonPours_F, sCommonPours_F, mark2_F, hR, hD, tkR, tkD, hnl, e2, freshK, Wrap.ap, ZB, Int.reduceToNat, Nat.reduceLT, Nat.reduceLeDiff, Int.reduceLE, Int.reduceLT, Nat.reduceEqDiff, Nat.reduceSub, SB, SV.known, packR, ne_eq, reduceCtorEq, Nat.reduceEqDiff, ↓reduceIte, if_true, if_false, eq_self, Nat.reduceAdd, Nat.reduceMul, Nat.reduceSub, forall_const, oneCellS, Kd.isSca, flat, TYB]
  exact lawS2 nl hm (by omega)
def samL (R D : List Int) : List Int := if forB R D = true then GL (samD R D) 36 else []
theorem samL_even (R D : List Int) : ∃ k, (samL R D).length = k * 2 ∧ k ≤ 36 := by
  unfold samL
  split
  · exact GL_even _ 36
  · exact ⟨0, rfl, by omega⟩
theorem sam_kept (R D : List Int) (m : Nat) (hm : (GL (pbB R D 3) 36).length = m * 2) : kept (fun p => !samP R D p) (GL (pbB R D 3) 36) m = GL (samD R D) 36 := by
  obtain ⟨n, h1, h2⟩ := kept_GL (pbB R D 3) (samD R D) (fun p => !samP R D p) (fun i j _ _ hc => by
    unfold pbB at hc
    simp [samP, samD, hc]) (fun i j _ _ hc => by
    unfold samD at hc
    unfold pbB
    simp only [decide_eq_true_eq] at hc ⊢; omega) 36 (by omega)
  obtain rfl : n = m := by omega
  exact h2
def samDel_F := delRD_F 76 samP qRD
--@tbl samDel = slices.DeleteFunc[[][2]int,[2]int]
theorem samDel_T : ∀ args H n m κ, samDel_F args H n m κ → GenOK Try.prog 68 args H n m κ := delRD_T _ _ _ (by decide) sam1_ok
theorem SamePours_ok (R D : List Int) (hR : R.length = 24) (hD : D.length = 6) : FreshP Try.prog 28 [.arr R, .arr D] [] (samL R D) ((samL R D).length / 2) 2 51 (decide (forB R D = false ∨ GL (pbB R D 3) 36 = [])) (.more [.bool (forB R D)]) := by
  have tkR : R.take 24 = R := List.take_of_length_le (by omega)
  have tkD : D.take 6 = D := List.take_of_length_le (by omega)
  unfold samL
  cases hf : forB R D
  · refine fresh_of_vc (X := ⟨Try.prog, tys, [(61, isFor_F)], [(63, poursBy_F), (68, samDel_F)], true, true, 0, [], []⟩) fn_28 ⟨tys_ok, (.cons isFor_T .nil), (.cons poursBy_T (.cons samDel_T .nil)), mixed⟩ (n0 := 0) rfl (Nat.le_of_ble_eq_true rfl) (by simp [wfL, SV.wf]) (wfH_spec (by simp [wfH, SObj.wf])) (Nat.le_refl _) ?_
    simp -implicitDefEqProofs only [Try.f28, Option.getD_some, argS, isFor_F, poursBy_F, samDel_F, hR, hD, tkR, tkD, hf, freshK, Wrap.ap, ZB, Int.reduceToNat, Nat.reduceLT, Nat.reduceLeDiff, Int.reduceLE, Int.reduceLT, Nat.reduceEqDiff, Nat.reduceSub, SB, SV.known, packR, ne_eq, reduceCtorEq, Nat.reduceEqDiff, ↓reduceIte, if_true, if_false, eq_self, Nat.reduceAdd, Nat.reduceMul, Nat.reduceSub, forall_const, oneCellS, Kd.isSca, flat, TYB]
    exact .inl ⟨by simp, rfl, rfl⟩
  · refine fresh_of_vc (X := ⟨Try.prog, tys, [(61, isFor_F)], [(63, poursBy_F), (68, samDel_F)], true, true, 0, [], []⟩) fn_28 ⟨tys_ok, (.cons isFor_T .nil), (.cons poursBy_T (.cons samDel_T .nil)), mixed⟩ (n0 := 0) rfl (Nat.le_of_ble_eq_true rfl) (by simp [wfL, SV.wf]) (wfH_spec (by simp [wfH, SObj.wf])) (Nat.le_refl _) ?_
    simp -implicitDefEqProofs only [Try.f28, Option.getD_some, argS, isFor_F, poursBy_F, samDel_F, hR, hD, tkR, tkD, hf, freshK, Wrap.ap, samDel_F, delRD_F, ZB, Int.reduceToNat, Nat.reduceLT, Nat.reduceLeDiff, Int.reduceLE, Int.reduceLT, Nat.reduceEqDiff, Nat.reduceSub, SB, SV.known, packR, ne_eq, reduceCtorEq, Nat.reduceEqDiff, ↓reduceIte, if_true, if_false, eq_self, Nat.reduceAdd, Nat.reduceMul, Nat.reduceSub, forall_const, oneCellS, Kd.isSca, flat, TYB]
    obtain ⟨m, hm, hm36⟩ := GL_even (pbB R D 3) 36
    have e2 : (GL (pbB R D 3) 36).length / 2 = m := by omega
    have ck := sam_kept R D m hm
    refine ⟨fun h0 => ?_, fun h0 cap junk hj => ?_⟩
    · refine .inl ⟨by simp [h0], ?_, rfl⟩
      rw [← ck, show m = 0 by rw [h0] at hm; simp at hm; omega]; rfl
    · have ka := kept_app (fun p => !samP R D p) (GL (pbB R D 3) 36) junk m (by omega)
      obtain ⟨k, hk, hkm⟩ := kept_even (fun p => !samP R D p) (GL (pbB R D 3) 36) m (by omega)
      rw [e2, ka, ck]
      rw [ck] at hk
      refine ⟨by rw [List.length_append]; omega, by omega, by omega, fun i hi => ⟨hf, GL_okP _ i junk (by omega)⟩, .inr ⟨2, cap, List.replicate (m * 2 - (GL (samD R D) 36).length) 0 ++ List.drop (m * 2) (GL (pbB R D 3) 36 ++ junk), ?_, ?_, by omega, ?_, by simp [h0]⟩⟩
      · rfl
      · rw [hget_cons, if_pos rfl, List.append_assoc]
      · rw [List.length_append, List.length_replicate, List.length_drop, List.length_append]
        omega
theorem ssam_kept (R D : List Int) (m : Nat) (hm : (GL (pbB R D 1) 36).length = m * 2) : kept (fun p => samQ R D p) (GL (pbB R D 1) 36) m = GL (samD R D) 36 := by
  obtain ⟨n, h1, h2⟩ := kept_GL (pbB R D 1) (samD R D) (fun p => samQ R D p) (fun i j _ _ hc => by
    unfold pbB at hc
    simp only [samQ, samD, List.getD_cons_zero, List.getD_cons_succ]
    rw [Bool.eq_iff_iff]; simp only [Bool.and_eq_true, decide_eq_true_eq]; exact ⟨fun h => h.2, fun h => ⟨mov3_1 h, h⟩⟩) (fun i j _ _ hc => by
    unfold samD at hc
    unfold pbB
    simp only [decide_eq_true_eq] at hc ⊢; have := mov3_1 hc; omega) 36 (by omega)
  obtain rfl : n = m := by omega
  exact h2
theorem sSamePours_ok (R D : List Int) (hR : R.length = 24) (hD : D.length = 6) : FreshP Try.prog 27 [.arr R, .arr D] [] (samL R D) ((samL R D).length / 2) 2 51 false (.more [.bool (forB R D)]) := by
  have tkR : R.take 24 = R := List.take_of_length_le (by omega)
  have tkD : D.take 6 = D := List.take_of_length_le (by omega)
  unfold samL
  have hru : ruF 1 = true := by decide
  have hru3 : ruF 3 = true := by decide
  cases hf : forB R D
  · refine fresh_of_vc (X := ⟨Try.prog, tys, [(57, l8Fits2_F), (75, l8Moves_F)], [(59, l8Pours_F)], true, true, 0, [], []⟩) fn_27 ⟨tys_ok, (.cons l8Fits2_T (.cons l8Moves_T .nil)), (.cons l8Pours_T .nil), mixed⟩ (n0 := 0) rfl (Nat.le_of_ble_eq_true rfl) (by simp [wfL, SV.wf]) (wfH_spec (by simp [wfH, SObj.wf])) (Nat.le_refl _) ?_
    simp -implicitDefEqProofs only [Try.f27, Option.getD_some, argS, l8Fits2_F, l8Moves_F, l8Pours_F, hR, hD, tkR, tkD, hf, freshK, Wrap.ap, ZB, Int.reduceToNat, Nat.reduceLT, Nat.reduceLeDiff, Int.reduceLE, Int.reduceLT, Nat.reduceEqDiff, Nat.reduceSub, SB, SV.known, packR, ne_eq, reduceCtorEq, Nat.reduceEqDiff, ↓reduceIte, if_true, if_false, eq_self, Nat.reduceAdd, Nat.reduceMul, Nat.reduceSub, forall_const, oneCellS, Kd.isSca, flat, TYB]
    exact .inr ⟨2, 0, [], by simp [Wrap.ap], by simp [hget_cons], by omega, by simp, by simp⟩
  obtain ⟨m, hm, hm36⟩ := GL_even (pbB R D 1) 36
  have e2 : (GL (pbB R D 1) 36).length / 2 = m := by omega
  have ck := ssam_kept R D m hm
  refine fresh_of_vc (X := ⟨Try.prog, tys, [(57, l8Fits2_F), (75, l8Moves_F)], [(59, l8Pours_F)], true, true, 0, [], []⟩) fn_27 ⟨tys_ok, (.cons l8Fits2_T (.cons l8Moves_T .nil)), (.cons l8Pours_T .nil), mixed⟩ (n0 := 0) rfl (Nat.le_of_ble_eq_true rfl) (by simp [wfL, SV.wf]) (wfH_spec (by simp [wfH, SObj.wf])) (Nat.le_refl _) ?_
  simp -implicitDefEqProofs only [Try.f27, Option.getD_some, argS, l8Fits2_F, l8Moves_F, l8Pours_F, hR, hD, tkR, tkD, hf, hru, e2, freshK, Wrap.ap, ZB, Int.reduceToNat, Nat.reduceLT, Nat.reduceLeDiff, Int.reduceLE, Int.reduceLT, Nat.reduceEqDiff, Nat.reduceSub, SB, SV.known, packR, ne_eq, reduceCtorEq, Nat.reduceEqDiff, ↓reduceIte, if_true, if_false, eq_self, Nat.reduceAdd, Nat.reduceMul, Nat.reduceSub, forall_const, oneCellS, Kd.isSca, flat, TYB]
  have hbd : Bd 0 5 (GL (pbB R D 1) 36) := GL_mem (by omega)
  rw [← ck]
  generalize GL (pbB R D 1) 36 = P at *
  intro cap junk hj
  refine loop_intro (fun s : Nat × Nat × Nat × List Int => [(8, .int s.1), (7, .slice 3 0 m cap), (6, .slice 2 0 s.2.1 s.2.2.1), (3, .ptr 1 0), (2, .ptr 0 0)]) (fun s => [(2, .ints (kept (fun p => samQ R D p) P s.1 ++ s.2.2.2) 51), (3, .ints (P ++ junk) 51), (1, .ints D 26), (0, .ints R 30)]) 4
    (fun s => s.1 ≤ m ∧ (kept (fun p => samQ R D p) P s.1).length = s.2.1 * 2 ∧ s.2.1 ≤ s.1 ∧ s.2.2.2.length + s.2.1 * 2 = s.2.2.1 * 2) (fun s => m - s.1) ?_ ?_
  · refine ⟨(0, 0, 0, []), ?_, Sub.mk_id ?_ ?_ ?_ ?_ ?_⟩
    all_goals (try (simp only [kept_zero, List.append_nil, LB, subS, subH, wfS, wfH, SV.ren, renL, SObj.ren, SV.wf, SObj.wf, wfL, SV.known, Nat.reduceEqDiff, ↓reduceIte, if_true, if_false, eq_self, Nat.reduceAdd, Nat.reduceLT, Nat.reduceLeDiff, implies_true, reduceCtorEq, forall_const]; done))
    all_goals (try (simp only [kept_zero, List.append_nil, LB, subS, subH, wfS, wfH, SV.ren, renL, SObj.ren, SV.wf, SObj.wf, wfL, SV.known, Nat.reduceEqDiff, ↓reduceIte, if_true, if_false, eq_self, Nat.reduceAdd, Nat.reduceLT, Nat.reduceLeDiff, implies_true, reduceCtorEq, forall_const]; simp; done))
    all_goals (try (simp only [kept_zero, List.append_nil, LB, subS, subH, wfS, wfH, SV.ren, renL, SObj.ren, SV.wf, SObj.wf, wfL, SV.known, Nat.reduceEqDiff, ↓reduceIte, if_true, if_false, eq_self, Nat.reduceAdd, Nat.reduceLT, Nat.reduceLeDiff, implies_true, reduceCtorEq, forall_const]; (and_intros <;> (first | omega | rfl | (simp; done) | (simp; omega))); done))
    all_goals (try dsimp only)
    all_goals (and_intros <;> try (first | omega | (unfold In64; omega) | trivial | assumption))
    all_goals simp [kept_zero]
  · rintro ⟨i, n, capo, jo⟩ ⟨hi, hL, hni, hjo⟩
    simp only at hi hL hni hjo
    have lenL : (kept (fun p => samQ R D p) P i ++ jo).length = capo * 2 := by rw [List.length_append]; omega
    have tkL : (kept (fun p => samQ R D p) P i ++ jo).take (n * 2) = kept (fun p => samQ R D p) P i := List.take_left' hL
    have lenP : (P ++ junk).length = cap * 2 := by rw [List.length_append]; omega
    by_cases hlt : i < m
    · have hil : (i : Int) < m := by omega
      have g0 := getD_app P junk (i * 2) (by omega)
      have g1 := getD_app P junk (i * 2 + 1) (by omega)
      have bA : 0 ≤ P.getD (i * 2) 0 ∧ P.getD (i * 2) 0 ≤ 5 := hbd.getD (by omega)
      have bB : 0 ≤ P.getD (i * 2 + 1) 0 ∧ P.getD (i * 2 + 1) 0 ≤ 5 := hbd.getD (by omega)
      have eP : List.take 2 (List.drop (i * 2) (P ++ junk)) = [P.getD (i * 2) 0, P.getD (i * 2 + 1) 0] := by
        rw [take2_drop _ _ (by rw [List.length_append]; omega), g0, g1]
      have eQ : List.take 2 (List.drop (i * 2) P) = [P.getD (i * 2) 0, P.getD (i * 2 + 1) 0] := take2_drop _ _ (by omega)
      have es := kept_succ (fun p => samQ R D p) P i
      rw [eQ] at es
      have hc0 : samQ R D [P.getD (i * 2) 0, P.getD (i * 2 + 1) 0] = (decide (movF R D 1 (P.getD (i * 2) 0) (P.getD (i * 2 + 1) 0) = 1) && decide (movF R D 3 (P.getD (i * 2) 0) (P.getD (i * 2 + 1) 0) = 1)) := rfl
      rw [hc0] at es
      by_cases h1 : movF R D 1 (P.getD (i * 2) 0) (P.getD (i * 2 + 1) 0) = 1
      · by_cases h3 : movF R D 3 (P.getD (i * 2) 0) (P.getD (i * 2 + 1) 0) = 1
        · simp only [h1, h3, decide_true, Bool.and_self, if_true] at es
          simp -implicitDefEqProofs only [lk_normal, l8Moves_F, hil, hR, hD, tkR, tkD, hf, hru, hru3, g0, g1, eP, h1, h3, lenP, lenL, tkL, ZB, Int.reduceToNat, Nat.reduceLT, Nat.reduceLeDiff, Int.reduceLE, Int.reduceLT, Nat.reduceEqDiff, Nat.reduceSub, SB, SV.known, packR, ne_eq, reduceCtorEq, Nat.reduceEqDiff, ↓reduceIte, if_true, if_false, eq_self, Nat.reduceAdd, Nat.reduceMul, Nat.reduceSub, forall_const, oneCellS, Kd.isSca, flat, TYB]
          (try (and_intros <;> try (first | omega | (unfold In64; omega) | trivial | assumption)))
          intro junk' cap' hj'
          (try (and_intros <;> try (first | omega | (unfold In64; omega) | trivial | assumption)))
          refine ⟨(i + 1, n + 1, cap', junk'), ?_, ?_, Sub.mk_to 2 5 ?_ ?_ ?_ ?_ ?_ ?_ ?_⟩
          all_goals (try (simp only [es, LB, subS, subH, wfS, wfH, SV.ren, renL, SObj.ren, SV.wf, SObj.wf, wfL, SV.known, Nat.reduceEqDiff, ↓reduceIte, if_true, if_false, eq_self, Nat.reduceAdd, Nat.reduceLT, Nat.reduceLeDiff, implies_true, reduceCtorEq, forall_const]; done))
          all_goals (try (simp only [es, LB, subS, subH, wfS, wfH, SV.ren, renL, SObj.ren, SV.wf, SObj.wf, wfL, SV.known, Nat.reduceEqDiff, ↓reduceIte, if_true, if_false, eq_self, Nat.reduceAdd, Nat.reduceLT, Nat.reduceLeDiff, implies_true, reduceCtorEq, forall_const]; simp; done))
          all_goals (try (simp only [es, LB, subS, subH, wfS, wfH, SV.ren, renL, SObj.ren, SV.wf, SObj.wf, wfL, SV.known, Nat.reduceEqDiff, ↓reduceIte, if_true, if_false, eq_self, Nat.reduceAdd, Nat.reduceLT, Nat.reduceLeDiff, implies_true, reduceCtorEq, forall_const]; (and_intros <;> (first | omega | rfl | (simp; done) | (simp; omega))); done))
          all_goals (try dsimp only)
          all_goals (and_intros <;> try (first | omega | (unfold In64; omega) | trivial | assumption))
          all_goals (try (rw [es, List.length_append, hL]; simp; omega))
        · simp only [h1, h3, decide_true, decide_false, Bool.and_false, Bool.false_eq_true, if_false, List.append_nil] at es
          simp -implicitDefEqProofs only [lk_normal, l8Moves_F, hil, hR, hD, tkR, tkD, hf, hru, hru3, g0, g1, eP, h1, h3, lenP, lenL, tkL, ZB, Int.reduceToNat, Nat.reduceLT, Nat.reduceLeDiff, Int.reduceLE, Int.reduceLT, Nat.reduceEqDiff, Nat.reduceSub, SB, SV.known, packR, ne_eq, reduceCtorEq, Nat.reduceEqDiff, ↓reduceIte, if_true, if_false, eq_self, Nat.reduceAdd, Nat.reduceMul, Nat.reduceSub, forall_const, oneCellS, Kd.isSca, flat, TYB]
          (try (and_intros <;> try (first | omega | (unfold In64; omega) | trivial | assumption)))
          refine ⟨(i + 1, n, capo, jo), ?_, ?_, Sub.mk_id ?_ ?_ ?_ ?_ ?_⟩
          all_goals (try (simp only [es, LB, subS, subH, wfS, wfH, SV.ren, renL, SObj.ren, SV.wf, SObj.wf, wfL, SV.known, Nat.reduceEqDiff, ↓reduceIte, if_true, if_false, eq_self, Nat.reduceAdd, Nat.reduceLT, Nat.reduceLeDiff, implies_true, reduceCtorEq, forall_const]; done))
          all_goals (try (simp only [es, LB, subS, subH, wfS, wfH, SV.ren, renL, SObj.ren, SV.wf, SObj.wf, wfL, SV.known, Nat.reduceEqDiff, ↓reduceIte, if_true, if_false, eq_self, Nat.reduceAdd, Nat.reduceLT, Nat.reduceLeDiff, implies_true, reduceCtorEq, forall_const]; simp; done))
          all_goals (try (simp only [es, LB, subS, subH, wfS, wfH, SV.ren, renL, SObj.ren, SV.wf, SObj.wf, wfL, SV.known, Nat.reduceEqDiff, ↓reduceIte, if_true, if_false, eq_self, Nat.reduceAdd, Nat.reduceLT, Nat.reduceLeDiff, implies_true, reduceCtorEq, forall_const]; (and_intros <;> (first | omega | rfl | (simp; done) | (simp; omega))); done))
          all_goals (try dsimp only)
          all_goals (and_intros <;> try (first | omega | (unfold In64; omega) | trivial | assumption))
          all_goals (try (rw [es]; exact hL))
      · simp only [h1, decide_false, Bool.false_and, Bool.false_eq_true, if_false, List.append_nil] at es
        simp -implicitDefEqProofs only [lk_normal, l8Moves_F, hil, hR, hD, tkR, tkD, hf, hru, hru3, g0, g1, eP, h1, lenP, lenL, tkL, ZB, Int.reduceToNat, Nat.reduceLT, Nat.reduceLeDiff, Int.reduceLE, Int.reduceLT, Nat.reduceEqDiff, Nat.reduceSub, SB, SV.known, packR, ne_eq, reduceCtorEq, Nat.reduceEqDiff, ↓reduceIte, if_true, if_false, eq_self, Nat.reduceAdd, Nat.reduceMul, Nat.reduceSub, forall_const, oneCellS, Kd.isSca, flat, TYB]
        (try (and_intros <;> try (first | omega | (unfold In64; omega) | trivial | assumption)))
        refine ⟨(i + 1, n, capo, jo), ?_, ?_, Sub.mk_id ?_ ?_ ?_ ?_ ?_⟩
        all_goals (try (simp only [es, LB, subS, subH, wfS, wfH, SV.ren, renL, SObj.ren, SV.wf, SObj.wf, wfL, SV.known, Nat.reduceEqDiff, ↓reduceIte, if_true, if_false, eq_self, Nat.reduceAdd, Nat.reduceLT, Nat.reduceLeDiff, implies_true, reduceCtorEq, forall_const]; done))
        all_goals (try (simp only [es, LB, subS, subH, wfS, wfH, SV.ren, renL, SObj.ren, SV.wf, SObj.wf, wfL, SV.known, Nat.reduceEqDiff, ↓reduceIte, if_true, if_false, eq_self, Nat.reduceAdd, Nat.reduceLT, Nat.reduceLeDiff, implies_true, reduceCtorEq, forall_const]; simp; done))
        all_goals (try (simp only [es, LB, subS, subH, wfS, wfH, SV.ren, renL, SObj.ren, SV.wf, SObj.wf, wfL, SV.known, Nat.reduceEqDiff, ↓reduceIte, if_true, if_false, eq_self, Nat.reduceAdd, Nat.reduceLT, Nat.reduceLeDiff, implies_true, reduceCtorEq, forall_const]; (and_intros <;> (first | omega | rfl | (simp; done) | (simp; omega))); done))
        all_goals (try dsimp only)
        all_goals (and_intros <;> try (first | omega | (unfold In64; omega) | trivial | assumption))
        all_goals (try (rw [es]; exact hL))
    · have hil : ¬ (i : Int) < m := by omega
      obtain rfl : i = m := by omega
      simp -implicitDefEqProofs only [lk_normal, hil, lenP, lenL, tkL, ZB, Int.reduceToNat, Nat.reduceLT, Nat.reduceLeDiff, Int.reduceLE, Int.reduceLT, Nat.reduceEqDiff, Nat.reduceSub, SB, SV.known, packR, ne_eq, reduceCtorEq, Nat.reduceEqDiff, ↓reduceIte, if_true, if_false, eq_self, Nat.reduceAdd, Nat.reduceMul, Nat.reduceSub, forall_const, oneCellS, Kd.isSca, flat, TYB]
      refine .inr ⟨2, capo, jo, ?_, ?_, by omega, ?_, by simp⟩
      · rw [hL]; simp [Wrap.ap]
      · simp [hget_cons]
      · omega
def SamePours_F : List SV → Heap → Nat → Nat → K1 → Prop
  | [.arr R, .arr D], H, n, _, κ => (R.length = 24 ∧ D.length = 6) ∧ freshK (.more [.bool (forB R D)]) (samL R D) ((samL R D).length / 2) 2 51 (decide (forB R D = false ∨ GL (pbB R D 3) 36 = [])) H n κ
  | _, _, _, _, _ => False
--@tbl SamePours = impl.SamePours
theorem SamePours_T : ∀ args H n m κ, SamePours_F args H n m κ → GenOK Try.prog 28 args H n m κ := by
  intro args H n m κ h
  unfold SamePours_F at h
  split at h
  · exact gen_of_fresh (SamePours_ok _ _ h.1.1 h.1.2) (fun k o hk => by cases hk) h.2
  · exact h.elim
def sSamePours_F : List SV → Heap → Nat → Nat → K1 → Prop
  | [.arr R, .arr D], H, n, _, κ => (R.length = 24 ∧ D.length = 6) ∧ freshK (.more [.bool (forB R D)]) (samL R D) ((samL R D).length / 2) 2 51 (false) H n κ
  | _, _, _, _, _ => False
--@tbl sSamePours = spec.SamePours
theorem sSamePours_T : ∀ args H n m κ, sSamePours_F args H n m κ → GenOK Try.prog 27 args H n m κ := by
  intro args H n m κ h
  unfold sSamePours_F at h
  split at h
  · exact gen_of_fresh (sSamePours_ok _ _ h.1.1 h.1.2) (fun k o hk => by cases hk) h.2
  · exact h.elim
theorem lawSamePours (R D : List Int) (hR : R.length = 24) (_ : ∀ x ∈ R, In64 x) (hD : D.length = 6) (_ : ∀ x ∈ D, In64 x) : PureH Try.prog 6 [.arr R, .arr D] [] (.bool true) := by
  have tkR : R.take 24 = R := List.take_of_length_le (by omega)
  have tkD : D.take 6 = D := List.take_of_length_le (by omega)
  obtain ⟨m, hm, hm36⟩ := samL_even R D
  have e2 : (samL R D).length / 2 = m := by omega
  generalize hnl : decide (forB R D = false ∨ GL (pbB R D 3) 36 = []) = nl
  refine pure_of_vc (X := ⟨Try.prog, tys, [(16, toRack_F), (17, toIntA6_F), (19, eqS2_F), (21, held2_F)], [(28, SamePours_F), (27, sSamePours_F), (20, mark2_F)], true, true, 0, [28, 27], []⟩) (show FnOK Try.prog 6 Try.f6 (Try.f6.body.getD .skip) [28, 27] [] from ⟨Try.func6, rfl, by kernel_rfl, by kernel_rfl⟩) ⟨tys_ok, (.cons toRack_T (.cons toIntA6_T (.cons eqS2_T (.cons held2_T .nil)))), (.cons SamePours_T (.cons sSamePours_T (.cons mark2_T .nil))), mixed⟩ (n0 := 0) (Nat.le_of_ble_eq_true rfl) (by simp [wfL, SV.wf]) (wfH_spec (by simp [wfH, SObj.wf])) (Nat.le_refl _) (fun _ => by simp [SV.wf, wfL]) ?_
  simp -implicitDefEqProofs only [Try.f6, Option.getD_some, argS, toRack_F, toIntA6_F, eqS2_F, held2_F, SamePours_F, sSamePours_F, mark2_F, hR, hD, tkR, tkD, hnl, e2, freshK, Wrap.ap, ZB, Int.reduceToNat, Nat.reduceLT, Nat.reduceLeDiff, Int.reduceLE, Int.reduceLT, Nat.reduceEqDiff, Nat.reduceSub, SB, SV.known, packR, ne_eq, reduceCtorEq, Nat.reduceEqDiff, ↓reduceIte, if_true, if_false, eq_self, Nat.reduceAdd, Nat.reduceMul, Nat.reduceSub, forall_const, oneCellS, Kd.isSca, flat, TYB]
  exact lawS2 nl hm (by omega)
end Go.Proofs.Ytaenmmebnifioaa
