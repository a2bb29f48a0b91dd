/- Walks: BackTo. -/
import Derived.Test.YtfdpeenamkpcbaaDel3
import Derived.Test.YtfdpeenamkpcbaaSl3
import Derived.Test.YtfdpeenamkpcbaaBacks
set_option maxRecDepth 100000
set_option linter.unusedSimpArgs false
set_option linter.unusedVariables false
namespace Go.Proofs.Ytfdpeenamkpcbaa
open Go Go.RowKit
def delAB_F (g : Nat) (pr : List Int → List Int → List Int → Bool) (Q : List Int → List Int → List Int → Prop) : List SV → Heap → Nat → Nat → K1 → Prop
  | [.slice b 0 len cap, .fn f [.ptr k 0, .ptr k2 0]], H, n, m, κ => match hget H b, hget H k, hget H k2 with
    | some (.ints L e), some (.ints R _), some (.ints D _) => f = g ∧ (R.length = 24 ∧ D.length = 24) ∧ L.length = cap * 3 ∧ len ≤ cap ∧ len ≤ 3074457345618258602 ∧ (b ≠ k ∧ b ≠ k2 ∧ k ≠ k2) ∧ m ≤ b ∧ (∀ i, i < len → Q R D ((L.drop (i * 3)).take 3)) ∧
        κ (.slice b 0 ((kept3 (fun x => !pr R D x) L len).length / 3) cap) ((b, .ints (kept3 (fun x => !pr R D x) L len ++ List.replicate (len * 3 - (kept3 (fun x => !pr R D x) L len).length) 0 ++ L.drop (len * 3)) e) :: H) n
    | _, _, _ => False
  | [.nils, .fn _ [.ptr k 0, .ptr k2 0]], H, n, _, κ => match hget H k, hget H k2 with
    | some (.ints _ _), some (.ints _ _) => κ .nils H n
    | _, _ => False
  | _, _, _, _, _ => False
--@tbl delAB = slices.DeleteFunc[[]impl.Source,impl.Source]
theorem delAB_T (g : Nat) (pr : List Int → List Int → List Int → Bool) (Q : List Int → List Int → List Int → Prop) (hg : g ≠ 121) (hc : ∀ (R D : List Int) (e e' : Nat) (p : List Int), R.length = 24 → D.length = 24 → Q R D p → PureH Try.prog g [.arr p, .ptr 0 0, .ptr 1 0] [(0, .ints R e), (1, .ints D e')] (.bool (pr R D p))) :
    ∀ args H n m κ, delAB_F g pr Q args H n m κ → GenOK Try.prog 81 args H n m κ := by
  intro args H n m κ h
  unfold delAB_F at h
  split at h
  · rename_i b len cap f k k2
    split at h
    · rename_i L e R e2 D e3 h1 h2 h3
      obtain ⟨rfl, ⟨hR, hD⟩, hL, hlc, hm, ⟨hb1, hb2, hb3⟩, hmb, hQ, h⟩ := h
      have hu := deleteFunc3_ok f hg [.ptr 0 0, .ptr 1 0] [(0, .ints R e2), (1, .ints D e3)] (pr R D) 2 L e len cap hL hlc hm (Q R D) hQ (fun x hx => hc R D e2 e3 x hR hD hx) (by simp [wfL, SV.wf]) (wfH_spec (by simp [wfH, SObj.wf]))
      have := gen_of_upd (H := H) (n := n) (m := m) (κ := κ) hu (fun j => if j = 2 then b else if j = 1 then k2 else k) (fun j o1 hj => by
        simp only [hget_cons] at hj
        split at hj
        · rename_i hj1; cases hj; rw [if_pos hj1]; exact h1
        · rename_i hj1
          rw [if_neg hj1]
          split at hj
          · rename_i hj0; cases hj; rw [if_neg (by omega)]; exact h2
          · split at hj
            · rename_i hj2; cases hj; rw [if_pos hj2]; exact h3
            · cases hj) (fun j1 o1 j2 o2 g1 g2 he => by
        have dom : ∀ j o, hget [(2, SObj.ints L e), (0, .ints R e2), (1, .ints D e3)] j = some o → j = 2 ∨ j = 0 ∨ j = 1 := fun j o hj => by
          simp only [hget_cons] at hj
          split at hj
          · omega
          · split at hj
            · omega
            · split at hj
              · omega
              · cases hj
        rcases dom j1 o1 g1 with rfl | rfl | rfl <;> rcases dom j2 o2 g2 with rfl | rfl | rfl <;> simp at he <;> omega) (by simpa using hmb) rfl (fun n hn => by simpa [SV.wf, SV.ren] using hn) (by simpa [SV.ren] using h)
      simpa [renL, SV.ren] using this
    · exact h.elim
  · rename_i f k k2
    split at h
    · have hp := deleteFunc3_nil f [.ptr k 0, .ptr k2 0] [] (k + k2 + 1) (by simp [wfL, SV.wf]; omega) (hwf_nil _)
      refine ⟨hp.ent, fun B M w hH hwH hwa hown hM => ?_⟩
      refine (hp.call B w (HR.nil B w)).mono fun e w' hh => ?_
      exact ⟨.nils, H, n, B, hh.1, h, Nat.le_refl _, trivial, hwH, fun _ _ => rfl, hH.of_below hh.2, hown, Kept.of_below hh.2⟩
    · exact h.elim
  · exact h.elim

theorem SrL_trip (R : List Int) : ∀ m, ∀ i, i * 3 + 3 ≤ (SrL R m).length → ∃ a b c : Int, bkB R a b c = true ∧ ((SrL R m).drop (i * 3)).take 3 = [a, b, c]
  | 0, i, h => by simp [SrL_zero] at h
  | m + 1, i, h => by
    obtain ⟨n, hn, _⟩ := SrL_three R m
    rw [SrL_succ, List.length_append, hn] at h
    by_cases hi : i * 3 + 3 ≤ n * 3
    · obtain ⟨a, b, c, h1, h2⟩ := SrL_trip R m i (by omega)
      refine ⟨a, b, c, h1, ?_⟩
      rw [SrL_succ, List.drop_append_of_le_length (by omega), List.take_append_of_le_length (by rw [List.length_drop]; omega)]
      exact h2
    · unfold srK at h
      split at h
      · rename_i hc
        simp at h
        have : i = n := by omega
        subst this
        refine ⟨_, _, _, hc, ?_⟩
        rw [SrL_succ, List.drop_left' hn]
        unfold srK
        rw [if_pos hc]; rfl
      · simp at h; omega
def btP (A B s : List Int) : Bool := decide (bkR B (s.getD 0 0) (s.getD 1 0) (s.getD 2 0) = A)
def btQ (_ B s : List Int) : Prop := s.length = 3 ∧ rackB B = true ∧ bkB B (s.getD 0 0) (s.getD 1 0) (s.getD 2 0) = true
theorem btQ_of {A B : List Int} (hr : rackB B = true) (i : Nat) (junk : List Int) (h : i * 3 + 3 ≤ (SrL B 144).length) : btQ A B (List.take 3 (List.drop (i * 3) (SrL B 144 ++ junk))) := by
  obtain ⟨a, b, c, h1, h2⟩ := SrL_trip B 144 i h
  rw [List.drop_append_of_le_length (by omega), List.take_append_of_le_length (by rw [List.length_drop]; omega), h2]
  exact ⟨rfl, hr, h1⟩
theorem bt1_ok (B A : List Int) (e e' : Nat) (s : List Int) (hB : B.length = 24) (hA : A.length = 24) (hq : btQ A B s) : PureH Try.prog 83 [.arr s, .ptr 0 0, .ptr 1 0] [(0, .ints B e), (1, .ints A e')] (.bool (!btP A B s)) := by
  have tkA : A.take 24 = A := List.take_of_length_le (by omega)
  have tkB : B.take 24 = B := List.take_of_length_le (by omega)
  obtain ⟨h1, h2, h3⟩ := hq
  have tks : s.take 3 = s := List.take_of_length_le (by omega)
  have h4 := bk_21 h3
  have bl := bkR_len hB (s.getD 0 0) (s.getD 1 0) (s.getD 2 0)
  have tkb : (bkR B (s.getD 0 0) (s.getD 1 0) (s.getD 2 0)).take 24 = bkR B (s.getD 0 0) (s.getD 1 0) (s.getD 2 0) := List.take_of_length_le (by omega)
  have eqr := eqI_rack
  unfold btP
  refine pure_of_vc (X := ⟨Try.prog, tys, [(84, back_F)], [], true, true, 2, [], []⟩) fn_83 ⟨tys_ok, (.cons back_T .nil), .nil, mixed⟩ (n0 := 2) (Nat.le_of_ble_eq_true rfl) (by simp [wfL, SV.wf]) (wfH_spec (by simp [wfH, SObj.wf])) (Nat.le_refl _) (fun _ => by simp [SV.wf, wfL]) ?_
  simp -implicitDefEqProofs only [Try.f83, Option.getD_some, argS, back_F, hA, hB, tkA, tkB, tks, h1, h2, h3, h4, bl, tkb, eqr, ZB, Int.reduceToNat, Nat.reduceLT, Nat.reduceLeDiff, Int.reduceLE, Int.reduceLT, Nat.reduceEqDiff, Nat.reduceSub, SB, SV.known, packR, ne_eq, reduceCtorEq, Nat.reduceEqDiff, ↓reduceIte, if_true, if_false, eq_self, Nat.reduceAdd, Nat.reduceMul, Nat.reduceSub, forall_const, oneCellS, Kd.isSca, flat, TYB]
def btDel_F := delAB_F 83 (fun B A s => !btP A B s) (fun B A s => btQ A B s)
--@tbl btDel = slices.DeleteFunc[[]impl.Source,impl.Source]
theorem btDel_T : ∀ args H n m κ, btDel_F args H n m κ → GenOK Try.prog 81 args H n m κ := delAB_T _ _ _ (by decide) bt1_ok
def btL (A B : List Int) : List Int := kept3 (fun s => btP A B s) (SrL B 144) ((SrL B 144).length / 3)
def btoB (A B : List Int) : Bool := rackB A && rackB B
def btoF (A B : List Int) : List Int := if btoB A B = true then btL A B else []
theorem btoF_three (A B : List Int) : ∃ k, (btoF A B).length = k * 3 ∧ k ≤ 144 := by
  unfold btoF
  split
  · obtain ⟨m, hm, hm36⟩ := SrL_three B 144
    obtain ⟨k, hk, hkm⟩ := kept3_even (fun s => btP A B s) (SrL B 144) m (by omega)
    have e2 : (SrL B 144).length / 3 = m := by omega
    exact ⟨k, by unfold btL; rw [e2]; exact hk, by omega⟩
  · exact ⟨0, rfl, by omega⟩
theorem BackTo_ok (A B : List Int) (hA : A.length = 24) (hB : B.length = 24) : FreshP Try.prog 32 [.arr A, .arr B] [] (btoF A B) ((btoF A B).length / 3) 3 99 (decide (btoB A B = false ∨ SrL B 144 = [])) (.more [.bool (btoB A B)]) := by
  have tkA : A.take 24 = A := List.take_of_length_le (by omega)
  have tkB : B.take 24 = B := List.take_of_length_le (by omega)
  unfold btoF btoB
  cases h1 : rackB A
  · refine fresh_of_vc (X := ⟨Try.prog, tys, [(47, IsRack_F)], [(82, sources_F), (81, btDel_F)], true, true, 0, [], []⟩) fn_32 ⟨tys_ok, (.cons IsRack_T .nil), (.cons sources_T (.cons btDel_T .nil)), mixed⟩ (n0 := 0) rfl (Nat.le_of_ble_eq_true rfl) (by simp [wfL, SV.wf]) (wfH_spec (by simp [wfH, SObj.wf])) (Nat.le_refl _) ?_
    simp -implicitDefEqProofs only [Try.f32, Option.getD_some, argS, IsRack_F, sources_F, btDel_F, hA, hB, tkA, tkB, h1, freshK, Wrap.ap, ZB, Int.reduceToNat, Nat.reduceLT, Nat.reduceLeDiff, Int.reduceLE, Int.reduceLT, Nat.reduceEqDiff, Nat.reduceSub, SB, SV.known, packR, ne_eq, reduceCtorEq, Nat.reduceEqDiff, ↓reduceIte, if_true, if_false, eq_self, Nat.reduceAdd, Nat.reduceMul, Nat.reduceSub, forall_const, oneCellS, Kd.isSca, flat, TYB]
    exact .inl ⟨by simp, rfl, rfl⟩
  cases h2 : rackB B
  · refine fresh_of_vc (X := ⟨Try.prog, tys, [(47, IsRack_F)], [(82, sources_F), (81, btDel_F)], true, true, 0, [], []⟩) fn_32 ⟨tys_ok, (.cons IsRack_T .nil), (.cons sources_T (.cons btDel_T .nil)), mixed⟩ (n0 := 0) rfl (Nat.le_of_ble_eq_true rfl) (by simp [wfL, SV.wf]) (wfH_spec (by simp [wfH, SObj.wf])) (Nat.le_refl _) ?_
    simp -implicitDefEqProofs only [Try.f32, Option.getD_some, argS, IsRack_F, sources_F, btDel_F, hA, hB, tkA, tkB, h1, h2, freshK, Wrap.ap, ZB, Int.reduceToNat, Nat.reduceLT, Nat.reduceLeDiff, Int.reduceLE, Int.reduceLT, Nat.reduceEqDiff, Nat.reduceSub, SB, SV.known, packR, ne_eq, reduceCtorEq, Nat.reduceEqDiff, ↓reduceIte, if_true, if_false, eq_self, Nat.reduceAdd, Nat.reduceMul, Nat.reduceSub, forall_const, oneCellS, Kd.isSca, flat, TYB]
    exact .inl ⟨by simp, rfl, rfl⟩
  refine fresh_of_vc (X := ⟨Try.prog, tys, [(47, IsRack_F)], [(82, sources_F), (81, btDel_F)], true, true, 0, [], []⟩) fn_32 ⟨tys_ok, (.cons IsRack_T .nil), (.cons sources_T (.cons btDel_T .nil)), mixed⟩ (n0 := 0) rfl (Nat.le_of_ble_eq_true rfl) (by simp [wfL, SV.wf]) (wfH_spec (by simp [wfH, SObj.wf])) (Nat.le_refl _) ?_
  simp -implicitDefEqProofs only [Try.f32, Option.getD_some, argS, IsRack_F, sources_F, btDel_F, hA, hB, tkA, tkB, h1, h2, freshK, Wrap.ap, btDel_F, delAB_F, Bool.not_not, ZB, Int.reduceToNat, Nat.reduceLT, Nat.reduceLeDiff, Int.reduceLE, Int.reduceLT, Nat.reduceEqDiff, Nat.reduceSub, SB, SV.known, packR, ne_eq, reduceCtorEq, Nat.reduceEqDiff, ↓reduceIte, if_true, if_false, eq_self, Nat.reduceAdd, Nat.reduceMul, Nat.reduceSub, forall_const, oneCellS, Kd.isSca, flat, TYB]
  obtain ⟨m, hm, hm36⟩ := SrL_three B 144
  have e2 : (SrL B 144).length / 3 = m := by omega
  have uf : btL A B = kept3 (fun s => btP A B s) (SrL B 144) m := by unfold btL; rw [e2]
  refine ⟨fun h0 => ?_, fun h0 cap junk hj => ?_⟩
  · refine .inl ⟨by simp [h0], ?_, rfl⟩
    rw [uf, show m = 0 by rw [h0] at hm; simp at hm; omega]; rfl
  · have ka := kept3_app (fun s => btP A B s) (SrL B 144) junk m (by omega)
    obtain ⟨k, hk, hkm⟩ := kept3_even (fun s => btP A B s) (SrL B 144) m (by omega)
    rw [e2, ka]
    refine ⟨by rw [List.length_append]; omega, by omega, by omega, fun i hi => btQ_of h2 i junk (by omega), .inr ⟨2, cap, List.replicate (m * 3 - (kept3 (fun s => btP A B s) (SrL B 144) m).length) 0 ++ List.drop (m * 3) (SrL B 144 ++ junk), ?_, ?_, by omega, ?_, by simp [h0]⟩⟩
    · rw [uf]; rfl
    · rw [uf, hget_cons, if_pos rfl, List.append_assoc]
    · rw [uf, List.length_append, List.length_replicate, List.length_drop, List.length_append]
      omega
theorem sBackTo_ok (A B : List Int) (hA : A.length = 24) (hB : B.length = 24) : FreshP Try.prog 31 [.arr A, .arr B] [] (btoF A B) ((btoF A B).length / 3) 3 99 false (.more [.bool (btoB A B)]) := by
  have tkA : A.take 24 = A := List.take_of_length_le (by omega)
  have tkB : B.take 24 = B := List.take_of_length_le (by omega)
  have eqr := eqI_rack
  unfold btoF btoB
  cases h1 : rackB A
  · refine fresh_of_vc (X := ⟨Try.prog, tys, [(43, l2Rack_F), (80, l5Back_F)], [(79, l5Sources_F)], true, true, 0, [], []⟩) fn_31 ⟨tys_ok, (.cons l2Rack_T (.cons l5Back_T .nil)), (.cons l5Sources_T .nil), mixed⟩ (n0 := 0) rfl (Nat.le_of_ble_eq_true rfl) (by simp [wfL, SV.wf]) (wfH_spec (by simp [wfH, SObj.wf])) (Nat.le_refl _) ?_
    simp -implicitDefEqProofs only [Try.f31, Option.getD_some, argS, l2Rack_F, l5Back_F, l5Sources_F, hA, hB, tkA, tkB, h1, freshK, Wrap.ap, ZB, Int.reduceToNat, Nat.reduceLT, Nat.reduceLeDiff, Int.reduceLE, Int.reduceLT, Nat.reduceEqDiff, Nat.reduceSub, SB, SV.known, packR, ne_eq, reduceCtorEq, Nat.reduceEqDiff, ↓reduceIte, if_true, if_false, eq_self, Nat.reduceAdd, Nat.reduceMul, Nat.reduceSub, forall_const, oneCellS, Kd.isSca, flat, TYB]
    exact .inr ⟨2, 0, [], rfl, rfl, by omega, by simp, by simp⟩
  cases h2 : rackB B
  · refine fresh_of_vc (X := ⟨Try.prog, tys, [(43, l2Rack_F), (80, l5Back_F)], [(79, l5Sources_F)], true, true, 0, [], []⟩) fn_31 ⟨tys_ok, (.cons l2Rack_T (.cons l5Back_T .nil)), (.cons l5Sources_T .nil), mixed⟩ (n0 := 0) rfl (Nat.le_of_ble_eq_true rfl) (by simp [wfL, SV.wf]) (wfH_spec (by simp [wfH, SObj.wf])) (Nat.le_refl _) ?_
    simp -implicitDefEqProofs only [Try.f31, Option.getD_some, argS, l2Rack_F, l5Back_F, l5Sources_F, hA, hB, tkA, tkB, h1, h2, freshK, Wrap.ap, ZB, Int.reduceToNat, Nat.reduceLT, Nat.reduceLeDiff, Int.reduceLE, Int.reduceLT, Nat.reduceEqDiff, Nat.reduceSub, SB, SV.known, packR, ne_eq, reduceCtorEq, Nat.reduceEqDiff, ↓reduceIte, if_true, if_false, eq_self, Nat.reduceAdd, Nat.reduceMul, Nat.reduceSub, forall_const, oneCellS, Kd.isSca, flat, TYB]
    exact .inr ⟨2, 0, [], rfl, rfl, by omega, by simp, by simp⟩
  obtain ⟨m, hm, hm36⟩ := SrL_three B 144
  have e2 : (SrL B 144).length / 3 = m := by omega
  have uf : btL A B = kept3 (fun s => btP A B s) (SrL B 144) m := by unfold btL; rw [e2]
  refine fresh_of_vc (X := ⟨Try.prog, tys, [(43, l2Rack_F), (80, l5Back_F)], [(79, l5Sources_F)], true, true, 0, [], []⟩) fn_31 ⟨tys_ok, (.cons l2Rack_T (.cons l5Back_T .nil)), (.cons l5Sources_T .nil), mixed⟩ (n0 := 0) rfl (Nat.le_of_ble_eq_true rfl) (by simp [wfL, SV.wf]) (wfH_spec (by simp [wfH, SObj.wf])) (Nat.le_refl _) ?_
  simp -implicitDefEqProofs only [Try.f31, Option.getD_some, argS, l2Rack_F, l5Back_F, l5Sources_F, hA, hB, tkA, tkB, h1, h2, e2, freshK, Wrap.ap, ZB, Int.reduceToNat, Nat.reduceLT, Nat.reduceLeDiff, Int.reduceLE, Int.reduceLT, Nat.reduceEqDiff, Nat.reduceSub, SB, SV.known, packR, ne_eq, reduceCtorEq, Nat.reduceEqDiff, ↓reduceIte, if_true, if_false, eq_self, Nat.reduceAdd, Nat.reduceMul, Nat.reduceSub, forall_const, oneCellS, Kd.isSca, flat, TYB]
  rw [uf]
  have hqs := fun i => btQ_of (A := A) (B := B) h2 i []
  rw [List.append_nil] at hqs
  generalize SrL B 144 = P at *
  intro cap junk hj
  refine loop_intro (fun s : Nat × Nat × Nat × List Int => [(8, .int s.1), (7, .slice 3 0 m cap), (6, .slice 2 0 s.2.1 s.2.2.1), (2, .ptr 0 0), (3, .ptr 1 0)]) (fun s => [(2, .ints (kept3 (fun s => btP A B s) P s.1 ++ s.2.2.2) 99), (3, .ints (P ++ junk) 99), (0, .ints A 28), (1, .ints B 28)]) 4
    (fun s => s.1 ≤ m ∧ (kept3 (fun s => btP A B s) P s.1).length = s.2.1 * 3 ∧ s.2.1 ≤ s.1 ∧ s.2.2.2.length + s.2.1 * 3 = s.2.2.1 * 3) (fun s => m - s.1) ?_ ?_
  · refine ⟨(0, 0, 0, []), ?_, Sub.mk_id ?_ ?_ ?_ ?_ ?_⟩
    all_goals (try (simp only [kept3_zero, List.append_nil, LB, subS, subH, wfS, wfH, SV.ren, renL, SObj.ren, SV.wf, SObj.wf, wfL, SV.known, Nat.reduceEqDiff, ↓reduceIte, if_true, if_false, eq_self, Nat.reduceAdd, Nat.reduceLT, Nat.reduceLeDiff, implies_true, reduceCtorEq, forall_const]; done))
    all_goals (try (simp only [kept3_zero, List.append_nil, LB, subS, subH, wfS, wfH, SV.ren, renL, SObj.ren, SV.wf, SObj.wf, wfL, SV.known, Nat.reduceEqDiff, ↓reduceIte, if_true, if_false, eq_self, Nat.reduceAdd, Nat.reduceLT, Nat.reduceLeDiff, implies_true, reduceCtorEq, forall_const]; simp; done))
    all_goals (try (simp only [kept3_zero, List.append_nil, LB, subS, subH, wfS, wfH, SV.ren, renL, SObj.ren, SV.wf, SObj.wf, wfL, SV.known, Nat.reduceEqDiff, ↓reduceIte, if_true, if_false, eq_self, Nat.reduceAdd, Nat.reduceLT, Nat.reduceLeDiff, implies_true, reduceCtorEq, forall_const]; (and_intros <;> (first | omega | rfl | (simp; done) | (simp; omega))); done))
    all_goals (try dsimp only)
    all_goals (and_intros <;> try (first | omega | (unfold In64; omega) | trivial | assumption))
    all_goals simp [kept3_zero]
  · rintro ⟨i, n, capo, jo⟩ ⟨hi, hL, hni, hjo⟩
    simp only at hi hL hni hjo
    have lenL : (kept3 (fun s => btP A B s) P i ++ jo).length = capo * 3 := by rw [List.length_append]; omega
    have tkL : (kept3 (fun s => btP A B s) P i ++ jo).take (n * 3) = kept3 (fun s => btP A B s) P i := List.take_left' hL
    have lenP : (P ++ junk).length = cap * 3 := by rw [List.length_append]; omega
    by_cases hlt : i < m
    · have hil : (i : Int) < m := by omega
      have eP : List.take 3 (List.drop (i * 3) (P ++ junk)) = List.take 3 (List.drop (i * 3) P) := by
        rw [List.drop_append_of_le_length (by omega), List.take_append_of_le_length (by rw [List.length_drop]; omega)]
      have es := kept3_succ (fun s => btP A B s) P i
      obtain ⟨q1, q2, q3⟩ := hqs i (by omega)
      generalize hx : List.take 3 (List.drop (i * 3) P) = x at *
      have tx : List.take 3 x = x := List.take_of_length_le (by omega)
      have bl := bkR_len hB (x.getD 0 0) (x.getD 1 0) (x.getD 2 0)
      have tkb : (bkR B (x.getD 0 0) (x.getD 1 0) (x.getD 2 0)).take 24 = bkR B (x.getD 0 0) (x.getD 1 0) (x.getD 2 0) := List.take_of_length_le (by omega)
      have h4 := bk_21 q3
      have hT : bkT B (x.getD 0 0) (x.getD 1 0) (x.getD 2 0) = bkR B (x.getD 0 0) (x.getD 1 0) (x.getD 2 0) := by unfold bkT; rw [if_pos q3]
      by_cases hc : bkR B (x.getD 0 0) (x.getD 1 0) (x.getD 2 0) = A
      · have hp : btP A B x = true := by unfold btP; rw [hc]; simp
        rw [hp] at es
        simp only [if_true] at es
        simp -implicitDefEqProofs only [lk_normal, l5Back_F, hil, hA, hB, tkA, tkB, h2, eP, q1, q3, h4, hT, tx, bl, tkb, hc, eqr, lenP, lenL, tkL, ZB, Int.reduceToNat, Nat.reduceLT, Nat.reduceLeDiff, Int.reduceLE, Int.reduceLT, Nat.reduceEqDiff, Nat.reduceSub, SB, SV.known, packR, ne_eq, reduceCtorEq, Nat.reduceEqDiff, ↓reduceIte, if_true, if_false, eq_self, Nat.reduceAdd, Nat.reduceMul, Nat.reduceSub, forall_const, oneCellS, Kd.isSca, flat, TYB]
        (try (and_intros <;> try (first | omega | (unfold In64; omega) | trivial | assumption)))

        intro junk' cap' hj'
        (try (and_intros <;> try (first | omega | (unfold In64; omega) | trivial | assumption)))
        refine ⟨(i + 1, n + 1, cap', junk'), ?_, ?_, Sub.mk_to 2 6 ?_ ?_ ?_ ?_ ?_ ?_ ?_⟩
        all_goals (try (simp only [es, LB, subS, subH, wfS, wfH, SV.ren, renL, SObj.ren, SV.wf, SObj.wf, wfL, SV.known, Nat.reduceEqDiff, ↓reduceIte, if_true, if_false, eq_self, Nat.reduceAdd, Nat.reduceLT, Nat.reduceLeDiff, implies_true, reduceCtorEq, forall_const]; done))
        all_goals (try (simp only [es, LB, subS, subH, wfS, wfH, SV.ren, renL, SObj.ren, SV.wf, SObj.wf, wfL, SV.known, Nat.reduceEqDiff, ↓reduceIte, if_true, if_false, eq_self, Nat.reduceAdd, Nat.reduceLT, Nat.reduceLeDiff, implies_true, reduceCtorEq, forall_const]; simp; done))
        all_goals (try (simp only [es, LB, subS, subH, wfS, wfH, SV.ren, renL, SObj.ren, SV.wf, SObj.wf, wfL, SV.known, Nat.reduceEqDiff, ↓reduceIte, if_true, if_false, eq_self, Nat.reduceAdd, Nat.reduceLT, Nat.reduceLeDiff, implies_true, reduceCtorEq, forall_const]; (and_intros <;> (first | omega | rfl | (simp; done) | (simp; omega))); done))
        all_goals (try dsimp only)
        all_goals (and_intros <;> try (first | omega | (unfold In64; omega) | trivial | assumption))
        all_goals (try (rw [es, List.length_append, hL]; simp; omega))
      · have hp : btP A B x = false := by unfold btP; exact decide_eq_false hc
        rw [hp] at es
        simp only [Bool.false_eq_true, if_false, List.append_nil] at es
        simp -implicitDefEqProofs only [lk_normal, l5Back_F, hil, hA, hB, tkA, tkB, h2, eP, q1, q3, h4, hT, tx, bl, tkb, hc, eqr, lenP, lenL, tkL, ZB, Int.reduceToNat, Nat.reduceLT, Nat.reduceLeDiff, Int.reduceLE, Int.reduceLT, Nat.reduceEqDiff, Nat.reduceSub, SB, SV.known, packR, ne_eq, reduceCtorEq, Nat.reduceEqDiff, ↓reduceIte, if_true, if_false, eq_self, Nat.reduceAdd, Nat.reduceMul, Nat.reduceSub, forall_const, oneCellS, Kd.isSca, flat, TYB]
        (try (and_intros <;> try (first | omega | (unfold In64; omega) | trivial | assumption)))

        refine ⟨(i + 1, n, capo, jo), ?_, ?_, Sub.mk_id ?_ ?_ ?_ ?_ ?_⟩
        all_goals (try (simp only [es, LB, subS, subH, wfS, wfH, SV.ren, renL, SObj.ren, SV.wf, SObj.wf, wfL, SV.known, Nat.reduceEqDiff, ↓reduceIte, if_true, if_false, eq_self, Nat.reduceAdd, Nat.reduceLT, Nat.reduceLeDiff, implies_true, reduceCtorEq, forall_const]; done))
        all_goals (try (simp only [es, LB, subS, subH, wfS, wfH, SV.ren, renL, SObj.ren, SV.wf, SObj.wf, wfL, SV.known, Nat.reduceEqDiff, ↓reduceIte, if_true, if_false, eq_self, Nat.reduceAdd, Nat.reduceLT, Nat.reduceLeDiff, implies_true, reduceCtorEq, forall_const]; simp; done))
        all_goals (try (simp only [es, LB, subS, subH, wfS, wfH, SV.ren, renL, SObj.ren, SV.wf, SObj.wf, wfL, SV.known, Nat.reduceEqDiff, ↓reduceIte, if_true, if_false, eq_self, Nat.reduceAdd, Nat.reduceLT, Nat.reduceLeDiff, implies_true, reduceCtorEq, forall_const]; (and_intros <;> (first | omega | rfl | (simp; done) | (simp; omega))); done))
        all_goals (try dsimp only)
        all_goals (and_intros <;> try (first | omega | (unfold In64; omega) | trivial | assumption))
        all_goals (try (rw [es]; exact hL))
    · have hil : ¬ (i : Int) < m := by omega
      obtain rfl : i = m := by omega
      simp -implicitDefEqProofs only [lk_normal, hil, lenP, lenL, tkL, ZB, Int.reduceToNat, Nat.reduceLT, Nat.reduceLeDiff, Int.reduceLE, Int.reduceLT, Nat.reduceEqDiff, Nat.reduceSub, SB, SV.known, packR, ne_eq, reduceCtorEq, Nat.reduceEqDiff, ↓reduceIte, if_true, if_false, eq_self, Nat.reduceAdd, Nat.reduceMul, Nat.reduceSub, forall_const, oneCellS, Kd.isSca, flat, TYB]
      refine .inr ⟨2, capo, jo, ?_, ?_, by omega, ?_, by simp⟩
      · rw [hL]; simp [Wrap.ap]
      · simp [hget_cons]
      · omega
def BackTo_F : List SV → Heap → Nat → Nat → K1 → Prop
  | [.arr A, .arr B], H, n, _, κ => (A.length = 24 ∧ B.length = 24) ∧ freshK (.more [.bool (btoB A B)]) (btoF A B) ((btoF A B).length / 3) 3 99 (decide (btoB A B = false ∨ SrL B 144 = [])) H n κ
  | _, _, _, _, _ => False
--@tbl BackTo = impl.BackTo
theorem BackTo_T : ∀ args H n m κ, BackTo_F args H n m κ → GenOK Try.prog 32 args H n m κ := by
  intro args H n m κ h
  unfold BackTo_F at h
  split at h
  · exact gen_of_fresh (BackTo_ok _ _ h.1.1 h.1.2) (fun k o hk => by cases hk) h.2
  · exact h.elim
def sBackTo_F : List SV → Heap → Nat → Nat → K1 → Prop
  | [.arr A, .arr B], H, n, _, κ => (A.length = 24 ∧ B.length = 24) ∧ freshK (.more [.bool (btoB A B)]) (btoF A B) ((btoF A B).length / 3) 3 99 (false) H n κ
  | _, _, _, _, _ => False
--@tbl sBackTo = spec.BackTo
theorem sBackTo_T : ∀ args H n m κ, sBackTo_F args H n m κ → GenOK Try.prog 31 args H n m κ := by
  intro args H n m κ h
  unfold sBackTo_F at h
  split at h
  · exact gen_of_fresh (sBackTo_ok _ _ h.1.1 h.1.2) (fun k o hk => by cases hk) h.2
  · exact h.elim
theorem lawBackTo (A B : List Int) (hA : A.length = 24) (_ : ∀ x ∈ A, In64 x) (hB : B.length = 24) (_ : ∀ x ∈ B, In64 x) : PureH Try.prog 8 [.arr A, .arr B] [] (.bool true) := by
  have tkA : A.take 24 = A := List.take_of_length_le (by omega)
  have tkB : B.take 24 = B := List.take_of_length_le (by omega)
  obtain ⟨m, hm, hm36⟩ := btoF_three A B
  have e2 : (btoF A B).length / 3 = m := by omega
  generalize hnl : decide (btoB A B = false ∨ SrL B 144 = []) = nl
  refine pure_of_vc (X := ⟨Try.prog, tys, [(13, toRack_F), (33, eqS3_F), (35, held3_F)], [(32, BackTo_F), (31, sBackTo_F), (34, mark3_F)], true, true, 0, [32, 31], []⟩) (show FnOK Try.prog 8 Try.f8 (Try.f8.body.getD .skip) [32, 31] [] from ⟨Try.func8, rfl, by kernel_rfl, by kernel_rfl⟩) ⟨tys_ok, (.cons toRack_T (.cons eqS3_T (.cons held3_T .nil))), (.cons BackTo_T (.cons sBackTo_T (.cons mark3_T .nil))), mixed⟩ (n0 := 0) (Nat.le_of_ble_eq_true rfl) (by simp [wfL, SV.wf]) (wfH_spec (by simp [wfH, SObj.wf])) (Nat.le_refl _) (fun _ => by simp [SV.wf, wfL]) ?_
  simp -implicitDefEqProofs only [Try.f8, Option.getD_some, argS, toRack_F, eqS3_F, held3_F, BackTo_F, sBackTo_F, mark3_F, hA, hB, tkA, tkB, hnl, e2, freshK, Wrap.ap, ZB, Int.reduceToNat, Nat.reduceLT, Nat.reduceLeDiff, Int.reduceLE, Int.reduceLT, Nat.reduceEqDiff, Nat.reduceSub, SB, SV.known, packR, ne_eq, reduceCtorEq, Nat.reduceEqDiff, ↓reduceIte, if_true, if_false, eq_self, Nat.reduceAdd, Nat.reduceMul, Nat.reduceSub, forall_const, oneCellS, Kd.isSca, flat, TYB]
  exact lawS3 nl hm (by omega)
end Go.Proofs.Ytfdpeenamkpcbaa
