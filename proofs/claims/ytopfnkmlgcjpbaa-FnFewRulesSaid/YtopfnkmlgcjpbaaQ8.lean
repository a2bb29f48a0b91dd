/- Texts of this claim, joined (DrawQ, BH0, BH1, BH2, BH3, LayI, SrtI, BH4, FP3, BH5, Turn, DrawS, FR1, Fin, FinS, FinB). -/
import Derived.Test.YtopfnkmlgcjpbaaQ1
import Derived.Test.YtopfnkmlgcjpbaaQ2
import Derived.Test.YtopfnkmlgcjpbaaQ3
import Derived.Test.YtopfnkmlgcjpbaaQ4
import Derived.Test.YtopfnkmlgcjpbaaQ5
import Derived.Test.YtopfnkmlgcjpbaaQ6
import Derived.Test.YtopfnkmlgcjpbaaQ7
import Derived.Shelf.SortM.Plain
import Derived.Shelf.SlGeneric
import Derived.Test.YtopfnkmlgcjpbaaProg
import Derived.Test.YtopfnkmlgcjpbaaRows
import Derived.ProofKit
import Derived.OpenShut
set_option maxRecDepth 100000
set_option linter.unusedSimpArgs false
set_option linter.unusedVariables false
namespace Go.Proofs.Ytopfnkmlgcjpbaa
open Go Go.RowKit
theorem fnx_DrawPoursBy : FnOK Try.prog 49 Try.f49 (Try.f49.body.getD .skip) [] [(2, .tree (.one 0 (.one 2 (.alt 1 (.one 3 (.one 4 (.one 5 .done))) (.alt 3 (.one 1 (.one 4 (.one 5 .done))) .stop)))))] := ⟨Try.func49, rfl, by kernel_rfl, by kernel_rfl⟩
set_option maxHeartbeats 1000000 in
theorem DrawPoursBy_vc (cv : SV) (m n : Nat) (H : Heap) (hB : BytA cv H) (hmn : m ≤ n) (hwH : hwf n H) :
    codeVC (⟨Try.prog, tys, [], [(25, DrawPourBy_F)], true, true, m, [], [(2, .tree (.one 0 (.one 2 (.alt 1 (.one 3 (.one 4 (.one 5 .done))) (.alt 3 (.one 1 (.one 4 (.one 5 .done))) .stop)))))]⟩ : Cx) n (Try.f49.body.getD .skip) (argS 0 [cv]) H n
      (retK tys Try.f49.results.toList fun v H' n' => ∃ (R D : List Int) (u : Int), v = .tup [.arr R, .arr D, .int u] ∧ R.length = 24 ∧ (∀ z ∈ R, In64 z) ∧ D.length = 6 ∧ (∀ z ∈ D, In64 z) ∧ In64 u ∧ Kpt n H H' n') := by
  have hB' := hB
  rcases hB with rfl | ⟨kc0, off0, len0, cap0, L0, rfl, hh0⟩
  all_goals
    simp -implicitDefEqProofs only [Try.f49, Option.getD_some, argS, Nat.add_assoc, add_self, self_add, add_add, ZB, Int.reduceToNat, Nat.reduceLT, Nat.reduceLeDiff, Int.reduceLE, Int.reduceLT, Nat.reduceEqDiff, Nat.reduceSub, SB, SV.known, packR, ne_eq, reduceCtorEq, Nat.reduceEqDiff, ↓reduceIte, if_true, if_false, eq_self, Nat.reduceAdd, Nat.reduceMul, Nat.reduceSub, forall_const, oneCellS, litOne, flat1, Kd.isSca, flat, TYB]
    have hw1 : hwf (n + 1) ((n, .ints (List.replicate 24 0) 27) :: H) := hwf_cons (hwf_mono (by omega) hwH) (Nat.lt_succ_self n) trivial
    refine drawPB_use ((hB'.put hwH (Nat.le_refl n) _).put hw1 (Nat.le_refl (n + 1)) _) (by omega) fun R D u x y H1 n1 hR hRi hD hDi hu hx hy hK => ?_
    have tkR : R.take 24 = R := List.take_of_length_le (by omega)
    have tkD : D.take 6 = D := List.take_of_length_le (by omega)
    have hle := hK.le
    have hz := hK.fr n _ (by omega) (show hget _ n = some (.ints (List.replicate 24 0) 27) by simp [hget_cons])
    have hy1 := hK.fr (n + 1) _ (by omega) (show hget _ (n + 1) = some (.ints (List.replicate 6 0) 51) by simp [hget_cons])
    have e1 : (n = n1) = False := by simp; omega
    have e2 : (n + 1 = n1) = False := by simp; omega
    have e3 : (n = n1 + 1) = False := by simp; omega
    have e4 : (n1 = n) = False := by simp; omega
    have e5 : (n1 + 1 = n) = False := by simp; omega
    have e6 : (n = n + 1) = False := by simp
    have e7 : (n1 = n + 1) = False := by simp; omega
    have hwz : hwf (n1 + 2) ((n + 1, .ints D 51) :: (n, .ints R 27) :: (n1 + 1, .ints D 51) :: (n1, .ints R 27) :: (n1 + 1, .ints (List.replicate 6 0) 51) :: (n1, .ints (List.replicate 24 0) 27) :: H1) :=
      hwf_cons (hwf_cons (hwf_cons (hwf_cons (hwf_cons (hwf_cons (hwf_mono (by omega) hK.wf) (by omega) trivial) (by omega) trivial) (by omega) trivial) (by omega) trivial) (by omega) trivial) (by omega) trivial
    simp -implicitDefEqProofs only [hR, tkR, hD, tkD, e1, e2, e3, e4, e5, Nat.add_assoc, add_self, self_add, add_add, ZB, Int.reduceToNat, Nat.reduceLT, Nat.reduceLeDiff, Int.reduceLE, Int.reduceLT, Nat.reduceEqDiff, Nat.reduceSub, SB, SV.known, packR, ne_eq, reduceCtorEq, Nat.reduceEqDiff, ↓reduceIte, if_true, if_false, eq_self, Nat.reduceAdd, Nat.reduceMul, Nat.reduceSub, forall_const, oneCellS, litOne, flat1, Kd.isSca, flat, TYB]
    refine ⟨by omega, by omega, Unit, fun _ => [(4, .int u), (3, .ptr (n + 1) 0), (2, .ptr n 0)], fun _ => (n + 1, .ints D 51) :: (n, .ints R 27) :: (n1 + 1, .ints D 51) :: (n1, .ints R 27) :: (n1 + 1, .ints (List.replicate 6 0) 51) :: (n1, .ints (List.replicate 24 0) 27) :: H1, fun _ => n1 + 2, ?_, fun _ => ?_⟩
    · simp -implicitDefEqProofs only [hz, hy1, hR, tkR, hD, tkD, e1, e2, e3, e4, e5, e6, e7, Nat.add_assoc, add_self, self_add, add_add, ZB, Int.reduceToNat, Nat.reduceLT, Nat.reduceLeDiff, Int.reduceLE, Int.reduceLT, Nat.reduceEqDiff, Nat.reduceSub, SB, SV.known, packR, ne_eq, reduceCtorEq, Nat.reduceEqDiff, ↓reduceIte, if_true, if_false, eq_self, Nat.reduceAdd, Nat.reduceMul, Nat.reduceSub, forall_const, oneCellS, litOne, flat1, Kd.isSca, flat, TYB]
      repeat' first
        | apply And.intro
        | omega
        | exact ⟨(), Sub.same (by simp only [LB, subS, subH, wfS, wfH, SV.ren, renL, SObj.ren, SV.wf, SObj.wf, wfL, SV.known, Nat.reduceEqDiff, ↓reduceIte, if_true, if_false, eq_self, Nat.reduceAdd, Nat.reduceLT, Nat.reduceLeDiff, implies_true, reduceCtorEq, forall_const]; try rfl) (by simp [subS, subH, wfS, wfH, SV.ren, renL, SObj.ren, SV.wf, SObj.wf, wfL, sget_cons, hget_cons] <;> omega) hwz (by omega)⟩
    · simp -implicitDefEqProofs only [lk_normal, hR, tkR, hD, tkD, e6, ZB, Int.reduceToNat, Nat.reduceLT, Nat.reduceLeDiff, Int.reduceLE, Int.reduceLT, Nat.reduceEqDiff, Nat.reduceSub, SB, SV.known, packR, ne_eq, reduceCtorEq, Nat.reduceEqDiff, ↓reduceIte, if_true, if_false, eq_self, Nat.reduceAdd, Nat.reduceMul, Nat.reduceSub, forall_const, oneCellS, litOne, flat1, Kd.isSca, flat, TYB]
      exact ⟨R, D, u, ⟨rfl, rfl, rfl⟩, hR, hRi, hD, hDi, hu, by omega, hwz, fun i o hi ho => by
        rw [hget_cons, if_neg (by omega), hget_cons, if_neg (by omega), hget_cons, if_neg (by omega), hget_cons, if_neg (by omega), hget_cons, if_neg (by omega), hget_cons, if_neg (by omega)]
        exact hK.fr i o (by omega) (by rw [hget_cons, if_neg (by omega), hget_cons, if_neg (by omega)]; exact ho)⟩
--@tbl DrawPoursBy = spec.DrawPoursBy
--@tbl DrawFewestBy = spec.DrawFewestBy
def DrawPoursBy_F : List SV → Heap → Nat → Nat → K1 → Prop
  | [cv], H, n, m, κ => BytA cv H ∧ m ≤ n ∧ ∀ (R D : List Int) (u : Int) H' n', R.length = 24 → (∀ z ∈ R, In64 z) → D.length = 6 → (∀ z ∈ D, In64 z) → In64 u → Kpt n H H' n' → κ (.tup [.arr R, .arr D, .int u]) H' n'
  | _, _, _, _, _ => False
def DrawFewestBy_F := DrawPoursBy_F
theorem drawPsB_use {cv : SV} {H : Heap} {n m : Nat} {κ : K1} (h1 : BytA cv H) (h2 : m ≤ n) (h3 : ∀ (R D : List Int) (u : Int) H' n', R.length = 24 → (∀ z ∈ R, In64 z) → D.length = 6 → (∀ z ∈ D, In64 z) → In64 u → Kpt n H H' n' → κ (.tup [.arr R, .arr D, .int u]) H' n') : DrawPoursBy_F [cv] H n m κ := ⟨h1, h2, h3⟩
theorem DrawPoursBy_T : ∀ args H n m κ, DrawPoursBy_F args H n m κ → GenOK Try.prog 49 args H n m κ := by
  intro args H n m κ h
  unfold DrawPoursBy_F at h
  split at h
  · rename_i cv
    obtain ⟨hB, hmn, h1⟩ := h
    exact gen_direct (X := ⟨Try.prog, tys, [], [(25, DrawPourBy_F)], true, true, m, [], [(2, .tree (.one 0 (.one 2 (.alt 1 (.one 3 (.one 4 (.one 5 .done))) (.alt 3 (.one 1 (.one 4 (.one 5 .done))) .stop)))))]⟩) fnx_DrawPoursBy ⟨tys_ok, .nil, .cons DrawPourBy_T .nil, mixed⟩ rfl (Nat.le_of_ble_eq_true rfl) (fun hwH hwa => DrawPoursBy_vc cv m n H hB hmn hwH) fun hwH v H' n' hψ h3 h4 h5 => by
      obtain ⟨R, D, u, rfl, g1, g2, g3, g4, g5, g6⟩ := hψ
      exact h1 R D u H' n' g1 g2 g3 g4 g5 g6
  · exact h.elim
end Go.Proofs.Ytopfnkmlgcjpbaa
set_option maxRecDepth 100000
set_option linter.unusedSimpArgs false
set_option linter.unusedVariables false
namespace Go.Proofs.Ytopfnkmlgcjpbaa
open Go Go.RowKit
end Go.Proofs.Ytopfnkmlgcjpbaa
set_option maxRecDepth 100000
set_option linter.unusedSimpArgs false
set_option linter.unusedVariables false
namespace Go.Proofs.Ytopfnkmlgcjpbaa
open Go Go.RowKit
end Go.Proofs.Ytopfnkmlgcjpbaa
set_option maxRecDepth 100000
set_option linter.unusedSimpArgs false
set_option linter.unusedVariables false
namespace Go.Proofs.Ytopfnkmlgcjpbaa
open Go Go.RowKit
end Go.Proofs.Ytopfnkmlgcjpbaa
set_option maxRecDepth 100000
set_option linter.unusedSimpArgs false
set_option linter.unusedVariables false
namespace Go.Proofs.Ytopfnkmlgcjpbaa
open Go Go.RowKit
/-- Is this the bottom's color? -/
def gB (c : Nat) (t : List Int) : Int := if (t.getD 0 0).toNat = c then 1 else 0
end Go.Proofs.Ytopfnkmlgcjpbaa
namespace Go.Proofs
open Go.Shelf
end Go.Proofs
set_option maxRecDepth 100000
set_option linter.unusedSimpArgs false
set_option linter.unusedVariables false
namespace Go.Proofs.Ytopfnkmlgcjpbaa
open Go Go.RowKit
/-! Rooms. -/
/-- Sorting by counting. -/
def cs (l : List Int) (n : Nat) : List Int := (List.range n).flatMap fun (v : Nat) => l.filter fun x => decide (x = (v : Int))
end Go.Proofs.Ytopfnkmlgcjpbaa
set_option maxRecDepth 100000
set_option linter.unusedSimpArgs false
set_option linter.unusedVariables false
namespace Go.Proofs.Ytopfnkmlgcjpbaa
open Go Go.RowKit
--@tbl rInts = laws.rInts
end Go.Proofs.Ytopfnkmlgcjpbaa
set_option maxRecDepth 100000
set_option linter.unusedSimpArgs false
set_option linter.unusedVariables false
namespace Go.Proofs.Ytopfnkmlgcjpbaa
open Go Go.RowKit
theorem rBig_ok (L : List Int) (off len cap : Nat) : PureH Try.prog 7 [.slice 0 off len cap] [(0, .winU off L)] (.bool (decide (65536 < (len : Int)))) := by
  refine pure_of_vc (X := ⟨Try.prog, tys, [], [], true, true, 1, [], []⟩) fn_7 ⟨tys_ok, .nil, .nil, mixed⟩ (n0 := 1) (Nat.le_of_ble_eq_true rfl) (by simp [wfL, SV.wf]) (wfH_spec (by simp [wfH, SObj.wf])) (Nat.le_refl _) (fun _ => by simp [SV.wf, wfL]) ?_
  simp -implicitDefEqProofs only [Try.f7, Option.getD_some, argS, ZB, Int.reduceToNat, Nat.reduceLT, Nat.reduceLeDiff, Int.reduceLE, Int.reduceLT, Nat.reduceEqDiff, Nat.reduceSub, SB, SV.known, packR, ne_eq, reduceCtorEq, Nat.reduceEqDiff, ↓reduceIte, if_true, if_false, eq_self, Nat.reduceAdd, Nat.reduceMul, Nat.reduceSub, forall_const, oneCellS, litOne, flat1, Kd.isSca, flat, TYB]
theorem rBig_nil (H : Heap) : PureH Try.prog 7 [.nils] H (.bool false) := by
  refine PureH.any ?_ H
  refine pure_of_vc (X := ⟨Try.prog, tys, [], [], true, true, 0, [], []⟩) fn_7 ⟨tys_ok, .nil, .nil, mixed⟩ (n0 := 0) (Nat.le_of_ble_eq_true rfl) (by simp [wfL, SV.wf]) (wfH_spec (by simp [wfH, SObj.wf])) (Nat.le_refl _) (fun _ => by simp [SV.wf, wfL]) ?_
  simp -implicitDefEqProofs only [Try.f7, Option.getD_some, argS, ZB, Int.reduceToNat, Nat.reduceLT, Nat.reduceLeDiff, Int.reduceLE, Int.reduceLT, Nat.reduceEqDiff, Nat.reduceSub, SB, SV.known, packR, ne_eq, reduceCtorEq, Nat.reduceEqDiff, ↓reduceIte, if_true, if_false, eq_self, Nat.reduceAdd, Nat.reduceMul, Nat.reduceSub, forall_const, oneCellS, litOne, flat1, Kd.isSca, flat, TYB]
def rBig_F : List SV → Heap → Option (Prop × SV)
  | [.slice a o len _], H => match hget H a with
    | some (.winU off _) => some (o = off, .bool (decide (65536 < (len : Int))))
    | _ => none
  | [.nils], _ => some (True, .bool false)
  | _, _ => none
theorem rBig_T : ∀ args H p v, rBig_F args H = some (p, v) → p → PureH Try.prog 7 args H v := by
  intro args H p v h hp
  unfold rBig_F at h
  split at h
  · rename_i a o len cap
    split at h
    · rename_i off L g
      cases h
      subst hp
      exact one_block (rBig_ok L o len cap) g rfl (fun _ => trivial)
    · cases h
  · cases h
    exact rBig_nil H
  · cases h
end Go.Proofs.Ytopfnkmlgcjpbaa
set_option maxRecDepth 100000
set_option linter.unusedSimpArgs false
set_option linter.unusedVariables false
namespace Go.Proofs.Ytopfnkmlgcjpbaa
open Go Go.RowKit
theorem Kpt.get {n n' k : Nat} {H H' : Heap} {o : SObj} (h : Kpt n H H' n') (hk : k < n) (ho : hget H k = some o) : hget H' k = some o := h.fr k o hk ho
theorem drawS_use {cv : SV} {H : Heap} {n m : Nat} {κ : K1} (h1 : BytA cv H) (h2 : m ≤ n) (h3 : ∀ (R : List Int) H' n', R.length = 24 → (∀ z ∈ R, In64 z) → Kpt n H H' n' → κ (.arr R) H' n') : DrawIsSorted_F [cv] H n m κ := ⟨h1, h2, h3⟩
def ps (L : List Int) : Nat → Int
  | 0 => 0
  | k + 1 => ps L k + L.getD k 0
end Go.Proofs.Ytopfnkmlgcjpbaa
set_option maxRecDepth 100000
set_option linter.unusedSimpArgs false
set_option linter.unusedVariables false
namespace Go.Proofs.Ytopfnkmlgcjpbaa
open Go Go.RowKit
theorem mov4 {R D : List Int} {i j : Int} (hR : R.length = 24) (hD : D.length = 6) (hf : forB R D = true) (hi : 0 ≤ i ∧ i ≤ 5) (hj : 0 ≤ j ∧ j ≤ 5) (h : ¬ movF R D 4 i j = 0) : movF R D 4 i j = 1 ∧ i ≠ j ∧ 0 < layN (tubeAt R i.toNat) ∧ 1 ≤ roomF R D j.toNat := by
  have ff := forB_facts hD hf
  have f2 := ff.2.2.2 j.toNat (by omega)
  have li := tubeAt_len hR (i := i.toNat) (by omega)
  have tz := top_zero _ li (tubeAt_ok ff.1 (by omega))
  unfold movF at h ⊢
  by_cases h1 : i = j ∨ (topF (tubeAt R i.toNat)).1 = 0 ∨ roomF R D j.toNat = 0
  · rw [if_pos h1] at h; exact absurd rfl h
  · rw [if_neg h1, if_pos rfl]
    refine ⟨rfl, by omega, by omega, by omega⟩
end Go.Proofs.Ytopfnkmlgcjpbaa
set_option maxRecDepth 100000
set_option linter.unusedSimpArgs false
set_option linter.unusedVariables false
namespace Go.Proofs.Ytopfnkmlgcjpbaa
open Go Go.RowKit
theorem BytA.fr {cv : SV} {H H' : Heap} {n : Nat} (hB : BytA cv H) (hw : hwf n H) (h : ∀ i o, i < n → hget H i = some o → hget H' i = some o) : BytA cv H' := by
  rcases hB with rfl | ⟨kc, off, len, cap, L, rfl, h1, h2⟩
  · exact .inl rfl
  · exact .inr ⟨kc, off, len, cap, L, rfl, h _ _ (hw _ _ h1).1 h1, h2⟩
theorem Drawn.kpt {c kc a k n0 n n' : Nat} {H0 H H' : Heap} (h : Drawn c kc a k n0 H0 H n) (hK : Kpt n H H' n') (hc : c < n0 ∧ kc < n0 ∧ kc ≠ c) : Drawn c kc a k n0 H0 H' n' := by
  have := h.le
  obtain ⟨a', h1, h2, v, s, h3, h4, h5⟩ := h.cur
  exact ⟨Nat.le_trans h.le hK.le, hK.wf, ⟨a', h1, h2, v, s, hK.fr _ _ (by omega) h3, h4.at (fun o ho => hK.fr _ _ (by omega) ho), h5⟩, fun i o hi hic ho => hK.fr i o (by omega) (h.fr i o hi hic ho)⟩
theorem fnx_DrawReachBy : FnOK Try.prog 46 Try.f46 (Try.f46.body.getD .skip) [119] [(4, .tree (.one 0 (.one 2 (.one 3 (.alt 1 (.one 4 (.one 5 (.one 6 (.one 7 .done)))) (.alt 4 (.one 1 (.one 5 (.one 6 (.one 7 .done)))) .stop))))))] := ⟨Try.func46, rfl, by kernel_rfl, by kernel_rfl⟩
set_option maxHeartbeats 1000000 in
theorem DrawReachBy_vc (cv : SV) (m n : Nat) (H : Heap) (hB : BytA cv H) (hmn : m ≤ n) (hwH : hwf n H) :
    codeVC (⟨Try.prog, tys, [], [(119, among_F), (49, DrawPoursBy_F)], true, true, m, [119], [(4, .tree (.one 0 (.one 2 (.one 3 (.alt 1 (.one 4 (.one 5 (.one 6 (.one 7 .done)))) (.alt 4 (.one 1 (.one 5 (.one 6 (.one 7 .done)))) .stop))))))]⟩ : Cx) n (Try.f46.body.getD .skip) (argS 0 [cv]) H n
      (retK tys Try.f46.results.toList fun v H' n' => ∃ (R D : List Int) (u k : Int), v = .tup [.arr R, .arr D, .int u, .int k] ∧ R.length = 24 ∧ (∀ z ∈ R, In64 z) ∧ D.length = 6 ∧ (∀ z ∈ D, In64 z) ∧ In64 u ∧ In64 k ∧ Kpt n H H' n') := by
  have hB' := hB
  rcases hB with rfl | ⟨kc0, off0, len0, cap0, L0, rfl, hh0⟩
  all_goals
    simp -implicitDefEqProofs only [Try.f46, Option.getD_some, argS, Nat.add_assoc, add_self, self_add, add_add, ZB, Int.reduceToNat, Nat.reduceLT, Nat.reduceLeDiff, Int.reduceLE, Int.reduceLT, Nat.reduceEqDiff, Nat.reduceSub, SB, SV.known, packR, ne_eq, reduceCtorEq, Nat.reduceEqDiff, ↓reduceIte, if_true, if_false, eq_self, Nat.reduceAdd, Nat.reduceMul, Nat.reduceSub, forall_const, oneCellS, litOne, flat1, Kd.isSca, flat, TYB]
    have hw1 : hwf (n + 1) ((n, .ints (List.replicate 24 0) 27) :: H) := hwf_cons (hwf_mono (by omega) hwH) (Nat.lt_succ_self n) trivial
    obtain ⟨kc, hlt, d0⟩ := cur_new ((hB'.put hwH (Nat.le_refl n) (.ints (List.replicate 24 0) 27)).put hw1 (Nat.le_refl (n + 1)) (.ints (List.replicate 6 0) 51)) (hwf_cons (hwf_mono (by omega) hw1) (Nat.lt_succ_self (n + 1)) trivial) (Nat.lt_succ_self (n + 1)) ⟨_, by simp [hget_cons]; rfl⟩
    refine among_use (d0.pushI hlt) hlt (by omega) (by omega) (L := [1, 2, 0, 1, 3, -1]) (by simp [hget_cons]; rfl) (by omega) (by simp) fun x H1 hx1 hd1 hf1 => ?_
    have hI : In64 x := by simp at hx1; unfold In64; omega
    have fr1 : ∀ i o, i < n → hget H i = some o → hget H1 i = some o := fun i o hi ho => hd1.fr i o (by omega) (by omega) (by rw [hget_cons, if_neg (by omega), hget_cons, if_neg (by omega), hget_cons, if_neg (by omega)]; exact ho)
    have hz1 := hd1.fr n _ (by omega) (by omega) (show hget _ n = some (.ints (List.replicate 24 0) 27) by simp [hget_cons] <;> omega)
    have hy1 := hd1.fr (n + 1) _ (by omega) (by omega) (show hget _ (n + 1) = some (.ints (List.replicate 6 0) 51) by simp [hget_cons] <;> omega)
    simp -implicitDefEqProofs only [Nat.add_assoc, add_self, self_add, add_add, ZB, Int.reduceToNat, Nat.reduceLT, Nat.reduceLeDiff, Int.reduceLE, Int.reduceLT, Nat.reduceEqDiff, Nat.reduceSub, SB, SV.known, packR, ne_eq, reduceCtorEq, Nat.reduceEqDiff, ↓reduceIte, if_true, if_false, eq_self, Nat.reduceAdd, Nat.reduceMul, Nat.reduceSub, forall_const, oneCellS, litOne, flat1, Kd.isSca, flat, TYB]
    refine drawPsB_use (hB'.fr hwH fr1) (by omega) fun R D u H2 n2 hR hRi hD hDi hu hK => ?_
    have tkR : R.take 24 = R := List.take_of_length_le (by omega)
    have tkD : D.take 6 = D := List.take_of_length_le (by omega)
    have hle := hK.le
    have hz := hK.fr n _ (by omega) hz1
    have hy := hK.fr (n + 1) _ (by omega) hy1
    have e1 : (n = n2) = False := by simp; omega
    have e2 : (n + 1 = n2) = False := by simp; omega
    have e3 : (n = n2 + 1) = False := by simp; omega
    have e4 : (n2 = n) = False := by simp; omega
    have e5 : (n2 + 1 = n) = False := by simp; omega
    have e6 : (n = n + 1) = False := by simp
    have e7 : (n2 = n + 1) = False := by simp; omega
    have hwz : hwf (n2 + 2) ((n + 1, .ints D 51) :: (n, .ints R 27) :: (n2 + 1, .ints D 51) :: (n2, .ints R 27) :: (n2 + 1, .ints (List.replicate 6 0) 51) :: (n2, .ints (List.replicate 24 0) 27) :: H2) :=
      hwf_cons (hwf_cons (hwf_cons (hwf_cons (hwf_cons (hwf_cons (hwf_mono (by omega) hK.wf) (by omega) trivial) (by omega) trivial) (by omega) trivial) (by omega) trivial) (by omega) trivial) (by omega) trivial
    simp -implicitDefEqProofs only [hR, tkR, hD, tkD, e1, e2, e3, e4, e5, Nat.add_assoc, add_self, self_add, add_add, ZB, Int.reduceToNat, Nat.reduceLT, Nat.reduceLeDiff, Int.reduceLE, Int.reduceLT, Nat.reduceEqDiff, Nat.reduceSub, SB, SV.known, packR, ne_eq, reduceCtorEq, Nat.reduceEqDiff, ↓reduceIte, if_true, if_false, eq_self, Nat.reduceAdd, Nat.reduceMul, Nat.reduceSub, forall_const, oneCellS, litOne, flat1, Kd.isSca, flat, TYB]
    refine ⟨by omega, by omega, Unit, fun _ => [(5, .int x), (4, .int u), (3, .ptr (n + 1) 0), (2, .ptr n 0)], fun _ => (n + 1, .ints D 51) :: (n, .ints R 27) :: (n2 + 1, .ints D 51) :: (n2, .ints R 27) :: (n2 + 1, .ints (List.replicate 6 0) 51) :: (n2, .ints (List.replicate 24 0) 27) :: H2, fun _ => n2 + 2, ?_, fun _ => ?_⟩
    · simp -implicitDefEqProofs only [hz, hy, hR, tkR, hD, tkD, e1, e2, e3, e4, e5, e6, e7, Nat.add_assoc, add_self, self_add, add_add, ZB, Int.reduceToNat, Nat.reduceLT, Nat.reduceLeDiff, Int.reduceLE, Int.reduceLT, Nat.reduceEqDiff, Nat.reduceSub, SB, SV.known, packR, ne_eq, reduceCtorEq, Nat.reduceEqDiff, ↓reduceIte, if_true, if_false, eq_self, Nat.reduceAdd, Nat.reduceMul, Nat.reduceSub, forall_const, oneCellS, litOne, flat1, Kd.isSca, flat, TYB]
      repeat' first
        | apply And.intro
        | omega
        | exact ⟨(), Sub.same (by simp only [LB, subS, subH, wfS, wfH, SV.ren, renL, SObj.ren, SV.wf, SObj.wf, wfL, SV.known, Nat.reduceEqDiff, ↓reduceIte, if_true, if_false, eq_self, Nat.reduceAdd, Nat.reduceLT, Nat.reduceLeDiff, implies_true, reduceCtorEq, forall_const]; try rfl) (by simp [subS, subH, wfS, wfH, SV.ren, renL, SObj.ren, SV.wf, SObj.wf, wfL, sget_cons, hget_cons] <;> omega) hwz (by omega)⟩
    · simp -implicitDefEqProofs only [lk_normal, hR, tkR, hD, tkD, e6, ZB, Int.reduceToNat, Nat.reduceLT, Nat.reduceLeDiff, Int.reduceLE, Int.reduceLT, Nat.reduceEqDiff, Nat.reduceSub, SB, SV.known, packR, ne_eq, reduceCtorEq, Nat.reduceEqDiff, ↓reduceIte, if_true, if_false, eq_self, Nat.reduceAdd, Nat.reduceMul, Nat.reduceSub, forall_const, oneCellS, litOne, flat1, Kd.isSca, flat, TYB]
      exact ⟨R, D, u, x, ⟨rfl, rfl, rfl, rfl⟩, hR, hRi, hD, hDi, hu, hI, by omega, hwz, fun i o hi ho => by
        rw [hget_cons, if_neg (by omega), hget_cons, if_neg (by omega), hget_cons, if_neg (by omega), hget_cons, if_neg (by omega), hget_cons, if_neg (by omega), hget_cons, if_neg (by omega)]
        exact hK.fr i o (by omega) (fr1 i o hi ho)⟩
--@tbl DrawReachBy = spec.DrawReachBy
def DrawReachBy_F : List SV → Heap → Nat → Nat → K1 → Prop
  | [cv], H, n, m, κ => BytA cv H ∧ m ≤ n ∧ ∀ (R D : List Int) (u k : Int) H' n', R.length = 24 → (∀ z ∈ R, In64 z) → D.length = 6 → (∀ z ∈ D, In64 z) → In64 u → In64 k → Kpt n H H' n' → κ (.tup [.arr R, .arr D, .int u, .int k]) H' n'
  | _, _, _, _, _ => False
theorem drawRB_use {cv : SV} {H : Heap} {n m : Nat} {κ : K1} (h1 : BytA cv H) (h2 : m ≤ n) (h3 : ∀ (R D : List Int) (u k : Int) H' n', R.length = 24 → (∀ z ∈ R, In64 z) → D.length = 6 → (∀ z ∈ D, In64 z) → In64 u → In64 k → Kpt n H H' n' → κ (.tup [.arr R, .arr D, .int u, .int k]) H' n') : DrawReachBy_F [cv] H n m κ := ⟨h1, h2, h3⟩
theorem DrawReachBy_T : ∀ args H n m κ, DrawReachBy_F args H n m κ → GenOK Try.prog 46 args H n m κ := by
  intro args H n m κ h
  unfold DrawReachBy_F at h
  split at h
  · rename_i cv
    obtain ⟨hB, hmn, h1⟩ := h
    exact gen_direct (X := ⟨Try.prog, tys, [], [(119, among_F), (49, DrawPoursBy_F)], true, true, m, [119], [(4, .tree (.one 0 (.one 2 (.one 3 (.alt 1 (.one 4 (.one 5 (.one 6 (.one 7 .done)))) (.alt 4 (.one 1 (.one 5 (.one 6 (.one 7 .done)))) .stop))))))]⟩) fnx_DrawReachBy ⟨tys_ok, .nil, .cons among_T (.cons DrawPoursBy_T .nil), mixed⟩ rfl (Nat.le_of_ble_eq_true rfl) (fun hwH hwa => DrawReachBy_vc cv m n H hB hmn hwH) fun hwH v H' n' hψ h3 h4 h5 => by
      obtain ⟨R, D, u, k, rfl, g1, g2, g3, g4, g5, g6, g7⟩ := hψ
      exact h1 R D u k H' n' g1 g2 g3 g4 g5 g6 g7
  · exact h.elim
/-! Fewest pours' arguments. -/
/-- A rack at a, depths at b, while it is drawn. -/
structure FwS (c kc n0 : Nat) (H0 : Heap) (R D : List Int) (a b k : Nat) (H : Heap) (n : Nat) : Prop where
  d : Drawn c kc 0 k n0 H0 H n
  lt : n0 ≤ a ∧ a < n ∧ n0 ≤ b ∧ b < n ∧ a ≠ b
  r : hget H a = some (.ints R 27)
  o : hget H b = some (.ints D 51)
  l : R.length = 24
  i : ∀ z ∈ R, In64 z
theorem FwS.draw {c kc n0 a b k n k2 n2 : Nat} {H0 H H2 : Heap} {R D : List Int} (h : FwS c kc n0 H0 R D a b k H n) (hd : Drawn c kc 0 k2 n0 H0 H2 n2) (hf : Fr n0 n H H2) (hn : n ≤ n2) : FwS c kc n0 H0 R D a b k2 H2 n2 :=
  ⟨hd, by have := h.lt; omega, hf.use h.lt.1 h.lt.2.1 h.r, hf.use h.lt.2.2.1 h.lt.2.2.2.1 h.o, h.l, h.i⟩
theorem FwS.push {c kc n0 a b k n : Nat} {H0 H : Heap} {R D : List Int} (h : FwS c kc n0 H0 R D a b k H n) (hlt : c < n0 ∧ kc < n0 ∧ kc ≠ c) {L : List Int} {e : Nat} : FwS c kc n0 H0 R D a b k ((n, .ints L e) :: H) (n + 1) :=
  ⟨h.d.pushI hlt, by have := h.lt; omega, by rw [hget_cons, if_neg (by have := h.lt; omega)]; exact h.r, by rw [hget_cons, if_neg (by have := h.lt; omega)]; exact h.o, h.l, h.i⟩
theorem FwS.put {c kc n0 a b k n q : Nat} {H0 H : Heap} {R D : List Int} (h : FwS c kc n0 H0 R D a b k H n) (hlt : c < n0 ∧ kc < n0 ∧ kc ≠ c) (hq : n0 ≤ q ∧ q < n ∧ q ≠ a ∧ q ≠ b) {L : List Int} {e : Nat} : FwS c kc n0 H0 R D a b k ((q, .ints L e) :: H) n :=
  ⟨h.d.putI hlt hq.1 hq.2.1, h.lt, by rw [hget_cons, if_neg (by omega)]; exact h.r, by rw [hget_cons, if_neg (by omega)]; exact h.o, h.l, h.i⟩
theorem FwS.set {c kc n0 a b k n : Nat} {H0 H : Heap} {R R' D : List Int} (h : FwS c kc n0 H0 R D a b k H n) (hlt : c < n0 ∧ kc < n0 ∧ kc ≠ c) (hl : R'.length = 24) (hi : ∀ z ∈ R', In64 z) : FwS c kc n0 H0 R' D a b k ((a, .ints R' 27) :: H) n :=
  ⟨h.d.putI hlt h.lt.1 h.lt.2.1, h.lt, by simp [hget_cons], by rw [hget_cons, if_neg (by have := h.lt; omega)]; exact h.o, hl, hi⟩
theorem FwS.more {c kc n0 a b k k' n : Nat} {H0 H : Heap} {R D : List Int} (h : FwS c kc n0 H0 R D a b k H n) (hk : k ≤ k') : FwS c kc n0 H0 R D a b k' H n := ⟨h.d.more hk, h.lt, h.r, h.o, h.l, h.i⟩
theorem rackB_in {R : List Int} (hl : R.length = 24) (h : rackB R = true) : ∀ z ∈ R, In64 z := by
  intro z hz
  obtain ⟨k, hk, rfl⟩ := List.mem_iff_getElem.1 hz
  have h1 := ((rackB_iff R hl).1 h (k / 4) (k % 4) (by omega) (by omega)).1
  rw [show k / 4 * 4 + k % 4 = k by omega, List.getD_eq_getElem?_getD, List.getElem?_eq_getElem hk] at h1
  simp only [Option.getD_some] at h1
  unfold In64; omega
theorem away {R D : List Int} (hR : R.length = 24) (hD : D.length = 6) (hf : forB R D = true) {a b : Nat} (ha : a < 6) (hb : b < 6) (hc : pbB R D 4 a b = true) : (a : Int) ≠ b ∧ 1 ≤ layN (tubeAt R a) ∧ 1 + layN (tubeAt R b) ≤ 4 ∧ (mvR R a b 1).length = 24 ∧ ∀ z ∈ mvR R a b 1, In64 z := by
  obtain ⟨s1, s2, s3, s4, s5, s6⟩ := for_suc hR hD hf ha hb hc
  have m4 := (mov4 (i := a) (j := b) hR hD hf (by omega) (by omega) (by omega)).1
  have e1 : sucP R D 4 a b = mvR R a b 1 := by unfold sucP; rw [m4]; simp
  rw [m4] at s5 s6
  rw [e1] at s1 s2
  exact ⟨s4, by simpa using s5, by simpa using s6, s1, rackB_in s1 (forB_facts hD s2).1⟩
theorem fnx_DrawFewestBy : FnOK Try.prog 43 Try.f43 (Try.f43.body.getD .skip) [88, 89, 94] [(12, .tree (.one 0 (.one 2 (.alt 1 (.one 3 (.one 4 (.one 5 .done))) (.alt 3 (.one 1 (.one 4 (.one 5 .done))) .stop)))))] := ⟨Try.func43, rfl, by kernel_rfl, by kernel_rfl⟩
set_option maxHeartbeats 4000000 in
theorem DrawFewestBy_vc (cv : SV) (m n : Nat) (H : Heap) (hB : BytA cv H) (hmn : m ≤ n) (hwH : hwf n H) :
    codeVC (⟨Try.prog, tys, [(91, l8Fits2_F), (103, l8Move_F)], [(88, ruleOf_F), (89, depths_F), (94, pick_F), (93, l8Pours_F), (114, DrawIsSorted_F)], true, true, m, [88, 89, 94], [(12, .tree (.one 0 (.one 2 (.alt 1 (.one 3 (.one 4 (.one 5 .done))) (.alt 3 (.one 1 (.one 4 (.one 5 .done))) .stop)))))]⟩ : Cx) n (Try.f43.body.getD .skip) (argS 0 [cv]) H n
      (retK tys Try.f43.results.toList fun v H' n' => ∃ (R D : List Int) (u : Int), v = .tup [.arr R, .arr D, .int u] ∧ R.length = 24 ∧ (∀ z ∈ R, In64 z) ∧ D.length = 6 ∧ (∀ z ∈ D, In64 z) ∧ In64 u ∧ Kpt n H H' n') := by
  have hB' := hB
  rcases hB with rfl | ⟨kc0, off0, len0, cap0, L0, rfl, hh0⟩
  all_goals
    simp -implicitDefEqProofs only [Try.f43, Option.getD_some, argS, Nat.add_assoc, add_self, self_add, add_add, ZB, Int.reduceToNat, Nat.reduceLT, Nat.reduceLeDiff, Int.reduceLE, Int.reduceLT, Nat.reduceEqDiff, Nat.reduceSub, SB, SV.known, packR, ne_eq, reduceCtorEq, Nat.reduceEqDiff, ↓reduceIte, if_true, if_false, eq_self, Nat.reduceAdd, Nat.reduceMul, Nat.reduceSub, forall_const, oneCellS, litOne, flat1, Kd.isSca, flat, TYB]
    have hw1 : hwf (n + 1) ((n, .ints (List.replicate 24 0) 27) :: H) := hwf_cons (hwf_mono (by omega) hwH) (Nat.lt_succ_self n) trivial
    obtain ⟨kc, hlt, d0⟩ := cur_new ((hB'.put hwH (Nat.le_refl n) (.ints (List.replicate 24 0) 27)).put hw1 (Nat.le_refl (n + 1)) (.ints (List.replicate 6 0) 51)) (hwf_cons (hwf_mono (by omega) hw1) (Nat.lt_succ_self (n + 1)) trivial) (Nat.lt_succ_self (n + 1)) ⟨_, by simp [hget_cons]; rfl⟩
    refine ruleOf_use d0 hlt (by omega) (by omega) fun u H1 n1 hu hd1 hle1 hf1 => ?_
    have fr1 : ∀ i o, i < n → hget H i = some o → hget H1 i = some o := fun i o hi ho => hd1.fr i o (by omega) (by omega) (by rw [hget_cons, if_neg (by omega), hget_cons, if_neg (by omega), hget_cons, if_neg (by omega)]; exact ho)
    simp -implicitDefEqProofs only [Nat.add_assoc, add_self, self_add, add_add, ZB, Int.reduceToNat, Nat.reduceLT, Nat.reduceLeDiff, Int.reduceLE, Int.reduceLT, Nat.reduceEqDiff, Nat.reduceSub, SB, SV.known, packR, ne_eq, reduceCtorEq, Nat.reduceEqDiff, ↓reduceIte, if_true, if_false, eq_self, Nat.reduceAdd, Nat.reduceMul, Nat.reduceSub, forall_const, oneCellS, litOne, flat1, Kd.isSca, flat, TYB]
    refine drawS_use (hB'.fr hwH fr1) (by omega) fun R0 H2 n2 hR0 hRi0 hK => ?_
    have hd2 := hd1.kpt hK hlt
    have hle2 := hK.le
    have tkR : R0.take 24 = R0 := List.take_of_length_le (by omega)
    have hd2' := (hd2.pushI hlt (L := List.replicate 24 0) (e := 27)).putI hlt (L := R0) (e := 27) (k0 := n2) (by omega) (by omega)
    simp -implicitDefEqProofs only [hR0, tkR, Nat.add_assoc, add_self, self_add, add_add, ZB, Int.reduceToNat, Nat.reduceLT, Nat.reduceLeDiff, Int.reduceLE, Int.reduceLT, Nat.reduceEqDiff, Nat.reduceSub, SB, SV.known, packR, ne_eq, reduceCtorEq, Nat.reduceEqDiff, ↓reduceIte, if_true, if_false, eq_self, Nat.reduceAdd, Nat.reduceMul, Nat.reduceSub, forall_const, oneCellS, litOne, flat1, Kd.isSca, flat, TYB]
    refine ⟨by omega, depths_use hd2' hlt (by omega) (by omega) (by omega) hR0 fun D H3 n3 hD hDi hd3 hle3 hf3 => ?_⟩
    have hr3 := hf3.use (by omega) (by omega) (show hget _ n2 = some (.ints R0 27) by simp [hget_cons])
    have tkD : D.take 6 = D := List.take_of_length_le (by omega)
    have hS3 : FwS (n + 2) kc (n + 3) _ R0 D n2 n3 42 ((n3, .ints D 51) :: (n3, .ints (List.replicate 6 0) 51) :: H3) (n3 + 1) :=
      ⟨((hd3.pushI hlt (L := List.replicate 6 0) (e := 51)).putI hlt (L := D) (e := 51) (k0 := n3) (by omega) (by omega)).more (by omega), by omega, by rw [hget_cons, if_neg (by omega), hget_cons, if_neg (by omega)]; exact hr3, by simp [hget_cons], hR0, hRi0⟩
    have e23 : (n2 = n3) = False := by simp; omega
    simp -implicitDefEqProofs only [hR0, tkR, hD, tkD, hr3, e23, Nat.add_assoc, add_self, self_add, add_add, ZB, Int.reduceToNat, Nat.reduceLT, Nat.reduceLeDiff, Int.reduceLE, Int.reduceLT, Nat.reduceEqDiff, Nat.reduceSub, SB, SV.known, packR, ne_eq, reduceCtorEq, Nat.reduceEqDiff, ↓reduceIte, if_true, if_false, eq_self, Nat.reduceAdd, Nat.reduceMul, Nat.reduceSub, forall_const, oneCellS, litOne, flat1, Kd.isSca, flat, TYB]
    refine ⟨by omega, pick_use hS3.d hlt (by omega) (by omega) fun x H4 hx0 hx1 hd4 hf4 => ?_⟩
    obtain ⟨H0, hS4, frH, hzH, hyH⟩ : ∃ H0, FwS (n + 2) kc (n + 3) H0 R0 D n2 n3 44 H4 (n3 + 1) ∧ (∀ i o, i < n → hget H i = some o → hget H0 i = some o) ∧ hget H0 n = some (.ints (List.replicate 24 0) 27) ∧ hget H0 (n + 1) = some (.ints (List.replicate 6 0) 51) :=
      ⟨_, hS3.draw hd4 hf4 (Nat.le_refl _), fun i o hi ho => by rw [hget_cons, if_neg (by omega), hget_cons, if_neg (by omega), hget_cons, if_neg (by omega)]; exact ho, by simp [hget_cons] <;> omega, by simp [hget_cons] <;> omega⟩
    obtain ⟨N, rfl⟩ : ∃ N : Nat, x = N := ⟨x.toNat, by omega⟩
    have hN : N ≤ 3 := by omega
    simp -implicitDefEqProofs only [lk_normal, ZB, Int.reduceToNat, Nat.reduceLT, Nat.reduceLeDiff, Int.reduceLE, Int.reduceLT, Nat.reduceEqDiff, Nat.reduceSub, SB, SV.known, packR, ne_eq, reduceCtorEq, Nat.reduceEqDiff, ↓reduceIte, if_true, if_false, eq_self, Nat.reduceAdd, Nat.reduceMul, Nat.reduceSub, forall_const, oneCellS, litOne, flat1, Kd.isSca, flat, TYB]
    refine loop_introN (fun s : (Nat × List Int) × Heap × Nat => [(9, .int s.1.1), (8, .ptr n3 0), (7, .ptr n2 0), (6, .int u), (5, .ptr (n + 2) 0), (3, .ptr (n + 1) 0), (2, .ptr n 0)]) (fun s => s.2.1) (fun s => s.2.2)
      (fun s => s.1.1 ≤ N ∧ FwS (n + 2) kc (n + 3) H0 s.1.2 D n2 n3 (44 + 4 * (N - s.1.1)) s.2.1 s.2.2) (fun s => s.1.1) ?_ ?_
    · have hle := hS4.d.le
      exact ⟨((N, R0), H4, n3 + 1), ⟨Nat.le_refl _, by rw [Nat.sub_self]; exact hS4⟩, Sub.same (by simp only [LB, subS, subH, wfS, wfH, SV.ren, renL, SObj.ren, SV.wf, SObj.wf, wfL, SV.known, Nat.reduceEqDiff, ↓reduceIte, if_true, if_false, eq_self, Nat.reduceAdd, Nat.reduceLT, Nat.reduceLeDiff, implies_true, reduceCtorEq, forall_const]; try rfl) (by simp [subS, subH, wfS, wfH, SV.ren, renL, SObj.ren, SV.wf, SObj.wf, wfL, sget_cons, hget_cons] <;> omega) hS4.d.wf (show n ≤ n3 + 1 by omega)⟩
    · rintro ⟨⟨k, R⟩, H5, n5⟩ ⟨hk, hS⟩
      simp only at hk hS
      have hq := hS.lt
      have hle5 := hS.d.le
      have hR := hS.l
      have hRi := hS.i
      have tkR : R.take 24 = R := List.take_of_length_le (by omega)
      have dR : R.drop 24 = [] := List.drop_of_length_le (by omega)
      have hr5 := hS.r
      have hD5 := hS.o
      have fr5 : ∀ i o, i < n → hget H i = some o → hget H5 i = some o := fun i o hi ho => hS.d.fr i o (by omega) (by omega) (frH i o hi ho)
      have hz5 := hS.d.fr n _ (by omega) (by omega) hzH
      have hy5 := hS.d.fr (n + 1) _ (by omega) (by omega) hyH
      have e4 : (n = n3) = False := by simp; omega
      have e6 : (n2 = n) = False := by simp; omega
      have e7 : (n3 = n) = False := by simp; omega
      have e10 : (n3 = n + 1) = False := by simp; omega
      have e11 : (n2 = n + 1) = False := by simp; omega
      have e12 : (n = n + 1) = False := by simp
      have hwz : hwf n5 ((n + 1, .ints D 51) :: (n, .ints R 27) :: H5) := hwf_cons (hwf_cons hS.d.wf (by omega) trivial) (by omega) trivial
      have hcond : ¬ (0 < (k : Int)) ∨ (0 < (k : Int) ∧ (forB R D = false ∨ forB R D = true)) := by
        cases forB R D <;> simp <;> omega
      rcases hcond with hb | ⟨hb, hf | hf⟩
      · simp -implicitDefEqProofs only [lk_normal, l8Fits2_F, hb, hr5, hD5, hR, tkR, hD, tkD, ZB, Int.reduceToNat, Nat.reduceLT, Nat.reduceLeDiff, Int.reduceLE, Int.reduceLT, Nat.reduceEqDiff, Nat.reduceSub, SB, SV.known, packR, ne_eq, reduceCtorEq, Nat.reduceEqDiff, ↓reduceIte, if_true, if_false, eq_self, Nat.reduceAdd, Nat.reduceMul, Nat.reduceSub, forall_const, oneCellS, litOne, flat1, Kd.isSca, flat, TYB]
        refine ⟨Unit, fun _ => [(4, .int u), (3, .ptr (n + 1) 0), (2, .ptr n 0)], fun _ => (n + 1, .ints D 51) :: (n, .ints R 27) :: H5, fun _ => n5, ?_, fun _ => ?_⟩
        · simp -implicitDefEqProofs only [hr5, hD5, hz5, hy5, hR, tkR, hD, tkD, e23, e4, e6, e7, e10, e11, e12, Nat.add_assoc, add_self, self_add, add_add, ZB, Int.reduceToNat, Nat.reduceLT, Nat.reduceLeDiff, Int.reduceLE, Int.reduceLT, Nat.reduceEqDiff, Nat.reduceSub, SB, SV.known, packR, ne_eq, reduceCtorEq, Nat.reduceEqDiff, ↓reduceIte, if_true, if_false, eq_self, Nat.reduceAdd, Nat.reduceMul, Nat.reduceSub, forall_const, oneCellS, litOne, flat1, Kd.isSca, flat, TYB]
          repeat' first
            | apply And.intro
            | omega
            | exact ⟨(), Sub.same (by simp only [LB, subS, subH, wfS, wfH, SV.ren, renL, SObj.ren, SV.wf, SObj.wf, wfL, SV.known, Nat.reduceEqDiff, ↓reduceIte, if_true, if_false, eq_self, Nat.reduceAdd, Nat.reduceLT, Nat.reduceLeDiff, implies_true, reduceCtorEq, forall_const]; try rfl) (by simp [subS, subH, wfS, wfH, SV.ren, renL, SObj.ren, SV.wf, SObj.wf, wfL, sget_cons, hget_cons] <;> omega) hwz (by omega)⟩
        · simp -implicitDefEqProofs only [lk_normal, hR, tkR, hD, tkD, e12, ZB, Int.reduceToNat, Nat.reduceLT, Nat.reduceLeDiff, Int.reduceLE, Int.reduceLT, Nat.reduceEqDiff, Nat.reduceSub, SB, SV.known, packR, ne_eq, reduceCtorEq, Nat.reduceEqDiff, ↓reduceIte, if_true, if_false, eq_self, Nat.reduceAdd, Nat.reduceMul, Nat.reduceSub, forall_const, oneCellS, litOne, flat1, Kd.isSca, flat, TYB]
          exact ⟨R, D, u, ⟨rfl, rfl, rfl⟩, hR, hRi, hD, hDi, hu, by omega, hwz, fun i o hi ho => by
            rw [hget_cons, if_neg (by omega), hget_cons, if_neg (by omega)]
            exact fr5 i o hi ho⟩
      · simp -implicitDefEqProofs only [lk_normal, l8Fits2_F, hb, hf, hr5, hD5, hR, tkR, hD, tkD, ZB, Int.reduceToNat, Nat.reduceLT, Nat.reduceLeDiff, Int.reduceLE, Int.reduceLT, Nat.reduceEqDiff, Nat.reduceSub, SB, SV.known, packR, ne_eq, reduceCtorEq, Nat.reduceEqDiff, ↓reduceIte, if_true, if_false, eq_self, Nat.reduceAdd, Nat.reduceMul, Nat.reduceSub, forall_const, oneCellS, litOne, flat1, Kd.isSca, flat, TYB]
        refine ⟨Unit, fun _ => [(4, .int u), (3, .ptr (n + 1) 0), (2, .ptr n 0)], fun _ => (n + 1, .ints D 51) :: (n, .ints R 27) :: H5, fun _ => n5, ?_, fun _ => ?_⟩
        · simp -implicitDefEqProofs only [hr5, hD5, hz5, hy5, hR, tkR, hD, tkD, e23, e4, e6, e7, e10, e11, e12, Nat.add_assoc, add_self, self_add, add_add, ZB, Int.reduceToNat, Nat.reduceLT, Nat.reduceLeDiff, Int.reduceLE, Int.reduceLT, Nat.reduceEqDiff, Nat.reduceSub, SB, SV.known, packR, ne_eq, reduceCtorEq, Nat.reduceEqDiff, ↓reduceIte, if_true, if_false, eq_self, Nat.reduceAdd, Nat.reduceMul, Nat.reduceSub, forall_const, oneCellS, litOne, flat1, Kd.isSca, flat, TYB]
          repeat' first
            | apply And.intro
            | omega
            | exact ⟨(), Sub.same (by simp only [LB, subS, subH, wfS, wfH, SV.ren, renL, SObj.ren, SV.wf, SObj.wf, wfL, SV.known, Nat.reduceEqDiff, ↓reduceIte, if_true, if_false, eq_self, Nat.reduceAdd, Nat.reduceLT, Nat.reduceLeDiff, implies_true, reduceCtorEq, forall_const]; try rfl) (by simp [subS, subH, wfS, wfH, SV.ren, renL, SObj.ren, SV.wf, SObj.wf, wfL, sget_cons, hget_cons] <;> omega) hwz (by omega)⟩
        · simp -implicitDefEqProofs only [lk_normal, hR, tkR, hD, tkD, e12, ZB, Int.reduceToNat, Nat.reduceLT, Nat.reduceLeDiff, Int.reduceLE, Int.reduceLT, Nat.reduceEqDiff, Nat.reduceSub, SB, SV.known, packR, ne_eq, reduceCtorEq, Nat.reduceEqDiff, ↓reduceIte, if_true, if_false, eq_self, Nat.reduceAdd, Nat.reduceMul, Nat.reduceSub, forall_const, oneCellS, litOne, flat1, Kd.isSca, flat, TYB]
          exact ⟨R, D, u, ⟨rfl, rfl, rfl⟩, hR, hRi, hD, hDi, hu, by omega, hwz, fun i o hi ho => by
            rw [hget_cons, if_neg (by omega), hget_cons, if_neg (by omega)]
            exact fr5 i o hi ho⟩
      · simp -implicitDefEqProofs only [lk_normal, l8Fits2_F, hb, hf, hr5, hD5, hR, tkR, hD, tkD, ZB, Int.reduceToNat, Nat.reduceLT, Nat.reduceLeDiff, Int.reduceLE, Int.reduceLT, Nat.reduceEqDiff, Nat.reduceSub, SB, SV.known, packR, ne_eq, reduceCtorEq, Nat.reduceEqDiff, ↓reduceIte, if_true, if_false, eq_self, Nat.reduceAdd, Nat.reduceMul, Nat.reduceSub, forall_const, oneCellS, litOne, flat1, Kd.isSca, flat, TYB]
        refine pb_use hS.d hlt hR hD hf rfl fun cg jg H6 hjg hd6 hf6 hg6 => ?_
        have hS6 := hS.draw hd6 hf6 (Nat.le_succ _)
        have ek : (k : Int) - 1 = ((k - 1 : Nat) : Int) := by omega
        obtain ⟨g, hg, hg36⟩ := GL_even (pbB R D 4) 36
        have eg : (GL (pbB R D 4) 36).length / 2 = g := by omega
        by_cases h0 : 0 < (g : Int)
        · simp -implicitDefEqProofs only [lk_normal, eg, h0, ZB, Int.reduceToNat, Nat.reduceLT, Nat.reduceLeDiff, Int.reduceLE, Int.reduceLT, Nat.reduceEqDiff, Nat.reduceSub, SB, SV.known, packR, ne_eq, reduceCtorEq, Nat.reduceEqDiff, ↓reduceIte, if_true, if_false, eq_self, Nat.reduceAdd, Nat.reduceMul, Nat.reduceSub, forall_const, oneCellS, litOne, flat1, Kd.isSca, flat, TYB]
          refine pick_use hS6.d hlt (by omega) (by omega) fun q H7 q0 q1 hd7 hf7 => ?_
          have hS7 := hS6.draw hd7 hf7 (Nat.le_refl _)
          have hg7 := hf7.use (by omega) (by omega) hg6
          have hr7 := hS7.r
          obtain ⟨Q, rfl⟩ : ∃ Q : Nat, q = Q := ⟨q.toNat, by omega⟩
          have qn : (Q : Int) < (g : Int) := by omega
          have lQ : Q * 2 + 2 ≤ (GL (pbB R D 4) 36 ++ jg).length := by rw [List.length_append]; omega
          obtain ⟨a, b, ha, hb', hc, ga, gb⟩ := GL_pairB (pbB R D 4) 36 (by omega) Q (by omega)
          have e2 : ((GL (pbB R D 4) 36 ++ jg).drop (Q * 2)).take 2 = [(a : Int), (b : Int)] := by
            rw [take2_drop _ _ lQ, getD_app _ _ _ (by omega), getD_app _ _ _ (by omega), ga, gb]
          obtain ⟨w1, w2, w3, w4, w5⟩ := away hR hD hf ha hb' hc
          have tkm : (mvR R a b 1).take 24 = mvR R a b 1 := List.take_of_length_le (by omega)
          have rr := (forB_facts hD hf).1
          have a0 : 0 ≤ (a : Int) ∧ (a : Int) ≤ 5 := by omega
          have b0 : 0 ≤ (b : Int) ∧ (b : Int) ≤ 5 := by omega
          have e7' : (n2 = n5 + 1) = False := by simp; omega
          have hS8 := ((hS7.push hlt (L := List.replicate 2 0) (e := 44)).put hlt (q := n5 + 1) (L := [(a : Int), (b : Int)]) (e := 44) (by omega)).set hlt w4 w5
          have hS9 := hS8.more (show _ ≤ 44 + 4 * (N - (k - 1)) by omega)
          simp -implicitDefEqProofs only [lk_normal, l8Move_F, ek, dR, List.append_nil, hg7, hr7, qn, q0, lQ, e2, e7', hR, tkR, rr, a0, b0, w1, w2, w3, w4, tkm, List.getD_cons_zero, List.getD_cons_succ, Int.toNat_natCast, Nat.add_assoc, add_self, self_add, add_add, ZB, Int.reduceToNat, Nat.reduceLT, Nat.reduceLeDiff, Int.reduceLE, Int.reduceLT, Nat.reduceEqDiff, Nat.reduceSub, SB, SV.known, packR, ne_eq, reduceCtorEq, Nat.reduceEqDiff, ↓reduceIte, if_true, if_false, eq_self, Nat.reduceAdd, Nat.reduceMul, Nat.reduceSub, forall_const, oneCellS, litOne, flat1, Kd.isSca, flat, TYB]
          exact ⟨by omega, by omega, by unfold In64; omega, ((k - 1, mvR R a b 1), _, n5 + 2), ⟨by show k - 1 ≤ N; omega, hS9⟩, by show k - 1 < k; omega, Sub.same (by simp only [LB, subS, subH, wfS, wfH, SV.ren, renL, SObj.ren, SV.wf, SObj.wf, wfL, SV.known, Nat.reduceEqDiff, ↓reduceIte, if_true, if_false, eq_self, Nat.reduceAdd, Nat.reduceLT, Nat.reduceLeDiff, implies_true, reduceCtorEq, forall_const]; try rfl) (by simp [subS, subH, wfS, wfH, SV.ren, renL, SObj.ren, SV.wf, SObj.wf, wfL, sget_cons, hget_cons] <;> omega) hS9.d.wf (show n ≤ n5 + 2 by omega)⟩
        · have hS9 := hS6.more (show _ ≤ 44 + 4 * (N - (k - 1)) by omega)
          simp -implicitDefEqProofs only [lk_normal, eg, h0, ek, ZB, Int.reduceToNat, Nat.reduceLT, Nat.reduceLeDiff, Int.reduceLE, Int.reduceLT, Nat.reduceEqDiff, Nat.reduceSub, SB, SV.known, packR, ne_eq, reduceCtorEq, Nat.reduceEqDiff, ↓reduceIte, if_true, if_false, eq_self, Nat.reduceAdd, Nat.reduceMul, Nat.reduceSub, forall_const, oneCellS, litOne, flat1, Kd.isSca, flat, TYB]
          exact ⟨by unfold In64; omega, ((k - 1, R), _, n5 + 1), ⟨by show k - 1 ≤ N; omega, hS9⟩, by show k - 1 < k; omega, Sub.same (by simp only [LB, subS, subH, wfS, wfH, SV.ren, renL, SObj.ren, SV.wf, SObj.wf, wfL, SV.known, Nat.reduceEqDiff, ↓reduceIte, if_true, if_false, eq_self, Nat.reduceAdd, Nat.reduceLT, Nat.reduceLeDiff, implies_true, reduceCtorEq, forall_const]; try rfl) (by simp [subS, subH, wfS, wfH, SV.ren, renL, SObj.ren, SV.wf, SObj.wf, wfL, sget_cons, hget_cons] <;> omega) hS9.d.wf (show n ≤ n5 + 1 by omega)⟩
theorem DrawFewestBy_T : ∀ args H n m κ, DrawFewestBy_F args H n m κ → GenOK Try.prog 43 args H n m κ := by
  intro args H n m κ h
  unfold DrawFewestBy_F DrawPoursBy_F at h
  split at h
  · rename_i cv
    obtain ⟨hB, hmn, h1⟩ := h
    exact gen_direct (X := ⟨Try.prog, tys, [(91, l8Fits2_F), (103, l8Move_F)], [(88, ruleOf_F), (89, depths_F), (94, pick_F), (93, l8Pours_F), (114, DrawIsSorted_F)], true, true, m, [88, 89, 94], [(12, .tree (.one 0 (.one 2 (.alt 1 (.one 3 (.one 4 (.one 5 .done))) (.alt 3 (.one 1 (.one 4 (.one 5 .done))) .stop)))))]⟩) fnx_DrawFewestBy ⟨tys_ok, .cons l8Fits2_T (.cons l8Move_T .nil), .cons ruleOf_T (.cons depths_T (.cons pick_T (.cons l8Pours_T (.cons DrawIsSorted_T .nil)))), mixed⟩ rfl (Nat.le_of_ble_eq_true rfl) (fun hwH hwa => DrawFewestBy_vc cv m n H hB hmn hwH) fun hwH v H' n' hψ h3 h4 h5 => by
      obtain ⟨R, D, u, rfl, g1, g2, g3, g4, g5, g6⟩ := hψ
      exact h1 R D u H' n' g1 g2 g3 g4 g5 g6
  · exact h.elim
end Go.Proofs.Ytopfnkmlgcjpbaa
set_option maxRecDepth 100000
set_option linter.unusedSimpArgs false
set_option linter.unusedVariables false
namespace Go.Proofs.Ytopfnkmlgcjpbaa
open Go Go.RowKit
/-- The loop's blocks. -/
structure LpS (a p : Nat) (R D G : List Int) (H : Heap) (n : Nat) : Prop where
  lt : a + 1 < n ∧ p < n
  wf : hwf n H
  r : hget H a = some (.ints R 27)
  d : hget H (a + 1) = some (.ints D 51)
  g : hget H p = some (.ints G 44)
theorem LpS.push {a p n : Nat} {R D G : List Int} {H : Heap} (h : LpS a p R D G H n) {x y : List Int} {e e' : Nat} : LpS a p R D G ((n, .ints x e) :: (n, .ints y e') :: H) (n + 1) := by
  have := h.lt
  exact ⟨by omega, hwf_cons (hwf_cons (hwf_mono (by omega) h.wf) (by omega) trivial) (by omega) trivial, by rw [hget_cons, if_neg (by omega), hget_cons, if_neg (by omega)]; exact h.r,
    by rw [hget_cons, if_neg (by omega), hget_cons, if_neg (by omega)]; exact h.d, by rw [hget_cons, if_neg (by omega), hget_cons, if_neg (by omega)]; exact h.g⟩
theorem pA2 {G j j' : List Int} {n : Nat} (h : G.length = n * 2) (hn : n ≤ 36) : n * 2 ≤ (G ++ j).length ∧ n * 2 ≤ (G ++ j').length ∧ List.take (n * 2) (G ++ j) = List.take (n * 2) (G ++ j') ∧ n ≤ 4611686018427387903 :=
  ⟨by rw [List.length_append]; omega, by rw [List.length_append]; omega, by rw [List.take_left' h, List.take_left' h], by omega⟩
set_option maxHeartbeats 4000000 in
theorem lawFnFewRules_vc (cv : SV) (H0 : Heap) (hB : BytA cv H0) (hrb : rBig_F [cv] H0 = some (True, .bool false)) (hkn : cv.known = true) (hw0 : hwf 1 H0) :
    codeVC (⟨Try.prog, tys, [(7, rBig_F), (44, FewestBy_F), (45, sFewestBy_F), (47, ReachBy_F), (48, sReachBy_F), (12, rPairs3_F), (51, IsSorted_F), (26, PourBy_F)], [(43, DrawFewestBy_F), (46, DrawReachBy_F), (49, DrawPoursBy_F), (41, PoursBy_F), (50, sPoursBy_F)], true, true, 1, [], []⟩ : Cx) 1 (Try.f5.body.getD .skip) (argS 0 [cv]) H0 1 (retK tys Try.f5.results.toList fun v _ _ => v = .bool true) := by
  have hkm := hkn
  simp only [SV.known] at hkm
  simp -implicitDefEqProofs only [Try.f5, Option.getD_some, argS, FewestBy_F, sFewestBy_F, ReachBy_F, sReachBy_F, rPairs3_F, IsSorted_F, PourBy_F, PoursBy_F, sPoursBy_F, hrb, hkn, hkm, ZB, Int.reduceToNat, Nat.reduceLT, Nat.reduceLeDiff, Int.reduceLE, Int.reduceLT, Nat.reduceEqDiff, Nat.reduceSub, SB, SV.known, packR, ne_eq, reduceCtorEq, Nat.reduceEqDiff, ↓reduceIte, if_true, if_false, eq_self, Nat.reduceAdd, Nat.reduceMul, Nat.reduceSub, forall_const, oneCellS, litOne, flat1, Kd.isSca, flat, TYB]
  refine drawPsB_use hB (Nat.le_refl _) fun R D u H1 n1 hR hRi hD hDi hu hK1 => ?_
  have tkR : R.take 24 = R := List.take_of_length_le (by omega)
  have tkD : D.take 6 = D := List.take_of_length_le (by omega)
  have hle1 := hK1.le
  simp -implicitDefEqProofs only [rBig_F, FewestBy_F, sFewestBy_F, ReachBy_F, sReachBy_F, rPairs3_F, IsSorted_F, PourBy_F, PoursBy_F, sPoursBy_F, freshK_nil, freshK_ne, freshK_f, Wrap.ap, hkm, hR, tkR, hD, tkD, Nat.add_assoc, add_self, self_add, add_add, List.getD_cons_zero, List.getD_cons_succ, ZB, Int.reduceToNat, Nat.reduceLT, Nat.reduceLeDiff, Int.reduceLE, Int.reduceLT, Nat.reduceEqDiff, Nat.reduceSub, SB, SV.known, packR, ne_eq, reduceCtorEq, Nat.reduceEqDiff, ↓reduceIte, if_true, if_false, eq_self, Nat.reduceAdd, Nat.reduceMul, Nat.reduceSub, forall_const, oneCellS, litOne, flat1, Kd.isSca, flat, TYB]
  refine ⟨hle1, drawRB_use (hB.fr hw0 (fun i o hi ho => (by (repeat rw [hget_cons, if_neg (by omega)]); exact hK1.fr i o hi ho))) (by omega) fun S E w k H2 n2 hS hSi hE hEi hw hk hK2 => ?_⟩
  have tkS : S.take 24 = S := List.take_of_length_le (by omega)
  have tkE : E.take 6 = E := List.take_of_length_le (by omega)
  have hle2 := hK2.le
  have gR2 := hK2.fr n1 (.ints R 27) (by omega) (by simp [hget_cons])
  have gD2 := hK2.fr (n1 + 1) (.ints D 51) (by omega) (by simp [hget_cons])
  simp -implicitDefEqProofs only [rBig_F, FewestBy_F, sFewestBy_F, ReachBy_F, sReachBy_F, rPairs3_F, IsSorted_F, PourBy_F, PoursBy_F, sPoursBy_F, freshK_nil, freshK_ne, freshK_f, Wrap.ap, hkm, hS, tkS, hE, tkE, Nat.add_assoc, add_self, self_add, add_add, List.getD_cons_zero, List.getD_cons_succ, ZB, Int.reduceToNat, Nat.reduceLT, Nat.reduceLeDiff, Int.reduceLE, Int.reduceLT, Nat.reduceEqDiff, Nat.reduceSub, SB, SV.known, packR, ne_eq, reduceCtorEq, Nat.reduceEqDiff, ↓reduceIte, if_true, if_false, eq_self, Nat.reduceAdd, Nat.reduceMul, Nat.reduceSub, forall_const, oneCellS, litOne, flat1, Kd.isSca, flat, TYB]
  refine ⟨by omega, drawPsB_use (hB.fr hw0 (fun i o hi ho => (by (repeat rw [hget_cons, if_neg (by omega)]); exact hK2.fr i o (by omega) (by (repeat rw [hget_cons, if_neg (by omega)]); exact hK1.fr i o hi ho)))) (by omega) fun T F x H3 n3 hT hTi hF hFi hx hK3 => ?_⟩
  have tkT : T.take 24 = T := List.take_of_length_le (by omega)
  have tkF : F.take 6 = F := List.take_of_length_le (by omega)
  have hle3 := hK3.le
  have gS3 := hK3.fr n2 (.ints S 27) (by omega) (by simp [hget_cons])
  have gE3 := hK3.fr (n2 + 1) (.ints E 51) (by omega) (by simp [hget_cons])
  have gR3 := hK3.fr n1 (.ints R 27) (by omega) (by (repeat rw [hget_cons, if_neg (by omega)]); exact gR2)
  have gD3 := hK3.fr (n1 + 1) (.ints D 51) (by omega) (by (repeat rw [hget_cons, if_neg (by omega)]); exact gD2)
  have a1 : (n1 = n3) = False := by simp; omega
  have a2 : (n1 + 1 = n3) = False := by simp; omega
  have a3 : (n2 = n3) = False := by simp; omega
  have a4 : (n2 + 1 = n3) = False := by simp; omega
  have b1 : ∀ i, (n1 = n3 + i) = False := fun i => by simp; omega
  have b2 : ∀ i, (n1 + 1 = n3 + i) = False := fun i => by simp; omega
  have b3 : ∀ i, (n2 = n3 + i) = False := fun i => by simp; omega
  have b4 : ∀ i, (n2 + 1 = n3 + i) = False := fun i => by simp; omega
  have c1 : ∀ i j, (n1 = n3 + (i + j)) = False := fun i j => by simp; omega
  obtain ⟨g, hg, hg36⟩ : ∃ g, (pbL T F x).length = g * 2 ∧ g ≤ 36 := by
    unfold pbL; split
    · exact GL_even _ 36
    · exact ⟨0, rfl, by omega⟩
  obtain ⟨P, hP⟩ : ∃ P, pbL T F x = P := ⟨_, rfl⟩
  rw [hP] at hg
  have eg : P.length / 2 = g := by omega
  have z0 : 0 / 2 = 0 := rfl
  by_cases hn : P = []
  · have g0 : g = 0 := by rw [hn] at hg; simp at hg; omega
    subst g0
    subst hn
    cases hfw : fwO R D u with
    | none =>
      have is : (none : Option Nat).isSome = false := rfl
      rcases (show rbB S E w k = false ∨ (rbB S E w k = true ∧ 0 < k) ∨ (rbB S E w k = true ∧ ¬ 0 < k) by cases rbB S E w k <;> simp <;> omega) with hb | ⟨hb, hk0⟩ | ⟨hb, hk0⟩
      · skip
        simp -implicitDefEqProofs only [hb, hfw, is, rBig_F, FewestBy_F, sFewestBy_F, ReachBy_F, sReachBy_F, rPairs3_F, IsSorted_F, PourBy_F, PoursBy_F, sPoursBy_F, freshK_nil, freshK_ne, freshK_f, Wrap.ap, hkm, hS, tkS, hE, tkE, hT, tkT, hF, tkF, hR, tkR, hD, tkD, gS3, gE3, gR3, gD3, a1, a2, a3, a4, b1, b2, b3, b4, hP, eg, z0, Nat.add_assoc, add_self, self_add, add_add, List.getD_cons_zero, List.getD_cons_succ, ZB, Int.reduceToNat, Nat.reduceLT, Nat.reduceLeDiff, Int.reduceLE, Int.reduceLT, Nat.reduceEqDiff, Nat.reduceSub, SB, SV.known, packR, ne_eq, reduceCtorEq, Nat.reduceEqDiff, ↓reduceIte, if_true, if_false, eq_self, Nat.reduceAdd, Nat.reduceMul, Nat.reduceSub, forall_const, oneCellS, litOne, flat1, Kd.isSca, flat, TYB]
        exact ⟨by omega, fun _ _ _ => trivial⟩
      · obtain ⟨q1, q2, q3, q4⟩ := reach_grow hb hk0
        have q2' : (rbF S E w k < rbF S E w (k - 1)) = False := by simp; omega
        have q3' : (rbF S E w (k - 1) < 1) = False := by simp; omega
        simp -implicitDefEqProofs only [hb, hk0, q1, q2', q3', hfw, is, rBig_F, FewestBy_F, sFewestBy_F, ReachBy_F, sReachBy_F, rPairs3_F, IsSorted_F, PourBy_F, PoursBy_F, sPoursBy_F, freshK_nil, freshK_ne, freshK_f, Wrap.ap, hkm, hS, tkS, hE, tkE, hT, tkT, hF, tkF, hR, tkR, hD, tkD, gS3, gE3, gR3, gD3, a1, a2, a3, a4, b1, b2, b3, b4, hP, eg, z0, Nat.add_assoc, add_self, self_add, add_add, List.getD_cons_zero, List.getD_cons_succ, ZB, Int.reduceToNat, Nat.reduceLT, Nat.reduceLeDiff, Int.reduceLE, Int.reduceLT, Nat.reduceEqDiff, Nat.reduceSub, SB, SV.known, packR, ne_eq, reduceCtorEq, Nat.reduceEqDiff, ↓reduceIte, if_true, if_false, eq_self, Nat.reduceAdd, Nat.reduceMul, Nat.reduceSub, forall_const, oneCellS, litOne, flat1, Kd.isSca, flat, TYB]
        exact ⟨by omega, fun _ _ _ => q4⟩
      · skip
        simp -implicitDefEqProofs only [hb, hk0, hfw, is, rBig_F, FewestBy_F, sFewestBy_F, ReachBy_F, sReachBy_F, rPairs3_F, IsSorted_F, PourBy_F, PoursBy_F, sPoursBy_F, freshK_nil, freshK_ne, freshK_f, Wrap.ap, hkm, hS, tkS, hE, tkE, hT, tkT, hF, tkF, hR, tkR, hD, tkD, gS3, gE3, gR3, gD3, a1, a2, a3, a4, b1, b2, b3, b4, hP, eg, z0, Nat.add_assoc, add_self, self_add, add_add, List.getD_cons_zero, List.getD_cons_succ, ZB, Int.reduceToNat, Nat.reduceLT, Nat.reduceLeDiff, Int.reduceLE, Int.reduceLT, Nat.reduceEqDiff, Nat.reduceSub, SB, SV.known, packR, ne_eq, reduceCtorEq, Nat.reduceEqDiff, ↓reduceIte, if_true, if_false, eq_self, Nat.reduceAdd, Nat.reduceMul, Nat.reduceSub, forall_const, oneCellS, litOne, flat1, Kd.isSca, flat, TYB]
        exact ⟨by omega, fun _ _ _ => trivial⟩
    | some i =>
      obtain ⟨f1, f2, f3, f4, f5⟩ := fw_some hfw
      have hs := few_sort hfw
      have hr := (forB_facts hD f1).1
      have is : (some i).isSome = true := rfl
      have ff : fwF (some i) = (i : Int) := rfl
      by_cases i0 : i = 0
      · subst i0
        have z1 : ((0 : Nat) : Int) = 0 := rfl
        have hs : sortB R = true := hs
        rcases (show rbB S E w k = false ∨ (rbB S E w k = true ∧ 0 < k) ∨ (rbB S E w k = true ∧ ¬ 0 < k) by cases rbB S E w k <;> simp <;> omega) with hb | ⟨hb, hk0⟩ | ⟨hb, hk0⟩
        · skip
          simp -implicitDefEqProofs only [hb, hfw, is, ff, hr, hs, z1, rBig_F, FewestBy_F, sFewestBy_F, ReachBy_F, sReachBy_F, rPairs3_F, IsSorted_F, PourBy_F, PoursBy_F, sPoursBy_F, freshK_nil, freshK_ne, freshK_f, Wrap.ap, hkm, hS, tkS, hE, tkE, hT, tkT, hF, tkF, hR, tkR, hD, tkD, gS3, gE3, gR3, gD3, a1, a2, a3, a4, b1, b2, b3, b4, hP, eg, z0, Nat.add_assoc, add_self, self_add, add_add, List.getD_cons_zero, List.getD_cons_succ, ZB, Int.reduceToNat, Nat.reduceLT, Nat.reduceLeDiff, Int.reduceLE, Int.reduceLT, Nat.reduceEqDiff, Nat.reduceSub, SB, SV.known, packR, ne_eq, reduceCtorEq, Nat.reduceEqDiff, ↓reduceIte, if_true, if_false, eq_self, Nat.reduceAdd, Nat.reduceMul, Nat.reduceSub, forall_const, oneCellS, litOne, flat1, Kd.isSca, flat, TYB]
          exact ⟨by omega, fun _ _ _ => trivial⟩
        · obtain ⟨q1, q2, q3, q4⟩ := reach_grow hb hk0
          have q2' : (rbF S E w k < rbF S E w (k - 1)) = False := by simp; omega
          have q3' : (rbF S E w (k - 1) < 1) = False := by simp; omega
          simp -implicitDefEqProofs only [hb, hk0, q1, q2', q3', hfw, is, ff, hr, hs, z1, rBig_F, FewestBy_F, sFewestBy_F, ReachBy_F, sReachBy_F, rPairs3_F, IsSorted_F, PourBy_F, PoursBy_F, sPoursBy_F, freshK_nil, freshK_ne, freshK_f, Wrap.ap, hkm, hS, tkS, hE, tkE, hT, tkT, hF, tkF, hR, tkR, hD, tkD, gS3, gE3, gR3, gD3, a1, a2, a3, a4, b1, b2, b3, b4, hP, eg, z0, Nat.add_assoc, add_self, self_add, add_add, List.getD_cons_zero, List.getD_cons_succ, ZB, Int.reduceToNat, Nat.reduceLT, Nat.reduceLeDiff, Int.reduceLE, Int.reduceLT, Nat.reduceEqDiff, Nat.reduceSub, SB, SV.known, packR, ne_eq, reduceCtorEq, Nat.reduceEqDiff, ↓reduceIte, if_true, if_false, eq_self, Nat.reduceAdd, Nat.reduceMul, Nat.reduceSub, forall_const, oneCellS, litOne, flat1, Kd.isSca, flat, TYB]
          exact ⟨by omega, fun _ _ _ => q4⟩
        · skip
          simp -implicitDefEqProofs only [hb, hk0, hfw, is, ff, hr, hs, z1, rBig_F, FewestBy_F, sFewestBy_F, ReachBy_F, sReachBy_F, rPairs3_F, IsSorted_F, PourBy_F, PoursBy_F, sPoursBy_F, freshK_nil, freshK_ne, freshK_f, Wrap.ap, hkm, hS, tkS, hE, tkE, hT, tkT, hF, tkF, hR, tkR, hD, tkD, gS3, gE3, gR3, gD3, a1, a2, a3, a4, b1, b2, b3, b4, hP, eg, z0, Nat.add_assoc, add_self, self_add, add_add, List.getD_cons_zero, List.getD_cons_succ, ZB, Int.reduceToNat, Nat.reduceLT, Nat.reduceLeDiff, Int.reduceLE, Int.reduceLT, Nat.reduceEqDiff, Nat.reduceSub, SB, SV.known, packR, ne_eq, reduceCtorEq, Nat.reduceEqDiff, ↓reduceIte, if_true, if_false, eq_self, Nat.reduceAdd, Nat.reduceMul, Nat.reduceSub, forall_const, oneCellS, litOne, flat1, Kd.isSca, flat, TYB]
          exact ⟨by omega, fun _ _ _ => trivial⟩
      · by_cases i3 : i = 3
        · subst i3
          have z3 : ((3 : Nat) : Int) = 3 := rfl
          have t30 : ((3 : Int) = 0) = False := by decide
          have hs : sortB R = false := hs
          rcases (show rbB S E w k = false ∨ (rbB S E w k = true ∧ 0 < k) ∨ (rbB S E w k = true ∧ ¬ 0 < k) by cases rbB S E w k <;> simp <;> omega) with hb | ⟨hb, hk0⟩ | ⟨hb, hk0⟩
          · skip
            simp -implicitDefEqProofs only [hb, hfw, is, ff, hr, hs, z3, t30, rBig_F, FewestBy_F, sFewestBy_F, ReachBy_F, sReachBy_F, rPairs3_F, IsSorted_F, PourBy_F, PoursBy_F, sPoursBy_F, freshK_nil, freshK_ne, freshK_f, Wrap.ap, hkm, hS, tkS, hE, tkE, hT, tkT, hF, tkF, hR, tkR, hD, tkD, gS3, gE3, gR3, gD3, a1, a2, a3, a4, b1, b2, b3, b4, hP, eg, z0, Nat.add_assoc, add_self, self_add, add_add, List.getD_cons_zero, List.getD_cons_succ, ZB, Int.reduceToNat, Nat.reduceLT, Nat.reduceLeDiff, Int.reduceLE, Int.reduceLT, Nat.reduceEqDiff, Nat.reduceSub, SB, SV.known, packR, ne_eq, reduceCtorEq, Nat.reduceEqDiff, ↓reduceIte, if_true, if_false, eq_self, Nat.reduceAdd, Nat.reduceMul, Nat.reduceSub, forall_const, oneCellS, litOne, flat1, Kd.isSca, flat, TYB]
            exact ⟨by omega, fun _ _ _ => trivial⟩
          · obtain ⟨q1, q2, q3, q4⟩ := reach_grow hb hk0
            have q2' : (rbF S E w k < rbF S E w (k - 1)) = False := by simp; omega
            have q3' : (rbF S E w (k - 1) < 1) = False := by simp; omega
            simp -implicitDefEqProofs only [hb, hk0, q1, q2', q3', hfw, is, ff, hr, hs, z3, t30, rBig_F, FewestBy_F, sFewestBy_F, ReachBy_F, sReachBy_F, rPairs3_F, IsSorted_F, PourBy_F, PoursBy_F, sPoursBy_F, freshK_nil, freshK_ne, freshK_f, Wrap.ap, hkm, hS, tkS, hE, tkE, hT, tkT, hF, tkF, hR, tkR, hD, tkD, gS3, gE3, gR3, gD3, a1, a2, a3, a4, b1, b2, b3, b4, hP, eg, z0, Nat.add_assoc, add_self, self_add, add_add, List.getD_cons_zero, List.getD_cons_succ, ZB, Int.reduceToNat, Nat.reduceLT, Nat.reduceLeDiff, Int.reduceLE, Int.reduceLT, Nat.reduceEqDiff, Nat.reduceSub, SB, SV.known, packR, ne_eq, reduceCtorEq, Nat.reduceEqDiff, ↓reduceIte, if_true, if_false, eq_self, Nat.reduceAdd, Nat.reduceMul, Nat.reduceSub, forall_const, oneCellS, litOne, flat1, Kd.isSca, flat, TYB]
            exact ⟨by omega, fun _ _ _ => q4⟩
          · skip
            simp -implicitDefEqProofs only [hb, hk0, hfw, is, ff, hr, hs, z3, t30, rBig_F, FewestBy_F, sFewestBy_F, ReachBy_F, sReachBy_F, rPairs3_F, IsSorted_F, PourBy_F, PoursBy_F, sPoursBy_F, freshK_nil, freshK_ne, freshK_f, Wrap.ap, hkm, hS, tkS, hE, tkE, hT, tkT, hF, tkF, hR, tkR, hD, tkD, gS3, gE3, gR3, gD3, a1, a2, a3, a4, b1, b2, b3, b4, hP, eg, z0, Nat.add_assoc, add_self, self_add, add_add, List.getD_cons_zero, List.getD_cons_succ, ZB, Int.reduceToNat, Nat.reduceLT, Nat.reduceLeDiff, Int.reduceLE, Int.reduceLT, Nat.reduceEqDiff, Nat.reduceSub, SB, SV.known, packR, ne_eq, reduceCtorEq, Nat.reduceEqDiff, ↓reduceIte, if_true, if_false, eq_self, Nat.reduceAdd, Nat.reduceMul, Nat.reduceSub, forall_const, oneCellS, litOne, flat1, Kd.isSca, flat, TYB]
            exact ⟨by omega, fun _ _ _ => trivial⟩
        · have i0 : ((i : Int) = 0) = False := by simp; omega
          have i3 : ((i : Int) = 3) = False := by simp; omega
          have hs : sortB R = false := by rw [hs]; exact decide_eq_false (by rw [i0]; exact id)
          obtain ⟨np, hnp, hnp36⟩ := GL_even (pbB R D u) 36
          have pairs := GL_pairB (pbB R D u) 36 (by omega)
          have esn : sucN R D u = np := by unfold sucN; omega
          have sgd := fun q (hq : q < sucN R D u) => sucL_getD D u R hq
          have sl := sucL_len D u R
          have hQ : pbL R D u = GL (pbB R D u) 36 := by unfold pbL; rw [if_pos ⟨f1, f2⟩]
          obtain ⟨Q, hQ1⟩ : ∃ Q, GL (pbB R D u) 36 = Q := ⟨_, rfl⟩
          rw [hQ1] at hnp pairs hQ sgd
          rw [esn] at sgd sl
          have eQ : Q.length / 2 = np := by omega
          have best := few_best hR hD hfw (by omega)
          have hQn : (Q = []) = False := eq_false fun h => by
            rw [h] at hnp
            have : (sucL D u R).length = 0 := by simp at hnp; omega
            rw [List.length_eq_zero_iff.1 this] at best
            simp at best
            omega
          rcases (show rbB S E w k = false ∨ (rbB S E w k = true ∧ 0 < k) ∨ (rbB S E w k = true ∧ ¬ 0 < k) by cases rbB S E w k <;> simp <;> omega) with hb | ⟨hb, hk0⟩ | ⟨hb, hk0⟩
          · skip
            simp -implicitDefEqProofs only [hb, is, ff, hfw, hr, hs, i0, i3, f1, f2, hQ, hQn, eQ, rBig_F, FewestBy_F, sFewestBy_F, ReachBy_F, sReachBy_F, rPairs3_F, IsSorted_F, PourBy_F, PoursBy_F, sPoursBy_F, freshK_nil, freshK_ne, freshK_f, Wrap.ap, hkm, hS, tkS, hE, tkE, hT, tkT, hF, tkF, hR, tkR, hD, tkD, gS3, gE3, gR3, gD3, a1, a2, a3, a4, b1, b2, b3, b4, hP, eg, z0, Nat.add_assoc, add_self, self_add, add_add, List.getD_cons_zero, List.getD_cons_succ, ZB, Int.reduceToNat, Nat.reduceLT, Nat.reduceLeDiff, Int.reduceLE, Int.reduceLT, Nat.reduceEqDiff, Nat.reduceSub, SB, SV.known, packR, ne_eq, reduceCtorEq, Nat.reduceEqDiff, ↓reduceIte, if_true, if_false, eq_self, Nat.reduceAdd, Nat.reduceMul, Nat.reduceSub, forall_const, oneCellS, litOne, flat1, Kd.isSca, flat, TYB]
            refine ⟨by omega, fun c1 j1 r1 => ?_⟩
            refine fun c3 j3 r3 => ?_
            refine loop_introN (fun s : Nat × Heap × Nat => [(32, .int s.1), (31, .int (((sucL D u R).take s.1).foldl (stB D u) (i : Int))), (30, .bool true), (29, .slice (n3 + 3) 0 np c3), (6, .int i), (5, .int u), (4, .ptr (n1 + 1) 0), (3, .ptr n1 0)]) (fun s => s.2.1) (fun s => s.2.2)
              (fun s => s.1 ≤ np ∧ LpS n1 (n3 + 3) R D (Q ++ j3) s.2.1 s.2.2) (fun s => np - s.1) ?_ ?_
            · exact ⟨(0, _, n3 + 3 + 1), ⟨Nat.zero_le _, ⟨by dsimp only; omega, by dsimp only; (repeat first | exact hwf_mono (by omega) hK3.wf | refine hwf_cons ?_ (by omega) trivial), by (repeat rw [hget_cons, if_neg (by omega)]); exact gR3, by (repeat rw [hget_cons, if_neg (by omega)]); exact gD3, by simp [hget_cons]⟩⟩, Sub.same (by simp only [List.take_zero, List.foldl_nil, LB, subS, subH, wfS, wfH, SV.ren, renL, SObj.ren, SV.wf, SObj.wf, wfL, SV.known, Nat.reduceEqDiff, ↓reduceIte, if_true, if_false, eq_self, Nat.reduceAdd, Nat.reduceLT, Nat.reduceLeDiff, implies_true, reduceCtorEq, forall_const]; try rfl) (by simp [subS, subH, wfS, wfH, SV.ren, renL, SObj.ren, SV.wf, SObj.wf, wfL, sget_cons, hget_cons] <;> omega) (by dsimp only; (repeat first | exact hwf_mono (by omega) hK3.wf | refine hwf_cons ?_ (by omega) trivial)) (show 1 ≤ n3 + 3 + 1 by omega)⟩
            · rintro ⟨q, H4, n4⟩ ⟨hq, hL⟩
              simp only at hq hL
              have lt1 := hL.lt
              have gr := hL.r
              have gd := hL.d
              have gg := hL.g
              have d1 : (n1 = n4) = False := by simp; omega
              have d2 : (n1 + 1 = n4) = False := by simp; omega
              have lenQ : (Q ++ j3).length = c3 * 2 := by rw [List.length_append]; omega
              have qb := few_bd D u ((sucL D u R).take q) i f3
              by_cases hqn : q < np
              · have hql : (q : Int) < np := by omega
                obtain ⟨a, b, ha, hb', hc, ga, gb⟩ := pairs q (by omega)
                have eP0 : (Q ++ j3).getD (q * 2) 0 = (a : Int) := by rw [getD_app _ _ _ (by omega), ga]
                have eP1 : (Q ++ j3).getD (q * 2 + 1) 0 = (b : Int) := by rw [getD_app _ _ _ (by omega), gb]
                obtain ⟨x24, xf, mp, mne, m1, m2⟩ := for_suc hR hD f1 ha hb' hc
                obtain ⟨pb1, pb2⟩ := pbyB_of f1 f2 ha hb' mp
                have ex := sgd q hqn
                rw [ga, gb] at ex
                have nx := fold_next D u (i : Int) (L := sucL D u R) (q := q) (by omega)
                rw [ex] at nx
                obtain ⟨X, hX⟩ : ∃ X, sucP R D u a b = X := ⟨_, rfl⟩
                rw [hX] at nx pb2 x24
                have tkx : X.take 24 = X := List.take_of_length_le (by omega)
                obtain ⟨B, hBq⟩ : ∃ B, ((sucL D u R).take q).foldl (stB D u) (i : Int) = B := ⟨_, rfl⟩
                rw [hBq] at nx qb
                cases hfx : fwO X D u with
                | none =>
                  have isx : (none : Option Nat).isSome = false := rfl
                  have st : stB D u B X = B := by unfold stB; rw [hfx]; exact if_neg (by simp)
                  rw [st] at nx
                  simp -implicitDefEqProofs only [lk_normal, hql, eP0, eP1, lenQ, pb1, pb2, x24, tkx, hfx, isx, hBq, rBig_F, FewestBy_F, sFewestBy_F, ReachBy_F, sReachBy_F, rPairs3_F, IsSorted_F, PourBy_F, PoursBy_F, sPoursBy_F, freshK_nil, freshK_ne, freshK_f, Wrap.ap, hkm, d1, d2, gr, gd, gg, hR, tkR, hD, tkD, Nat.add_assoc, add_self, self_add, add_add, List.getD_cons_zero, List.getD_cons_succ, ZB, Int.reduceToNat, Nat.reduceLT, Nat.reduceLeDiff, Int.reduceLE, Int.reduceLT, Nat.reduceEqDiff, Nat.reduceSub, SB, SV.known, packR, ne_eq, reduceCtorEq, Nat.reduceEqDiff, ↓reduceIte, if_true, if_false, eq_self, Nat.reduceAdd, Nat.reduceMul, Nat.reduceSub, forall_const, oneCellS, litOne, flat1, Kd.isSca, flat, TYB]
                  exact ⟨by omega, by omega, by omega, by omega, by omega, by unfold In64; omega, (q + 1, _, n4 + 1), ⟨by show q + 1 ≤ np; omega, hL.push⟩, by show np - (q + 1) < np - q; omega, Sub.same (by simp only [nx, LB, subS, subH, wfS, wfH, SV.ren, renL, SObj.ren, SV.wf, SObj.wf, wfL, SV.known, Nat.reduceEqDiff, ↓reduceIte, if_true, if_false, eq_self, Nat.reduceAdd, Nat.reduceLT, Nat.reduceLeDiff, implies_true, reduceCtorEq, forall_const]; try rfl) (by simp [subS, subH, wfS, wfH, SV.ren, renL, SObj.ren, SV.wf, SObj.wf, wfL, sget_cons, hget_cons] <;> omega) hL.push.wf (show 1 ≤ n4 + 1 by omega)⟩
                | some m =>
                  have isx : (some m).isSome = true := rfl
                  have ffx : fwF (some m) = (m : Int) := rfl
                  by_cases hlt : (m : Int) < B
                  · have st : stB D u B X = m := by unfold stB; rw [hfx]; exact if_pos ⟨rfl, hlt⟩
                    rw [st] at nx
                    simp -implicitDefEqProofs only [lk_normal, hql, eP0, eP1, lenQ, pb1, pb2, x24, tkx, hfx, isx, ffx, hlt, hBq, rBig_F, FewestBy_F, sFewestBy_F, ReachBy_F, sReachBy_F, rPairs3_F, IsSorted_F, PourBy_F, PoursBy_F, sPoursBy_F, freshK_nil, freshK_ne, freshK_f, Wrap.ap, hkm, d1, d2, gr, gd, gg, hR, tkR, hD, tkD, Nat.add_assoc, add_self, self_add, add_add, List.getD_cons_zero, List.getD_cons_succ, ZB, Int.reduceToNat, Nat.reduceLT, Nat.reduceLeDiff, Int.reduceLE, Int.reduceLT, Nat.reduceEqDiff, Nat.reduceSub, SB, SV.known, packR, ne_eq, reduceCtorEq, Nat.reduceEqDiff, ↓reduceIte, if_true, if_false, eq_self, Nat.reduceAdd, Nat.reduceMul, Nat.reduceSub, forall_const, oneCellS, litOne, flat1, Kd.isSca, flat, TYB]
                    exact ⟨by omega, by omega, by omega, by omega, by omega, by unfold In64; omega, (q + 1, _, n4 + 1), ⟨by show q + 1 ≤ np; omega, hL.push⟩, by show np - (q + 1) < np - q; omega, Sub.same (by simp only [nx, LB, subS, subH, wfS, wfH, SV.ren, renL, SObj.ren, SV.wf, SObj.wf, wfL, SV.known, Nat.reduceEqDiff, ↓reduceIte, if_true, if_false, eq_self, Nat.reduceAdd, Nat.reduceLT, Nat.reduceLeDiff, implies_true, reduceCtorEq, forall_const]; try rfl) (by simp [subS, subH, wfS, wfH, SV.ren, renL, SObj.ren, SV.wf, SObj.wf, wfL, sget_cons, hget_cons] <;> omega) hL.push.wf (show 1 ≤ n4 + 1 by omega)⟩
                  · have st : stB D u B X = B := by unfold stB; rw [hfx]; exact if_neg (fun h => hlt h.2)
                    rw [st] at nx
                    simp -implicitDefEqProofs only [lk_normal, hql, eP0, eP1, lenQ, pb1, pb2, x24, tkx, hfx, isx, ffx, hlt, hBq, rBig_F, FewestBy_F, sFewestBy_F, ReachBy_F, sReachBy_F, rPairs3_F, IsSorted_F, PourBy_F, PoursBy_F, sPoursBy_F, freshK_nil, freshK_ne, freshK_f, Wrap.ap, hkm, d1, d2, gr, gd, gg, hR, tkR, hD, tkD, Nat.add_assoc, add_self, self_add, add_add, List.getD_cons_zero, List.getD_cons_succ, ZB, Int.reduceToNat, Nat.reduceLT, Nat.reduceLeDiff, Int.reduceLE, Int.reduceLT, Nat.reduceEqDiff, Nat.reduceSub, SB, SV.known, packR, ne_eq, reduceCtorEq, Nat.reduceEqDiff, ↓reduceIte, if_true, if_false, eq_self, Nat.reduceAdd, Nat.reduceMul, Nat.reduceSub, forall_const, oneCellS, litOne, flat1, Kd.isSca, flat, TYB]
                    exact ⟨by omega, by omega, by omega, by omega, by omega, by unfold In64; omega, (q + 1, _, n4 + 1), ⟨by show q + 1 ≤ np; omega, hL.push⟩, by show np - (q + 1) < np - q; omega, Sub.same (by simp only [nx, LB, subS, subH, wfS, wfH, SV.ren, renL, SObj.ren, SV.wf, SObj.wf, wfL, SV.known, Nat.reduceEqDiff, ↓reduceIte, if_true, if_false, eq_self, Nat.reduceAdd, Nat.reduceLT, Nat.reduceLeDiff, implies_true, reduceCtorEq, forall_const]; try rfl) (by simp [subS, subH, wfS, wfH, SV.ren, renL, SObj.ren, SV.wf, SObj.wf, wfL, sget_cons, hget_cons] <;> omega) hL.push.wf (show 1 ≤ n4 + 1 by omega)⟩
              · have hql : ¬ (q : Int) < np := by omega
                obtain rfl : q = np := by omega
                have tq : (sucL D u R).take q = sucL D u R := List.take_of_length_le (by omega)
                simp -implicitDefEqProofs only [lk_normal, hql, tq, best, rBig_F, FewestBy_F, sFewestBy_F, ReachBy_F, sReachBy_F, rPairs3_F, IsSorted_F, PourBy_F, PoursBy_F, sPoursBy_F, freshK_nil, freshK_ne, freshK_f, Wrap.ap, hkm, d1, d2, gr, gd, gg, hR, tkR, hD, tkD, Nat.add_assoc, add_self, self_add, add_add, List.getD_cons_zero, List.getD_cons_succ, ZB, Int.reduceToNat, Nat.reduceLT, Nat.reduceLeDiff, Int.reduceLE, Int.reduceLT, Nat.reduceEqDiff, Nat.reduceSub, SB, SV.known, packR, ne_eq, reduceCtorEq, Nat.reduceEqDiff, ↓reduceIte, if_true, if_false, eq_self, Nat.reduceAdd, Nat.reduceMul, Nat.reduceSub, forall_const, oneCellS, litOne, flat1, Kd.isSca, flat, TYB]
                unfold In64; omega
          · obtain ⟨q1, q2, q3, q4⟩ := reach_grow hb hk0
            have q2' : (rbF S E w k < rbF S E w (k - 1)) = False := by simp; omega
            have q3' : (rbF S E w (k - 1) < 1) = False := by simp; omega
            simp -implicitDefEqProofs only [hb, hk0, q1, q2', q3', is, ff, hfw, hr, hs, i0, i3, f1, f2, hQ, hQn, eQ, rBig_F, FewestBy_F, sFewestBy_F, ReachBy_F, sReachBy_F, rPairs3_F, IsSorted_F, PourBy_F, PoursBy_F, sPoursBy_F, freshK_nil, freshK_ne, freshK_f, Wrap.ap, hkm, hS, tkS, hE, tkE, hT, tkT, hF, tkF, hR, tkR, hD, tkD, gS3, gE3, gR3, gD3, a1, a2, a3, a4, b1, b2, b3, b4, hP, eg, z0, Nat.add_assoc, add_self, self_add, add_add, List.getD_cons_zero, List.getD_cons_succ, ZB, Int.reduceToNat, Nat.reduceLT, Nat.reduceLeDiff, Int.reduceLE, Int.reduceLT, Nat.reduceEqDiff, Nat.reduceSub, SB, SV.known, packR, ne_eq, reduceCtorEq, Nat.reduceEqDiff, ↓reduceIte, if_true, if_false, eq_self, Nat.reduceAdd, Nat.reduceMul, Nat.reduceSub, forall_const, oneCellS, litOne, flat1, Kd.isSca, flat, TYB]
            refine ⟨by omega, fun c1 j1 r1 => ⟨q4, ?_⟩⟩
            refine fun c3 j3 r3 => ?_
            refine loop_introN (fun s : Nat × Heap × Nat => [(32, .int s.1), (31, .int (((sucL D u R).take s.1).foldl (stB D u) (i : Int))), (30, .bool true), (29, .slice (n3 + 3) 0 np c3), (6, .int i), (5, .int u), (4, .ptr (n1 + 1) 0), (3, .ptr n1 0)]) (fun s => s.2.1) (fun s => s.2.2)
              (fun s => s.1 ≤ np ∧ LpS n1 (n3 + 3) R D (Q ++ j3) s.2.1 s.2.2) (fun s => np - s.1) ?_ ?_
            · exact ⟨(0, _, n3 + 3 + 1), ⟨Nat.zero_le _, ⟨by dsimp only; omega, by dsimp only; (repeat first | exact hwf_mono (by omega) hK3.wf | refine hwf_cons ?_ (by omega) trivial), by (repeat rw [hget_cons, if_neg (by omega)]); exact gR3, by (repeat rw [hget_cons, if_neg (by omega)]); exact gD3, by simp [hget_cons]⟩⟩, Sub.same (by simp only [List.take_zero, List.foldl_nil, LB, subS, subH, wfS, wfH, SV.ren, renL, SObj.ren, SV.wf, SObj.wf, wfL, SV.known, Nat.reduceEqDiff, ↓reduceIte, if_true, if_false, eq_self, Nat.reduceAdd, Nat.reduceLT, Nat.reduceLeDiff, implies_true, reduceCtorEq, forall_const]; try rfl) (by simp [subS, subH, wfS, wfH, SV.ren, renL, SObj.ren, SV.wf, SObj.wf, wfL, sget_cons, hget_cons] <;> omega) (by dsimp only; (repeat first | exact hwf_mono (by omega) hK3.wf | refine hwf_cons ?_ (by omega) trivial)) (show 1 ≤ n3 + 3 + 1 by omega)⟩
            · rintro ⟨q, H4, n4⟩ ⟨hq, hL⟩
              simp only at hq hL
              have lt1 := hL.lt
              have gr := hL.r
              have gd := hL.d
              have gg := hL.g
              have d1 : (n1 = n4) = False := by simp; omega
              have d2 : (n1 + 1 = n4) = False := by simp; omega
              have lenQ : (Q ++ j3).length = c3 * 2 := by rw [List.length_append]; omega
              have qb := few_bd D u ((sucL D u R).take q) i f3
              by_cases hqn : q < np
              · have hql : (q : Int) < np := by omega
                obtain ⟨a, b, ha, hb', hc, ga, gb⟩ := pairs q (by omega)
                have eP0 : (Q ++ j3).getD (q * 2) 0 = (a : Int) := by rw [getD_app _ _ _ (by omega), ga]
                have eP1 : (Q ++ j3).getD (q * 2 + 1) 0 = (b : Int) := by rw [getD_app _ _ _ (by omega), gb]
                obtain ⟨x24, xf, mp, mne, m1, m2⟩ := for_suc hR hD f1 ha hb' hc
                obtain ⟨pb1, pb2⟩ := pbyB_of f1 f2 ha hb' mp
                have ex := sgd q hqn
                rw [ga, gb] at ex
                have nx := fold_next D u (i : Int) (L := sucL D u R) (q := q) (by omega)
                rw [ex] at nx
                obtain ⟨X, hX⟩ : ∃ X, sucP R D u a b = X := ⟨_, rfl⟩
                rw [hX] at nx pb2 x24
                have tkx : X.take 24 = X := List.take_of_length_le (by omega)
                obtain ⟨B, hBq⟩ : ∃ B, ((sucL D u R).take q).foldl (stB D u) (i : Int) = B := ⟨_, rfl⟩
                rw [hBq] at nx qb
                cases hfx : fwO X D u with
                | none =>
                  have isx : (none : Option Nat).isSome = false := rfl
                  have st : stB D u B X = B := by unfold stB; rw [hfx]; exact if_neg (by simp)
                  rw [st] at nx
                  simp -implicitDefEqProofs only [lk_normal, hql, eP0, eP1, lenQ, pb1, pb2, x24, tkx, hfx, isx, hBq, rBig_F, FewestBy_F, sFewestBy_F, ReachBy_F, sReachBy_F, rPairs3_F, IsSorted_F, PourBy_F, PoursBy_F, sPoursBy_F, freshK_nil, freshK_ne, freshK_f, Wrap.ap, hkm, d1, d2, gr, gd, gg, hR, tkR, hD, tkD, Nat.add_assoc, add_self, self_add, add_add, List.getD_cons_zero, List.getD_cons_succ, ZB, Int.reduceToNat, Nat.reduceLT, Nat.reduceLeDiff, Int.reduceLE, Int.reduceLT, Nat.reduceEqDiff, Nat.reduceSub, SB, SV.known, packR, ne_eq, reduceCtorEq, Nat.reduceEqDiff, ↓reduceIte, if_true, if_false, eq_self, Nat.reduceAdd, Nat.reduceMul, Nat.reduceSub, forall_const, oneCellS, litOne, flat1, Kd.isSca, flat, TYB]
                  exact ⟨by omega, by omega, by omega, by omega, by omega, by unfold In64; omega, (q + 1, _, n4 + 1), ⟨by show q + 1 ≤ np; omega, hL.push⟩, by show np - (q + 1) < np - q; omega, Sub.same (by simp only [nx, LB, subS, subH, wfS, wfH, SV.ren, renL, SObj.ren, SV.wf, SObj.wf, wfL, SV.known, Nat.reduceEqDiff, ↓reduceIte, if_true, if_false, eq_self, Nat.reduceAdd, Nat.reduceLT, Nat.reduceLeDiff, implies_true, reduceCtorEq, forall_const]; try rfl) (by simp [subS, subH, wfS, wfH, SV.ren, renL, SObj.ren, SV.wf, SObj.wf, wfL, sget_cons, hget_cons] <;> omega) hL.push.wf (show 1 ≤ n4 + 1 by omega)⟩
                | some m =>
                  have isx : (some m).isSome = true := rfl
                  have ffx : fwF (some m) = (m : Int) := rfl
                  by_cases hlt : (m : Int) < B
                  · have st : stB D u B X = m := by unfold stB; rw [hfx]; exact if_pos ⟨rfl, hlt⟩
                    rw [st] at nx
                    simp -implicitDefEqProofs only [lk_normal, hql, eP0, eP1, lenQ, pb1, pb2, x24, tkx, hfx, isx, ffx, hlt, hBq, rBig_F, FewestBy_F, sFewestBy_F, ReachBy_F, sReachBy_F, rPairs3_F, IsSorted_F, PourBy_F, PoursBy_F, sPoursBy_F, freshK_nil, freshK_ne, freshK_f, Wrap.ap, hkm, d1, d2, gr, gd, gg, hR, tkR, hD, tkD, Nat.add_assoc, add_self, self_add, add_add, List.getD_cons_zero, List.getD_cons_succ, ZB, Int.reduceToNat, Nat.reduceLT, Nat.reduceLeDiff, Int.reduceLE, Int.reduceLT, Nat.reduceEqDiff, Nat.reduceSub, SB, SV.known, packR, ne_eq, reduceCtorEq, Nat.reduceEqDiff, ↓reduceIte, if_true, if_false, eq_self, Nat.reduceAdd, Nat.reduceMul, Nat.reduceSub, forall_const, oneCellS, litOne, flat1, Kd.isSca, flat, TYB]
                    exact ⟨by omega, by omega, by omega, by omega, by omega, by unfold In64; omega, (q + 1, _, n4 + 1), ⟨by show q + 1 ≤ np; omega, hL.push⟩, by show np - (q + 1) < np - q; omega, Sub.same (by simp only [nx, LB, subS, subH, wfS, wfH, SV.ren, renL, SObj.ren, SV.wf, SObj.wf, wfL, SV.known, Nat.reduceEqDiff, ↓reduceIte, if_true, if_false, eq_self, Nat.reduceAdd, Nat.reduceLT, Nat.reduceLeDiff, implies_true, reduceCtorEq, forall_const]; try rfl) (by simp [subS, subH, wfS, wfH, SV.ren, renL, SObj.ren, SV.wf, SObj.wf, wfL, sget_cons, hget_cons] <;> omega) hL.push.wf (show 1 ≤ n4 + 1 by omega)⟩
                  · have st : stB D u B X = B := by unfold stB; rw [hfx]; exact if_neg (fun h => hlt h.2)
                    rw [st] at nx
                    simp -implicitDefEqProofs only [lk_normal, hql, eP0, eP1, lenQ, pb1, pb2, x24, tkx, hfx, isx, ffx, hlt, hBq, rBig_F, FewestBy_F, sFewestBy_F, ReachBy_F, sReachBy_F, rPairs3_F, IsSorted_F, PourBy_F, PoursBy_F, sPoursBy_F, freshK_nil, freshK_ne, freshK_f, Wrap.ap, hkm, d1, d2, gr, gd, gg, hR, tkR, hD, tkD, Nat.add_assoc, add_self, self_add, add_add, List.getD_cons_zero, List.getD_cons_succ, ZB, Int.reduceToNat, Nat.reduceLT, Nat.reduceLeDiff, Int.reduceLE, Int.reduceLT, Nat.reduceEqDiff, Nat.reduceSub, SB, SV.known, packR, ne_eq, reduceCtorEq, Nat.reduceEqDiff, ↓reduceIte, if_true, if_false, eq_self, Nat.reduceAdd, Nat.reduceMul, Nat.reduceSub, forall_const, oneCellS, litOne, flat1, Kd.isSca, flat, TYB]
                    exact ⟨by omega, by omega, by omega, by omega, by omega, by unfold In64; omega, (q + 1, _, n4 + 1), ⟨by show q + 1 ≤ np; omega, hL.push⟩, by show np - (q + 1) < np - q; omega, Sub.same (by simp only [nx, LB, subS, subH, wfS, wfH, SV.ren, renL, SObj.ren, SV.wf, SObj.wf, wfL, SV.known, Nat.reduceEqDiff, ↓reduceIte, if_true, if_false, eq_self, Nat.reduceAdd, Nat.reduceLT, Nat.reduceLeDiff, implies_true, reduceCtorEq, forall_const]; try rfl) (by simp [subS, subH, wfS, wfH, SV.ren, renL, SObj.ren, SV.wf, SObj.wf, wfL, sget_cons, hget_cons] <;> omega) hL.push.wf (show 1 ≤ n4 + 1 by omega)⟩
              · have hql : ¬ (q : Int) < np := by omega
                obtain rfl : q = np := by omega
                have tq : (sucL D u R).take q = sucL D u R := List.take_of_length_le (by omega)
                simp -implicitDefEqProofs only [lk_normal, hql, tq, best, rBig_F, FewestBy_F, sFewestBy_F, ReachBy_F, sReachBy_F, rPairs3_F, IsSorted_F, PourBy_F, PoursBy_F, sPoursBy_F, freshK_nil, freshK_ne, freshK_f, Wrap.ap, hkm, d1, d2, gr, gd, gg, hR, tkR, hD, tkD, Nat.add_assoc, add_self, self_add, add_add, List.getD_cons_zero, List.getD_cons_succ, ZB, Int.reduceToNat, Nat.reduceLT, Nat.reduceLeDiff, Int.reduceLE, Int.reduceLT, Nat.reduceEqDiff, Nat.reduceSub, SB, SV.known, packR, ne_eq, reduceCtorEq, Nat.reduceEqDiff, ↓reduceIte, if_true, if_false, eq_self, Nat.reduceAdd, Nat.reduceMul, Nat.reduceSub, forall_const, oneCellS, litOne, flat1, Kd.isSca, flat, TYB]
                unfold In64; omega
          · skip
            simp -implicitDefEqProofs only [hb, hk0, is, ff, hfw, hr, hs, i0, i3, f1, f2, hQ, hQn, eQ, rBig_F, FewestBy_F, sFewestBy_F, ReachBy_F, sReachBy_F, rPairs3_F, IsSorted_F, PourBy_F, PoursBy_F, sPoursBy_F, freshK_nil, freshK_ne, freshK_f, Wrap.ap, hkm, hS, tkS, hE, tkE, hT, tkT, hF, tkF, hR, tkR, hD, tkD, gS3, gE3, gR3, gD3, a1, a2, a3, a4, b1, b2, b3, b4, hP, eg, z0, Nat.add_assoc, add_self, self_add, add_add, List.getD_cons_zero, List.getD_cons_succ, ZB, Int.reduceToNat, Nat.reduceLT, Nat.reduceLeDiff, Int.reduceLE, Int.reduceLT, Nat.reduceEqDiff, Nat.reduceSub, SB, SV.known, packR, ne_eq, reduceCtorEq, Nat.reduceEqDiff, ↓reduceIte, if_true, if_false, eq_self, Nat.reduceAdd, Nat.reduceMul, Nat.reduceSub, forall_const, oneCellS, litOne, flat1, Kd.isSca, flat, TYB]
            refine ⟨by omega, fun c1 j1 r1 => ?_⟩
            refine fun c3 j3 r3 => ?_
            refine loop_introN (fun s : Nat × Heap × Nat => [(32, .int s.1), (31, .int (((sucL D u R).take s.1).foldl (stB D u) (i : Int))), (30, .bool true), (29, .slice (n3 + 3) 0 np c3), (6, .int i), (5, .int u), (4, .ptr (n1 + 1) 0), (3, .ptr n1 0)]) (fun s => s.2.1) (fun s => s.2.2)
              (fun s => s.1 ≤ np ∧ LpS n1 (n3 + 3) R D (Q ++ j3) s.2.1 s.2.2) (fun s => np - s.1) ?_ ?_
            · exact ⟨(0, _, n3 + 3 + 1), ⟨Nat.zero_le _, ⟨by dsimp only; omega, by dsimp only; (repeat first | exact hwf_mono (by omega) hK3.wf | refine hwf_cons ?_ (by omega) trivial), by (repeat rw [hget_cons, if_neg (by omega)]); exact gR3, by (repeat rw [hget_cons, if_neg (by omega)]); exact gD3, by simp [hget_cons]⟩⟩, Sub.same (by simp only [List.take_zero, List.foldl_nil, LB, subS, subH, wfS, wfH, SV.ren, renL, SObj.ren, SV.wf, SObj.wf, wfL, SV.known, Nat.reduceEqDiff, ↓reduceIte, if_true, if_false, eq_self, Nat.reduceAdd, Nat.reduceLT, Nat.reduceLeDiff, implies_true, reduceCtorEq, forall_const]; try rfl) (by simp [subS, subH, wfS, wfH, SV.ren, renL, SObj.ren, SV.wf, SObj.wf, wfL, sget_cons, hget_cons] <;> omega) (by dsimp only; (repeat first | exact hwf_mono (by omega) hK3.wf | refine hwf_cons ?_ (by omega) trivial)) (show 1 ≤ n3 + 3 + 1 by omega)⟩
            · rintro ⟨q, H4, n4⟩ ⟨hq, hL⟩
              simp only at hq hL
              have lt1 := hL.lt
              have gr := hL.r
              have gd := hL.d
              have gg := hL.g
              have d1 : (n1 = n4) = False := by simp; omega
              have d2 : (n1 + 1 = n4) = False := by simp; omega
              have lenQ : (Q ++ j3).length = c3 * 2 := by rw [List.length_append]; omega
              have qb := few_bd D u ((sucL D u R).take q) i f3
              by_cases hqn : q < np
              · have hql : (q : Int) < np := by omega
                obtain ⟨a, b, ha, hb', hc, ga, gb⟩ := pairs q (by omega)
                have eP0 : (Q ++ j3).getD (q * 2) 0 = (a : Int) := by rw [getD_app _ _ _ (by omega), ga]
                have eP1 : (Q ++ j3).getD (q * 2 + 1) 0 = (b : Int) := by rw [getD_app _ _ _ (by omega), gb]
                obtain ⟨x24, xf, mp, mne, m1, m2⟩ := for_suc hR hD f1 ha hb' hc
                obtain ⟨pb1, pb2⟩ := pbyB_of f1 f2 ha hb' mp
                have ex := sgd q hqn
                rw [ga, gb] at ex
                have nx := fold_next D u (i : Int) (L := sucL D u R) (q := q) (by omega)
                rw [ex] at nx
                obtain ⟨X, hX⟩ : ∃ X, sucP R D u a b = X := ⟨_, rfl⟩
                rw [hX] at nx pb2 x24
                have tkx : X.take 24 = X := List.take_of_length_le (by omega)
                obtain ⟨B, hBq⟩ : ∃ B, ((sucL D u R).take q).foldl (stB D u) (i : Int) = B := ⟨_, rfl⟩
                rw [hBq] at nx qb
                cases hfx : fwO X D u with
                | none =>
                  have isx : (none : Option Nat).isSome = false := rfl
                  have st : stB D u B X = B := by unfold stB; rw [hfx]; exact if_neg (by simp)
                  rw [st] at nx
                  simp -implicitDefEqProofs only [lk_normal, hql, eP0, eP1, lenQ, pb1, pb2, x24, tkx, hfx, isx, hBq, rBig_F, FewestBy_F, sFewestBy_F, ReachBy_F, sReachBy_F, rPairs3_F, IsSorted_F, PourBy_F, PoursBy_F, sPoursBy_F, freshK_nil, freshK_ne, freshK_f, Wrap.ap, hkm, d1, d2, gr, gd, gg, hR, tkR, hD, tkD, Nat.add_assoc, add_self, self_add, add_add, List.getD_cons_zero, List.getD_cons_succ, ZB, Int.reduceToNat, Nat.reduceLT, Nat.reduceLeDiff, Int.reduceLE, Int.reduceLT, Nat.reduceEqDiff, Nat.reduceSub, SB, SV.known, packR, ne_eq, reduceCtorEq, Nat.reduceEqDiff, ↓reduceIte, if_true, if_false, eq_self, Nat.reduceAdd, Nat.reduceMul, Nat.reduceSub, forall_const, oneCellS, litOne, flat1, Kd.isSca, flat, TYB]
                  exact ⟨by omega, by omega, by omega, by omega, by omega, by unfold In64; omega, (q + 1, _, n4 + 1), ⟨by show q + 1 ≤ np; omega, hL.push⟩, by show np - (q + 1) < np - q; omega, Sub.same (by simp only [nx, LB, subS, subH, wfS, wfH, SV.ren, renL, SObj.ren, SV.wf, SObj.wf, wfL, SV.known, Nat.reduceEqDiff, ↓reduceIte, if_true, if_false, eq_self, Nat.reduceAdd, Nat.reduceLT, Nat.reduceLeDiff, implies_true, reduceCtorEq, forall_const]; try rfl) (by simp [subS, subH, wfS, wfH, SV.ren, renL, SObj.ren, SV.wf, SObj.wf, wfL, sget_cons, hget_cons] <;> omega) hL.push.wf (show 1 ≤ n4 + 1 by omega)⟩
                | some m =>
                  have isx : (some m).isSome = true := rfl
                  have ffx : fwF (some m) = (m : Int) := rfl
                  by_cases hlt : (m : Int) < B
                  · have st : stB D u B X = m := by unfold stB; rw [hfx]; exact if_pos ⟨rfl, hlt⟩
                    rw [st] at nx
                    simp -implicitDefEqProofs only [lk_normal, hql, eP0, eP1, lenQ, pb1, pb2, x24, tkx, hfx, isx, ffx, hlt, hBq, rBig_F, FewestBy_F, sFewestBy_F, ReachBy_F, sReachBy_F, rPairs3_F, IsSorted_F, PourBy_F, PoursBy_F, sPoursBy_F, freshK_nil, freshK_ne, freshK_f, Wrap.ap, hkm, d1, d2, gr, gd, gg, hR, tkR, hD, tkD, Nat.add_assoc, add_self, self_add, add_add, List.getD_cons_zero, List.getD_cons_succ, ZB, Int.reduceToNat, Nat.reduceLT, Nat.reduceLeDiff, Int.reduceLE, Int.reduceLT, Nat.reduceEqDiff, Nat.reduceSub, SB, SV.known, packR, ne_eq, reduceCtorEq, Nat.reduceEqDiff, ↓reduceIte, if_true, if_false, eq_self, Nat.reduceAdd, Nat.reduceMul, Nat.reduceSub, forall_const, oneCellS, litOne, flat1, Kd.isSca, flat, TYB]
                    exact ⟨by omega, by omega, by omega, by omega, by omega, by unfold In64; omega, (q + 1, _, n4 + 1), ⟨by show q + 1 ≤ np; omega, hL.push⟩, by show np - (q + 1) < np - q; omega, Sub.same (by simp only [nx, LB, subS, subH, wfS, wfH, SV.ren, renL, SObj.ren, SV.wf, SObj.wf, wfL, SV.known, Nat.reduceEqDiff, ↓reduceIte, if_true, if_false, eq_self, Nat.reduceAdd, Nat.reduceLT, Nat.reduceLeDiff, implies_true, reduceCtorEq, forall_const]; try rfl) (by simp [subS, subH, wfS, wfH, SV.ren, renL, SObj.ren, SV.wf, SObj.wf, wfL, sget_cons, hget_cons] <;> omega) hL.push.wf (show 1 ≤ n4 + 1 by omega)⟩
                  · have st : stB D u B X = B := by unfold stB; rw [hfx]; exact if_neg (fun h => hlt h.2)
                    rw [st] at nx
                    simp -implicitDefEqProofs only [lk_normal, hql, eP0, eP1, lenQ, pb1, pb2, x24, tkx, hfx, isx, ffx, hlt, hBq, rBig_F, FewestBy_F, sFewestBy_F, ReachBy_F, sReachBy_F, rPairs3_F, IsSorted_F, PourBy_F, PoursBy_F, sPoursBy_F, freshK_nil, freshK_ne, freshK_f, Wrap.ap, hkm, d1, d2, gr, gd, gg, hR, tkR, hD, tkD, Nat.add_assoc, add_self, self_add, add_add, List.getD_cons_zero, List.getD_cons_succ, ZB, Int.reduceToNat, Nat.reduceLT, Nat.reduceLeDiff, Int.reduceLE, Int.reduceLT, Nat.reduceEqDiff, Nat.reduceSub, SB, SV.known, packR, ne_eq, reduceCtorEq, Nat.reduceEqDiff, ↓reduceIte, if_true, if_false, eq_self, Nat.reduceAdd, Nat.reduceMul, Nat.reduceSub, forall_const, oneCellS, litOne, flat1, Kd.isSca, flat, TYB]
                    exact ⟨by omega, by omega, by omega, by omega, by omega, by unfold In64; omega, (q + 1, _, n4 + 1), ⟨by show q + 1 ≤ np; omega, hL.push⟩, by show np - (q + 1) < np - q; omega, Sub.same (by simp only [nx, LB, subS, subH, wfS, wfH, SV.ren, renL, SObj.ren, SV.wf, SObj.wf, wfL, SV.known, Nat.reduceEqDiff, ↓reduceIte, if_true, if_false, eq_self, Nat.reduceAdd, Nat.reduceLT, Nat.reduceLeDiff, implies_true, reduceCtorEq, forall_const]; try rfl) (by simp [subS, subH, wfS, wfH, SV.ren, renL, SObj.ren, SV.wf, SObj.wf, wfL, sget_cons, hget_cons] <;> omega) hL.push.wf (show 1 ≤ n4 + 1 by omega)⟩
              · have hql : ¬ (q : Int) < np := by omega
                obtain rfl : q = np := by omega
                have tq : (sucL D u R).take q = sucL D u R := List.take_of_length_le (by omega)
                simp -implicitDefEqProofs only [lk_normal, hql, tq, best, rBig_F, FewestBy_F, sFewestBy_F, ReachBy_F, sReachBy_F, rPairs3_F, IsSorted_F, PourBy_F, PoursBy_F, sPoursBy_F, freshK_nil, freshK_ne, freshK_f, Wrap.ap, hkm, d1, d2, gr, gd, gg, hR, tkR, hD, tkD, Nat.add_assoc, add_self, self_add, add_add, List.getD_cons_zero, List.getD_cons_succ, ZB, Int.reduceToNat, Nat.reduceLT, Nat.reduceLeDiff, Int.reduceLE, Int.reduceLT, Nat.reduceEqDiff, Nat.reduceSub, SB, SV.known, packR, ne_eq, reduceCtorEq, Nat.reduceEqDiff, ↓reduceIte, if_true, if_false, eq_self, Nat.reduceAdd, Nat.reduceMul, Nat.reduceSub, forall_const, oneCellS, litOne, flat1, Kd.isSca, flat, TYB]
                unfold In64; omega
  · have hn : (P = []) = False := eq_false hn
    cases hfw : fwO R D u with
    | none =>
      have is : (none : Option Nat).isSome = false := rfl
      rcases (show rbB S E w k = false ∨ (rbB S E w k = true ∧ 0 < k) ∨ (rbB S E w k = true ∧ ¬ 0 < k) by cases rbB S E w k <;> simp <;> omega) with hb | ⟨hb, hk0⟩ | ⟨hb, hk0⟩
      · skip
        simp -implicitDefEqProofs only [hn, hb, hfw, is, rBig_F, FewestBy_F, sFewestBy_F, ReachBy_F, sReachBy_F, rPairs3_F, IsSorted_F, PourBy_F, PoursBy_F, sPoursBy_F, freshK_nil, freshK_ne, freshK_f, Wrap.ap, hkm, hS, tkS, hE, tkE, hT, tkT, hF, tkF, hR, tkR, hD, tkD, gS3, gE3, gR3, gD3, a1, a2, a3, a4, b1, b2, b3, b4, hP, eg, z0, Nat.add_assoc, add_self, self_add, add_add, List.getD_cons_zero, List.getD_cons_succ, ZB, Int.reduceToNat, Nat.reduceLT, Nat.reduceLeDiff, Int.reduceLE, Int.reduceLT, Nat.reduceEqDiff, Nat.reduceSub, SB, SV.known, packR, ne_eq, reduceCtorEq, Nat.reduceEqDiff, ↓reduceIte, if_true, if_false, eq_self, Nat.reduceAdd, Nat.reduceMul, Nat.reduceSub, forall_const, oneCellS, litOne, flat1, Kd.isSca, flat, TYB]
        exact ⟨by omega, fun _ _ _ _ _ _ => pA2 hg hg36⟩
      · obtain ⟨q1, q2, q3, q4⟩ := reach_grow hb hk0
        have q2' : (rbF S E w k < rbF S E w (k - 1)) = False := by simp; omega
        have q3' : (rbF S E w (k - 1) < 1) = False := by simp; omega
        simp -implicitDefEqProofs only [hn, hb, hk0, q1, q2', q3', hfw, is, rBig_F, FewestBy_F, sFewestBy_F, ReachBy_F, sReachBy_F, rPairs3_F, IsSorted_F, PourBy_F, PoursBy_F, sPoursBy_F, freshK_nil, freshK_ne, freshK_f, Wrap.ap, hkm, hS, tkS, hE, tkE, hT, tkT, hF, tkF, hR, tkR, hD, tkD, gS3, gE3, gR3, gD3, a1, a2, a3, a4, b1, b2, b3, b4, hP, eg, z0, Nat.add_assoc, add_self, self_add, add_add, List.getD_cons_zero, List.getD_cons_succ, ZB, Int.reduceToNat, Nat.reduceLT, Nat.reduceLeDiff, Int.reduceLE, Int.reduceLT, Nat.reduceEqDiff, Nat.reduceSub, SB, SV.known, packR, ne_eq, reduceCtorEq, Nat.reduceEqDiff, ↓reduceIte, if_true, if_false, eq_self, Nat.reduceAdd, Nat.reduceMul, Nat.reduceSub, forall_const, oneCellS, litOne, flat1, Kd.isSca, flat, TYB]
        exact ⟨by omega, fun _ _ _ _ _ _ => ⟨pA2 hg hg36, q4⟩⟩
      · skip
        simp -implicitDefEqProofs only [hn, hb, hk0, hfw, is, rBig_F, FewestBy_F, sFewestBy_F, ReachBy_F, sReachBy_F, rPairs3_F, IsSorted_F, PourBy_F, PoursBy_F, sPoursBy_F, freshK_nil, freshK_ne, freshK_f, Wrap.ap, hkm, hS, tkS, hE, tkE, hT, tkT, hF, tkF, hR, tkR, hD, tkD, gS3, gE3, gR3, gD3, a1, a2, a3, a4, b1, b2, b3, b4, hP, eg, z0, Nat.add_assoc, add_self, self_add, add_add, List.getD_cons_zero, List.getD_cons_succ, ZB, Int.reduceToNat, Nat.reduceLT, Nat.reduceLeDiff, Int.reduceLE, Int.reduceLT, Nat.reduceEqDiff, Nat.reduceSub, SB, SV.known, packR, ne_eq, reduceCtorEq, Nat.reduceEqDiff, ↓reduceIte, if_true, if_false, eq_self, Nat.reduceAdd, Nat.reduceMul, Nat.reduceSub, forall_const, oneCellS, litOne, flat1, Kd.isSca, flat, TYB]
        exact ⟨by omega, fun _ _ _ _ _ _ => pA2 hg hg36⟩
    | some i =>
      obtain ⟨f1, f2, f3, f4, f5⟩ := fw_some hfw
      have hs := few_sort hfw
      have hr := (forB_facts hD f1).1
      have is : (some i).isSome = true := rfl
      have ff : fwF (some i) = (i : Int) := rfl
      by_cases i0 : i = 0
      · subst i0
        have z1 : ((0 : Nat) : Int) = 0 := rfl
        have hs : sortB R = true := hs
        rcases (show rbB S E w k = false ∨ (rbB S E w k = true ∧ 0 < k) ∨ (rbB S E w k = true ∧ ¬ 0 < k) by cases rbB S E w k <;> simp <;> omega) with hb | ⟨hb, hk0⟩ | ⟨hb, hk0⟩
        · skip
          simp -implicitDefEqProofs only [hn, hb, hfw, is, ff, hr, hs, z1, rBig_F, FewestBy_F, sFewestBy_F, ReachBy_F, sReachBy_F, rPairs3_F, IsSorted_F, PourBy_F, PoursBy_F, sPoursBy_F, freshK_nil, freshK_ne, freshK_f, Wrap.ap, hkm, hS, tkS, hE, tkE, hT, tkT, hF, tkF, hR, tkR, hD, tkD, gS3, gE3, gR3, gD3, a1, a2, a3, a4, b1, b2, b3, b4, hP, eg, z0, Nat.add_assoc, add_self, self_add, add_add, List.getD_cons_zero, List.getD_cons_succ, ZB, Int.reduceToNat, Nat.reduceLT, Nat.reduceLeDiff, Int.reduceLE, Int.reduceLT, Nat.reduceEqDiff, Nat.reduceSub, SB, SV.known, packR, ne_eq, reduceCtorEq, Nat.reduceEqDiff, ↓reduceIte, if_true, if_false, eq_self, Nat.reduceAdd, Nat.reduceMul, Nat.reduceSub, forall_const, oneCellS, litOne, flat1, Kd.isSca, flat, TYB]
          exact ⟨by omega, fun _ _ _ _ _ _ => pA2 hg hg36⟩
        · obtain ⟨q1, q2, q3, q4⟩ := reach_grow hb hk0
          have q2' : (rbF S E w k < rbF S E w (k - 1)) = False := by simp; omega
          have q3' : (rbF S E w (k - 1) < 1) = False := by simp; omega
          simp -implicitDefEqProofs only [hn, hb, hk0, q1, q2', q3', hfw, is, ff, hr, hs, z1, rBig_F, FewestBy_F, sFewestBy_F, ReachBy_F, sReachBy_F, rPairs3_F, IsSorted_F, PourBy_F, PoursBy_F, sPoursBy_F, freshK_nil, freshK_ne, freshK_f, Wrap.ap, hkm, hS, tkS, hE, tkE, hT, tkT, hF, tkF, hR, tkR, hD, tkD, gS3, gE3, gR3, gD3, a1, a2, a3, a4, b1, b2, b3, b4, hP, eg, z0, Nat.add_assoc, add_self, self_add, add_add, List.getD_cons_zero, List.getD_cons_succ, ZB, Int.reduceToNat, Nat.reduceLT, Nat.reduceLeDiff, Int.reduceLE, Int.reduceLT, Nat.reduceEqDiff, Nat.reduceSub, SB, SV.known, packR, ne_eq, reduceCtorEq, Nat.reduceEqDiff, ↓reduceIte, if_true, if_false, eq_self, Nat.reduceAdd, Nat.reduceMul, Nat.reduceSub, forall_const, oneCellS, litOne, flat1, Kd.isSca, flat, TYB]
          exact ⟨by omega, fun _ _ _ _ _ _ => ⟨pA2 hg hg36, q4⟩⟩
        · skip
          simp -implicitDefEqProofs only [hn, hb, hk0, hfw, is, ff, hr, hs, z1, rBig_F, FewestBy_F, sFewestBy_F, ReachBy_F, sReachBy_F, rPairs3_F, IsSorted_F, PourBy_F, PoursBy_F, sPoursBy_F, freshK_nil, freshK_ne, freshK_f, Wrap.ap, hkm, hS, tkS, hE, tkE, hT, tkT, hF, tkF, hR, tkR, hD, tkD, gS3, gE3, gR3, gD3, a1, a2, a3, a4, b1, b2, b3, b4, hP, eg, z0, Nat.add_assoc, add_self, self_add, add_add, List.getD_cons_zero, List.getD_cons_succ, ZB, Int.reduceToNat, Nat.reduceLT, Nat.reduceLeDiff, Int.reduceLE, Int.reduceLT, Nat.reduceEqDiff, Nat.reduceSub, SB, SV.known, packR, ne_eq, reduceCtorEq, Nat.reduceEqDiff, ↓reduceIte, if_true, if_false, eq_self, Nat.reduceAdd, Nat.reduceMul, Nat.reduceSub, forall_const, oneCellS, litOne, flat1, Kd.isSca, flat, TYB]
          exact ⟨by omega, fun _ _ _ _ _ _ => pA2 hg hg36⟩
      · by_cases i3 : i = 3
        · subst i3
          have z3 : ((3 : Nat) : Int) = 3 := rfl
          have t30 : ((3 : Int) = 0) = False := by decide
          have hs : sortB R = false := hs
          rcases (show rbB S E w k = false ∨ (rbB S E w k = true ∧ 0 < k) ∨ (rbB S E w k = true ∧ ¬ 0 < k) by cases rbB S E w k <;> simp <;> omega) with hb | ⟨hb, hk0⟩ | ⟨hb, hk0⟩
          · skip
            simp -implicitDefEqProofs only [hn, hb, hfw, is, ff, hr, hs, z3, t30, rBig_F, FewestBy_F, sFewestBy_F, ReachBy_F, sReachBy_F, rPairs3_F, IsSorted_F, PourBy_F, PoursBy_F, sPoursBy_F, freshK_nil, freshK_ne, freshK_f, Wrap.ap, hkm, hS, tkS, hE, tkE, hT, tkT, hF, tkF, hR, tkR, hD, tkD, gS3, gE3, gR3, gD3, a1, a2, a3, a4, b1, b2, b3, b4, hP, eg, z0, Nat.add_assoc, add_self, self_add, add_add, List.getD_cons_zero, List.getD_cons_succ, ZB, Int.reduceToNat, Nat.reduceLT, Nat.reduceLeDiff, Int.reduceLE, Int.reduceLT, Nat.reduceEqDiff, Nat.reduceSub, SB, SV.known, packR, ne_eq, reduceCtorEq, Nat.reduceEqDiff, ↓reduceIte, if_true, if_false, eq_self, Nat.reduceAdd, Nat.reduceMul, Nat.reduceSub, forall_const, oneCellS, litOne, flat1, Kd.isSca, flat, TYB]
            exact ⟨by omega, fun _ _ _ _ _ _ => pA2 hg hg36⟩
          · obtain ⟨q1, q2, q3, q4⟩ := reach_grow hb hk0
            have q2' : (rbF S E w k < rbF S E w (k - 1)) = False := by simp; omega
            have q3' : (rbF S E w (k - 1) < 1) = False := by simp; omega
            simp -implicitDefEqProofs only [hn, hb, hk0, q1, q2', q3', hfw, is, ff, hr, hs, z3, t30, rBig_F, FewestBy_F, sFewestBy_F, ReachBy_F, sReachBy_F, rPairs3_F, IsSorted_F, PourBy_F, PoursBy_F, sPoursBy_F, freshK_nil, freshK_ne, freshK_f, Wrap.ap, hkm, hS, tkS, hE, tkE, hT, tkT, hF, tkF, hR, tkR, hD, tkD, gS3, gE3, gR3, gD3, a1, a2, a3, a4, b1, b2, b3, b4, hP, eg, z0, Nat.add_assoc, add_self, self_add, add_add, List.getD_cons_zero, List.getD_cons_succ, ZB, Int.reduceToNat, Nat.reduceLT, Nat.reduceLeDiff, Int.reduceLE, Int.reduceLT, Nat.reduceEqDiff, Nat.reduceSub, SB, SV.known, packR, ne_eq, reduceCtorEq, Nat.reduceEqDiff, ↓reduceIte, if_true, if_false, eq_self, Nat.reduceAdd, Nat.reduceMul, Nat.reduceSub, forall_const, oneCellS, litOne, flat1, Kd.isSca, flat, TYB]
            exact ⟨by omega, fun _ _ _ _ _ _ => ⟨pA2 hg hg36, q4⟩⟩
          · skip
            simp -implicitDefEqProofs only [hn, hb, hk0, hfw, is, ff, hr, hs, z3, t30, rBig_F, FewestBy_F, sFewestBy_F, ReachBy_F, sReachBy_F, rPairs3_F, IsSorted_F, PourBy_F, PoursBy_F, sPoursBy_F, freshK_nil, freshK_ne, freshK_f, Wrap.ap, hkm, hS, tkS, hE, tkE, hT, tkT, hF, tkF, hR, tkR, hD, tkD, gS3, gE3, gR3, gD3, a1, a2, a3, a4, b1, b2, b3, b4, hP, eg, z0, Nat.add_assoc, add_self, self_add, add_add, List.getD_cons_zero, List.getD_cons_succ, ZB, Int.reduceToNat, Nat.reduceLT, Nat.reduceLeDiff, Int.reduceLE, Int.reduceLT, Nat.reduceEqDiff, Nat.reduceSub, SB, SV.known, packR, ne_eq, reduceCtorEq, Nat.reduceEqDiff, ↓reduceIte, if_true, if_false, eq_self, Nat.reduceAdd, Nat.reduceMul, Nat.reduceSub, forall_const, oneCellS, litOne, flat1, Kd.isSca, flat, TYB]
            exact ⟨by omega, fun _ _ _ _ _ _ => pA2 hg hg36⟩
        · have i0 : ((i : Int) = 0) = False := by simp; omega
          have i3 : ((i : Int) = 3) = False := by simp; omega
          have hs : sortB R = false := by rw [hs]; exact decide_eq_false (by rw [i0]; exact id)
          obtain ⟨np, hnp, hnp36⟩ := GL_even (pbB R D u) 36
          have pairs := GL_pairB (pbB R D u) 36 (by omega)
          have esn : sucN R D u = np := by unfold sucN; omega
          have sgd := fun q (hq : q < sucN R D u) => sucL_getD D u R hq
          have sl := sucL_len D u R
          have hQ : pbL R D u = GL (pbB R D u) 36 := by unfold pbL; rw [if_pos ⟨f1, f2⟩]
          obtain ⟨Q, hQ1⟩ : ∃ Q, GL (pbB R D u) 36 = Q := ⟨_, rfl⟩
          rw [hQ1] at hnp pairs hQ sgd
          rw [esn] at sgd sl
          have eQ : Q.length / 2 = np := by omega
          have best := few_best hR hD hfw (by omega)
          have hQn : (Q = []) = False := eq_false fun h => by
            rw [h] at hnp
            have : (sucL D u R).length = 0 := by simp at hnp; omega
            rw [List.length_eq_zero_iff.1 this] at best
            simp at best
            omega
          rcases (show rbB S E w k = false ∨ (rbB S E w k = true ∧ 0 < k) ∨ (rbB S E w k = true ∧ ¬ 0 < k) by cases rbB S E w k <;> simp <;> omega) with hb | ⟨hb, hk0⟩ | ⟨hb, hk0⟩
          · skip
            simp -implicitDefEqProofs only [hn, hb, is, ff, hfw, hr, hs, i0, i3, f1, f2, hQ, hQn, eQ, rBig_F, FewestBy_F, sFewestBy_F, ReachBy_F, sReachBy_F, rPairs3_F, IsSorted_F, PourBy_F, PoursBy_F, sPoursBy_F, freshK_nil, freshK_ne, freshK_f, Wrap.ap, hkm, hS, tkS, hE, tkE, hT, tkT, hF, tkF, hR, tkR, hD, tkD, gS3, gE3, gR3, gD3, a1, a2, a3, a4, b1, b2, b3, b4, hP, eg, z0, Nat.add_assoc, add_self, self_add, add_add, List.getD_cons_zero, List.getD_cons_succ, ZB, Int.reduceToNat, Nat.reduceLT, Nat.reduceLeDiff, Int.reduceLE, Int.reduceLT, Nat.reduceEqDiff, Nat.reduceSub, SB, SV.known, packR, ne_eq, reduceCtorEq, Nat.reduceEqDiff, ↓reduceIte, if_true, if_false, eq_self, Nat.reduceAdd, Nat.reduceMul, Nat.reduceSub, forall_const, oneCellS, litOne, flat1, Kd.isSca, flat, TYB]
            refine ⟨by omega, fun c1 j1 r1 c2 j2 r2 => ⟨pA2 hg hg36, ?_⟩⟩
            refine fun c3 j3 r3 => ?_
            refine loop_introN (fun s : Nat × Heap × Nat => [(32, .int s.1), (31, .int (((sucL D u R).take s.1).foldl (stB D u) (i : Int))), (30, .bool true), (29, .slice (n3 + 4) 0 np c3), (6, .int i), (5, .int u), (4, .ptr (n1 + 1) 0), (3, .ptr n1 0)]) (fun s => s.2.1) (fun s => s.2.2)
              (fun s => s.1 ≤ np ∧ LpS n1 (n3 + 4) R D (Q ++ j3) s.2.1 s.2.2) (fun s => np - s.1) ?_ ?_
            · exact ⟨(0, _, n3 + 4 + 1), ⟨Nat.zero_le _, ⟨by dsimp only; omega, by dsimp only; (repeat first | exact hwf_mono (by omega) hK3.wf | refine hwf_cons ?_ (by omega) trivial), by (repeat rw [hget_cons, if_neg (by omega)]); exact gR3, by (repeat rw [hget_cons, if_neg (by omega)]); exact gD3, by simp [hget_cons]⟩⟩, Sub.same (by simp only [List.take_zero, List.foldl_nil, LB, subS, subH, wfS, wfH, SV.ren, renL, SObj.ren, SV.wf, SObj.wf, wfL, SV.known, Nat.reduceEqDiff, ↓reduceIte, if_true, if_false, eq_self, Nat.reduceAdd, Nat.reduceLT, Nat.reduceLeDiff, implies_true, reduceCtorEq, forall_const]; try rfl) (by simp [subS, subH, wfS, wfH, SV.ren, renL, SObj.ren, SV.wf, SObj.wf, wfL, sget_cons, hget_cons] <;> omega) (by dsimp only; (repeat first | exact hwf_mono (by omega) hK3.wf | refine hwf_cons ?_ (by omega) trivial)) (show 1 ≤ n3 + 4 + 1 by omega)⟩
            · rintro ⟨q, H4, n4⟩ ⟨hq, hL⟩
              simp only at hq hL
              have lt1 := hL.lt
              have gr := hL.r
              have gd := hL.d
              have gg := hL.g
              have d1 : (n1 = n4) = False := by simp; omega
              have d2 : (n1 + 1 = n4) = False := by simp; omega
              have lenQ : (Q ++ j3).length = c3 * 2 := by rw [List.length_append]; omega
              have qb := few_bd D u ((sucL D u R).take q) i f3
              by_cases hqn : q < np
              · have hql : (q : Int) < np := by omega
                obtain ⟨a, b, ha, hb', hc, ga, gb⟩ := pairs q (by omega)
                have eP0 : (Q ++ j3).getD (q * 2) 0 = (a : Int) := by rw [getD_app _ _ _ (by omega), ga]
                have eP1 : (Q ++ j3).getD (q * 2 + 1) 0 = (b : Int) := by rw [getD_app _ _ _ (by omega), gb]
                obtain ⟨x24, xf, mp, mne, m1, m2⟩ := for_suc hR hD f1 ha hb' hc
                obtain ⟨pb1, pb2⟩ := pbyB_of f1 f2 ha hb' mp
                have ex := sgd q hqn
                rw [ga, gb] at ex
                have nx := fold_next D u (i : Int) (L := sucL D u R) (q := q) (by omega)
                rw [ex] at nx
                obtain ⟨X, hX⟩ : ∃ X, sucP R D u a b = X := ⟨_, rfl⟩
                rw [hX] at nx pb2 x24
                have tkx : X.take 24 = X := List.take_of_length_le (by omega)
                obtain ⟨B, hBq⟩ : ∃ B, ((sucL D u R).take q).foldl (stB D u) (i : Int) = B := ⟨_, rfl⟩
                rw [hBq] at nx qb
                cases hfx : fwO X D u with
                | none =>
                  have isx : (none : Option Nat).isSome = false := rfl
                  have st : stB D u B X = B := by unfold stB; rw [hfx]; exact if_neg (by simp)
                  rw [st] at nx
                  simp -implicitDefEqProofs only [lk_normal, hql, eP0, eP1, lenQ, pb1, pb2, x24, tkx, hfx, isx, hBq, rBig_F, FewestBy_F, sFewestBy_F, ReachBy_F, sReachBy_F, rPairs3_F, IsSorted_F, PourBy_F, PoursBy_F, sPoursBy_F, freshK_nil, freshK_ne, freshK_f, Wrap.ap, hkm, d1, d2, gr, gd, gg, hR, tkR, hD, tkD, Nat.add_assoc, add_self, self_add, add_add, List.getD_cons_zero, List.getD_cons_succ, ZB, Int.reduceToNat, Nat.reduceLT, Nat.reduceLeDiff, Int.reduceLE, Int.reduceLT, Nat.reduceEqDiff, Nat.reduceSub, SB, SV.known, packR, ne_eq, reduceCtorEq, Nat.reduceEqDiff, ↓reduceIte, if_true, if_false, eq_self, Nat.reduceAdd, Nat.reduceMul, Nat.reduceSub, forall_const, oneCellS, litOne, flat1, Kd.isSca, flat, TYB]
                  exact ⟨by omega, by omega, by omega, by omega, by omega, by unfold In64; omega, (q + 1, _, n4 + 1), ⟨by show q + 1 ≤ np; omega, hL.push⟩, by show np - (q + 1) < np - q; omega, Sub.same (by simp only [nx, LB, subS, subH, wfS, wfH, SV.ren, renL, SObj.ren, SV.wf, SObj.wf, wfL, SV.known, Nat.reduceEqDiff, ↓reduceIte, if_true, if_false, eq_self, Nat.reduceAdd, Nat.reduceLT, Nat.reduceLeDiff, implies_true, reduceCtorEq, forall_const]; try rfl) (by simp [subS, subH, wfS, wfH, SV.ren, renL, SObj.ren, SV.wf, SObj.wf, wfL, sget_cons, hget_cons] <;> omega) hL.push.wf (show 1 ≤ n4 + 1 by omega)⟩
                | some m =>
                  have isx : (some m).isSome = true := rfl
                  have ffx : fwF (some m) = (m : Int) := rfl
                  by_cases hlt : (m : Int) < B
                  · have st : stB D u B X = m := by unfold stB; rw [hfx]; exact if_pos ⟨rfl, hlt⟩
                    rw [st] at nx
                    simp -implicitDefEqProofs only [lk_normal, hql, eP0, eP1, lenQ, pb1, pb2, x24, tkx, hfx, isx, ffx, hlt, hBq, rBig_F, FewestBy_F, sFewestBy_F, ReachBy_F, sReachBy_F, rPairs3_F, IsSorted_F, PourBy_F, PoursBy_F, sPoursBy_F, freshK_nil, freshK_ne, freshK_f, Wrap.ap, hkm, d1, d2, gr, gd, gg, hR, tkR, hD, tkD, Nat.add_assoc, add_self, self_add, add_add, List.getD_cons_zero, List.getD_cons_succ, ZB, Int.reduceToNat, Nat.reduceLT, Nat.reduceLeDiff, Int.reduceLE, Int.reduceLT, Nat.reduceEqDiff, Nat.reduceSub, SB, SV.known, packR, ne_eq, reduceCtorEq, Nat.reduceEqDiff, ↓reduceIte, if_true, if_false, eq_self, Nat.reduceAdd, Nat.reduceMul, Nat.reduceSub, forall_const, oneCellS, litOne, flat1, Kd.isSca, flat, TYB]
                    exact ⟨by omega, by omega, by omega, by omega, by omega, by unfold In64; omega, (q + 1, _, n4 + 1), ⟨by show q + 1 ≤ np; omega, hL.push⟩, by show np - (q + 1) < np - q; omega, Sub.same (by simp only [nx, LB, subS, subH, wfS, wfH, SV.ren, renL, SObj.ren, SV.wf, SObj.wf, wfL, SV.known, Nat.reduceEqDiff, ↓reduceIte, if_true, if_false, eq_self, Nat.reduceAdd, Nat.reduceLT, Nat.reduceLeDiff, implies_true, reduceCtorEq, forall_const]; try rfl) (by simp [subS, subH, wfS, wfH, SV.ren, renL, SObj.ren, SV.wf, SObj.wf, wfL, sget_cons, hget_cons] <;> omega) hL.push.wf (show 1 ≤ n4 + 1 by omega)⟩
                  · have st : stB D u B X = B := by unfold stB; rw [hfx]; exact if_neg (fun h => hlt h.2)
                    rw [st] at nx
                    simp -implicitDefEqProofs only [lk_normal, hql, eP0, eP1, lenQ, pb1, pb2, x24, tkx, hfx, isx, ffx, hlt, hBq, rBig_F, FewestBy_F, sFewestBy_F, ReachBy_F, sReachBy_F, rPairs3_F, IsSorted_F, PourBy_F, PoursBy_F, sPoursBy_F, freshK_nil, freshK_ne, freshK_f, Wrap.ap, hkm, d1, d2, gr, gd, gg, hR, tkR, hD, tkD, Nat.add_assoc, add_self, self_add, add_add, List.getD_cons_zero, List.getD_cons_succ, ZB, Int.reduceToNat, Nat.reduceLT, Nat.reduceLeDiff, Int.reduceLE, Int.reduceLT, Nat.reduceEqDiff, Nat.reduceSub, SB, SV.known, packR, ne_eq, reduceCtorEq, Nat.reduceEqDiff, ↓reduceIte, if_true, if_false, eq_self, Nat.reduceAdd, Nat.reduceMul, Nat.reduceSub, forall_const, oneCellS, litOne, flat1, Kd.isSca, flat, TYB]
                    exact ⟨by omega, by omega, by omega, by omega, by omega, by unfold In64; omega, (q + 1, _, n4 + 1), ⟨by show q + 1 ≤ np; omega, hL.push⟩, by show np - (q + 1) < np - q; omega, Sub.same (by simp only [nx, LB, subS, subH, wfS, wfH, SV.ren, renL, SObj.ren, SV.wf, SObj.wf, wfL, SV.known, Nat.reduceEqDiff, ↓reduceIte, if_true, if_false, eq_self, Nat.reduceAdd, Nat.reduceLT, Nat.reduceLeDiff, implies_true, reduceCtorEq, forall_const]; try rfl) (by simp [subS, subH, wfS, wfH, SV.ren, renL, SObj.ren, SV.wf, SObj.wf, wfL, sget_cons, hget_cons] <;> omega) hL.push.wf (show 1 ≤ n4 + 1 by omega)⟩
              · have hql : ¬ (q : Int) < np := by omega
                obtain rfl : q = np := by omega
                have tq : (sucL D u R).take q = sucL D u R := List.take_of_length_le (by omega)
                simp -implicitDefEqProofs only [lk_normal, hql, tq, best, rBig_F, FewestBy_F, sFewestBy_F, ReachBy_F, sReachBy_F, rPairs3_F, IsSorted_F, PourBy_F, PoursBy_F, sPoursBy_F, freshK_nil, freshK_ne, freshK_f, Wrap.ap, hkm, d1, d2, gr, gd, gg, hR, tkR, hD, tkD, Nat.add_assoc, add_self, self_add, add_add, List.getD_cons_zero, List.getD_cons_succ, ZB, Int.reduceToNat, Nat.reduceLT, Nat.reduceLeDiff, Int.reduceLE, Int.reduceLT, Nat.reduceEqDiff, Nat.reduceSub, SB, SV.known, packR, ne_eq, reduceCtorEq, Nat.reduceEqDiff, ↓reduceIte, if_true, if_false, eq_self, Nat.reduceAdd, Nat.reduceMul, Nat.reduceSub, forall_const, oneCellS, litOne, flat1, Kd.isSca, flat, TYB]
                unfold In64; omega
          · obtain ⟨q1, q2, q3, q4⟩ := reach_grow hb hk0
            have q2' : (rbF S E w k < rbF S E w (k - 1)) = False := by simp; omega
            have q3' : (rbF S E w (k - 1) < 1) = False := by simp; omega
            simp -implicitDefEqProofs only [hn, hb, hk0, q1, q2', q3', is, ff, hfw, hr, hs, i0, i3, f1, f2, hQ, hQn, eQ, rBig_F, FewestBy_F, sFewestBy_F, ReachBy_F, sReachBy_F, rPairs3_F, IsSorted_F, PourBy_F, PoursBy_F, sPoursBy_F, freshK_nil, freshK_ne, freshK_f, Wrap.ap, hkm, hS, tkS, hE, tkE, hT, tkT, hF, tkF, hR, tkR, hD, tkD, gS3, gE3, gR3, gD3, a1, a2, a3, a4, b1, b2, b3, b4, hP, eg, z0, Nat.add_assoc, add_self, self_add, add_add, List.getD_cons_zero, List.getD_cons_succ, ZB, Int.reduceToNat, Nat.reduceLT, Nat.reduceLeDiff, Int.reduceLE, Int.reduceLT, Nat.reduceEqDiff, Nat.reduceSub, SB, SV.known, packR, ne_eq, reduceCtorEq, Nat.reduceEqDiff, ↓reduceIte, if_true, if_false, eq_self, Nat.reduceAdd, Nat.reduceMul, Nat.reduceSub, forall_const, oneCellS, litOne, flat1, Kd.isSca, flat, TYB]
            refine ⟨by omega, fun c1 j1 r1 c2 j2 r2 => ⟨pA2 hg hg36, q4, ?_⟩⟩
            refine fun c3 j3 r3 => ?_
            refine loop_introN (fun s : Nat × Heap × Nat => [(32, .int s.1), (31, .int (((sucL D u R).take s.1).foldl (stB D u) (i : Int))), (30, .bool true), (29, .slice (n3 + 4) 0 np c3), (6, .int i), (5, .int u), (4, .ptr (n1 + 1) 0), (3, .ptr n1 0)]) (fun s => s.2.1) (fun s => s.2.2)
              (fun s => s.1 ≤ np ∧ LpS n1 (n3 + 4) R D (Q ++ j3) s.2.1 s.2.2) (fun s => np - s.1) ?_ ?_
            · exact ⟨(0, _, n3 + 4 + 1), ⟨Nat.zero_le _, ⟨by dsimp only; omega, by dsimp only; (repeat first | exact hwf_mono (by omega) hK3.wf | refine hwf_cons ?_ (by omega) trivial), by (repeat rw [hget_cons, if_neg (by omega)]); exact gR3, by (repeat rw [hget_cons, if_neg (by omega)]); exact gD3, by simp [hget_cons]⟩⟩, Sub.same (by simp only [List.take_zero, List.foldl_nil, LB, subS, subH, wfS, wfH, SV.ren, renL, SObj.ren, SV.wf, SObj.wf, wfL, SV.known, Nat.reduceEqDiff, ↓reduceIte, if_true, if_false, eq_self, Nat.reduceAdd, Nat.reduceLT, Nat.reduceLeDiff, implies_true, reduceCtorEq, forall_const]; try rfl) (by simp [subS, subH, wfS, wfH, SV.ren, renL, SObj.ren, SV.wf, SObj.wf, wfL, sget_cons, hget_cons] <;> omega) (by dsimp only; (repeat first | exact hwf_mono (by omega) hK3.wf | refine hwf_cons ?_ (by omega) trivial)) (show 1 ≤ n3 + 4 + 1 by omega)⟩
            · rintro ⟨q, H4, n4⟩ ⟨hq, hL⟩
              simp only at hq hL
              have lt1 := hL.lt
              have gr := hL.r
              have gd := hL.d
              have gg := hL.g
              have d1 : (n1 = n4) = False := by simp; omega
              have d2 : (n1 + 1 = n4) = False := by simp; omega
              have lenQ : (Q ++ j3).length = c3 * 2 := by rw [List.length_append]; omega
              have qb := few_bd D u ((sucL D u R).take q) i f3
              by_cases hqn : q < np
              · have hql : (q : Int) < np := by omega
                obtain ⟨a, b, ha, hb', hc, ga, gb⟩ := pairs q (by omega)
                have eP0 : (Q ++ j3).getD (q * 2) 0 = (a : Int) := by rw [getD_app _ _ _ (by omega), ga]
                have eP1 : (Q ++ j3).getD (q * 2 + 1) 0 = (b : Int) := by rw [getD_app _ _ _ (by omega), gb]
                obtain ⟨x24, xf, mp, mne, m1, m2⟩ := for_suc hR hD f1 ha hb' hc
                obtain ⟨pb1, pb2⟩ := pbyB_of f1 f2 ha hb' mp
                have ex := sgd q hqn
                rw [ga, gb] at ex
                have nx := fold_next D u (i : Int) (L := sucL D u R) (q := q) (by omega)
                rw [ex] at nx
                obtain ⟨X, hX⟩ : ∃ X, sucP R D u a b = X := ⟨_, rfl⟩
                rw [hX] at nx pb2 x24
                have tkx : X.take 24 = X := List.take_of_length_le (by omega)
                obtain ⟨B, hBq⟩ : ∃ B, ((sucL D u R).take q).foldl (stB D u) (i : Int) = B := ⟨_, rfl⟩
                rw [hBq] at nx qb
                cases hfx : fwO X D u with
                | none =>
                  have isx : (none : Option Nat).isSome = false := rfl
                  have st : stB D u B X = B := by unfold stB; rw [hfx]; exact if_neg (by simp)
                  rw [st] at nx
                  simp -implicitDefEqProofs only [lk_normal, hql, eP0, eP1, lenQ, pb1, pb2, x24, tkx, hfx, isx, hBq, rBig_F, FewestBy_F, sFewestBy_F, ReachBy_F, sReachBy_F, rPairs3_F, IsSorted_F, PourBy_F, PoursBy_F, sPoursBy_F, freshK_nil, freshK_ne, freshK_f, Wrap.ap, hkm, d1, d2, gr, gd, gg, hR, tkR, hD, tkD, Nat.add_assoc, add_self, self_add, add_add, List.getD_cons_zero, List.getD_cons_succ, ZB, Int.reduceToNat, Nat.reduceLT, Nat.reduceLeDiff, Int.reduceLE, Int.reduceLT, Nat.reduceEqDiff, Nat.reduceSub, SB, SV.known, packR, ne_eq, reduceCtorEq, Nat.reduceEqDiff, ↓reduceIte, if_true, if_false, eq_self, Nat.reduceAdd, Nat.reduceMul, Nat.reduceSub, forall_const, oneCellS, litOne, flat1, Kd.isSca, flat, TYB]
                  exact ⟨by omega, by omega, by omega, by omega, by omega, by unfold In64; omega, (q + 1, _, n4 + 1), ⟨by show q + 1 ≤ np; omega, hL.push⟩, by show np - (q + 1) < np - q; omega, Sub.same (by simp only [nx, LB, subS, subH, wfS, wfH, SV.ren, renL, SObj.ren, SV.wf, SObj.wf, wfL, SV.known, Nat.reduceEqDiff, ↓reduceIte, if_true, if_false, eq_self, Nat.reduceAdd, Nat.reduceLT, Nat.reduceLeDiff, implies_true, reduceCtorEq, forall_const]; try rfl) (by simp [subS, subH, wfS, wfH, SV.ren, renL, SObj.ren, SV.wf, SObj.wf, wfL, sget_cons, hget_cons] <;> omega) hL.push.wf (show 1 ≤ n4 + 1 by omega)⟩
                | some m =>
                  have isx : (some m).isSome = true := rfl
                  have ffx : fwF (some m) = (m : Int) := rfl
                  by_cases hlt : (m : Int) < B
                  · have st : stB D u B X = m := by unfold stB; rw [hfx]; exact if_pos ⟨rfl, hlt⟩
                    rw [st] at nx
                    simp -implicitDefEqProofs only [lk_normal, hql, eP0, eP1, lenQ, pb1, pb2, x24, tkx, hfx, isx, ffx, hlt, hBq, rBig_F, FewestBy_F, sFewestBy_F, ReachBy_F, sReachBy_F, rPairs3_F, IsSorted_F, PourBy_F, PoursBy_F, sPoursBy_F, freshK_nil, freshK_ne, freshK_f, Wrap.ap, hkm, d1, d2, gr, gd, gg, hR, tkR, hD, tkD, Nat.add_assoc, add_self, self_add, add_add, List.getD_cons_zero, List.getD_cons_succ, ZB, Int.reduceToNat, Nat.reduceLT, Nat.reduceLeDiff, Int.reduceLE, Int.reduceLT, Nat.reduceEqDiff, Nat.reduceSub, SB, SV.known, packR, ne_eq, reduceCtorEq, Nat.reduceEqDiff, ↓reduceIte, if_true, if_false, eq_self, Nat.reduceAdd, Nat.reduceMul, Nat.reduceSub, forall_const, oneCellS, litOne, flat1, Kd.isSca, flat, TYB]
                    exact ⟨by omega, by omega, by omega, by omega, by omega, by unfold In64; omega, (q + 1, _, n4 + 1), ⟨by show q + 1 ≤ np; omega, hL.push⟩, by show np - (q + 1) < np - q; omega, Sub.same (by simp only [nx, LB, subS, subH, wfS, wfH, SV.ren, renL, SObj.ren, SV.wf, SObj.wf, wfL, SV.known, Nat.reduceEqDiff, ↓reduceIte, if_true, if_false, eq_self, Nat.reduceAdd, Nat.reduceLT, Nat.reduceLeDiff, implies_true, reduceCtorEq, forall_const]; try rfl) (by simp [subS, subH, wfS, wfH, SV.ren, renL, SObj.ren, SV.wf, SObj.wf, wfL, sget_cons, hget_cons] <;> omega) hL.push.wf (show 1 ≤ n4 + 1 by omega)⟩
                  · have st : stB D u B X = B := by unfold stB; rw [hfx]; exact if_neg (fun h => hlt h.2)
                    rw [st] at nx
                    simp -implicitDefEqProofs only [lk_normal, hql, eP0, eP1, lenQ, pb1, pb2, x24, tkx, hfx, isx, ffx, hlt, hBq, rBig_F, FewestBy_F, sFewestBy_F, ReachBy_F, sReachBy_F, rPairs3_F, IsSorted_F, PourBy_F, PoursBy_F, sPoursBy_F, freshK_nil, freshK_ne, freshK_f, Wrap.ap, hkm, d1, d2, gr, gd, gg, hR, tkR, hD, tkD, Nat.add_assoc, add_self, self_add, add_add, List.getD_cons_zero, List.getD_cons_succ, ZB, Int.reduceToNat, Nat.reduceLT, Nat.reduceLeDiff, Int.reduceLE, Int.reduceLT, Nat.reduceEqDiff, Nat.reduceSub, SB, SV.known, packR, ne_eq, reduceCtorEq, Nat.reduceEqDiff, ↓reduceIte, if_true, if_false, eq_self, Nat.reduceAdd, Nat.reduceMul, Nat.reduceSub, forall_const, oneCellS, litOne, flat1, Kd.isSca, flat, TYB]
                    exact ⟨by omega, by omega, by omega, by omega, by omega, by unfold In64; omega, (q + 1, _, n4 + 1), ⟨by show q + 1 ≤ np; omega, hL.push⟩, by show np - (q + 1) < np - q; omega, Sub.same (by simp only [nx, LB, subS, subH, wfS, wfH, SV.ren, renL, SObj.ren, SV.wf, SObj.wf, wfL, SV.known, Nat.reduceEqDiff, ↓reduceIte, if_true, if_false, eq_self, Nat.reduceAdd, Nat.reduceLT, Nat.reduceLeDiff, implies_true, reduceCtorEq, forall_const]; try rfl) (by simp [subS, subH, wfS, wfH, SV.ren, renL, SObj.ren, SV.wf, SObj.wf, wfL, sget_cons, hget_cons] <;> omega) hL.push.wf (show 1 ≤ n4 + 1 by omega)⟩
              · have hql : ¬ (q : Int) < np := by omega
                obtain rfl : q = np := by omega
                have tq : (sucL D u R).take q = sucL D u R := List.take_of_length_le (by omega)
                simp -implicitDefEqProofs only [lk_normal, hql, tq, best, rBig_F, FewestBy_F, sFewestBy_F, ReachBy_F, sReachBy_F, rPairs3_F, IsSorted_F, PourBy_F, PoursBy_F, sPoursBy_F, freshK_nil, freshK_ne, freshK_f, Wrap.ap, hkm, d1, d2, gr, gd, gg, hR, tkR, hD, tkD, Nat.add_assoc, add_self, self_add, add_add, List.getD_cons_zero, List.getD_cons_succ, ZB, Int.reduceToNat, Nat.reduceLT, Nat.reduceLeDiff, Int.reduceLE, Int.reduceLT, Nat.reduceEqDiff, Nat.reduceSub, SB, SV.known, packR, ne_eq, reduceCtorEq, Nat.reduceEqDiff, ↓reduceIte, if_true, if_false, eq_self, Nat.reduceAdd, Nat.reduceMul, Nat.reduceSub, forall_const, oneCellS, litOne, flat1, Kd.isSca, flat, TYB]
                unfold In64; omega
          · skip
            simp -implicitDefEqProofs only [hn, hb, hk0, is, ff, hfw, hr, hs, i0, i3, f1, f2, hQ, hQn, eQ, rBig_F, FewestBy_F, sFewestBy_F, ReachBy_F, sReachBy_F, rPairs3_F, IsSorted_F, PourBy_F, PoursBy_F, sPoursBy_F, freshK_nil, freshK_ne, freshK_f, Wrap.ap, hkm, hS, tkS, hE, tkE, hT, tkT, hF, tkF, hR, tkR, hD, tkD, gS3, gE3, gR3, gD3, a1, a2, a3, a4, b1, b2, b3, b4, hP, eg, z0, Nat.add_assoc, add_self, self_add, add_add, List.getD_cons_zero, List.getD_cons_succ, ZB, Int.reduceToNat, Nat.reduceLT, Nat.reduceLeDiff, Int.reduceLE, Int.reduceLT, Nat.reduceEqDiff, Nat.reduceSub, SB, SV.known, packR, ne_eq, reduceCtorEq, Nat.reduceEqDiff, ↓reduceIte, if_true, if_false, eq_self, Nat.reduceAdd, Nat.reduceMul, Nat.reduceSub, forall_const, oneCellS, litOne, flat1, Kd.isSca, flat, TYB]
            refine ⟨by omega, fun c1 j1 r1 c2 j2 r2 => ⟨pA2 hg hg36, ?_⟩⟩
            refine fun c3 j3 r3 => ?_
            refine loop_introN (fun s : Nat × Heap × Nat => [(32, .int s.1), (31, .int (((sucL D u R).take s.1).foldl (stB D u) (i : Int))), (30, .bool true), (29, .slice (n3 + 4) 0 np c3), (6, .int i), (5, .int u), (4, .ptr (n1 + 1) 0), (3, .ptr n1 0)]) (fun s => s.2.1) (fun s => s.2.2)
              (fun s => s.1 ≤ np ∧ LpS n1 (n3 + 4) R D (Q ++ j3) s.2.1 s.2.2) (fun s => np - s.1) ?_ ?_
            · exact ⟨(0, _, n3 + 4 + 1), ⟨Nat.zero_le _, ⟨by dsimp only; omega, by dsimp only; (repeat first | exact hwf_mono (by omega) hK3.wf | refine hwf_cons ?_ (by omega) trivial), by (repeat rw [hget_cons, if_neg (by omega)]); exact gR3, by (repeat rw [hget_cons, if_neg (by omega)]); exact gD3, by simp [hget_cons]⟩⟩, Sub.same (by simp only [List.take_zero, List.foldl_nil, LB, subS, subH, wfS, wfH, SV.ren, renL, SObj.ren, SV.wf, SObj.wf, wfL, SV.known, Nat.reduceEqDiff, ↓reduceIte, if_true, if_false, eq_self, Nat.reduceAdd, Nat.reduceLT, Nat.reduceLeDiff, implies_true, reduceCtorEq, forall_const]; try rfl) (by simp [subS, subH, wfS, wfH, SV.ren, renL, SObj.ren, SV.wf, SObj.wf, wfL, sget_cons, hget_cons] <;> omega) (by dsimp only; (repeat first | exact hwf_mono (by omega) hK3.wf | refine hwf_cons ?_ (by omega) trivial)) (show 1 ≤ n3 + 4 + 1 by omega)⟩
            · rintro ⟨q, H4, n4⟩ ⟨hq, hL⟩
              simp only at hq hL
              have lt1 := hL.lt
              have gr := hL.r
              have gd := hL.d
              have gg := hL.g
              have d1 : (n1 = n4) = False := by simp; omega
              have d2 : (n1 + 1 = n4) = False := by simp; omega
              have lenQ : (Q ++ j3).length = c3 * 2 := by rw [List.length_append]; omega
              have qb := few_bd D u ((sucL D u R).take q) i f3
              by_cases hqn : q < np
              · have hql : (q : Int) < np := by omega
                obtain ⟨a, b, ha, hb', hc, ga, gb⟩ := pairs q (by omega)
                have eP0 : (Q ++ j3).getD (q * 2) 0 = (a : Int) := by rw [getD_app _ _ _ (by omega), ga]
                have eP1 : (Q ++ j3).getD (q * 2 + 1) 0 = (b : Int) := by rw [getD_app _ _ _ (by omega), gb]
                obtain ⟨x24, xf, mp, mne, m1, m2⟩ := for_suc hR hD f1 ha hb' hc
                obtain ⟨pb1, pb2⟩ := pbyB_of f1 f2 ha hb' mp
                have ex := sgd q hqn
                rw [ga, gb] at ex
                have nx := fold_next D u (i : Int) (L := sucL D u R) (q := q) (by omega)
                rw [ex] at nx
                obtain ⟨X, hX⟩ : ∃ X, sucP R D u a b = X := ⟨_, rfl⟩
                rw [hX] at nx pb2 x24
                have tkx : X.take 24 = X := List.take_of_length_le (by omega)
                obtain ⟨B, hBq⟩ : ∃ B, ((sucL D u R).take q).foldl (stB D u) (i : Int) = B := ⟨_, rfl⟩
                rw [hBq] at nx qb
                cases hfx : fwO X D u with
                | none =>
                  have isx : (none : Option Nat).isSome = false := rfl
                  have st : stB D u B X = B := by unfold stB; rw [hfx]; exact if_neg (by simp)
                  rw [st] at nx
                  simp -implicitDefEqProofs only [lk_normal, hql, eP0, eP1, lenQ, pb1, pb2, x24, tkx, hfx, isx, hBq, rBig_F, FewestBy_F, sFewestBy_F, ReachBy_F, sReachBy_F, rPairs3_F, IsSorted_F, PourBy_F, PoursBy_F, sPoursBy_F, freshK_nil, freshK_ne, freshK_f, Wrap.ap, hkm, d1, d2, gr, gd, gg, hR, tkR, hD, tkD, Nat.add_assoc, add_self, self_add, add_add, List.getD_cons_zero, List.getD_cons_succ, ZB, Int.reduceToNat, Nat.reduceLT, Nat.reduceLeDiff, Int.reduceLE, Int.reduceLT, Nat.reduceEqDiff, Nat.reduceSub, SB, SV.known, packR, ne_eq, reduceCtorEq, Nat.reduceEqDiff, ↓reduceIte, if_true, if_false, eq_self, Nat.reduceAdd, Nat.reduceMul, Nat.reduceSub, forall_const, oneCellS, litOne, flat1, Kd.isSca, flat, TYB]
                  exact ⟨by omega, by omega, by omega, by omega, by omega, by unfold In64; omega, (q + 1, _, n4 + 1), ⟨by show q + 1 ≤ np; omega, hL.push⟩, by show np - (q + 1) < np - q; omega, Sub.same (by simp only [nx, LB, subS, subH, wfS, wfH, SV.ren, renL, SObj.ren, SV.wf, SObj.wf, wfL, SV.known, Nat.reduceEqDiff, ↓reduceIte, if_true, if_false, eq_self, Nat.reduceAdd, Nat.reduceLT, Nat.reduceLeDiff, implies_true, reduceCtorEq, forall_const]; try rfl) (by simp [subS, subH, wfS, wfH, SV.ren, renL, SObj.ren, SV.wf, SObj.wf, wfL, sget_cons, hget_cons] <;> omega) hL.push.wf (show 1 ≤ n4 + 1 by omega)⟩
                | some m =>
                  have isx : (some m).isSome = true := rfl
                  have ffx : fwF (some m) = (m : Int) := rfl
                  by_cases hlt : (m : Int) < B
                  · have st : stB D u B X = m := by unfold stB; rw [hfx]; exact if_pos ⟨rfl, hlt⟩
                    rw [st] at nx
                    simp -implicitDefEqProofs only [lk_normal, hql, eP0, eP1, lenQ, pb1, pb2, x24, tkx, hfx, isx, ffx, hlt, hBq, rBig_F, FewestBy_F, sFewestBy_F, ReachBy_F, sReachBy_F, rPairs3_F, IsSorted_F, PourBy_F, PoursBy_F, sPoursBy_F, freshK_nil, freshK_ne, freshK_f, Wrap.ap, hkm, d1, d2, gr, gd, gg, hR, tkR, hD, tkD, Nat.add_assoc, add_self, self_add, add_add, List.getD_cons_zero, List.getD_cons_succ, ZB, Int.reduceToNat, Nat.reduceLT, Nat.reduceLeDiff, Int.reduceLE, Int.reduceLT, Nat.reduceEqDiff, Nat.reduceSub, SB, SV.known, packR, ne_eq, reduceCtorEq, Nat.reduceEqDiff, ↓reduceIte, if_true, if_false, eq_self, Nat.reduceAdd, Nat.reduceMul, Nat.reduceSub, forall_const, oneCellS, litOne, flat1, Kd.isSca, flat, TYB]
                    exact ⟨by omega, by omega, by omega, by omega, by omega, by unfold In64; omega, (q + 1, _, n4 + 1), ⟨by show q + 1 ≤ np; omega, hL.push⟩, by show np - (q + 1) < np - q; omega, Sub.same (by simp only [nx, LB, subS, subH, wfS, wfH, SV.ren, renL, SObj.ren, SV.wf, SObj.wf, wfL, SV.known, Nat.reduceEqDiff, ↓reduceIte, if_true, if_false, eq_self, Nat.reduceAdd, Nat.reduceLT, Nat.reduceLeDiff, implies_true, reduceCtorEq, forall_const]; try rfl) (by simp [subS, subH, wfS, wfH, SV.ren, renL, SObj.ren, SV.wf, SObj.wf, wfL, sget_cons, hget_cons] <;> omega) hL.push.wf (show 1 ≤ n4 + 1 by omega)⟩
                  · have st : stB D u B X = B := by unfold stB; rw [hfx]; exact if_neg (fun h => hlt h.2)
                    rw [st] at nx
                    simp -implicitDefEqProofs only [lk_normal, hql, eP0, eP1, lenQ, pb1, pb2, x24, tkx, hfx, isx, ffx, hlt, hBq, rBig_F, FewestBy_F, sFewestBy_F, ReachBy_F, sReachBy_F, rPairs3_F, IsSorted_F, PourBy_F, PoursBy_F, sPoursBy_F, freshK_nil, freshK_ne, freshK_f, Wrap.ap, hkm, d1, d2, gr, gd, gg, hR, tkR, hD, tkD, Nat.add_assoc, add_self, self_add, add_add, List.getD_cons_zero, List.getD_cons_succ, ZB, Int.reduceToNat, Nat.reduceLT, Nat.reduceLeDiff, Int.reduceLE, Int.reduceLT, Nat.reduceEqDiff, Nat.reduceSub, SB, SV.known, packR, ne_eq, reduceCtorEq, Nat.reduceEqDiff, ↓reduceIte, if_true, if_false, eq_self, Nat.reduceAdd, Nat.reduceMul, Nat.reduceSub, forall_const, oneCellS, litOne, flat1, Kd.isSca, flat, TYB]
                    exact ⟨by omega, by omega, by omega, by omega, by omega, by unfold In64; omega, (q + 1, _, n4 + 1), ⟨by show q + 1 ≤ np; omega, hL.push⟩, by show np - (q + 1) < np - q; omega, Sub.same (by simp only [nx, LB, subS, subH, wfS, wfH, SV.ren, renL, SObj.ren, SV.wf, SObj.wf, wfL, SV.known, Nat.reduceEqDiff, ↓reduceIte, if_true, if_false, eq_self, Nat.reduceAdd, Nat.reduceLT, Nat.reduceLeDiff, implies_true, reduceCtorEq, forall_const]; try rfl) (by simp [subS, subH, wfS, wfH, SV.ren, renL, SObj.ren, SV.wf, SObj.wf, wfL, sget_cons, hget_cons] <;> omega) hL.push.wf (show 1 ≤ n4 + 1 by omega)⟩
              · have hql : ¬ (q : Int) < np := by omega
                obtain rfl : q = np := by omega
                have tq : (sucL D u R).take q = sucL D u R := List.take_of_length_le (by omega)
                simp -implicitDefEqProofs only [lk_normal, hql, tq, best, rBig_F, FewestBy_F, sFewestBy_F, ReachBy_F, sReachBy_F, rPairs3_F, IsSorted_F, PourBy_F, PoursBy_F, sPoursBy_F, freshK_nil, freshK_ne, freshK_f, Wrap.ap, hkm, d1, d2, gr, gd, gg, hR, tkR, hD, tkD, Nat.add_assoc, add_self, self_add, add_add, List.getD_cons_zero, List.getD_cons_succ, ZB, Int.reduceToNat, Nat.reduceLT, Nat.reduceLeDiff, Int.reduceLE, Int.reduceLT, Nat.reduceEqDiff, Nat.reduceSub, SB, SV.known, packR, ne_eq, reduceCtorEq, Nat.reduceEqDiff, ↓reduceIte, if_true, if_false, eq_self, Nat.reduceAdd, Nat.reduceMul, Nat.reduceSub, forall_const, oneCellS, litOne, flat1, Kd.isSca, flat, TYB]
                unfold In64; omega

theorem lawFnFewRules (L : List Int) (off len cap : Nat) (_ : len ≤ cap) (_ : cap ≤ maxLen) (hLl : L.length = len) (hLb : ∀ x ∈ L, 0 ≤ x ∧ x ≤ 255) :
    PureH Try.prog 5 [.slice 0 off len cap] [(0, .winU off L)] (.bool true) := by
  by_cases hbig : (65536 : Int) < (len : Int)
  · refine pure_of_vc (X := ⟨Try.prog, tys, [(7, rBig_F)], [], true, true, 1, [], []⟩) fn_5 ⟨tys_ok, (.cons rBig_T .nil), .nil, mixed⟩ (n0 := 1) (Nat.le_of_ble_eq_true rfl) (by simp [wfL, SV.wf]) (wfH_spec (by simp [wfH, SObj.wf])) (Nat.le_refl _) (fun _ => by simp [SV.wf, wfL]) ?_
    simp -implicitDefEqProofs only [Try.f5, Option.getD_some, argS, rBig_F, hbig, ZB, Int.reduceToNat, Nat.reduceLT, Nat.reduceLeDiff, Int.reduceLE, Int.reduceLT, Nat.reduceEqDiff, Nat.reduceSub, SB, SV.known, packR, ne_eq, reduceCtorEq, Nat.reduceEqDiff, ↓reduceIte, if_true, if_false, eq_self, Nat.reduceAdd, Nat.reduceMul, Nat.reduceSub, forall_const, oneCellS, litOne, flat1, Kd.isSca, flat, TYB]
  · refine pure_of_vc (X := ⟨Try.prog, tys, [(7, rBig_F), (44, FewestBy_F), (45, sFewestBy_F), (47, ReachBy_F), (48, sReachBy_F), (12, rPairs3_F), (51, IsSorted_F), (26, PourBy_F)], [(43, DrawFewestBy_F), (46, DrawReachBy_F), (49, DrawPoursBy_F), (41, PoursBy_F), (50, sPoursBy_F)], true, true, 1, [], []⟩) (show FnOK Try.prog 5 Try.f5 (Try.f5.body.getD .skip) [] [] from ⟨Try.func5, rfl, by kernel_rfl, by kernel_rfl⟩) ⟨tys_ok, (.cons rBig_T (.cons FewestBy_T (.cons sFewestBy_T (.cons ReachBy_T (.cons sReachBy_T (.cons rPairs3_T (.cons IsSorted_T (.cons PourBy_T .nil)))))))), (.cons DrawFewestBy_T (.cons DrawReachBy_T (.cons DrawPoursBy_T (.cons PoursBy_T (.cons sPoursBy_T .nil))))), mixed⟩ (n0 := 1) (Nat.le_of_ble_eq_true rfl) (by simp [wfL, SV.wf]) (wfH_spec (by simp [wfH, SObj.wf])) (Nat.le_refl _) (fun _ => by simp [SV.wf, wfL]) ?_
    exact lawFnFewRules_vc _ _ (.inr ⟨0, off, len, cap, L, rfl, by simp [hget_cons], hLl, by omega, hLb⟩) (by simp [rBig_F, hget_cons, hbig]) rfl (wfH_spec (by simp [wfH, SObj.wf]))
theorem lawFnFewRulesN : PureH Try.prog 5 [.nils] [] (.bool true) := by
  · refine pure_of_vc (X := ⟨Try.prog, tys, [(7, rBig_F), (44, FewestBy_F), (45, sFewestBy_F), (47, ReachBy_F), (48, sReachBy_F), (12, rPairs3_F), (51, IsSorted_F), (26, PourBy_F)], [(43, DrawFewestBy_F), (46, DrawReachBy_F), (49, DrawPoursBy_F), (41, PoursBy_F), (50, sPoursBy_F)], true, true, 1, [], []⟩) (show FnOK Try.prog 5 Try.f5 (Try.f5.body.getD .skip) [] [] from ⟨Try.func5, rfl, by kernel_rfl, by kernel_rfl⟩) ⟨tys_ok, (.cons rBig_T (.cons FewestBy_T (.cons sFewestBy_T (.cons ReachBy_T (.cons sReachBy_T (.cons rPairs3_T (.cons IsSorted_T (.cons PourBy_T .nil)))))))), (.cons DrawFewestBy_T (.cons DrawReachBy_T (.cons DrawPoursBy_T (.cons PoursBy_T (.cons sPoursBy_T .nil))))), mixed⟩ (n0 := 1) (Nat.le_of_ble_eq_true rfl) (by simp [wfL, SV.wf]) (wfH_spec (by simp [wfH, SObj.wf])) (Nat.le_refl _) (fun _ => by simp [SV.wf, wfL]) ?_
    exact lawFnFewRules_vc _ _ (.inl rfl) (by simp [rBig_F]) rfl (wfH_spec (by simp [wfH, SObj.wf]))
end Go.Proofs.Ytopfnkmlgcjpbaa
set_option maxRecDepth 100000
set_option linter.unusedSimpArgs false
set_option linter.unusedVariables false
namespace Go.Proofs.Ytopfnkmlgcjpbaa
open Go Go.RowKit Go.ChangeShapes Go.WideShapes Go.ChangeAt

theorem own_knob : ownKnob Try.prog.godebug = none := by kernel_rfl
theorem laid_out : laidOutB Try.prog = true := by kernel_rfl

theorem trodAll_below {H : Type} {enc : TypeId × Value → H} {W W' : World} (hb : Below W.heap.size W W') : ∀ {ts : List TypeId} {vs : List Value} {ds : List (DataW H)} {ps : List MemPlace}, DataW.TrodAll enc Try.prog W 0 (fun _ => true) true ts vs ds ps →
    (∀ t ∈ ts, Try.prog.readableRec t = true ∧ t < Try.prog.types.size) → (∀ x ∈ ps, x.block < W.heap.size) → DataW.TrodAll enc Try.prog W' 0 (fun b => decide (b < W.heap.size)) true ts vs ds ps
  | [], vs, ds, ps, h, _, _ => by
    obtain ⟨rfl, rfl, rfl⟩ := trodAll_nil h
    exact trodAll_mk0
  | t :: ts, vs, ds, ps, h, hr, hp => by
    obtain ⟨v0, vs0, d0, ds0, p0, q0, rfl, rfl, rfl, h0, r0⟩ := trodAll_cons h
    exact trodAll_cons_mk (Below.trod laid_out (hr t (by simp)).1 (hr t (by simp)).2 h0 hb fun x hx => hp x (by simp [hx])) (trodAll_below hb r0 (fun t' ht' => hr t' (by simp [ht'])) fun x hx => hp x (by simp [hx]))

theorem law_post {H : Type} {enc : TypeId × Value → H} {f : Func} {s : ChangeSpec} {W W' : World} {args : Array Value} {ds gs : List (DataW H)} {before : List MemPlace} (hb : Below W.heap.size W W') (hW : DataW.Whole enc Try.prog f.params.toList s.vars false W args.toList ds gs before)
    (hv : s.vars = []) (hrt : f.resultTypes = #[4]) (hs1 : (s.fn H (ds ++ gs)).results = [.lit (.bool true)]) (hs2 : (s.fn H (ds ++ gs)).args = ds) (hs3 : (s.fn H (ds ++ gs)).vars = []) (hr : ∀ t ∈ f.params.toList, Try.prog.readableRec t = true ∧ t < Try.prog.types.size) :
    s.post enc Try.prog f false true false false W args (.bool true) W' := by
  have hW' := hW
  obtain ⟨p, q, hA, hV, rfl, hfz, hnd⟩ := hW
  rw [hv] at hV
  obtain ⟨rfl, rfl⟩ := trodVars_none hV
  refine ⟨ds, _, _, [], p, [], hW', ?_, ?_, ?_, hb.frame _, fun h => by cases h⟩
  · rw [hs1, hrt]
    exact trodAll_cons_mk (shut_bool Try.underlying4 true) trodAll_mk0
  · rw [hs2]
    exact trodAll_below hb hA hr fun x hx => by simpa using hW'.lt x (by simpa using hx)
  · rw [hv, hs3]
    rfl
end Go.Proofs.Ytopfnkmlgcjpbaa
set_option maxRecDepth 100000
set_option linter.unusedSimpArgs false
set_option linter.unusedVariables false
namespace Go.Proofs.Ytopfnkmlgcjpbaa
open Go Go.RowKit Go.ChangeShapes Go.WideShapes Go.ChangeAt

theorem add_off (b o n : Nat) : (Addr.mk b o none).add n = ⟨b, o + n, none⟩ := by
  unfold Addr.add
  split
  · rename_i h; rw [h]; rfl
  · rfl
def intOf (v : Option Value) : Int := match v with
  | some (.int _ n) => n
  | _ => 0
end Go.Proofs.Ytopfnkmlgcjpbaa
set_option maxRecDepth 100000
set_option linter.unusedSimpArgs false
set_option linter.unusedVariables false
namespace Go.Proofs.Ytopfnkmlgcjpbaa
open Go Go.RowKit Go.ChangeShapes Go.WideShapes Go.ChangeAt
/-- An argument that is a slice of bytes. -/
theorem open_by {H : Type} {enc : TypeId × Value → H} {W : World} {b0 : Nat} {sp : Nat → Bool} {held : Bool} {t e : Nat} {v : Value} {d : DataW H} {ps : List MemPlace} (ht : Try.prog.underlying t = some (.slice e)) (hc : Try.prog.cellsOf e = 1) (he : Try.prog.underlying e = some (.int .u8))
    (hval : Value.okWide Try.prog W .any b0 t v) (hd : DataW.Trod enc Try.prog W 0 sp held t v d ps) :
    v = .slice none 0 0 ∨ ∃ (b off len cap : Nat) (L : List Int), v = .slice (some ⟨b, off, none⟩) len cap ∧ len ≤ cap ∧ cap ≤ maxLen ∧ L.length = len ∧ (∀ x ∈ L, 0 ≤ x ∧ x ≤ 255) ∧ SObj.sat (fun _ => b) W b (.winU off L) := by
  unfold Value.okWide at hval
  rw [ht] at hval
  simp only [Cell.okWide] at hval
  rw [ht] at hval
  obtain ⟨fuel, hd⟩ := hd
  rcases DataW.trod_slice ht hd with ⟨h0, _⟩ | ⟨a, len, cap, elems, rest, n, _, hcs, _, _, hl, hm, hlen, hel, _⟩
  · left
    cases v <;> simp_all [Value.cells, Cell.ok]
  · right
    have hv : v = .slice (some a) len cap := by
      cases v <;> simp_all [Value.cells, Cell.ok]
    subst hv
    simp only [Cell.ok, ht] at hval
    obtain ⟨_, _, _, hsp, row, cells, hshape, _⟩ := hval
    obtain ⟨b, off, spot⟩ := a
    simp only at hsp hshape
    subst hsp
    unfold World.shape? at hshape
    split at hshape
    · rename_i c el fz hb
      have each : ∀ k, k < len → ∃ n, c[off + k]? = some (.int .u8 n) ∧ (0 ≤ n ∧ n ≤ 255) := by
        intro k hk
        have h1 := hel k hk
        obtain ⟨y, hy⟩ : ∃ y, elems[k]? = some y := ⟨elems[k]'(by omega), List.getElem?_eq_getElem (by omega)⟩
        rw [hy, hc, Option.bind_eq_some_iff] at h1
        obtain ⟨cs, hcs, h1⟩ := h1
        obtain ⟨m, rfl, _, hw⟩ := DataW.trod_int he h1
        have h2 := (World.cells?_some hcs).2.2 0 (by omega)
        rw [add_off, add_off] at h2
        unfold World.cell? at h2
        simp only [hb] at h2
        refine ⟨m, by simpa using h2, by simpa [Lit.wf, IntKind.min, IntKind.max, IntKind.signed, IntKind.bits] using hw⟩
      refine ⟨b, off, len, cap, (List.range len).map fun k => intOf c[off + k]?, rfl, hl, hm, by simp, fun x hx => ?_, c, el, fz, hb, fun i hi => ?_⟩
      · obtain ⟨k, hk, rfl⟩ := List.mem_map.1 hx
        obtain ⟨m, h1, h2⟩ := each k (List.mem_range.1 hk)
        rw [h1]; exact h2
      · simp at hi
        obtain ⟨m, h1, h2⟩ := each i hi
        rw [h1]
        simp [List.getD, hi, h1, intOf]
    · cases hshape
theorem HR.winU_one {b off : Nat} {L : List Int} {W : World} (h : SObj.sat (fun _ => b) W b (.winU off L)) : HR (fun _ => b) [(0, .winU off L)] W where
  at_ := fun k o hk _ => by
    rw [hget_cons] at hk
    split at hk
    · cases hk; exact h
    · cases hk
  inj := fun k j o o' h1 _ h2 _ _ => by
    rw [hget_cons] at h1 h2
    split at h1
    · split at h2
      · omega
      · cases h2
    · cases h1
end Go.Proofs.Ytopfnkmlgcjpbaa
