/- Walks: certain pours of a view. -/
import Derived.Test.YtfdpeenamkpcbaaCS
import Derived.Test.YtfdpeenamkpcbaaGL
set_option maxRecDepth 100000
set_option linter.unusedSimpArgs false
set_option linter.unusedVariables false
namespace Go.Proofs.Ytfdpeenamkpcbaa
open Go Go.RowKit
def vcan (V : List Int) (i j : Nat) : Bool := !decide ((i : Int) = j) && decide (0 < V.getD i 0) && decide (V.getD (6 + j) 0 < 4) && (decide (V.getD j 0 = 0) || decide (V.getD j 0 = V.getD i 0))
--@tbl vcanPour = (impl.View).canPour
theorem vcanPour_ok (V : List Int) (i j : Nat) (hV : V.length = 18) (hi : i < 6) (hj : j < 6) : PureH Try.prog 64 [.arr V, .int i, .int j] [] (.bool (vcan V i j)) := by
  have tkV : V.take 18 = V := List.take_of_length_le (by omega)
  have il : (i : Int) < 6 := by omega
  have jl : (j : Int) < 6 := by omega
  have i0 : 0 ≤ (i : Int) := by omega
  have j0 : 0 ≤ (j : Int) := by omega
  have i8 : i < 18 := by omega
  have j8 : j < 18 := by omega
  have j6 : 6 + j < 18 := by omega
  unfold vcan
  by_cases h1 : (i : Int) = j <;> by_cases h2 : 0 < V.getD i 0 <;> by_cases h3 : V.getD (6 + j) 0 < 4 <;> by_cases h4 : V.getD j 0 = 0
  all_goals
    refine pure_of_vc (X := ⟨Try.prog, tys, [], [], true, true, 0, [], []⟩) fn_64 ⟨tys_ok, .nil, .nil, mixed⟩ (n0 := 0) (Nat.le_of_ble_eq_true rfl) (by simp [wfL, SV.wf]) (wfH_spec (by simp [wfH, SObj.wf])) (Nat.le_refl _) (fun _ => by simp [SV.wf, wfL]) ?_
    simp -implicitDefEqProofs only [Try.f64, Option.getD_some, argS, hV, tkV, il, jl, i0, j0, i8, j8, j6, h1, h2, h3, h4, ZB, Int.reduceToNat, Nat.reduceLT, Nat.reduceLeDiff, Int.reduceLE, Int.reduceLT, Nat.reduceEqDiff, Nat.reduceSub, SB, SV.known, packR, ne_eq, reduceCtorEq, Nat.reduceEqDiff, ↓reduceIte, if_true, if_false, eq_self, Nat.reduceAdd, Nat.reduceMul, Nat.reduceSub, forall_const, oneCellS, Kd.isSca, flat, TYB]
  all_goals simp
--@tbl l7Can = spec.l7Can
theorem l7Can_ok (V : List Int) (i j : Nat) (hV : V.length = 18) (hi : i < 6) (hj : j < 6) (u1 : vTop V) (u2 : vMan V) (u3 : vTM V) : PureH Try.prog 59 [.arr V, .int i, .int j] [] (.bool (vcan V i j)) := by
  have tkV : V.take 18 = V := List.take_of_length_le (by omega)
  have il : (i : Int) < 6 := by omega
  have jl : (j : Int) < 6 := by omega
  have a1 := u3 i hi
  have a2 := u3 j hj
  have a3 := u1 i hi
  have a4 := u1 j hj
  have a5 := u2 j hj
  refine pure_of_vc (X := ⟨Try.prog, tys, [], [], true, true, 0, [], []⟩) fn_59 ⟨tys_ok, .nil, .nil, mixed⟩ (n0 := 0) (Nat.le_of_ble_eq_true rfl) (by simp [wfL, SV.wf]) (wfH_spec (by simp [wfH, SObj.wf])) (Nat.le_refl _) (fun _ => by simp [SV.wf, wfL]) ?_
  simp -implicitDefEqProofs only [Try.f59, Option.getD_some, argS, hV, tkV, il, jl, ZB, Int.reduceToNat, Nat.reduceLT, Nat.reduceLeDiff, Int.reduceLE, Int.reduceLT, Nat.reduceEqDiff, Nat.reduceSub, SB, SV.known, packR, ne_eq, reduceCtorEq, Nat.reduceEqDiff, ↓reduceIte, if_true, if_false, eq_self, Nat.reduceAdd, Nat.reduceMul, Nat.reduceSub, forall_const, oneCellS, Kd.isSca, flat, TYB]
  refine ⟨fun h => by unfold vcan; rw [decide_eq_true h]; rfl, fun h => ⟨by omega, by omega, fun h2 => ⟨by omega, by omega, fun h3 => ⟨by omega, by omega, fun h4 => ?_, fun h4 => ⟨by omega, by omega, by omega, by omega, ?_⟩⟩, fun h3 => ?_⟩, fun h2 => ?_⟩⟩
  · unfold vcan; rw [decide_eq_false h, decide_eq_true (show 0 < V.getD i 0 by omega), decide_eq_true h3, decide_eq_true (show V.getD j 0 = 0 by omega)]; rfl
  · unfold vcan; rw [decide_eq_false h, decide_eq_true (show 0 < V.getD i 0 by omega), decide_eq_true h3, decide_eq_false (show ¬ V.getD j 0 = 0 by omega)]
    simp [eq_comm]
  · unfold vcan; rw [decide_eq_false h3]; simp
  · unfold vcan; rw [decide_eq_false (show ¬ 0 < V.getD i 0 by omega)]; simp
theorem vcanPour_okI (V : List Int) (x y : Int) (hV : V.length = 18) (hx : 0 ≤ x ∧ x < 6) (hy : 0 ≤ y ∧ y < 6) : PureH Try.prog 64 [.arr V, .int x, .int y] [] (.bool (vcan V x.toNat y.toNat)) := by
  have := vcanPour_ok V x.toNat y.toNat hV (by omega) (by omega)
  rw [Int.toNat_of_nonneg hx.1, Int.toNat_of_nonneg hy.1] at this
  exact this
theorem l7Can_okI (V : List Int) (x y : Int) (hV : V.length = 18) (hx : 0 ≤ x ∧ x < 6) (hy : 0 ≤ y ∧ y < 6) (u1 : vTop V) (u2 : vMan V) (u3 : vTM V) : PureH Try.prog 59 [.arr V, .int x, .int y] [] (.bool (vcan V x.toNat y.toNat)) := by
  have := l7Can_ok V x.toNat y.toNat hV (by omega) (by omega) u1 u2 u3
  rw [Int.toNat_of_nonneg hx.1, Int.toNat_of_nonneg hy.1] at this
  exact this
def vcanPour_F : List SV → Heap → Option (Prop × SV)
  | [.arr V, .int x, .int y], _ => some (V.length = 18 ∧ (0 ≤ x ∧ x < 6) ∧ (0 ≤ y ∧ y < 6), .bool (vcan V x.toNat y.toNat))
  | _, _ => none
theorem vcanPour_T : ∀ args H p v, vcanPour_F args H = some (p, v) → p → PureH Try.prog 64 args H v := by
  intro args H p v h hp
  unfold vcanPour_F at h
  split at h
  · cases h; exact (vcanPour_okI _ _ _ hp.1 hp.2.1 hp.2.2).any _
  · cases h
def l7Can_F : List SV → Heap → Option (Prop × SV)
  | [.arr V, .int x, .int y], _ => some (V.length = 18 ∧ (0 ≤ x ∧ x < 6) ∧ (0 ≤ y ∧ y < 6) ∧ vTop V ∧ vMan V ∧ vTM V, .bool (vcan V x.toNat y.toNat))
  | _, _ => none
theorem l7Can_T : ∀ args H p v, l7Can_F args H = some (p, v) → p → PureH Try.prog 59 args H v := by
  intro args H p v h hp
  unfold l7Can_F at h
  split at h
  · cases h; exact (l7Can_okI _ _ _ hp.1 hp.2.1 hp.2.2.1 hp.2.2.2.1 hp.2.2.2.2.1 hp.2.2.2.2.2).any _
  · cases h
theorem two_blocks {P : Program} {f : FuncId} {args : List SV} {o1 o2 : SObj} {r : SV} {H : Heap} {a b : Nat} (h : PureH P f args [(0, o1), (1, o2)] r) (hab : a ≠ b) (g1 : hget H a = some o1) (g2 : hget H b = some o2) (w1 : ∀ ρ, o1.ren ρ = o1) (w2 : ∀ ρ, o2.ren ρ = o2) (hr : ∀ n, r.wf n) :
    PureH P f (renL (fun j => if j = 0 then a else b) args) H r :=
  h.sub (H := H) (fun j => if j = 0 then a else b) (fun j o hj => by
    simp only [hget_cons] at hj
    split at hj
    · rename_i hj0; cases hj; refine ⟨?_, fun _ => by omega, by simp [hj0]⟩; show hget H (if j = 0 then a else b) = _; rw [if_pos hj0, w1]; exact g1
    · rename_i hj0
      split at hj
      · rename_i hj1; cases hj; refine ⟨?_, fun _ => by omega, by simp [hj1]⟩; show hget H (if j = 0 then a else b) = _; rw [if_neg hj0, w2]; exact g2
      · cases hj) (fun x hx y hy he => by
    simp at hx hy
    rcases hx with rfl | rfl <;> rcases hy with rfl | rfl <;> simp at he <;> omega) hr
/-! Choices. -/
def chP (all : Int) (b : Nat) : Nat → Int
  | 0 => 1
  | n + 1 => chP all b n * (all - ((b + n : Nat) : Int))
def p18 : Nat → Int
  | 0 => 1
  | n + 1 => p18 n * 18
theorem p18_pos : ∀ n, 1 ≤ p18 n
  | 0 => by simp [p18]
  | n + 1 => by have := p18_pos n; unfold p18; omega
theorem p18_mono {a b : Nat} (h : a ≤ b) : p18 a ≤ p18 b := by
  induction b with
  | zero => rw [show a = 0 by omega]; exact Int.le_refl _
  | succ n ih =>
    by_cases hm : a = n + 1
    · subst hm; exact Int.le_refl _
    · have := ih (by omega)
      have := p18_pos n
      show p18 a ≤ p18 n * 18
      omega
theorem p18_four : p18 4 = 104976 := rfl
theorem p18_add (a b : Nat) : p18 a * p18 b = p18 (a + b) := by
  induction b with
  | zero => simp [p18]
  | succ n ih => rw [← Nat.add_assoc]; show p18 a * (p18 n * 18) = p18 (a + n) * 18; rw [← Int.mul_assoc, ih]
theorem chP_bd {all : Int} {b : Nat} (ha : all ≤ 18) : ∀ n, (n = 0 ∨ ((b + n : Nat) : Int) ≤ all) → 1 ≤ chP all b n ∧ chP all b n ≤ p18 n
  | 0, _ => by simp [chP, p18]
  | n + 1, h => by
    obtain ⟨g1, g2⟩ := chP_bd (b := b) ha n (by omega)
    have f1 : 1 ≤ all - ((b + n : Nat) : Int) := by omega
    have f2 : all - ((b + n : Nat) : Int) ≤ 18 := by omega
    have := mul_bd (show 0 ≤ chP all b n by omega) g2 (show 0 ≤ all - ((b + n : Nat) : Int) by omega) f2
    have m := Int.mul_le_mul_of_nonneg_right g1 (show 0 ≤ all - ((b + n : Nat) : Int) by omega)
    unfold chP p18
    omega
--@tbl tops1 = (impl.View).tops$1
theorem tops1_ok (all : Int) (m b : Nat) (ha : 0 ≤ all ∧ all ≤ 18) (hm : m ≤ 4) (hma : (m : Int) - 1 ≤ all) (hb5 : b ≤ 5) (e1 e2 : Nat) : PureH Try.prog 130 [.int b, .ptr 0 0, .ptr 1 0] [(0, .ints [(m : Int)] e1), (1, .ints [all] e2)] (.int (chP all b (m - 1 - b))) := by
  refine pure_of_vc (X := ⟨Try.prog, tys, [], [], true, true, 2, [], []⟩) fn_130 ⟨tys_ok, .nil, .nil, mixed⟩ (n0 := 2) (Nat.le_of_ble_eq_true rfl) (by simp [wfL, SV.wf]) (wfH_spec (by simp [wfH, SObj.wf])) (Nat.le_refl _) (fun _ => by simp [SV.wf, wfL]) ?_
  simp -implicitDefEqProofs only [Try.f130, Option.getD_some, argS, ZB, Int.reduceToNat, Nat.reduceLT, Nat.reduceLeDiff, Int.reduceLE, Int.reduceLT, Nat.reduceEqDiff, Nat.reduceSub, SB, SV.known, packR, ne_eq, reduceCtorEq, Nat.reduceEqDiff, ↓reduceIte, if_true, if_false, eq_self, Nat.reduceAdd, Nat.reduceMul, Nat.reduceSub, forall_const, oneCellS, Kd.isSca, flat, TYB]
  refine loop_intro (fun k : Nat => [(6, .int ((b + k : Nat) : Int)), (5, .int (chP all b k)), (1, .ptr 0 0), (2, .ptr 1 0)]) (fun k => [(0, .ints [(m : Int)] e1), (1, .ints [all] e2)]) 2 (fun k => k ≤ m - 1 - b) (fun k => 5 - k) ?_ ?_
  · refine ⟨0, ?_, Sub.mk_id ?_ ?_ ?_ ?_ ?_⟩
    all_goals (try (simp only [chP, Nat.add_zero, LB, subS, subH, wfS, wfH, SV.ren, renL, SObj.ren, SV.wf, SObj.wf, wfL, SV.known, Nat.reduceEqDiff, ↓reduceIte, if_true, if_false, eq_self, Nat.reduceAdd, Nat.reduceLT, Nat.reduceLeDiff, implies_true, reduceCtorEq, forall_const]; done))
    all_goals (try (simp only [chP, Nat.add_zero, LB, subS, subH, wfS, wfH, SV.ren, renL, SObj.ren, SV.wf, SObj.wf, wfL, SV.known, Nat.reduceEqDiff, ↓reduceIte, if_true, if_false, eq_self, Nat.reduceAdd, Nat.reduceLT, Nat.reduceLeDiff, implies_true, reduceCtorEq, forall_const]; simp; done))
    all_goals (try (simp only [chP, Nat.add_zero, LB, subS, subH, wfS, wfH, SV.ren, renL, SObj.ren, SV.wf, SObj.wf, wfL, SV.known, Nat.reduceEqDiff, ↓reduceIte, if_true, if_false, eq_self, Nat.reduceAdd, Nat.reduceLT, Nat.reduceLeDiff, implies_true, reduceCtorEq, forall_const]; (and_intros <;> (first | omega | rfl | (simp; done) | (simp; omega))); done))
    all_goals (try dsimp only)
    all_goals (and_intros <;> try (first | omega | (unfold In64; omega) | trivial | assumption))
  · intro k hk
    by_cases hlt : ((b + k : Nat) : Int) < (m : Int) - 1
    · obtain ⟨g1, g2⟩ := chP_bd (b := b) ha.2 (k + 1) (by omega)
      obtain ⟨g3, g4⟩ := chP_bd (b := b) ha.2 k (by omega)
      have pm := p18_mono (show k + 1 ≤ 4 by omega)
      rw [p18_four] at pm
      have es : chP all b (k + 1) = chP all b k * (all - ((b + k : Nat) : Int)) := rfl
      have iq : In64 (chP all b k * (all - ((b + k : Nat) : Int))) := by rw [← es]; unfold In64; omega
      have hl0 : [(m : Int)].getD 0 0 = m := rfl
      have hl1 : [all].getD 0 0 = all := rfl
      simp -implicitDefEqProofs only [lk_normal, hl0, hl1, hlt, iq, ZB, Int.reduceToNat, Nat.reduceLT, Nat.reduceLeDiff, Int.reduceLE, Int.reduceLT, Nat.reduceEqDiff, Nat.reduceSub, SB, SV.known, packR, ne_eq, reduceCtorEq, Nat.reduceEqDiff, ↓reduceIte, if_true, if_false, eq_self, Nat.reduceAdd, Nat.reduceMul, Nat.reduceSub, forall_const, oneCellS, Kd.isSca, flat, TYB]
      (try (and_intros <;> try (first | omega | (unfold In64; omega) | trivial | assumption)))
      refine ⟨k + 1, ?_, ?_, Sub.mk_id ?_ ?_ ?_ ?_ ?_⟩
      all_goals (try (simp only [es, LB, subS, subH, wfS, wfH, SV.ren, renL, SObj.ren, SV.wf, SObj.wf, wfL, SV.known, Nat.reduceEqDiff, ↓reduceIte, if_true, if_false, eq_self, Nat.reduceAdd, Nat.reduceLT, Nat.reduceLeDiff, implies_true, reduceCtorEq, forall_const]; done))
      all_goals (try (simp only [es, LB, subS, subH, wfS, wfH, SV.ren, renL, SObj.ren, SV.wf, SObj.wf, wfL, SV.known, Nat.reduceEqDiff, ↓reduceIte, if_true, if_false, eq_self, Nat.reduceAdd, Nat.reduceLT, Nat.reduceLeDiff, implies_true, reduceCtorEq, forall_const]; simp; done))
      all_goals (try (simp only [es, LB, subS, subH, wfS, wfH, SV.ren, renL, SObj.ren, SV.wf, SObj.wf, wfL, SV.known, Nat.reduceEqDiff, ↓reduceIte, if_true, if_false, eq_self, Nat.reduceAdd, Nat.reduceLT, Nat.reduceLeDiff, implies_true, reduceCtorEq, forall_const]; (and_intros <;> (first | omega | rfl | (simp; done) | (simp; omega))); done))
      all_goals (try dsimp only)
      all_goals (and_intros <;> try (first | omega | (unfold In64; omega) | trivial | assumption))
    · have ek : k = m - 1 - b := by omega
      have hl0 : [(m : Int)].getD 0 0 = m := rfl
      simp -implicitDefEqProofs only [lk_normal, hl0, hlt, ZB, Int.reduceToNat, Nat.reduceLT, Nat.reduceLeDiff, Int.reduceLE, Int.reduceLT, Nat.reduceEqDiff, Nat.reduceSub, SB, SV.known, packR, ne_eq, reduceCtorEq, Nat.reduceEqDiff, ↓reduceIte, if_true, if_false, eq_self, Nat.reduceAdd, Nat.reduceMul, Nat.reduceSub, forall_const, oneCellS, Kd.isSca, flat, TYB]
      (try (and_intros <;> try (first | omega | (unfold In64; omega) | trivial | assumption)))
      all_goals (try rw [ek])
def tops1_F : List SV → Heap → Option (Prop × SV)
  | [.int x, .ptr p 0, .ptr q 0], H => match hget H p, hget H q with
    | some (.ints [m] _), some (.ints [all] _) => some (p ≠ q ∧ (0 ≤ x ∧ x ≤ 5) ∧ (0 ≤ all ∧ all ≤ 18) ∧ (0 ≤ m ∧ m ≤ 4) ∧ m - 1 ≤ all, .int (chP all x.toNat (m.toNat - 1 - x.toNat)))
    | _, _ => none
  | _, _ => none
theorem tops1_T : ∀ args H p v, tops1_F args H = some (p, v) → p → PureH Try.prog 130 args H v := by
  intro args H p v h hp
  unfold tops1_F at h
  split at h
  · rename_i x p q
    split at h
    · rename_i m e1 all e2 g1 g2
      cases h
      obtain ⟨hpq, hx, ha, hm, hma⟩ := hp
      have := tops1_ok all m.toNat x.toNat ha (by omega) (by omega) (by omega) e1 e2
      rw [Int.toNat_of_nonneg hx.1, Int.toNat_of_nonneg hm.1] at this
      have h2 := two_blocks this hpq g1 g2 (fun _ => rfl) (fun _ => rfl) (fun _ => trivial)
      simpa [renL, SV.ren] using h2
    · cases h
  · cases h
def wyF (same : Int) : Nat → Int
  | 0 => 1
  | r + 1 => wyF same r * max (same - (r : Int)) 0
theorem wyF_bd {same : Int} (h : same ≤ 18) : ∀ r, 0 ≤ wyF same r ∧ wyF same r ≤ p18 r
  | 0 => by simp [wyF, p18]
  | r + 1 => by
    obtain ⟨g1, g2⟩ := wyF_bd h r
    have := mul_bd g1 g2 (show 0 ≤ max (same - (r : Int)) 0 by omega) (show max (same - (r : Int)) 0 ≤ 18 by omega)
    exact this
def toVal (all same : Int) (m r : Nat) : Int := if r = 0 then 0 else if r < m then wyF same (r - 1) * (all - ((r : Int) - 1) - (same - ((r : Int) - 1))) * chP all r (m - 1 - r) else if r = m then wyF same (m - 1) else 0
def toL (all same : Int) (m r : Nat) : List Int := (List.range 5).map fun q => if q ≤ r then toVal all same m q else 0
theorem toL_len (all same : Int) (m r : Nat) : (toL all same m r).length = 5 := by simp [toL]
theorem toL_get (all same : Int) (m r : Nat) {q : Nat} (h : q < 5) : (toL all same m r).getD q 0 = if q ≤ r then toVal all same m q else 0 := by simp [toL, List.getD, h]
theorem list_ext5 {L M : List Int} (hL : L.length = 5) (hM : M.length = 5) (h : ∀ q, q < 5 → L.getD q 0 = M.getD q 0) : L = M := by
  apply List.ext_getElem (by omega)
  intro q h1 h2
  have := h q (by omega)
  simp only [List.getD, List.getElem?_eq_getElem h1, List.getElem?_eq_getElem h2, Option.getD_some] at this
  exact this
theorem toL_zero (all same : Int) (m : Nat) : toL all same m 0 = List.replicate 5 0 := list_ext5 (toL_len _ _ _ _) (by simp) fun q h => by
  rw [toL_get _ _ _ _ h, List.getD_eq_getElem?_getD, List.getElem?_replicate, if_pos h]
  split
  · rw [show q = 0 by omega]; rfl
  · rfl
theorem toL_set (all same : Int) (m : Nat) {r : Nat} (h : r + 1 < 5) : (toL all same m r).set (r + 1) (toVal all same m (r + 1)) = toL all same m (r + 1) := list_ext5 (by rw [List.length_set, toL_len]) (toL_len _ _ _ _) fun q hq => by
  rw [getD_set' _ _ _ _ (by rw [toL_len]; omega), toL_get _ _ _ _ hq, toL_get _ _ _ _ hq]
  by_cases h1 : r + 1 = q
  · subst h1; rw [if_pos rfl, if_pos (by omega)]
  · rw [if_neg h1]
    by_cases h2 : q ≤ r
    · rw [if_pos h2, if_pos (by omega)]
    · rw [if_neg h2, if_neg (by omega)]
/-- What is asked of a tube of a view. -/
structure vsm (V : List Int) (i : Nat) (all same : Int) (m : Nat) : Prop where
  all_ : (hidV V).sum = all
  same_ : (hidV V).getD (V.getD i 0).toNat 0 = same
  m_ : V.getD (6 + i) 0 = m
  a : 0 ≤ all ∧ all ≤ 18
  b : 0 ≤ same ∧ same ≤ all
  c : m ≤ 4
  d : (m : Int) - 1 ≤ all
--@tbl tops = (impl.View).tops
theorem tops_ok (V : List Int) (i m : Nat) (all same : Int) (hV : V.length = 18) (hi : i < 6) (u1 : vTop V) (lenH : (hidV V).length = 6) (bH : Bd 0 24 (hidV V)) (hs : vsm V i all same m) : PureH Try.prog 108 [.arr V, .int i] [] (.tup [.arr (toL all same m m), .int (chP all 0 (m - 1))]) := by
  have tkV : V.take 18 = V := List.take_of_length_le (by omega)
  have il : (i : Int) < 6 := by omega
  have i0 : 0 ≤ (i : Int) := by omega
  have i8 : i < 18 := by omega
  have i6 : 6 + i < 18 := by omega
  have eH : hidL (V.take 6) (V.drop 12) 6 = hidV V := rfl
  have tkH : (hidV V).take 6 = hidV V := List.take_of_length_le (by omega)
  have bH2 : Bd (-1000000) 1000000 (hidV V) := fun x hx => by have := bH x hx; omega
  have t0 := u1 i hi
  have t1 : 0 ≤ V.getD i 0 := t0.1
  have t2 : V.getD i 0 < 6 := by omega
  have t3 : (V.getD i 0).toNat < 6 := by omega
  have e1 := hs.all_
  have e2 := hs.same_
  have e3 := hs.m_
  have sm : [(0 : Int)].set 0 (m : Int) = [(m : Int)] := rfl
  refine pure_of_vc (X := ⟨Try.prog, tys, [(55, hidden_F), (107, sum_F), (130, tops1_F)], [], true, true, 0, [], [(2, .holes [])]⟩) fn_108 ⟨tys_ok, (.cons hidden_T (.cons sum_T (.cons tops1_T .nil))), .nil, mixed⟩ (n0 := 0) (Nat.le_of_ble_eq_true rfl) (by simp [wfL, SV.wf]) (wfH_spec (by simp [wfH, SObj.wf])) (Nat.le_refl _) (fun _ => by simp [SV.wf, wfL]) ?_
  simp -implicitDefEqProofs only [Try.f108, Option.getD_some, argS, hidden_F, sum_F, tops1_F, hV, tkV, il, i0, i8, i6, u1, eH, lenH, tkH, bH2, t1, t2, t3, e1, e2, e3, sm, ZB, Int.reduceToNat, Nat.reduceLT, Nat.reduceLeDiff, Int.reduceLE, Int.reduceLT, Nat.reduceEqDiff, Nat.reduceSub, SB, SV.known, packR, ne_eq, reduceCtorEq, Nat.reduceEqDiff, ↓reduceIte, if_true, if_false, eq_self, Nat.reduceAdd, Nat.reduceMul, Nat.reduceSub, forall_const, oneCellS, Kd.isSca, flat, TYB]
  refine loop_intro (fun r : Nat => [(13, .int ((r : Int) + 1)), (12, .int (wyF same r)), (11, .ptr 5 0), (10, .fn 130 [.ptr 4 0, .ptr 3 0]), (9, .ptr 4 0), (8, .int same), (7, .ptr 3 0), (4, .ptr 1 0)]) (fun r => [(5, .ints (toL all same m r) 118), (4, .ints [(m : Int)] 3), (3, .ints [all] 3), (1, .ints (List.replicate 5 0) 118)]) 6 (fun r => r ≤ m) (fun r => 5 - r) ?_ ?_
  · refine ⟨0, ?_, Sub.mk_id ?_ ?_ ?_ ?_ ?_⟩
    all_goals (try (simp only [toL_zero, wyF, LB, subS, subH, wfS, wfH, SV.ren, renL, SObj.ren, SV.wf, SObj.wf, wfL, SV.known, Nat.reduceEqDiff, ↓reduceIte, if_true, if_false, eq_self, Nat.reduceAdd, Nat.reduceLT, Nat.reduceLeDiff, implies_true, reduceCtorEq, forall_const]; done))
    all_goals (try (simp only [toL_zero, wyF, LB, subS, subH, wfS, wfH, SV.ren, renL, SObj.ren, SV.wf, SObj.wf, wfL, SV.known, Nat.reduceEqDiff, ↓reduceIte, if_true, if_false, eq_self, Nat.reduceAdd, Nat.reduceLT, Nat.reduceLeDiff, implies_true, reduceCtorEq, forall_const]; simp; done))
    all_goals (try (simp only [toL_zero, wyF, LB, subS, subH, wfS, wfH, SV.ren, renL, SObj.ren, SV.wf, SObj.wf, wfL, SV.known, Nat.reduceEqDiff, ↓reduceIte, if_true, if_false, eq_self, Nat.reduceAdd, Nat.reduceLT, Nat.reduceLeDiff, implies_true, reduceCtorEq, forall_const]; (and_intros <;> (first | omega | rfl | (simp; done) | (simp; omega))); done))
    all_goals (try dsimp only)
    all_goals (and_intros <;> try (first | omega | (unfold In64; omega) | trivial | assumption))
  · intro r hr
    have hl := toL_len all same m r
    have g4 : [(m : Int)].getD 0 0 = m := rfl
    have g3 : [all].getD 0 0 = all := rfl
    have r1 : (r : Int) + 1 - 1 = r := by omega
    have wb := wyF_bd (same := same) (by have := hs.b; have := hs.a; omega) r
    have pm := p18_mono (show r ≤ 4 by have := hs.c; omega)
    rw [p18_four] at pm
    have ha := hs.a
    have hb := hs.b
    have hc := hs.c
    have hd := hs.d
    by_cases hlt : (r : Int) + 1 ≤ m
    · have tn : ((r : Int) + 1).toNat = r + 1 := by omega
      have k0 : 0 ≤ (r : Int) + 1 := by omega
      have k5 : (r : Int) + 1 < 5 := by omega
      have k5b : (r : Int) + 1 ≤ 5 := by omega
      have k5n : r + 1 < 5 := by omega
      have mm : 0 ≤ (m : Int) ∧ (m : Int) ≤ 4 := by omega
      have ar : (4 : Nat) ≠ 3 := by decide
      have ws : wyF same (r + 1) = wyF same r * max (same - (r : Int)) 0 := rfl
      have wb2 := wyF_bd (same := same) (by omega) (r + 1)
      have pm2 := p18_mono (show r + 1 ≤ 4 by omega)
      rw [p18_four] at pm2
      have i2 : In64 (wyF same r * max (same - (r : Int)) 0) := by rw [← ws]; unfold In64; omega
      have es := toL_set all same m k5n
      by_cases hl2 : (r : Int) + 1 < m
      · have ev : toVal all same m (r + 1) = wyF same r * (all - r - (same - r)) * chP all (r + 1) (m - 1 - (r + 1)) := by
          unfold toVal
          rw [if_neg (by omega), if_pos (by omega)]
          simp only [Nat.add_sub_cancel]
          rw [show (((r + 1 : Nat) : Int) - 1) = r by omega]
        rw [ev] at es
        obtain ⟨c1, c2⟩ := chP_bd (b := r + 1) (all := all) (by omega) (m - 1 - (r + 1)) (by omega)
        have m1 := mul_bd wb.1 wb.2 (show 0 ≤ all - r - (same - r) by omega) (show all - r - (same - r) ≤ 18 by omega)
        have m2 := mul_bd m1.1 m1.2 (show 0 ≤ chP all (r + 1) (m - 1 - (r + 1)) by omega) c2
        have m3 : p18 r * 18 * p18 (m - 1 - (r + 1)) ≤ p18 4 := by
          show p18 (r + 1) * p18 (m - 1 - (r + 1)) ≤ p18 4
          rw [p18_add]; exact p18_mono (by omega)
        rw [p18_four] at m3
        have i3 : In64 (wyF same r * (all - r - (same - r))) := by unfold In64; omega
        have i4 : In64 (wyF same r * (all - r - (same - r)) * chP all (r + 1) (m - 1 - (r + 1))) := by unfold In64; omega
        simp -implicitDefEqProofs only [lk_normal, tops1_F, g3, g4, hl, hlt, hl2, r1, tn, k0, k5, k5b, k5n, mm, ar, ha, hd, ws, i2, i3, i4, es, ZB, Int.reduceToNat, Nat.reduceLT, Nat.reduceLeDiff, Int.reduceLE, Int.reduceLT, Nat.reduceEqDiff, Nat.reduceSub, SB, SV.known, packR, ne_eq, reduceCtorEq, Nat.reduceEqDiff, ↓reduceIte, if_true, if_false, eq_self, Nat.reduceAdd, Nat.reduceMul, Nat.reduceSub, forall_const, oneCellS, Kd.isSca, flat, TYB]
        (try (and_intros <;> try (first | omega | (unfold In64; omega) | trivial | assumption)))
        refine ⟨r + 1, ?_, ?_, Sub.mk_id ?_ ?_ ?_ ?_ ?_⟩
        all_goals (try (simp only [ws, LB, subS, subH, wfS, wfH, SV.ren, renL, SObj.ren, SV.wf, SObj.wf, wfL, SV.known, Nat.reduceEqDiff, ↓reduceIte, if_true, if_false, eq_self, Nat.reduceAdd, Nat.reduceLT, Nat.reduceLeDiff, implies_true, reduceCtorEq, forall_const]; done))
        all_goals (try (simp only [ws, LB, subS, subH, wfS, wfH, SV.ren, renL, SObj.ren, SV.wf, SObj.wf, wfL, SV.known, Nat.reduceEqDiff, ↓reduceIte, if_true, if_false, eq_self, Nat.reduceAdd, Nat.reduceLT, Nat.reduceLeDiff, implies_true, reduceCtorEq, forall_const]; simp; done))
        all_goals (try (simp only [ws, LB, subS, subH, wfS, wfH, SV.ren, renL, SObj.ren, SV.wf, SObj.wf, wfL, SV.known, Nat.reduceEqDiff, ↓reduceIte, if_true, if_false, eq_self, Nat.reduceAdd, Nat.reduceLT, Nat.reduceLeDiff, implies_true, reduceCtorEq, forall_const]; (and_intros <;> (first | omega | rfl | (simp; done) | (simp; omega))); done))
        all_goals (try dsimp only)
        all_goals (and_intros <;> try (first | omega | (unfold In64; omega) | trivial | assumption))
      · have ev : toVal all same m (r + 1) = wyF same r := by
          unfold toVal
          rw [if_neg (by omega), if_neg (by omega), if_pos (by omega), show m - 1 = r by omega]
        rw [ev] at es
        simp -implicitDefEqProofs only [lk_normal, tops1_F, g3, g4, hl, hlt, hl2, r1, tn, k0, k5, k5b, k5n, mm, ar, ha, hd, ws, i2, es, ZB, Int.reduceToNat, Nat.reduceLT, Nat.reduceLeDiff, Int.reduceLE, Int.reduceLT, Nat.reduceEqDiff, Nat.reduceSub, SB, SV.known, packR, ne_eq, reduceCtorEq, Nat.reduceEqDiff, ↓reduceIte, if_true, if_false, eq_self, Nat.reduceAdd, Nat.reduceMul, Nat.reduceSub, forall_const, oneCellS, Kd.isSca, flat, TYB]
        (try (and_intros <;> try (first | omega | (unfold In64; omega) | trivial | assumption)))
        refine ⟨r + 1, ?_, ?_, Sub.mk_id ?_ ?_ ?_ ?_ ?_⟩
        all_goals (try (simp only [ws, LB, subS, subH, wfS, wfH, SV.ren, renL, SObj.ren, SV.wf, SObj.wf, wfL, SV.known, Nat.reduceEqDiff, ↓reduceIte, if_true, if_false, eq_self, Nat.reduceAdd, Nat.reduceLT, Nat.reduceLeDiff, implies_true, reduceCtorEq, forall_const]; done))
        all_goals (try (simp only [ws, LB, subS, subH, wfS, wfH, SV.ren, renL, SObj.ren, SV.wf, SObj.wf, wfL, SV.known, Nat.reduceEqDiff, ↓reduceIte, if_true, if_false, eq_self, Nat.reduceAdd, Nat.reduceLT, Nat.reduceLeDiff, implies_true, reduceCtorEq, forall_const]; simp; done))
        all_goals (try (simp only [ws, LB, subS, subH, wfS, wfH, SV.ren, renL, SObj.ren, SV.wf, SObj.wf, wfL, SV.known, Nat.reduceEqDiff, ↓reduceIte, if_true, if_false, eq_self, Nat.reduceAdd, Nat.reduceLT, Nat.reduceLeDiff, implies_true, reduceCtorEq, forall_const]; (and_intros <;> (first | omega | rfl | (simp; done) | (simp; omega))); done))
        all_goals (try dsimp only)
        all_goals (and_intros <;> try (first | omega | (unfold In64; omega) | trivial | assumption))
    · obtain rfl : r = m := by omega
      have mm : 0 ≤ (r : Int) ∧ (r : Int) ≤ 4 := by omega
      have ar : (4 : Nat) ≠ 3 := by decide
      have tk5 : (toL all same r r).take 5 = toL all same r r := List.take_of_length_le (by omega)
      simp -implicitDefEqProofs only [lk_normal, tops1_F, g3, g4, hl, hlt, tk5, mm, ar, ha, hd, ZB, Int.reduceToNat, Nat.reduceLT, Nat.reduceLeDiff, Int.reduceLE, Int.reduceLT, Nat.reduceEqDiff, Nat.reduceSub, SB, SV.known, packR, ne_eq, reduceCtorEq, Nat.reduceEqDiff, ↓reduceIte, if_true, if_false, eq_self, Nat.reduceAdd, Nat.reduceMul, Nat.reduceSub, forall_const, oneCellS, Kd.isSca, flat, TYB]
      (try (and_intros <;> try (first | omega | (unfold In64; omega) | trivial | assumption)))
structure vG (V : List Int) : Prop where
  len : V.length = 18
  u1 : vTop V
  u2 : vMan V
  u3 : vTM V
  lenH : (hidV V).length = 6
  bH : Bd 0 24 (hidV V)
  hs : (hidV V).sum = hmL (V.drop 6) 6
  h18 : (hidV V).sum ≤ 18
def al (V : List Int) : Int := (hidV V).sum
def sa (V : List Int) (i : Nat) : Int := (hidV V).getD (V.getD i 0).toNat 0
def mm (V : List Int) (i : Nat) : Nat := (V.getD (6 + i) 0).toNat
theorem hmL_ge {M : List Int} (hM : ∀ k, k < 6 → 0 ≤ M.getD k 0 ∧ M.getD k 0 ≤ 4) (i : Nat) : ∀ k, k ≤ 6 → i < k → M.getD i 0 - 1 ≤ hmL M k
  | 0, _, h => by omega
  | k + 1, hk, h => by
    have hb := hmL_bd hM k (by omega)
    have hm := hM k (by omega)
    by_cases hik : i = k
    · subst hik
      unfold hmL
      split <;> omega
    · have := hmL_ge hM i k (by omega) (by omega)
      unfold hmL
      split <;> omega
theorem vsm_of {V : List Int} (g : vG V) {i : Nat} (hi : i < 6) : vsm V i (al V) (sa V i) (mm V i) := by
  have h2 := g.u2 i hi
  have h1 := g.u1 i hi
  have gM : ∀ k, (V.drop 6).getD k 0 = V.getD (6 + k) 0 := fun k => by simp [List.getD]
  have hm := hmL_ge (M := V.drop 6) (fun k hk => by rw [gM]; exact g.u2 k hk) i 6 (Nat.le_refl _) hi
  rw [gM, ← g.hs] at hm
  have hs0 := sum_bd _ g.bH
  have hsl := le_sum _ (V.getD i 0).toNat g.bH (by rw [g.lenH]; omega)
  have hs1 : 0 ≤ (hidV V).getD (V.getD i 0).toNat 0 := (g.bH.getD (by rw [g.lenH]; omega)).1
  have h18 := g.h18
  refine ⟨rfl, rfl, ?_, ?_, ⟨hs1, hsl⟩, ?_, ?_⟩
  · unfold mm; omega
  · unfold al; omega
  · unfold mm; omega
  · unfold mm al; omega
theorem tops_okI (V : List Int) (x : Int) (g : vG V) (hx : 0 ≤ x ∧ x < 6) : PureH Try.prog 108 [.arr V, .int x] [] (.tup [.arr (toL (al V) (sa V x.toNat) (mm V x.toNat) (mm V x.toNat)), .int (chP (al V) 0 (mm V x.toNat - 1))]) := by
  have := tops_ok V x.toNat _ _ _ g.len (by omega) g.u1 g.lenH g.bH (vsm_of g (by omega))
  rw [Int.toNat_of_nonneg hx.1] at this
  exact this
def tops_F : List SV → Heap → Option (Prop × SV)
  | [.arr V, .int x], _ => some (vG V ∧ 0 ≤ x ∧ x < 6, .tup [.arr (toL (al V) (sa V x.toNat) (mm V x.toNat) (mm V x.toNat)), .int (chP (al V) 0 (mm V x.toNat - 1))])
  | _, _ => none
theorem tops_T : ∀ args H p v, tops_F args H = some (p, v) → p → PureH Try.prog 108 args H v := by
  intro args H p v h hp
  unfold tops_F at h
  split at h
  · cases h; exact (tops_okI _ _ hp.1 hp.2).any _
  · cases h
/-! Is a pour certain? -/
def tv (V : List Int) (i r : Nat) : Int := toVal (al V) (sa V i) (mm V i) r
def mvR (V : List Int) (j r : Nat) : Int := min (r : Int) (4 - V.getD (6 + j) 0)
def mvA (V : List Int) (i j : Nat) : Nat → Int
  | 0 => 0
  | q + 1 => if tv V i q = 0 then mvA V i j q else mvR V j q
def certB (V : List Int) (i j : Nat) : Bool := (List.range 5).all fun r => (List.range 5).all fun s => decide (tv V i r = 0) || decide (tv V i s = 0) || decide (mvR V j r = mvR V j s)
theorem certB_iff {V : List Int} {i j : Nat} : certB V i j = true ↔ ∀ r s, r < 5 → s < 5 → tv V i r ≠ 0 → tv V i s ≠ 0 → mvR V j r = mvR V j s := by
  unfold certB
  simp only [List.all_eq_true, List.mem_range, Bool.or_eq_true, decide_eq_true_eq]
  constructor
  · intro h r s hr hs h1 h2
    rcases h r hr s hs with (h3 | h3) | h3
    · exact absurd h3 h1
    · exact absurd h3 h2
    · exact h3
  · intro h r hr s hs
    by_cases h1 : tv V i r = 0
    · exact .inl (.inl h1)
    · by_cases h2 : tv V i s = 0
      · exact .inl (.inr h2)
      · exact .inr (h r s hr hs h1 h2)
theorem tv_get {V : List Int} {i r : Nat} (hr : r < 5) : (toL (al V) (sa V i) (mm V i) (mm V i)).getD r 0 = tv V i r := by
  rw [toL_get _ _ _ _ hr]
  unfold tv
  split
  · rfl
  · unfold toVal
    rw [if_neg (by omega), if_neg (by omega), if_neg (by omega)]
theorem tv_zero (V : List Int) (i : Nat) : tv V i 0 = 0 := rfl
theorem mvR_pos {V : List Int} {j r : Nat} (hj : V.getD (6 + j) 0 < 4) (hr : 1 ≤ r) (hr4 : r ≤ 4) (h0 : 0 ≤ V.getD (6 + j) 0) : 1 ≤ mvR V j r ∧ mvR V j r ≤ 4 := by
  unfold mvR; omega
theorem mvA_inv {V : List Int} {i j : Nat} (hj : V.getD (6 + j) 0 < 4) (h0 : 0 ≤ V.getD (6 + j) 0) : ∀ q, q ≤ 5 → (mvA V i j q = 0 ∧ ∀ r, r < q → tv V i r = 0) ∨ (1 ≤ mvA V i j q ∧ mvA V i j q ≤ 4 ∧ ∃ r, r < q ∧ tv V i r ≠ 0 ∧ mvR V j r = mvA V i j q)
  | 0, _ => .inl ⟨rfl, fun r hr => by omega⟩
  | q + 1, hq => by
    have ih := mvA_inv (i := i) hj h0 q (by omega)
    by_cases hz : tv V i q = 0
    · have e : mvA V i j (q + 1) = mvA V i j q := by rw [mvA, if_pos hz]
      rw [e]
      rcases ih with ⟨a, b⟩ | ⟨a, b, r, c, d⟩
      · refine .inl ⟨a, fun r hr => ?_⟩
        by_cases hrq : r = q
        · rw [hrq]; exact hz
        · exact b r (by omega)
      · exact .inr ⟨a, b, r, by omega, d⟩
    · have e : mvA V i j (q + 1) = mvR V j q := by rw [mvA, if_neg hz]
      have hq1 : 1 ≤ q := by
        rcases Nat.eq_zero_or_pos q with rfl | h
        · exact absurd (tv_zero V i) hz
        · exact h
      have := mvR_pos hj hq1 (show q ≤ 4 by omega) h0
      rw [e]
      exact .inr ⟨this.1, this.2, q, by omega, hz, rfl⟩
--@tbl isCertain = (impl.View).isCertain
theorem isCertain_ok (V : List Int) (i j : Nat) (g : vG V) (hi : i < 6) (hj : j < 6) (hj4 : V.getD (6 + j) 0 < 4) : PureH Try.prog 65 [.arr V, .int i, .int j] [] (.bool (certB V i j)) := by
  have hV := g.len
  have tkV : V.take 18 = V := List.take_of_length_le (by omega)
  have il : (i : Int) < 6 := by omega
  have i0 : 0 ≤ (i : Int) := by omega
  have jl : (j : Int) < 6 := by omega
  have j0 : 0 ≤ (j : Int) := by omega
  have j6 : 6 + j < 18 := by omega
  have h0 := (g.u2 j hj).1
  have lL := toL_len (al V) (sa V i) (mm V i) (mm V i)
  have tk5 := List.take_of_length_le (Nat.le_of_eq lL)
  have gL : ∀ r, r < 5 → (toL (al V) (sa V i) (mm V i) (mm V i)).getD r 0 = tv V i r := fun r hr => tv_get hr
  refine pure_of_vc (X := ⟨Try.prog, tys, [(108, tops_F)], [], true, true, 0, [], []⟩) fn_65 ⟨tys_ok, (.cons tops_T .nil), .nil, mixed⟩ (n0 := 0) (Nat.le_of_ble_eq_true rfl) (by simp [wfL, SV.wf]) (wfH_spec (by simp [wfH, SObj.wf])) (Nat.le_refl _) (fun _ => by simp [SV.wf, wfL]) ?_
  simp -implicitDefEqProofs only [Try.f65, Option.getD_some, argS, tops_F, hV, tkV, il, i0, g, lL, tk5, ZB, Int.reduceToNat, Nat.reduceLT, Nat.reduceLeDiff, Int.reduceLE, Int.reduceLT, Nat.reduceEqDiff, Nat.reduceSub, SB, SV.known, packR, ne_eq, reduceCtorEq, Nat.reduceEqDiff, ↓reduceIte, if_true, if_false, eq_self, Nat.reduceAdd, Nat.reduceMul, Nat.reduceSub, forall_const, oneCellS, Kd.isSca, flat, TYB]
  generalize toL (al V) (sa V i) (mm V i) (mm V i) = L at *
  refine loop_intro (fun q : Nat => [(20, .int q), (19, .arr L), (9, .int (mvA V i j q)), (3, .ptr 0 0), (2, .int j)]) (fun q => [(0, .ints V 44)]) 2 (fun q => q ≤ 5 ∧ ∀ r, r < q → tv V i r ≠ 0 → mvR V j r = mvA V i j q) (fun q => 5 - q) ?_ ?_
  · refine ⟨0, ?_, Sub.mk_id ?_ ?_ ?_ ?_ ?_⟩
    all_goals (try (simp only [mvA, LB, subS, subH, wfS, wfH, SV.ren, renL, SObj.ren, SV.wf, SObj.wf, wfL, SV.known, Nat.reduceEqDiff, ↓reduceIte, if_true, if_false, eq_self, Nat.reduceAdd, Nat.reduceLT, Nat.reduceLeDiff, implies_true, reduceCtorEq, forall_const]; done))
    all_goals (try (simp only [mvA, LB, subS, subH, wfS, wfH, SV.ren, renL, SObj.ren, SV.wf, SObj.wf, wfL, SV.known, Nat.reduceEqDiff, ↓reduceIte, if_true, if_false, eq_self, Nat.reduceAdd, Nat.reduceLT, Nat.reduceLeDiff, implies_true, reduceCtorEq, forall_const]; simp; done))
    all_goals (try (simp only [mvA, LB, subS, subH, wfS, wfH, SV.ren, renL, SObj.ren, SV.wf, SObj.wf, wfL, SV.known, Nat.reduceEqDiff, ↓reduceIte, if_true, if_false, eq_self, Nat.reduceAdd, Nat.reduceLT, Nat.reduceLeDiff, implies_true, reduceCtorEq, forall_const]; (and_intros <;> (first | omega | rfl | (simp; done) | (simp; omega))); done))
    all_goals (try dsimp only)
    all_goals (and_intros <;> try (first | omega | (unfold In64; omega) | trivial | assumption))
    all_goals (intro r hr; omega)
  · rintro q ⟨hq, hall⟩
    have inv := mvA_inv (i := i) hj4 h0 q hq
    by_cases hlt : q < 5
    · have ql : (q : Int) < 5 := by omega
      have ge := gL q hlt
      have em : min (q : Int) (4 - V.getD (6 + j) 0) = mvR V j q := rfl
      by_cases hz : tv V i q = 0
      · have es : mvA V i j (q + 1) = mvA V i j q := by rw [mvA, if_pos hz]
        simp -implicitDefEqProofs only [lk_normal, ql, lL, ge, hz, hV, jl, j0, j6, ZB, Int.reduceToNat, Nat.reduceLT, Nat.reduceLeDiff, Int.reduceLE, Int.reduceLT, Nat.reduceEqDiff, Nat.reduceSub, SB, SV.known, packR, ne_eq, reduceCtorEq, Nat.reduceEqDiff, ↓reduceIte, if_true, if_false, eq_self, Nat.reduceAdd, Nat.reduceMul, Nat.reduceSub, forall_const, oneCellS, Kd.isSca, flat, TYB]
        (try (and_intros <;> try (first | omega | (unfold In64; omega) | trivial | assumption)))
        refine ⟨q + 1, ?_, ?_, Sub.mk_id ?_ ?_ ?_ ?_ ?_⟩
        all_goals (try (simp only [es, LB, subS, subH, wfS, wfH, SV.ren, renL, SObj.ren, SV.wf, SObj.wf, wfL, SV.known, Nat.reduceEqDiff, ↓reduceIte, if_true, if_false, eq_self, Nat.reduceAdd, Nat.reduceLT, Nat.reduceLeDiff, implies_true, reduceCtorEq, forall_const]; done))
        all_goals (try (simp only [es, LB, subS, subH, wfS, wfH, SV.ren, renL, SObj.ren, SV.wf, SObj.wf, wfL, SV.known, Nat.reduceEqDiff, ↓reduceIte, if_true, if_false, eq_self, Nat.reduceAdd, Nat.reduceLT, Nat.reduceLeDiff, implies_true, reduceCtorEq, forall_const]; simp; done))
        all_goals (try (simp only [es, LB, subS, subH, wfS, wfH, SV.ren, renL, SObj.ren, SV.wf, SObj.wf, wfL, SV.known, Nat.reduceEqDiff, ↓reduceIte, if_true, if_false, eq_self, Nat.reduceAdd, Nat.reduceLT, Nat.reduceLeDiff, implies_true, reduceCtorEq, forall_const]; (and_intros <;> (first | omega | rfl | (simp; done) | (simp; omega))); done))
        all_goals (try dsimp only)
        all_goals (and_intros <;> try (first | omega | (unfold In64; omega) | trivial | assumption))
        intro r hr h1
        rw [es]
        by_cases hrq : r = q
        · subst hrq; exact absurd hz h1
        · exact hall r (by omega) h1
      · have es : mvA V i j (q + 1) = mvR V j q := by rw [mvA, if_neg hz]
        have hq1 : 1 ≤ q := by
          rcases Nat.eq_zero_or_pos q with rfl | h
          · exact absurd (tv_zero V i) hz
          · exact h
        rcases inv with ⟨a, b⟩ | ⟨a, b, s, c, d, e⟩
        · have np : ¬ 0 < mvA V i j q := by omega
          simp -implicitDefEqProofs only [lk_normal, ql, lL, ge, hz, hV, jl, j0, j6, em, np, ZB, Int.reduceToNat, Nat.reduceLT, Nat.reduceLeDiff, Int.reduceLE, Int.reduceLT, Nat.reduceEqDiff, Nat.reduceSub, SB, SV.known, packR, ne_eq, reduceCtorEq, Nat.reduceEqDiff, ↓reduceIte, if_true, if_false, eq_self, Nat.reduceAdd, Nat.reduceMul, Nat.reduceSub, forall_const, oneCellS, Kd.isSca, flat, TYB]
          (try (and_intros <;> try (first | omega | (unfold In64; omega) | trivial | assumption)))
          refine ⟨q + 1, ?_, ?_, Sub.mk_id ?_ ?_ ?_ ?_ ?_⟩
          all_goals (try (simp only [es, LB, subS, subH, wfS, wfH, SV.ren, renL, SObj.ren, SV.wf, SObj.wf, wfL, SV.known, Nat.reduceEqDiff, ↓reduceIte, if_true, if_false, eq_self, Nat.reduceAdd, Nat.reduceLT, Nat.reduceLeDiff, implies_true, reduceCtorEq, forall_const]; done))
          all_goals (try (simp only [es, LB, subS, subH, wfS, wfH, SV.ren, renL, SObj.ren, SV.wf, SObj.wf, wfL, SV.known, Nat.reduceEqDiff, ↓reduceIte, if_true, if_false, eq_self, Nat.reduceAdd, Nat.reduceLT, Nat.reduceLeDiff, implies_true, reduceCtorEq, forall_const]; simp; done))
          all_goals (try (simp only [es, LB, subS, subH, wfS, wfH, SV.ren, renL, SObj.ren, SV.wf, SObj.wf, wfL, SV.known, Nat.reduceEqDiff, ↓reduceIte, if_true, if_false, eq_self, Nat.reduceAdd, Nat.reduceLT, Nat.reduceLeDiff, implies_true, reduceCtorEq, forall_const]; (and_intros <;> (first | omega | rfl | (simp; done) | (simp; omega))); done))
          all_goals (try dsimp only)
          all_goals (and_intros <;> try (first | omega | (unfold In64; omega) | trivial | assumption))
          intro r hr h1
          rw [es]
          by_cases hrq : r = q
          · subst hrq; rfl
          · exact absurd (b r (by omega)) h1
        · have np : 0 < mvA V i j q := by omega
          by_cases heq : mvR V j q = mvA V i j q
          · simp -implicitDefEqProofs only [lk_normal, ql, lL, ge, hz, hV, jl, j0, j6, em, np, heq, ZB, Int.reduceToNat, Nat.reduceLT, Nat.reduceLeDiff, Int.reduceLE, Int.reduceLT, Nat.reduceEqDiff, Nat.reduceSub, SB, SV.known, packR, ne_eq, reduceCtorEq, Nat.reduceEqDiff, ↓reduceIte, if_true, if_false, eq_self, Nat.reduceAdd, Nat.reduceMul, Nat.reduceSub, forall_const, oneCellS, Kd.isSca, flat, TYB]
            (try (and_intros <;> try (first | omega | (unfold In64; omega) | trivial | assumption)))
            refine ⟨q + 1, ?_, ?_, Sub.mk_id ?_ ?_ ?_ ?_ ?_⟩
            all_goals (try (simp only [es, heq, LB, subS, subH, wfS, wfH, SV.ren, renL, SObj.ren, SV.wf, SObj.wf, wfL, SV.known, Nat.reduceEqDiff, ↓reduceIte, if_true, if_false, eq_self, Nat.reduceAdd, Nat.reduceLT, Nat.reduceLeDiff, implies_true, reduceCtorEq, forall_const]; done))
            all_goals (try (simp only [es, heq, LB, subS, subH, wfS, wfH, SV.ren, renL, SObj.ren, SV.wf, SObj.wf, wfL, SV.known, Nat.reduceEqDiff, ↓reduceIte, if_true, if_false, eq_self, Nat.reduceAdd, Nat.reduceLT, Nat.reduceLeDiff, implies_true, reduceCtorEq, forall_const]; simp; done))
            all_goals (try (simp only [es, heq, LB, subS, subH, wfS, wfH, SV.ren, renL, SObj.ren, SV.wf, SObj.wf, wfL, SV.known, Nat.reduceEqDiff, ↓reduceIte, if_true, if_false, eq_self, Nat.reduceAdd, Nat.reduceLT, Nat.reduceLeDiff, implies_true, reduceCtorEq, forall_const]; (and_intros <;> (first | omega | rfl | (simp; done) | (simp; omega))); done))
            all_goals (try dsimp only)
            all_goals (and_intros <;> try (first | omega | (unfold In64; omega) | trivial | assumption))
            intro r hr h1
            rw [es]
            by_cases hrq : r = q
            · subst hrq; rfl
            · rw [heq]; exact hall r (by omega) h1
          · have hcf : certB V i j = false := by
              cases hc : certB V i j with
              | false => rfl
              | true => exact absurd ((certB_iff.1 hc q s hlt (by omega) hz d).trans e) heq
            simp -implicitDefEqProofs only [lk_normal, ql, lL, ge, hz, hV, jl, j0, j6, em, np, heq, hcf, ZB, Int.reduceToNat, Nat.reduceLT, Nat.reduceLeDiff, Int.reduceLE, Int.reduceLT, Nat.reduceEqDiff, Nat.reduceSub, SB, SV.known, packR, ne_eq, reduceCtorEq, Nat.reduceEqDiff, ↓reduceIte, if_true, if_false, eq_self, Nat.reduceAdd, Nat.reduceMul, Nat.reduceSub, forall_const, oneCellS, Kd.isSca, flat, TYB]
            (try (and_intros <;> try (first | omega | (unfold In64; omega) | trivial | assumption)))
    · have ql : ¬ (5 : Int) < 5 := by omega
      obtain rfl : q = 5 := by omega
      have hct : certB V i j = true := certB_iff.2 fun r s hr hs h1 h2 => (hall r hr h1).trans (hall s hs h2).symm
      simp -implicitDefEqProofs only [lk_normal, ql, lL, hct, ZB, Int.reduceToNat, Nat.reduceLT, Nat.reduceLeDiff, Int.reduceLE, Int.reduceLT, Nat.reduceEqDiff, Nat.reduceSub, SB, SV.known, packR, ne_eq, reduceCtorEq, Nat.reduceEqDiff, ↓reduceIte, if_true, if_false, eq_self, Nat.reduceAdd, Nat.reduceMul, Nat.reduceSub, forall_const, oneCellS, Kd.isSca, flat, TYB]
/-! The chance of a top. -/
def ltK (all same : Int) : Nat → List Int
  | 0 => [1, 1]
  | k + 1 => fracF ((ltK all same k).getD 0 0 * max (same - (k : Int)) 0) ((ltK all same k).getD 1 0 * (all - (k : Int)))
def ltF (all same : Int) (m r : Nat) : List Int := if m < r then [0, 1] else if r < m then fracF ((ltK all same (r - 1)).getD 0 0 * (all - ((r : Int) - 1) - max (same - ((r : Int) - 1)) 0)) ((ltK all same (r - 1)).getD 1 0 * (all - ((r : Int) - 1))) else ltK all same (r - 1)
theorem fracF_sign {a b : Int} (ha : 0 ≤ a) (hb : 0 < b) : 0 < (fracF a b).getD 0 0 ↔ 0 < a := by
  have hp := fracF_pos ha hb
  constructor
  · intro h; omega
  · intro h
    show 0 < a.tdiv (Nat.gcd a.toNat b.toNat : Nat)
    have hg : 0 < Nat.gcd a.toNat b.toNat := Nat.gcd_pos_of_pos_right _ (by omega)
    rw [Int.tdiv_eq_ediv_of_nonneg ha]
    have hd : ((Nat.gcd a.toNat b.toNat : Nat) : Int) ≤ a := by
      have := Nat.gcd_le_left b.toNat (show 0 < a.toNat by omega)
      omega
    have : 1 ≤ a / ((Nat.gcd a.toNat b.toNat : Nat) : Int) := (Int.le_ediv_iff_mul_le (by omega)).2 (by omega)
    omega
theorem ltK_bd {all same : Int} (ha : all ≤ 18) (hs : same ≤ 18) : ∀ k : Nat, (k = 0 ∨ (k : Int) ≤ all) → (ltK all same k).length = 2 ∧ 0 ≤ (ltK all same k).getD 0 0 ∧ (ltK all same k).getD 0 0 ≤ p18 k ∧ 0 < (ltK all same k).getD 1 0 ∧ (ltK all same k).getD 1 0 ≤ p18 k ∧ (0 < (ltK all same k).getD 0 0 ↔ 0 < wyF same k)
  | 0, _ => by simp [ltK, p18, wyF]
  | k + 1, h => by
    obtain ⟨g0, g1, g2, g3, g4, g5⟩ := ltK_bd ha hs k (by omega)
    have f1 : 1 ≤ all - (k : Int) := by omega
    have m1 := mul_bd g1 g2 (show 0 ≤ max (same - (k : Int)) 0 by omega) (show max (same - (k : Int)) 0 ≤ 18 by omega)
    have m2 := mul_bd (show 0 ≤ (ltK all same k).getD 1 0 by omega) g4 (show 0 ≤ all - (k : Int) by omega) (show all - (k : Int) ≤ 18 by omega)
    have m3 := Int.mul_pos g3 (show 0 < all - (k : Int) by omega)
    have hp := fracF_pos m1.1 m3
    have hsn := fracF_sign m1.1 m3
    have wb := wyF_bd hs k
    refine ⟨fracF_len _ _, hp.1, Int.le_trans hp.2.1 m1.2, hp.2.2.1, Int.le_trans hp.2.2.2 m2.2, ?_⟩
    show 0 < (fracF _ _).getD 0 0 ↔ 0 < wyF same k * max (same - (k : Int)) 0
    rw [hsn]
    constructor
    · intro h1
      have : 0 < (ltK all same k).getD 0 0 := by
        rcases Int.lt_or_eq_of_le g1 with h2 | h2
        · exact h2
        · rw [← h2, Int.zero_mul] at h1; omega
      have h3 := g5.1 this
      have h4 : 0 < max (same - (k : Int)) 0 := by
        rcases Int.lt_or_eq_of_le (show 0 ≤ max (same - (k : Int)) 0 by omega) with h2 | h2
        · exact h2
        · rw [← h2, Int.mul_zero] at h1; omega
      exact Int.mul_pos h3 h4
    · intro h1
      have h3 : 0 < wyF same k := by
        rcases Int.lt_or_eq_of_le wb.1 with h2 | h2
        · exact h2
        · rw [← h2, Int.zero_mul] at h1; omega
      have h4 : 0 < max (same - (k : Int)) 0 := by
        rcases Int.lt_or_eq_of_le (show 0 ≤ max (same - (k : Int)) 0 by omega) with h2 | h2
        · exact h2
        · rw [← h2, Int.mul_zero] at h1; omega
      exact Int.mul_pos (g5.2 h3) h4
--@tbl l7Top = spec.l7Top
theorem l7Top_ok (V : List Int) (i r : Nat) (g : vG V) (hi : i < 6) (hr : 1 ≤ r) (hr4 : r ≤ 4) : PureH Try.prog 60 [.arr V, .int i, .int r] [] (.arr (ltF (al V) (sa V i) (mm V i) r)) := by
  have hV := g.len
  have tkV : V.take 18 = V := List.take_of_length_le (by omega)
  have u1 := g.u1
  have u2 := g.u2
  have u3 := g.u3
  have lenH := g.lenH
  have tkH : (hidV V).take 6 = hidV V := List.take_of_length_le (by omega)
  have il : (i : Int) < 6 := by omega
  have i0 : 0 ≤ (i : Int) := by omega
  have i8 : i < 18 := by omega
  have i6 : 6 + i < 18 := by omega
  have eH : hidL (V.take 6) (V.drop 12) 6 = hidV V := rfl
  have eM : hmL (V.drop 6) 6 = al V := g.hs.symm
  have sm := vsm_of g hi
  have e2 := sm.same_
  have e3 := sm.m_
  have t0 := u1 i hi
  have t1 : 0 ≤ V.getD i 0 := t0.1
  have t2 : V.getD i 0 < 6 := by omega
  have t3 : (V.getD i 0).toNat < 6 := by omega
  unfold ltF
  by_cases hrm : mm V i < r
  · have hc : (mm V i : Int) < r := by omega
    rw [if_pos hrm]
    refine pure_of_vc (X := ⟨Try.prog, tys, [(50, l7Hidden_F), (77, l7Cut_F), (62, l1Most_F)], [], true, true, 0, [], []⟩) fn_60 ⟨tys_ok, (.cons l7Hidden_T (.cons l7Cut_T (.cons l1Most_T .nil))), .nil, mixed⟩ (n0 := 0) (Nat.le_of_ble_eq_true rfl) (by simp [wfL, SV.wf]) (wfH_spec (by simp [wfH, SObj.wf])) (Nat.le_refl _) (fun _ => by simp [SV.wf, wfL]) ?_
    simp -implicitDefEqProofs only [Try.f60, Option.getD_some, argS, l7Hidden_F, l7Cut_F, l1Most_F, hV, tkV, il, i0, i8, i6, u1, u2, u3, eH, eM, lenH, tkH, e2, e3, t1, t2, t3, hc, ZB, Int.reduceToNat, Nat.reduceLT, Nat.reduceLeDiff, Int.reduceLE, Int.reduceLT, Nat.reduceEqDiff, Nat.reduceSub, SB, SV.known, packR, ne_eq, reduceCtorEq, Nat.reduceEqDiff, ↓reduceIte, if_true, if_false, eq_self, Nat.reduceAdd, Nat.reduceMul, Nat.reduceSub, forall_const, oneCellS, Kd.isSca, flat, TYB]
  · have hc : ¬ (mm V i : Int) < r := by omega
    rw [if_neg hrm]
    refine pure_of_vc (X := ⟨Try.prog, tys, [(50, l7Hidden_F), (77, l7Cut_F), (62, l1Most_F)], [], true, true, 0, [], []⟩) fn_60 ⟨tys_ok, (.cons l7Hidden_T (.cons l7Cut_T (.cons l1Most_T .nil))), .nil, mixed⟩ (n0 := 0) (Nat.le_of_ble_eq_true rfl) (by simp [wfL, SV.wf]) (wfH_spec (by simp [wfH, SObj.wf])) (Nat.le_refl _) (fun _ => by simp [SV.wf, wfL]) ?_
    simp -implicitDefEqProofs only [Try.f60, Option.getD_some, argS, l7Hidden_F, l7Cut_F, l1Most_F, hV, tkV, il, i0, i8, i6, u1, u2, u3, eH, eM, lenH, tkH, e2, e3, t1, t2, t3, hc, ZB, Int.reduceToNat, Nat.reduceLT, Nat.reduceLeDiff, Int.reduceLE, Int.reduceLT, Nat.reduceEqDiff, Nat.reduceSub, SB, SV.known, packR, ne_eq, reduceCtorEq, Nat.reduceEqDiff, ↓reduceIte, if_true, if_false, eq_self, Nat.reduceAdd, Nat.reduceMul, Nat.reduceSub, forall_const, oneCellS, Kd.isSca, flat, TYB]
    have ha := sm.a
    have hb := sm.b
    have hcm := sm.c
    have hd := sm.d
    generalize al V = all at *
    generalize sa V i = same at *
    generalize mm V i = m at *
    refine loop_intro (fun k : Nat => [(11, .int ((k : Int) + 1)), (9, .int (same - (k : Int))), (10, .ptr 3 0), (7, .int (all - (k : Int))), (3, .ptr 0 0), (1, .int i), (2, .int r), (6, .ptr 1 0)]) (fun k => [(3, .ints (ltK all same k) 50), (1, .ints (List.replicate 2 0) 50), (0, .ints V 44)]) 4 (fun k => k ≤ r - 1) (fun k => 5 - k) ?_ ?_
    · refine ⟨0, ?_, Sub.mk_id ?_ ?_ ?_ ?_ ?_⟩
      all_goals (try (simp only [ltK, LB, subS, subH, wfS, wfH, SV.ren, renL, SObj.ren, SV.wf, SObj.wf, wfL, SV.known, Nat.reduceEqDiff, ↓reduceIte, if_true, if_false, eq_self, Nat.reduceAdd, Nat.reduceLT, Nat.reduceLeDiff, implies_true, reduceCtorEq, forall_const]; done))
      all_goals (try (simp only [ltK, LB, subS, subH, wfS, wfH, SV.ren, renL, SObj.ren, SV.wf, SObj.wf, wfL, SV.known, Nat.reduceEqDiff, ↓reduceIte, if_true, if_false, eq_self, Nat.reduceAdd, Nat.reduceLT, Nat.reduceLeDiff, implies_true, reduceCtorEq, forall_const]; simp; done))
      all_goals (try (simp only [ltK, LB, subS, subH, wfS, wfH, SV.ren, renL, SObj.ren, SV.wf, SObj.wf, wfL, SV.known, Nat.reduceEqDiff, ↓reduceIte, if_true, if_false, eq_self, Nat.reduceAdd, Nat.reduceLT, Nat.reduceLeDiff, implies_true, reduceCtorEq, forall_const]; (and_intros <;> (first | omega | rfl | (simp; done) | (simp; omega))); done))
      all_goals (try dsimp only)
      all_goals (and_intros <;> try (first | omega | (unfold In64; omega) | trivial | assumption))
      all_goals simp
    · intro k hk
      obtain ⟨g0, g1, g2, g3, g4, g5⟩ := ltK_bd (all := all) (same := same) (by omega) (by omega) k (by omega)
      have dr := List.drop_of_length_le (Nat.le_of_eq g0)
      have pm := p18_mono (show k ≤ 3 by omega)
      have pm2 := p18_mono (show k + 1 ≤ 4 by omega)
      rw [p18_four] at pm2
      have p3 : p18 3 = 5832 := rfl
      rw [p3] at pm
      have mx : 0 ≤ max (same - (k : Int)) 0 := by omega
      have m1 := mul_bd g1 g2 mx (show max (same - (k : Int)) 0 ≤ 18 by omega)
      have m1b : (ltK all same k).getD 0 0 * max (same - (k : Int)) 0 ≤ p18 (k + 1) := m1.2
      by_cases hlt : (k : Int) + 1 < r
      · have fa : 0 < all - (k : Int) := by omega
        have m2 := mul_bd (show 0 ≤ (ltK all same k).getD 1 0 by omega) g4 (show 0 ≤ all - (k : Int) by omega) (show all - (k : Int) ≤ 18 by omega)
        have m2b : (ltK all same k).getD 1 0 * (all - (k : Int)) ≤ p18 (k + 1) := m2.2
        have m3 := Int.mul_pos g3 fa
        have i1 : In64 ((ltK all same k).getD 0 0 * max (same - (k : Int)) 0) := by unfold In64; omega
        have i2 : In64 ((ltK all same k).getD 1 0 * (all - (k : Int))) := by unfold In64; omega
        have q1 := m1.1
        have es : ltK all same (k + 1) = fracF ((ltK all same k).getD 0 0 * max (same - (k : Int)) 0) ((ltK all same k).getD 1 0 * (all - (k : Int))) := rfl
        have fl := fracF_len ((ltK all same k).getD 0 0 * max (same - (k : Int)) 0) ((ltK all same k).getD 1 0 * (all - (k : Int)))
        have s1 : same - ((k + 1 : Nat) : Int) = same - k - 1 := by omega
        have s2 : all - ((k + 1 : Nat) : Int) = all - k - 1 := by omega
        simp -implicitDefEqProofs only [lk_normal, l7Cut_F, l1Most_F, hlt, g0, i1, i2, q1, m3, fl, dr, ZB, Int.reduceToNat, Nat.reduceLT, Nat.reduceLeDiff, Int.reduceLE, Int.reduceLT, Nat.reduceEqDiff, Nat.reduceSub, SB, SV.known, packR, ne_eq, reduceCtorEq, Nat.reduceEqDiff, ↓reduceIte, if_true, if_false, eq_self, Nat.reduceAdd, Nat.reduceMul, Nat.reduceSub, forall_const, oneCellS, Kd.isSca, flat, TYB]
        (try (and_intros <;> try (first | omega | (unfold In64; omega) | trivial | assumption)))
        refine ⟨k + 1, ?_, ?_, Sub.mk_id ?_ ?_ ?_ ?_ ?_⟩
        all_goals (try (simp only [es, s1, s2, LB, subS, subH, wfS, wfH, SV.ren, renL, SObj.ren, SV.wf, SObj.wf, wfL, SV.known, Nat.reduceEqDiff, ↓reduceIte, if_true, if_false, eq_self, Nat.reduceAdd, Nat.reduceLT, Nat.reduceLeDiff, implies_true, reduceCtorEq, forall_const]; done))
        all_goals (try (simp only [es, s1, s2, LB, subS, subH, wfS, wfH, SV.ren, renL, SObj.ren, SV.wf, SObj.wf, wfL, SV.known, Nat.reduceEqDiff, ↓reduceIte, if_true, if_false, eq_self, Nat.reduceAdd, Nat.reduceLT, Nat.reduceLeDiff, implies_true, reduceCtorEq, forall_const]; simp; done))
        all_goals (try (simp only [es, s1, s2, LB, subS, subH, wfS, wfH, SV.ren, renL, SObj.ren, SV.wf, SObj.wf, wfL, SV.known, Nat.reduceEqDiff, ↓reduceIte, if_true, if_false, eq_self, Nat.reduceAdd, Nat.reduceLT, Nat.reduceLeDiff, implies_true, reduceCtorEq, forall_const]; (and_intros <;> (first | omega | rfl | (simp; done) | (simp; omega))); done))
        all_goals (try dsimp only)
        all_goals (and_intros <;> try (first | omega | (unfold In64; omega) | trivial | assumption))
      · obtain rfl : k = r - 1 := by omega
        have r1 : (((r - 1 : Nat) : Int)) = (r : Int) - 1 := by omega
        rw [r1] at *
        have hlt2 : ¬ (r : Int) - 1 + 1 < r := by omega
        have tk2 := List.take_of_length_le (Nat.le_of_eq g0)
        by_cases hrl : (r : Int) < m
        · rw [if_pos (by omega)]
          have fa : 0 < all - ((r : Int) - 1) := by omega
          have m2 := mul_bd (show 0 ≤ (ltK all same (r - 1)).getD 1 0 by omega) g4 (show 0 ≤ all - ((r : Int) - 1) by omega) (show all - ((r : Int) - 1) ≤ 18 by omega)
          have m2b : (ltK all same (r - 1)).getD 1 0 * (all - ((r : Int) - 1)) ≤ p18 (r - 1 + 1) := m2.2
          have m4 := mul_bd g1 g2 (show 0 ≤ all - ((r : Int) - 1) - max (same - ((r : Int) - 1)) 0 by omega) (show all - ((r : Int) - 1) - max (same - ((r : Int) - 1)) 0 ≤ 18 by omega)
          have m4b : (ltK all same (r - 1)).getD 0 0 * (all - ((r : Int) - 1) - max (same - ((r : Int) - 1)) 0) ≤ p18 (r - 1 + 1) := m4.2
          have m3 := Int.mul_pos g3 fa
          have i1 : In64 ((ltK all same (r - 1)).getD 0 0 * (all - ((r : Int) - 1) - max (same - ((r : Int) - 1)) 0)) := by unfold In64; omega
          have i2 : In64 ((ltK all same (r - 1)).getD 1 0 * (all - ((r : Int) - 1))) := by unfold In64; omega
          have q1 := m4.1
          have fl := fracF_len ((ltK all same (r - 1)).getD 0 0 * (all - ((r : Int) - 1) - max (same - ((r : Int) - 1)) 0)) ((ltK all same (r - 1)).getD 1 0 * (all - ((r : Int) - 1)))
          have tkf := List.take_of_length_le (Nat.le_of_eq fl)
          simp -implicitDefEqProofs only [lk_normal, l7Cut_F, l1Most_F, hlt2, hrl, hV, il, i0, i8, i6, e3, g0, i1, i2, q1, m3, fl, dr, tkf, ZB, Int.reduceToNat, Nat.reduceLT, Nat.reduceLeDiff, Int.reduceLE, Int.reduceLT, Nat.reduceEqDiff, Nat.reduceSub, SB, SV.known, packR, ne_eq, reduceCtorEq, Nat.reduceEqDiff, ↓reduceIte, if_true, if_false, eq_self, Nat.reduceAdd, Nat.reduceMul, Nat.reduceSub, forall_const, oneCellS, Kd.isSca, flat, TYB]
          (try (and_intros <;> try (first | omega | (unfold In64; omega) | trivial | assumption)))
        · rw [if_neg (by omega)]
          simp -implicitDefEqProofs only [lk_normal, l7Cut_F, l1Most_F, hlt2, hrl, hV, il, i0, i8, i6, e3, g0, dr, tk2, ZB, Int.reduceToNat, Nat.reduceLT, Nat.reduceLeDiff, Int.reduceLE, Int.reduceLT, Nat.reduceEqDiff, Nat.reduceSub, SB, SV.known, packR, ne_eq, reduceCtorEq, Nat.reduceEqDiff, ↓reduceIte, if_true, if_false, eq_self, Nat.reduceAdd, Nat.reduceMul, Nat.reduceSub, forall_const, oneCellS, Kd.isSca, flat, TYB]
          (try (and_intros <;> try (first | omega | (unfold In64; omega) | trivial | assumption)))
theorem isCertain_okI (V : List Int) (x y : Int) (g : vG V) (hx : 0 ≤ x ∧ x < 6) (hy : 0 ≤ y ∧ y < 6) (h4 : V.getD (6 + y.toNat) 0 < 4) : PureH Try.prog 65 [.arr V, .int x, .int y] [] (.bool (certB V x.toNat y.toNat)) := by
  have := isCertain_ok V x.toNat y.toNat g (by omega) (by omega) h4
  rw [Int.toNat_of_nonneg hx.1, Int.toNat_of_nonneg hy.1] at this
  exact this
theorem l7Top_okI (V : List Int) (x r : Int) (g : vG V) (hx : 0 ≤ x ∧ x < 6) (hr : 1 ≤ r ∧ r ≤ 4) : PureH Try.prog 60 [.arr V, .int x, .int r] [] (.arr (ltF (al V) (sa V x.toNat) (mm V x.toNat) r.toNat)) := by
  have := l7Top_ok V x.toNat r.toNat g (by omega) (by omega) (by omega)
  rw [Int.toNat_of_nonneg hx.1, Int.toNat_of_nonneg (show 0 ≤ r by omega)] at this
  exact this
end Go.Proofs.Ytfdpeenamkpcbaa
