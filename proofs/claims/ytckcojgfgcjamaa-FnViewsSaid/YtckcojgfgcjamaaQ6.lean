/- Texts of this claim, joined (Cert, Sl, CerP, Vw1, Mn0, Mn1, Mn2, Vw3, Vw4, Vw2, Mn3, Mn4, Mn5, UPours, FP1, FP0, FP2, VPo, Sn0, Vw5, Vw7). -/
import Derived.Test.YtckcojgfgcjamaaQ1
import Derived.Test.YtckcojgfgcjamaaQ2
import Derived.Test.YtckcojgfgcjamaaQ3
import Derived.Test.YtckcojgfgcjamaaQ4
import Derived.Test.YtckcojgfgcjamaaQ5
set_option maxRecDepth 100000
set_option linter.unusedSimpArgs false
set_option linter.unusedVariables false
namespace Go.Proofs.Ytckcojgfgcjamaa
open Go Go.RowKit
theorem two_blocks {P : Program} {f : FuncId} {args : List SV} {o1 o2 : SObj} {r : SV} {H : Heap} {a b : Nat} (h : PureH P f args [(0, o1), (1, o2)] r) (hab : a ≠ b) (g1 : hget H a = some o1) (g2 : hget H b = some o2) (w1 : ∀ ρ, o1.ren ρ = o1) (w2 : ∀ ρ, o2.ren ρ = o2) (hr : ∀ n, r.wf n) :
    PureH P f (renL (fun j => if j = 0 then a else b) args) H r :=
  h.sub (H := H) (fun j => if j = 0 then a else b) (fun j o hj => by
    simp only [hget_cons] at hj
    split at hj
    · rename_i hj0; cases hj; refine ⟨?_, fun _ => by omega, by simp [hj0]⟩; show hget H (if j = 0 then a else b) = _; rw [if_pos hj0, w1]; exact g1
    · rename_i hj0
      split at hj
      · rename_i hj1; cases hj; refine ⟨?_, fun _ => by omega, by simp [hj1]⟩; show hget H (if j = 0 then a else b) = _; rw [if_neg hj0, w2]; exact g2
      · cases hj) (fun x hx y hy he => by
    simp at hx hy
    rcases hx with rfl | rfl <;> rcases hy with rfl | rfl <;> simp at he <;> omega) hr
/-! Choices. -/
def chP (all : Int) (b : Nat) : Nat → Int
  | 0 => 1
  | n + 1 => chP all b n * (all - ((b + n : Nat) : Int))
def p18 : Nat → Int
  | 0 => 1
  | n + 1 => p18 n * 18
theorem p18_pos : ∀ n, 1 ≤ p18 n
  | 0 => by simp [p18]
  | n + 1 => by have := p18_pos n; unfold p18; omega
theorem p18_mono {a b : Nat} (h : a ≤ b) : p18 a ≤ p18 b := by
  induction b with
  | zero => rw [show a = 0 by omega]; exact Int.le_refl _
  | succ n ih =>
    by_cases hm : a = n + 1
    · subst hm; exact Int.le_refl _
    · have := ih (by omega)
      have := p18_pos n
      show p18 a ≤ p18 n * 18
      omega
theorem p18_four : p18 4 = 104976 := rfl
theorem p18_add (a b : Nat) : p18 a * p18 b = p18 (a + b) := by
  induction b with
  | zero => simp [p18]
  | succ n ih => rw [← Nat.add_assoc]; show p18 a * (p18 n * 18) = p18 (a + n) * 18; rw [← Int.mul_assoc, ih]
theorem chP_bd {all : Int} {b : Nat} (ha : all ≤ 18) : ∀ n, (n = 0 ∨ ((b + n : Nat) : Int) ≤ all) → 1 ≤ chP all b n ∧ chP all b n ≤ p18 n
  | 0, _ => by simp [chP, p18]
  | n + 1, h => by
    obtain ⟨g1, g2⟩ := chP_bd (b := b) ha n (by omega)
    have f1 : 1 ≤ all - ((b + n : Nat) : Int) := by omega
    have f2 : all - ((b + n : Nat) : Int) ≤ 18 := by omega
    have := mul_bd (show 0 ≤ chP all b n by omega) g2 (show 0 ≤ all - ((b + n : Nat) : Int) by omega) f2
    have m := Int.mul_le_mul_of_nonneg_right g1 (show 0 ≤ all - ((b + n : Nat) : Int) by omega)
    unfold chP p18
    omega
--@tbl tops1 = (impl.View).tops$1
theorem tops1_ok (all : Int) (m b : Nat) (ha : 0 ≤ all ∧ all ≤ 18) (hm : m ≤ 4) (hma : (m : Int) - 1 ≤ all) (hb5 : b ≤ 5) (e1 e2 : Nat) : PureH Try.prog 110 [.int b, .ptr 0 0, .ptr 1 0] [(0, .ints [(m : Int)] e1), (1, .ints [all] e2)] (.int (chP all b (m - 1 - b))) := by
  refine pure_of_vc (X := ⟨Try.prog, tys, [], [], true, true, 2, [], []⟩) fn_110 ⟨tys_ok, .nil, .nil, mixed⟩ (n0 := 2) (Nat.le_of_ble_eq_true rfl) (by simp [wfL, SV.wf]) (wfH_spec (by simp [wfH, SObj.wf, wfL, SV.wf])) (Nat.le_refl _) (fun _ => by simp [SV.wf, wfL]) ?_
  simp -implicitDefEqProofs only [Try.f110, Option.getD_some, argS, ZB, Int.reduceToNat, Nat.reduceLT, Nat.reduceLeDiff, Int.reduceLE, Int.reduceLT, Nat.reduceEqDiff, Nat.reduceSub, SB, SV.known, packR, ne_eq, reduceCtorEq, Nat.reduceEqDiff, ↓reduceIte, if_true, if_false, eq_self, Nat.reduceAdd, Nat.reduceMul, Nat.reduceSub, forall_const, oneCellS, litOne, flat1, Kd.isSca, flat, TYB]
  refine loop_intro (fun k : Nat => [(6, .int ((b + k : Nat) : Int)), (5, .int (chP all b k)), (1, .ptr 0 0), (2, .ptr 1 0)]) (fun k => [(0, .ints [(m : Int)] e1), (1, .ints [all] e2)]) 2 (fun k => k ≤ m - 1 - b) (fun k => 5 - k) ?_ ?_
  · refine ⟨0, ?_, Sub.mk_id ?_ ?_ ?_ ?_ ?_⟩
    all_goals (try (simp only [chP, Nat.add_zero, LB, subS, subH, wfS, wfH, SV.ren, renL, SObj.ren, SV.wf, SObj.wf, wfL, SV.known, Nat.reduceEqDiff, ↓reduceIte, if_true, if_false, eq_self, Nat.reduceAdd, Nat.reduceLT, Nat.reduceLeDiff, implies_true, reduceCtorEq, forall_const]; done))
    all_goals (try (simp only [chP, Nat.add_zero, LB, subS, subH, wfS, wfH, SV.ren, renL, SObj.ren, SV.wf, SObj.wf, wfL, SV.known, Nat.reduceEqDiff, ↓reduceIte, if_true, if_false, eq_self, Nat.reduceAdd, Nat.reduceLT, Nat.reduceLeDiff, implies_true, reduceCtorEq, forall_const]; simp; done))
    all_goals (try (simp only [chP, Nat.add_zero, LB, subS, subH, wfS, wfH, SV.ren, renL, SObj.ren, SV.wf, SObj.wf, wfL, SV.known, Nat.reduceEqDiff, ↓reduceIte, if_true, if_false, eq_self, Nat.reduceAdd, Nat.reduceLT, Nat.reduceLeDiff, implies_true, reduceCtorEq, forall_const]; (and_intros <;> (first | omega | rfl | (simp; done) | (simp; omega))); done))
    all_goals (try dsimp only)
    all_goals (and_intros <;> try (first | omega | (unfold In64; omega) | trivial | assumption))
  · intro k hk
    by_cases hlt : ((b + k : Nat) : Int) < (m : Int) - 1
    · obtain ⟨g1, g2⟩ := chP_bd (b := b) ha.2 (k + 1) (by omega)
      obtain ⟨g3, g4⟩ := chP_bd (b := b) ha.2 k (by omega)
      have pm := p18_mono (show k + 1 ≤ 4 by omega)
      rw [p18_four] at pm
      have es : chP all b (k + 1) = chP all b k * (all - ((b + k : Nat) : Int)) := rfl
      have iq : In64 (chP all b k * (all - ((b + k : Nat) : Int))) := by rw [← es]; unfold In64; omega
      have hl0 : [(m : Int)].getD 0 0 = m := rfl
      have hl1 : [all].getD 0 0 = all := rfl
      simp -implicitDefEqProofs only [lk_normal, hl0, hl1, hlt, iq, ZB, Int.reduceToNat, Nat.reduceLT, Nat.reduceLeDiff, Int.reduceLE, Int.reduceLT, Nat.reduceEqDiff, Nat.reduceSub, SB, SV.known, packR, ne_eq, reduceCtorEq, Nat.reduceEqDiff, ↓reduceIte, if_true, if_false, eq_self, Nat.reduceAdd, Nat.reduceMul, Nat.reduceSub, forall_const, oneCellS, litOne, flat1, Kd.isSca, flat, TYB]
      (try (and_intros <;> try (first | omega | (unfold In64; omega) | trivial | assumption)))
      refine ⟨k + 1, ?_, ?_, Sub.mk_id ?_ ?_ ?_ ?_ ?_⟩
      all_goals (try (simp only [es, LB, subS, subH, wfS, wfH, SV.ren, renL, SObj.ren, SV.wf, SObj.wf, wfL, SV.known, Nat.reduceEqDiff, ↓reduceIte, if_true, if_false, eq_self, Nat.reduceAdd, Nat.reduceLT, Nat.reduceLeDiff, implies_true, reduceCtorEq, forall_const]; done))
      all_goals (try (simp only [es, LB, subS, subH, wfS, wfH, SV.ren, renL, SObj.ren, SV.wf, SObj.wf, wfL, SV.known, Nat.reduceEqDiff, ↓reduceIte, if_true, if_false, eq_self, Nat.reduceAdd, Nat.reduceLT, Nat.reduceLeDiff, implies_true, reduceCtorEq, forall_const]; simp; done))
      all_goals (try (simp only [es, LB, subS, subH, wfS, wfH, SV.ren, renL, SObj.ren, SV.wf, SObj.wf, wfL, SV.known, Nat.reduceEqDiff, ↓reduceIte, if_true, if_false, eq_self, Nat.reduceAdd, Nat.reduceLT, Nat.reduceLeDiff, implies_true, reduceCtorEq, forall_const]; (and_intros <;> (first | omega | rfl | (simp; done) | (simp; omega))); done))
      all_goals (try dsimp only)
      all_goals (and_intros <;> try (first | omega | (unfold In64; omega) | trivial | assumption))
    · have ek : k = m - 1 - b := by omega
      have hl0 : [(m : Int)].getD 0 0 = m := rfl
      simp -implicitDefEqProofs only [lk_normal, hl0, hlt, ZB, Int.reduceToNat, Nat.reduceLT, Nat.reduceLeDiff, Int.reduceLE, Int.reduceLT, Nat.reduceEqDiff, Nat.reduceSub, SB, SV.known, packR, ne_eq, reduceCtorEq, Nat.reduceEqDiff, ↓reduceIte, if_true, if_false, eq_self, Nat.reduceAdd, Nat.reduceMul, Nat.reduceSub, forall_const, oneCellS, litOne, flat1, Kd.isSca, flat, TYB]
      (try (and_intros <;> try (first | omega | (unfold In64; omega) | trivial | assumption)))
      all_goals (try rw [ek])
def tops1_F : List SV → Heap → Option (Prop × SV)
  | [.int x, .ptr p 0, .ptr q 0], H => match hget H p, hget H q with
    | some (.ints [m] _), some (.ints [all] _) => some (p ≠ q ∧ (0 ≤ x ∧ x ≤ 5) ∧ (0 ≤ all ∧ all ≤ 18) ∧ (0 ≤ m ∧ m ≤ 4) ∧ m - 1 ≤ all, .int (chP all x.toNat (m.toNat - 1 - x.toNat)))
    | _, _ => none
  | _, _ => none
theorem tops1_T : ∀ args H p v, tops1_F args H = some (p, v) → p → PureH Try.prog 110 args H v := by
  intro args H p v h hp
  unfold tops1_F at h
  split at h
  · rename_i x p q
    split at h
    · rename_i m e1 all e2 g1 g2
      cases h
      obtain ⟨hpq, hx, ha, hm, hma⟩ := hp
      have := tops1_ok all m.toNat x.toNat ha (by omega) (by omega) (by omega) e1 e2
      rw [Int.toNat_of_nonneg hx.1, Int.toNat_of_nonneg hm.1] at this
      have h2 := two_blocks this hpq g1 g2 (fun _ => rfl) (fun _ => rfl) (fun _ => trivial)
      simpa [renL, SV.ren] using h2
    · cases h
  · cases h
def wyF (same : Int) : Nat → Int
  | 0 => 1
  | r + 1 => wyF same r * max (same - (r : Int)) 0
theorem wyF_bd {same : Int} (h : same ≤ 18) : ∀ r, 0 ≤ wyF same r ∧ wyF same r ≤ p18 r
  | 0 => by simp [wyF, p18]
  | r + 1 => by
    obtain ⟨g1, g2⟩ := wyF_bd h r
    have := mul_bd g1 g2 (show 0 ≤ max (same - (r : Int)) 0 by omega) (show max (same - (r : Int)) 0 ≤ 18 by omega)
    exact this
def toVal (all same : Int) (m r : Nat) : Int := if r = 0 then 0 else if r < m then wyF same (r - 1) * (all - ((r : Int) - 1) - (same - ((r : Int) - 1))) * chP all r (m - 1 - r) else if r = m then wyF same (m - 1) else 0
def toL (all same : Int) (m r : Nat) : List Int := (List.range 5).map fun q => if q ≤ r then toVal all same m q else 0
theorem toL_len (all same : Int) (m r : Nat) : (toL all same m r).length = 5 := by simp [toL]
theorem toL_get (all same : Int) (m r : Nat) {q : Nat} (h : q < 5) : (toL all same m r).getD q 0 = if q ≤ r then toVal all same m q else 0 := by simp [toL, List.getD, h]
theorem list_ext5 {L M : List Int} (hL : L.length = 5) (hM : M.length = 5) (h : ∀ q, q < 5 → L.getD q 0 = M.getD q 0) : L = M := by
  apply List.ext_getElem (by omega)
  intro q h1 h2
  have := h q (by omega)
  simp only [List.getD, List.getElem?_eq_getElem h1, List.getElem?_eq_getElem h2, Option.getD_some] at this
  exact this
theorem toL_zero (all same : Int) (m : Nat) : toL all same m 0 = List.replicate 5 0 := list_ext5 (toL_len _ _ _ _) (by simp) fun q h => by
  rw [toL_get _ _ _ _ h, List.getD_eq_getElem?_getD, List.getElem?_replicate, if_pos h]
  split
  · rw [show q = 0 by omega]; rfl
  · rfl
theorem toL_set (all same : Int) (m : Nat) {r : Nat} (h : r + 1 < 5) : (toL all same m r).set (r + 1) (toVal all same m (r + 1)) = toL all same m (r + 1) := list_ext5 (by rw [List.length_set, toL_len]) (toL_len _ _ _ _) fun q hq => by
  rw [getD_set' _ _ _ _ (by rw [toL_len]; omega), toL_get _ _ _ _ hq, toL_get _ _ _ _ hq]
  by_cases h1 : r + 1 = q
  · subst h1; rw [if_pos rfl, if_pos (by omega)]
  · rw [if_neg h1]
    by_cases h2 : q ≤ r
    · rw [if_pos h2, if_pos (by omega)]
    · rw [if_neg h2, if_neg (by omega)]
/-- What is asked of a tube of a view. -/
structure vsm (V : List Int) (i : Nat) (all same : Int) (m : Nat) : Prop where
  all_ : (hidV V).sum = all
  same_ : (hidV V).getD (V.getD i 0).toNat 0 = same
  m_ : V.getD (6 + i) 0 = m
  a : 0 ≤ all ∧ all ≤ 18
  b : 0 ≤ same ∧ same ≤ all
  c : m ≤ 4
  d : (m : Int) - 1 ≤ all
--@tbl tops = (impl.View).tops
theorem tops_ok (V : List Int) (i m : Nat) (all same : Int) (hV : V.length = 18) (hi : i < 6) (u1 : vTop V) (lenH : (hidV V).length = 6) (bH : Bd 0 24 (hidV V)) (hs : vsm V i all same m) : PureH Try.prog 76 [.arr V, .int i] [] (.tup [.arr (toL all same m m), .int (chP all 0 (m - 1))]) := by
  have tkV : V.take 18 = V := List.take_of_length_le (by omega)
  have il : (i : Int) < 6 := by omega
  have i0 : 0 ≤ (i : Int) := by omega
  have i8 : i < 18 := by omega
  have i6 : 6 + i < 18 := by omega
  have eH : hidL (V.take 6) (V.drop 12) 6 = hidV V := rfl
  have tkH : (hidV V).take 6 = hidV V := List.take_of_length_le (by omega)
  have bH2 : Bd (-1000000) 1000000 (hidV V) := fun x hx => by have := bH x hx; omega
  have t0 := u1 i hi
  have t1 : 0 ≤ V.getD i 0 := t0.1
  have t2 : V.getD i 0 < 6 := by omega
  have t3 : (V.getD i 0).toNat < 6 := by omega
  have e1 := hs.all_
  have e2 := hs.same_
  have e3 := hs.m_
  have sm : [(0 : Int)].set 0 (m : Int) = [(m : Int)] := rfl
  refine pure_of_vc (X := ⟨Try.prog, tys, [(53, hidden_F), (68, sum_F), (110, tops1_F)], [], true, true, 0, [], [(2, .holes [])]⟩) fn_76 ⟨tys_ok, (.cons hidden_T (.cons sum_T (.cons tops1_T .nil))), .nil, mixed⟩ (n0 := 0) (Nat.le_of_ble_eq_true rfl) (by simp [wfL, SV.wf]) (wfH_spec (by simp [wfH, SObj.wf, wfL, SV.wf])) (Nat.le_refl _) (fun _ => by simp [SV.wf, wfL]) ?_
  simp -implicitDefEqProofs only [Try.f76, Option.getD_some, argS, hidden_F, sum_F, tops1_F, hV, tkV, il, i0, i8, i6, u1, eH, lenH, tkH, bH2, t1, t2, t3, e1, e2, e3, sm, ZB, Int.reduceToNat, Nat.reduceLT, Nat.reduceLeDiff, Int.reduceLE, Int.reduceLT, Nat.reduceEqDiff, Nat.reduceSub, SB, SV.known, packR, ne_eq, reduceCtorEq, Nat.reduceEqDiff, ↓reduceIte, if_true, if_false, eq_self, Nat.reduceAdd, Nat.reduceMul, Nat.reduceSub, forall_const, oneCellS, litOne, flat1, Kd.isSca, flat, TYB]
  refine loop_intro (fun r : Nat => [(13, .int ((r : Int) + 1)), (12, .int (wyF same r)), (11, .ptr 5 0), (10, .fn 110 [.ptr 4 0, .ptr 3 0]), (9, .ptr 4 0), (8, .int same), (7, .ptr 3 0), (4, .ptr 1 0)]) (fun r => [(5, .ints (toL all same m r) 91), (4, .ints [(m : Int)] 3), (3, .ints [all] 3), (1, .ints (List.replicate 5 0) 91)]) 6 (fun r => r ≤ m) (fun r => 5 - r) ?_ ?_
  · refine ⟨0, ?_, Sub.mk_id ?_ ?_ ?_ ?_ ?_⟩
    all_goals (try (simp only [toL_zero, wyF, LB, subS, subH, wfS, wfH, SV.ren, renL, SObj.ren, SV.wf, SObj.wf, wfL, SV.known, Nat.reduceEqDiff, ↓reduceIte, if_true, if_false, eq_self, Nat.reduceAdd, Nat.reduceLT, Nat.reduceLeDiff, implies_true, reduceCtorEq, forall_const]; done))
    all_goals (try (simp only [toL_zero, wyF, LB, subS, subH, wfS, wfH, SV.ren, renL, SObj.ren, SV.wf, SObj.wf, wfL, SV.known, Nat.reduceEqDiff, ↓reduceIte, if_true, if_false, eq_self, Nat.reduceAdd, Nat.reduceLT, Nat.reduceLeDiff, implies_true, reduceCtorEq, forall_const]; simp; done))
    all_goals (try (simp only [toL_zero, wyF, LB, subS, subH, wfS, wfH, SV.ren, renL, SObj.ren, SV.wf, SObj.wf, wfL, SV.known, Nat.reduceEqDiff, ↓reduceIte, if_true, if_false, eq_self, Nat.reduceAdd, Nat.reduceLT, Nat.reduceLeDiff, implies_true, reduceCtorEq, forall_const]; (and_intros <;> (first | omega | rfl | (simp; done) | (simp; omega))); done))
    all_goals (try dsimp only)
    all_goals (and_intros <;> try (first | omega | (unfold In64; omega) | trivial | assumption))
  · intro r hr
    have hl := toL_len all same m r
    have g4 : [(m : Int)].getD 0 0 = m := rfl
    have g3 : [all].getD 0 0 = all := rfl
    have r1 : (r : Int) + 1 - 1 = r := by omega
    have wb := wyF_bd (same := same) (by have := hs.b; have := hs.a; omega) r
    have pm := p18_mono (show r ≤ 4 by have := hs.c; omega)
    rw [p18_four] at pm
    have ha := hs.a
    have hb := hs.b
    have hc := hs.c
    have hd := hs.d
    by_cases hlt : (r : Int) + 1 ≤ m
    · have tn : ((r : Int) + 1).toNat = r + 1 := by omega
      have k0 : 0 ≤ (r : Int) + 1 := by omega
      have k5 : (r : Int) + 1 < 5 := by omega
      have k5b : (r : Int) + 1 ≤ 5 := by omega
      have k5n : r + 1 < 5 := by omega
      have mm : 0 ≤ (m : Int) ∧ (m : Int) ≤ 4 := by omega
      have ar : (4 : Nat) ≠ 3 := by decide
      have ws : wyF same (r + 1) = wyF same r * max (same - (r : Int)) 0 := rfl
      have wb2 := wyF_bd (same := same) (by omega) (r + 1)
      have pm2 := p18_mono (show r + 1 ≤ 4 by omega)
      rw [p18_four] at pm2
      have i2 : In64 (wyF same r * max (same - (r : Int)) 0) := by rw [← ws]; unfold In64; omega
      have es := toL_set all same m k5n
      by_cases hl2 : (r : Int) + 1 < m
      · have ev : toVal all same m (r + 1) = wyF same r * (all - r - (same - r)) * chP all (r + 1) (m - 1 - (r + 1)) := by
          unfold toVal
          rw [if_neg (by omega), if_pos (by omega)]
          simp only [Nat.add_sub_cancel]
          rw [show (((r + 1 : Nat) : Int) - 1) = r by omega]
        rw [ev] at es
        obtain ⟨c1, c2⟩ := chP_bd (b := r + 1) (all := all) (by omega) (m - 1 - (r + 1)) (by omega)
        have m1 := mul_bd wb.1 wb.2 (show 0 ≤ all - r - (same - r) by omega) (show all - r - (same - r) ≤ 18 by omega)
        have m2 := mul_bd m1.1 m1.2 (show 0 ≤ chP all (r + 1) (m - 1 - (r + 1)) by omega) c2
        have m3 : p18 r * 18 * p18 (m - 1 - (r + 1)) ≤ p18 4 := by
          show p18 (r + 1) * p18 (m - 1 - (r + 1)) ≤ p18 4
          rw [p18_add]; exact p18_mono (by omega)
        rw [p18_four] at m3
        have i3 : In64 (wyF same r * (all - r - (same - r))) := by unfold In64; omega
        have i4 : In64 (wyF same r * (all - r - (same - r)) * chP all (r + 1) (m - 1 - (r + 1))) := by unfold In64; omega
        simp -implicitDefEqProofs only [lk_normal, tops1_F, g3, g4, hl, hlt, hl2, r1, tn, k0, k5, k5b, k5n, mm, ar, ha, hd, ws, i2, i3, i4, es, ZB, Int.reduceToNat, Nat.reduceLT, Nat.reduceLeDiff, Int.reduceLE, Int.reduceLT, Nat.reduceEqDiff, Nat.reduceSub, SB, SV.known, packR, ne_eq, reduceCtorEq, Nat.reduceEqDiff, ↓reduceIte, if_true, if_false, eq_self, Nat.reduceAdd, Nat.reduceMul, Nat.reduceSub, forall_const, oneCellS, litOne, flat1, Kd.isSca, flat, TYB]
        (try (and_intros <;> try (first | omega | (unfold In64; omega) | trivial | assumption)))
        refine ⟨r + 1, ?_, ?_, Sub.mk_id ?_ ?_ ?_ ?_ ?_⟩
        all_goals (try (simp only [ws, LB, subS, subH, wfS, wfH, SV.ren, renL, SObj.ren, SV.wf, SObj.wf, wfL, SV.known, Nat.reduceEqDiff, ↓reduceIte, if_true, if_false, eq_self, Nat.reduceAdd, Nat.reduceLT, Nat.reduceLeDiff, implies_true, reduceCtorEq, forall_const]; done))
        all_goals (try (simp only [ws, LB, subS, subH, wfS, wfH, SV.ren, renL, SObj.ren, SV.wf, SObj.wf, wfL, SV.known, Nat.reduceEqDiff, ↓reduceIte, if_true, if_false, eq_self, Nat.reduceAdd, Nat.reduceLT, Nat.reduceLeDiff, implies_true, reduceCtorEq, forall_const]; simp; done))
        all_goals (try (simp only [ws, LB, subS, subH, wfS, wfH, SV.ren, renL, SObj.ren, SV.wf, SObj.wf, wfL, SV.known, Nat.reduceEqDiff, ↓reduceIte, if_true, if_false, eq_self, Nat.reduceAdd, Nat.reduceLT, Nat.reduceLeDiff, implies_true, reduceCtorEq, forall_const]; (and_intros <;> (first | omega | rfl | (simp; done) | (simp; omega))); done))
        all_goals (try dsimp only)
        all_goals (and_intros <;> try (first | omega | (unfold In64; omega) | trivial | assumption))
      · have ev : toVal all same m (r + 1) = wyF same r := by
          unfold toVal
          rw [if_neg (by omega), if_neg (by omega), if_pos (by omega), show m - 1 = r by omega]
        rw [ev] at es
        simp -implicitDefEqProofs only [lk_normal, tops1_F, g3, g4, hl, hlt, hl2, r1, tn, k0, k5, k5b, k5n, mm, ar, ha, hd, ws, i2, es, ZB, Int.reduceToNat, Nat.reduceLT, Nat.reduceLeDiff, Int.reduceLE, Int.reduceLT, Nat.reduceEqDiff, Nat.reduceSub, SB, SV.known, packR, ne_eq, reduceCtorEq, Nat.reduceEqDiff, ↓reduceIte, if_true, if_false, eq_self, Nat.reduceAdd, Nat.reduceMul, Nat.reduceSub, forall_const, oneCellS, litOne, flat1, Kd.isSca, flat, TYB]
        (try (and_intros <;> try (first | omega | (unfold In64; omega) | trivial | assumption)))
        refine ⟨r + 1, ?_, ?_, Sub.mk_id ?_ ?_ ?_ ?_ ?_⟩
        all_goals (try (simp only [ws, LB, subS, subH, wfS, wfH, SV.ren, renL, SObj.ren, SV.wf, SObj.wf, wfL, SV.known, Nat.reduceEqDiff, ↓reduceIte, if_true, if_false, eq_self, Nat.reduceAdd, Nat.reduceLT, Nat.reduceLeDiff, implies_true, reduceCtorEq, forall_const]; done))
        all_goals (try (simp only [ws, LB, subS, subH, wfS, wfH, SV.ren, renL, SObj.ren, SV.wf, SObj.wf, wfL, SV.known, Nat.reduceEqDiff, ↓reduceIte, if_true, if_false, eq_self, Nat.reduceAdd, Nat.reduceLT, Nat.reduceLeDiff, implies_true, reduceCtorEq, forall_const]; simp; done))
        all_goals (try (simp only [ws, LB, subS, subH, wfS, wfH, SV.ren, renL, SObj.ren, SV.wf, SObj.wf, wfL, SV.known, Nat.reduceEqDiff, ↓reduceIte, if_true, if_false, eq_self, Nat.reduceAdd, Nat.reduceLT, Nat.reduceLeDiff, implies_true, reduceCtorEq, forall_const]; (and_intros <;> (first | omega | rfl | (simp; done) | (simp; omega))); done))
        all_goals (try dsimp only)
        all_goals (and_intros <;> try (first | omega | (unfold In64; omega) | trivial | assumption))
    · obtain rfl : r = m := by omega
      have mm : 0 ≤ (r : Int) ∧ (r : Int) ≤ 4 := by omega
      have ar : (4 : Nat) ≠ 3 := by decide
      have tk5 : (toL all same r r).take 5 = toL all same r r := List.take_of_length_le (by omega)
      simp -implicitDefEqProofs only [lk_normal, tops1_F, g3, g4, hl, hlt, tk5, mm, ar, ha, hd, ZB, Int.reduceToNat, Nat.reduceLT, Nat.reduceLeDiff, Int.reduceLE, Int.reduceLT, Nat.reduceEqDiff, Nat.reduceSub, SB, SV.known, packR, ne_eq, reduceCtorEq, Nat.reduceEqDiff, ↓reduceIte, if_true, if_false, eq_self, Nat.reduceAdd, Nat.reduceMul, Nat.reduceSub, forall_const, oneCellS, litOne, flat1, Kd.isSca, flat, TYB]
      (try (and_intros <;> try (first | omega | (unfold In64; omega) | trivial | assumption)))
structure vG (V : List Int) : Prop where
  len : V.length = 18
  u1 : vTop V
  u2 : vMan V
  u3 : vTM V
  lenH : (hidV V).length = 6
  bH : Bd 0 24 (hidV V)
  hs : (hidV V).sum = hmL (V.drop 6) 6
  h18 : (hidV V).sum ≤ 18
def al (V : List Int) : Int := (hidV V).sum
def sa (V : List Int) (i : Nat) : Int := (hidV V).getD (V.getD i 0).toNat 0
def mm (V : List Int) (i : Nat) : Nat := (V.getD (6 + i) 0).toNat
theorem hmL_ge {M : List Int} (hM : ∀ k, k < 6 → 0 ≤ M.getD k 0 ∧ M.getD k 0 ≤ 4) (i : Nat) : ∀ k, k ≤ 6 → i < k → M.getD i 0 - 1 ≤ hmL M k
  | 0, _, h => by omega
  | k + 1, hk, h => by
    have hb := hmL_bd hM k (by omega)
    have hm := hM k (by omega)
    by_cases hik : i = k
    · subst hik
      unfold hmL
      split <;> omega
    · have := hmL_ge hM i k (by omega) (by omega)
      unfold hmL
      split <;> omega
theorem vsm_of {V : List Int} (g : vG V) {i : Nat} (hi : i < 6) : vsm V i (al V) (sa V i) (mm V i) := by
  have h2 := g.u2 i hi
  have h1 := g.u1 i hi
  have gM : ∀ k, (V.drop 6).getD k 0 = V.getD (6 + k) 0 := fun k => by simp [List.getD]
  have hm := hmL_ge (M := V.drop 6) (fun k hk => by rw [gM]; exact g.u2 k hk) i 6 (Nat.le_refl _) hi
  rw [gM, ← g.hs] at hm
  have hs0 := sum_bd _ g.bH
  have hsl := le_sum _ (V.getD i 0).toNat g.bH (by rw [g.lenH]; omega)
  have hs1 : 0 ≤ (hidV V).getD (V.getD i 0).toNat 0 := (g.bH.getD (by rw [g.lenH]; omega)).1
  have h18 := g.h18
  refine ⟨rfl, rfl, ?_, ?_, ⟨hs1, hsl⟩, ?_, ?_⟩
  · unfold mm; omega
  · unfold al; omega
  · unfold mm; omega
  · unfold mm al; omega
theorem tops_okI (V : List Int) (x : Int) (g : vG V) (hx : 0 ≤ x ∧ x < 6) : PureH Try.prog 76 [.arr V, .int x] [] (.tup [.arr (toL (al V) (sa V x.toNat) (mm V x.toNat) (mm V x.toNat)), .int (chP (al V) 0 (mm V x.toNat - 1))]) := by
  have := tops_ok V x.toNat _ _ _ g.len (by omega) g.u1 g.lenH g.bH (vsm_of g (by omega))
  rw [Int.toNat_of_nonneg hx.1] at this
  exact this
def tops_F : List SV → Heap → Option (Prop × SV)
  | [.arr V, .int x], _ => some (vG V ∧ 0 ≤ x ∧ x < 6, .tup [.arr (toL (al V) (sa V x.toNat) (mm V x.toNat) (mm V x.toNat)), .int (chP (al V) 0 (mm V x.toNat - 1))])
  | _, _ => none
theorem tops_T : ∀ args H p v, tops_F args H = some (p, v) → p → PureH Try.prog 76 args H v := by
  intro args H p v h hp
  unfold tops_F at h
  split at h
  · cases h; exact (tops_okI _ _ hp.1 hp.2).any _
  · cases h
/-! Is a pour certain? -/
def tv (V : List Int) (i r : Nat) : Int := toVal (al V) (sa V i) (mm V i) r
theorem tv_get {V : List Int} {i r : Nat} (hr : r < 5) : (toL (al V) (sa V i) (mm V i) (mm V i)).getD r 0 = tv V i r := by
  rw [toL_get _ _ _ _ hr]
  unfold tv
  split
  · rfl
  · unfold toVal
    rw [if_neg (by omega), if_neg (by omega), if_neg (by omega)]
/-! The chance of a top. -/
def ltK (all same : Int) : Nat → List Int
  | 0 => [1, 1]
  | k + 1 => fracF ((ltK all same k).getD 0 0 * max (same - (k : Int)) 0) ((ltK all same k).getD 1 0 * (all - (k : Int)))
def ltF (all same : Int) (m r : Nat) : List Int := if m < r then [0, 1] else if r < m then fracF ((ltK all same (r - 1)).getD 0 0 * (all - ((r : Int) - 1) - max (same - ((r : Int) - 1)) 0)) ((ltK all same (r - 1)).getD 1 0 * (all - ((r : Int) - 1))) else ltK all same (r - 1)
theorem fracF_sign {a b : Int} (ha : 0 ≤ a) (hb : 0 < b) : 0 < (fracF a b).getD 0 0 ↔ 0 < a := by
  have hp := fracF_pos ha hb
  constructor
  · intro h; omega
  · intro h
    show 0 < a.tdiv (Nat.gcd a.toNat b.toNat : Nat)
    have hg : 0 < Nat.gcd a.toNat b.toNat := Nat.gcd_pos_of_pos_right _ (by omega)
    rw [Int.tdiv_eq_ediv_of_nonneg ha]
    have hd : ((Nat.gcd a.toNat b.toNat : Nat) : Int) ≤ a := by
      have := Nat.gcd_le_left b.toNat (show 0 < a.toNat by omega)
      omega
    have : 1 ≤ a / ((Nat.gcd a.toNat b.toNat : Nat) : Int) := (Int.le_ediv_iff_mul_le (by omega)).2 (by omega)
    omega
theorem ltK_bd {all same : Int} (ha : all ≤ 18) (hs : same ≤ 18) : ∀ k : Nat, (k = 0 ∨ (k : Int) ≤ all) → (ltK all same k).length = 2 ∧ 0 ≤ (ltK all same k).getD 0 0 ∧ (ltK all same k).getD 0 0 ≤ p18 k ∧ 0 < (ltK all same k).getD 1 0 ∧ (ltK all same k).getD 1 0 ≤ p18 k ∧ (0 < (ltK all same k).getD 0 0 ↔ 0 < wyF same k)
  | 0, _ => by simp [ltK, p18, wyF]
  | k + 1, h => by
    obtain ⟨g0, g1, g2, g3, g4, g5⟩ := ltK_bd ha hs k (by omega)
    have f1 : 1 ≤ all - (k : Int) := by omega
    have m1 := mul_bd g1 g2 (show 0 ≤ max (same - (k : Int)) 0 by omega) (show max (same - (k : Int)) 0 ≤ 18 by omega)
    have m2 := mul_bd (show 0 ≤ (ltK all same k).getD 1 0 by omega) g4 (show 0 ≤ all - (k : Int) by omega) (show all - (k : Int) ≤ 18 by omega)
    have m3 := Int.mul_pos g3 (show 0 < all - (k : Int) by omega)
    have hp := fracF_pos m1.1 m3
    have hsn := fracF_sign m1.1 m3
    have wb := wyF_bd hs k
    refine ⟨fracF_len _ _, hp.1, Int.le_trans hp.2.1 m1.2, hp.2.2.1, Int.le_trans hp.2.2.2 m2.2, ?_⟩
    show 0 < (fracF _ _).getD 0 0 ↔ 0 < wyF same k * max (same - (k : Int)) 0
    rw [hsn]
    constructor
    · intro h1
      have : 0 < (ltK all same k).getD 0 0 := by
        rcases Int.lt_or_eq_of_le g1 with h2 | h2
        · exact h2
        · rw [← h2, Int.zero_mul] at h1; omega
      have h3 := g5.1 this
      have h4 : 0 < max (same - (k : Int)) 0 := by
        rcases Int.lt_or_eq_of_le (show 0 ≤ max (same - (k : Int)) 0 by omega) with h2 | h2
        · exact h2
        · rw [← h2, Int.mul_zero] at h1; omega
      exact Int.mul_pos h3 h4
    · intro h1
      have h3 : 0 < wyF same k := by
        rcases Int.lt_or_eq_of_le wb.1 with h2 | h2
        · exact h2
        · rw [← h2, Int.zero_mul] at h1; omega
      have h4 : 0 < max (same - (k : Int)) 0 := by
        rcases Int.lt_or_eq_of_le (show 0 ≤ max (same - (k : Int)) 0 by omega) with h2 | h2
        · exact h2
        · rw [← h2, Int.mul_zero] at h1; omega
      exact Int.mul_pos (g5.2 h3) h4
--@tbl l7Top = spec.l7Top
theorem l7Top_ok (V : List Int) (i r : Nat) (g : vG V) (hi : i < 6) (hr : 1 ≤ r) (hr4 : r ≤ 4) : PureH Try.prog 77 [.arr V, .int i, .int r] [] (.arr (ltF (al V) (sa V i) (mm V i) r)) := by
  have hV := g.len
  have tkV : V.take 18 = V := List.take_of_length_le (by omega)
  have u1 := g.u1
  have u2 := g.u2
  have u3 := g.u3
  have lenH := g.lenH
  have tkH : (hidV V).take 6 = hidV V := List.take_of_length_le (by omega)
  have il : (i : Int) < 6 := by omega
  have i0 : 0 ≤ (i : Int) := by omega
  have i8 : i < 18 := by omega
  have i6 : 6 + i < 18 := by omega
  have eH : hidL (V.take 6) (V.drop 12) 6 = hidV V := rfl
  have eM : hmL (V.drop 6) 6 = al V := g.hs.symm
  have sm := vsm_of g hi
  have e2 := sm.same_
  have e3 := sm.m_
  have t0 := u1 i hi
  have t1 : 0 ≤ V.getD i 0 := t0.1
  have t2 : V.getD i 0 < 6 := by omega
  have t3 : (V.getD i 0).toNat < 6 := by omega
  unfold ltF
  by_cases hrm : mm V i < r
  · have hc : (mm V i : Int) < r := by omega
    rw [if_pos hrm]
    refine pure_of_vc (X := ⟨Try.prog, tys, [(56, l7Hidden_F), (75, l7Cut_F), (87, l1Most_F)], [], true, true, 0, [], []⟩) fn_77 ⟨tys_ok, (.cons l7Hidden_T (.cons l7Cut_T (.cons l1Most_T .nil))), .nil, mixed⟩ (n0 := 0) (Nat.le_of_ble_eq_true rfl) (by simp [wfL, SV.wf]) (wfH_spec (by simp [wfH, SObj.wf, wfL, SV.wf])) (Nat.le_refl _) (fun _ => by simp [SV.wf, wfL]) ?_
    simp -implicitDefEqProofs only [Try.f77, Option.getD_some, argS, l7Hidden_F, l7Cut_F, l1Most_F, hV, tkV, il, i0, i8, i6, u1, u2, u3, eH, eM, lenH, tkH, e2, e3, t1, t2, t3, hc, ZB, Int.reduceToNat, Nat.reduceLT, Nat.reduceLeDiff, Int.reduceLE, Int.reduceLT, Nat.reduceEqDiff, Nat.reduceSub, SB, SV.known, packR, ne_eq, reduceCtorEq, Nat.reduceEqDiff, ↓reduceIte, if_true, if_false, eq_self, Nat.reduceAdd, Nat.reduceMul, Nat.reduceSub, forall_const, oneCellS, litOne, flat1, Kd.isSca, flat, TYB]
  · have hc : ¬ (mm V i : Int) < r := by omega
    rw [if_neg hrm]
    refine pure_of_vc (X := ⟨Try.prog, tys, [(56, l7Hidden_F), (75, l7Cut_F), (87, l1Most_F)], [], true, true, 0, [], []⟩) fn_77 ⟨tys_ok, (.cons l7Hidden_T (.cons l7Cut_T (.cons l1Most_T .nil))), .nil, mixed⟩ (n0 := 0) (Nat.le_of_ble_eq_true rfl) (by simp [wfL, SV.wf]) (wfH_spec (by simp [wfH, SObj.wf, wfL, SV.wf])) (Nat.le_refl _) (fun _ => by simp [SV.wf, wfL]) ?_
    simp -implicitDefEqProofs only [Try.f77, Option.getD_some, argS, l7Hidden_F, l7Cut_F, l1Most_F, hV, tkV, il, i0, i8, i6, u1, u2, u3, eH, eM, lenH, tkH, e2, e3, t1, t2, t3, hc, ZB, Int.reduceToNat, Nat.reduceLT, Nat.reduceLeDiff, Int.reduceLE, Int.reduceLT, Nat.reduceEqDiff, Nat.reduceSub, SB, SV.known, packR, ne_eq, reduceCtorEq, Nat.reduceEqDiff, ↓reduceIte, if_true, if_false, eq_self, Nat.reduceAdd, Nat.reduceMul, Nat.reduceSub, forall_const, oneCellS, litOne, flat1, Kd.isSca, flat, TYB]
    have ha := sm.a
    have hb := sm.b
    have hcm := sm.c
    have hd := sm.d
    generalize al V = all at *
    generalize sa V i = same at *
    generalize mm V i = m at *
    refine loop_intro (fun k : Nat => [(11, .int ((k : Int) + 1)), (9, .int (same - (k : Int))), (10, .ptr 3 0), (7, .int (all - (k : Int))), (3, .ptr 0 0), (1, .int i), (2, .int r), (6, .ptr 1 0)]) (fun k => [(3, .ints (ltK all same k) 47), (1, .ints (List.replicate 2 0) 47), (0, .ints V 31)]) 4 (fun k => k ≤ r - 1) (fun k => 5 - k) ?_ ?_
    · refine ⟨0, ?_, Sub.mk_id ?_ ?_ ?_ ?_ ?_⟩
      all_goals (try (simp only [ltK, LB, subS, subH, wfS, wfH, SV.ren, renL, SObj.ren, SV.wf, SObj.wf, wfL, SV.known, Nat.reduceEqDiff, ↓reduceIte, if_true, if_false, eq_self, Nat.reduceAdd, Nat.reduceLT, Nat.reduceLeDiff, implies_true, reduceCtorEq, forall_const]; done))
      all_goals (try (simp only [ltK, LB, subS, subH, wfS, wfH, SV.ren, renL, SObj.ren, SV.wf, SObj.wf, wfL, SV.known, Nat.reduceEqDiff, ↓reduceIte, if_true, if_false, eq_self, Nat.reduceAdd, Nat.reduceLT, Nat.reduceLeDiff, implies_true, reduceCtorEq, forall_const]; simp; done))
      all_goals (try (simp only [ltK, LB, subS, subH, wfS, wfH, SV.ren, renL, SObj.ren, SV.wf, SObj.wf, wfL, SV.known, Nat.reduceEqDiff, ↓reduceIte, if_true, if_false, eq_self, Nat.reduceAdd, Nat.reduceLT, Nat.reduceLeDiff, implies_true, reduceCtorEq, forall_const]; (and_intros <;> (first | omega | rfl | (simp; done) | (simp; omega))); done))
      all_goals (try dsimp only)
      all_goals (and_intros <;> try (first | omega | (unfold In64; omega) | trivial | assumption))
      all_goals simp
    · intro k hk
      obtain ⟨g0, g1, g2, g3, g4, g5⟩ := ltK_bd (all := all) (same := same) (by omega) (by omega) k (by omega)
      have dr := List.drop_of_length_le (Nat.le_of_eq g0)
      have pm := p18_mono (show k ≤ 3 by omega)
      have pm2 := p18_mono (show k + 1 ≤ 4 by omega)
      rw [p18_four] at pm2
      have p3 : p18 3 = 5832 := rfl
      rw [p3] at pm
      have mx : 0 ≤ max (same - (k : Int)) 0 := by omega
      have m1 := mul_bd g1 g2 mx (show max (same - (k : Int)) 0 ≤ 18 by omega)
      have m1b : (ltK all same k).getD 0 0 * max (same - (k : Int)) 0 ≤ p18 (k + 1) := m1.2
      by_cases hlt : (k : Int) + 1 < r
      · have fa : 0 < all - (k : Int) := by omega
        have m2 := mul_bd (show 0 ≤ (ltK all same k).getD 1 0 by omega) g4 (show 0 ≤ all - (k : Int) by omega) (show all - (k : Int) ≤ 18 by omega)
        have m2b : (ltK all same k).getD 1 0 * (all - (k : Int)) ≤ p18 (k + 1) := m2.2
        have m3 := Int.mul_pos g3 fa
        have i1 : In64 ((ltK all same k).getD 0 0 * max (same - (k : Int)) 0) := by unfold In64; omega
        have i2 : In64 ((ltK all same k).getD 1 0 * (all - (k : Int))) := by unfold In64; omega
        have q1 := m1.1
        have es : ltK all same (k + 1) = fracF ((ltK all same k).getD 0 0 * max (same - (k : Int)) 0) ((ltK all same k).getD 1 0 * (all - (k : Int))) := rfl
        have fl := fracF_len ((ltK all same k).getD 0 0 * max (same - (k : Int)) 0) ((ltK all same k).getD 1 0 * (all - (k : Int)))
        have s1 : same - ((k + 1 : Nat) : Int) = same - k - 1 := by omega
        have s2 : all - ((k + 1 : Nat) : Int) = all - k - 1 := by omega
        simp -implicitDefEqProofs only [lk_normal, l7Cut_F, l1Most_F, hlt, g0, i1, i2, q1, m3, fl, dr, ZB, Int.reduceToNat, Nat.reduceLT, Nat.reduceLeDiff, Int.reduceLE, Int.reduceLT, Nat.reduceEqDiff, Nat.reduceSub, SB, SV.known, packR, ne_eq, reduceCtorEq, Nat.reduceEqDiff, ↓reduceIte, if_true, if_false, eq_self, Nat.reduceAdd, Nat.reduceMul, Nat.reduceSub, forall_const, oneCellS, litOne, flat1, Kd.isSca, flat, TYB]
        (try (and_intros <;> try (first | omega | (unfold In64; omega) | trivial | assumption)))
        refine ⟨k + 1, ?_, ?_, Sub.mk_id ?_ ?_ ?_ ?_ ?_⟩
        all_goals (try (simp only [es, s1, s2, LB, subS, subH, wfS, wfH, SV.ren, renL, SObj.ren, SV.wf, SObj.wf, wfL, SV.known, Nat.reduceEqDiff, ↓reduceIte, if_true, if_false, eq_self, Nat.reduceAdd, Nat.reduceLT, Nat.reduceLeDiff, implies_true, reduceCtorEq, forall_const]; done))
        all_goals (try (simp only [es, s1, s2, LB, subS, subH, wfS, wfH, SV.ren, renL, SObj.ren, SV.wf, SObj.wf, wfL, SV.known, Nat.reduceEqDiff, ↓reduceIte, if_true, if_false, eq_self, Nat.reduceAdd, Nat.reduceLT, Nat.reduceLeDiff, implies_true, reduceCtorEq, forall_const]; simp; done))
        all_goals (try (simp only [es, s1, s2, LB, subS, subH, wfS, wfH, SV.ren, renL, SObj.ren, SV.wf, SObj.wf, wfL, SV.known, Nat.reduceEqDiff, ↓reduceIte, if_true, if_false, eq_self, Nat.reduceAdd, Nat.reduceLT, Nat.reduceLeDiff, implies_true, reduceCtorEq, forall_const]; (and_intros <;> (first | omega | rfl | (simp; done) | (simp; omega))); done))
        all_goals (try dsimp only)
        all_goals (and_intros <;> try (first | omega | (unfold In64; omega) | trivial | assumption))
      · obtain rfl : k = r - 1 := by omega
        have r1 : (((r - 1 : Nat) : Int)) = (r : Int) - 1 := by omega
        rw [r1] at *
        have hlt2 : ¬ (r : Int) - 1 + 1 < r := by omega
        have tk2 := List.take_of_length_le (Nat.le_of_eq g0)
        by_cases hrl : (r : Int) < m
        · rw [if_pos (by omega)]
          have fa : 0 < all - ((r : Int) - 1) := by omega
          have m2 := mul_bd (show 0 ≤ (ltK all same (r - 1)).getD 1 0 by omega) g4 (show 0 ≤ all - ((r : Int) - 1) by omega) (show all - ((r : Int) - 1) ≤ 18 by omega)
          have m2b : (ltK all same (r - 1)).getD 1 0 * (all - ((r : Int) - 1)) ≤ p18 (r - 1 + 1) := m2.2
          have m4 := mul_bd g1 g2 (show 0 ≤ all - ((r : Int) - 1) - max (same - ((r : Int) - 1)) 0 by omega) (show all - ((r : Int) - 1) - max (same - ((r : Int) - 1)) 0 ≤ 18 by omega)
          have m4b : (ltK all same (r - 1)).getD 0 0 * (all - ((r : Int) - 1) - max (same - ((r : Int) - 1)) 0) ≤ p18 (r - 1 + 1) := m4.2
          have m3 := Int.mul_pos g3 fa
          have i1 : In64 ((ltK all same (r - 1)).getD 0 0 * (all - ((r : Int) - 1) - max (same - ((r : Int) - 1)) 0)) := by unfold In64; omega
          have i2 : In64 ((ltK all same (r - 1)).getD 1 0 * (all - ((r : Int) - 1))) := by unfold In64; omega
          have q1 := m4.1
          have fl := fracF_len ((ltK all same (r - 1)).getD 0 0 * (all - ((r : Int) - 1) - max (same - ((r : Int) - 1)) 0)) ((ltK all same (r - 1)).getD 1 0 * (all - ((r : Int) - 1)))
          have tkf := List.take_of_length_le (Nat.le_of_eq fl)
          simp -implicitDefEqProofs only [lk_normal, l7Cut_F, l1Most_F, hlt2, hrl, hV, il, i0, i8, i6, e3, g0, i1, i2, q1, m3, fl, dr, tkf, ZB, Int.reduceToNat, Nat.reduceLT, Nat.reduceLeDiff, Int.reduceLE, Int.reduceLT, Nat.reduceEqDiff, Nat.reduceSub, SB, SV.known, packR, ne_eq, reduceCtorEq, Nat.reduceEqDiff, ↓reduceIte, if_true, if_false, eq_self, Nat.reduceAdd, Nat.reduceMul, Nat.reduceSub, forall_const, oneCellS, litOne, flat1, Kd.isSca, flat, TYB]
          (try (and_intros <;> try (first | omega | (unfold In64; omega) | trivial | assumption)))
        · rw [if_neg (by omega)]
          simp -implicitDefEqProofs only [lk_normal, l7Cut_F, l1Most_F, hlt2, hrl, hV, il, i0, i8, i6, e3, g0, dr, tk2, ZB, Int.reduceToNat, Nat.reduceLT, Nat.reduceLeDiff, Int.reduceLE, Int.reduceLT, Nat.reduceEqDiff, Nat.reduceSub, SB, SV.known, packR, ne_eq, reduceCtorEq, Nat.reduceEqDiff, ↓reduceIte, if_true, if_false, eq_self, Nat.reduceAdd, Nat.reduceMul, Nat.reduceSub, forall_const, oneCellS, litOne, flat1, Kd.isSca, flat, TYB]
          (try (and_intros <;> try (first | omega | (unfold In64; omega) | trivial | assumption)))
theorem l7Top_okI (V : List Int) (x r : Int) (g : vG V) (hx : 0 ≤ x ∧ x < 6) (hr : 1 ≤ r ∧ r ≤ 4) : PureH Try.prog 77 [.arr V, .int x, .int r] [] (.arr (ltF (al V) (sa V x.toNat) (mm V x.toNat) r.toNat)) := by
  have := l7Top_ok V x.toNat r.toNat g (by omega) (by omega) (by omega)
  rw [Int.toNat_of_nonneg hx.1, Int.toNat_of_nonneg (show 0 ≤ r by omega)] at this
  exact this
end Go.Proofs.Ytckcojgfgcjamaa
set_option maxRecDepth 100000
set_option linter.unusedSimpArgs false
set_option linter.unusedVariables false
namespace Go.Proofs.Ytckcojgfgcjamaa
open Go Go.RowKit
--@tbl eqS2 = laws.eqIntA2S
/-! Marks. -/
end Go.Proofs.Ytckcojgfgcjamaa
set_option maxRecDepth 100000
set_option linter.unusedSimpArgs false
set_option linter.unusedVariables false
namespace Go.Proofs.Ytckcojgfgcjamaa
open Go Go.RowKit
def l7Top_F : List SV → Heap → Option (Prop × SV)
  | [.arr V, .int x, .int r], _ => some (vG V ∧ (0 ≤ x ∧ x < 6) ∧ (1 ≤ r ∧ r ≤ 4), .arr (ltF (al V) (sa V x.toNat) (mm V x.toNat) r.toNat))
  | _, _ => none
theorem l7Top_T : ∀ args H p v, l7Top_F args H = some (p, v) → p → PureH Try.prog 77 args H v := by
  intro args H p v h hp
  unfold l7Top_F at h
  split at h
  · cases h; exact (l7Top_okI _ _ _ hp.1 hp.2.1 hp.2.2).any _
  · cases h
theorem vG_of {V : List Int} (hV : V.length = 18) (h64 : I64 V) (h : isVF V = true) : vG V := by
  obtain ⟨u1, u2, u3, z0, bC, lenH, h0, bH, hs, h18⟩ := isV_facts hV h64 h
  exact ⟨hV, u1, u2, u3, lenH, bH, hs, h18⟩
end Go.Proofs.Ytckcojgfgcjamaa
set_option maxRecDepth 100000
set_option linter.unusedSimpArgs false
set_option linter.unusedVariables false
namespace Go.Proofs.Ytckcojgfgcjamaa
open Go Go.RowKit
/-- One layer: the hidden layers that are left, the rank among their orders, the cells. -/
def pkS (at_ : Nat) (s : List Int × Int × List Int) : List Int × Int × List Int := (lessL s.1 (pkc s.1 s.2.1), s.2.1 - sW s.1 (pkc s.1 s.2.1 - 1), s.2.2.set at_ (pkc s.1 s.2.1 : Int))
def mdK (i : Nat) (s : List Int × Int × List Int) : Nat → List Int × Int × List Int
  | 0 => s
  | k + 1 => pkS (i * 4 + k) (mdK i s k)
def topS (V : List Int) (i : Nat) (s : List Int × Int × List Int) : List Int × Int × List Int := if 0 < mm V i then (s.1, s.2.1, s.2.2.set (i * 4 + (mm V i - 1)) (V.getD i 0)) else s
def mdT (V : List Int) (s : List Int × Int × List Int) : Nat → List Int × Int × List Int
  | 0 => s
  | i + 1 => topS V i (mdK i (mdT V s i) (mm V i - 1))
def madeF (V : List Int) (r : Int) : List Int := (mdT V (hidV V, r, List.replicate 24 0) 6).2.2
/-- Cells of a tube with a color. -/
def hU (R : List Int) (a : Nat) (c : Int) : Nat → Int
  | 0 => 0
  | b + 1 => hU R a c b + is1 (R.getD (a * 4 + b) 0) c
def hT (V R : List Int) (c : Int) : Nat → Int
  | 0 => 0
  | a + 1 => hT V R c a + hU R a c (mm V a - 1)
theorem hU_set {R : List Int} {q : Nat} {x c : Int} {a : Nat} : ∀ n, (∀ b, b < n → q ≠ a * 4 + b) → hU (R.set q x) a c n = hU R a c n
  | 0, _ => rfl
  | n + 1, h => by
    unfold hU
    rw [hU_set n (fun b hb => h b (by omega)), getD_set_ne _ _ _ _ (h n (by omega))]
/-- What is known of a cell. -/
structure mdC (V : List Int) (i k a b : Nat) (x : Int) : Prop where
  lt : a < i → (b + 1 < mm V a → 1 ≤ x ∧ x ≤ 5) ∧ (b + 1 = mm V a → x = V.getD a 0) ∧ (mm V a ≤ b → x = 0)
  eq : a = i → (b < k → 1 ≤ x ∧ x ≤ 5) ∧ (k ≤ b → x = 0)
  gt : i < a → x = 0
structure mdI (V : List Int) (i k : Nat) (s : List Int × Int × List Int) : Prop where
  w : vwI s.1 s.2.1
  h : s.1.sum = al V - hmL (V.drop 6) i - k
  l : s.2.2.length = 24
  c : ∀ a b, a < 6 → b < 4 → mdC V i k a b (s.2.2.getD (a * 4 + b) 0)
  u : ∀ c : Nat, 1 ≤ c → c < 6 → s.1.getD c 0 + (hT V s.2.2 c i + hU s.2.2 i c k) = (hidV V).getD c 0
theorem mm_man {V : List Int} (g : vG V) {i : Nat} (hi : i < 6) : (V.drop 6).getD i 0 = (mm V i : Int) ∧ mm V i ≤ 4 := by
  have := g.u2 i hi
  have e : (V.drop 6).getD i 0 = V.getD (6 + i) 0 := by simp [List.getD]
  rw [e]; unfold mm; omega
theorem hmL_next {V : List Int} (g : vG V) {i : Nat} (hi : i < 6) : hmL (V.drop 6) (i + 1) = hmL (V.drop 6) i + ((mm V i - 1 : Nat) : Int) := by
  have := (mm_man g hi).1
  rw [hmL]
  split <;> omega
theorem hmL_mono {V : List Int} (g : vG V) {i j : Nat} (h : i ≤ j) (hj : j ≤ 6) : hmL (V.drop 6) i ≤ hmL (V.drop 6) j := by
  induction j with
  | zero => rw [show i = 0 by omega]; exact Int.le_refl _
  | succ n ih =>
    by_cases hm : i = n + 1
    · subst hm; exact Int.le_refl _
    · have := ih (by omega) (by omega)
      have := hmL_next g (i := n) (by omega)
      omega
theorem mdI.left {V : List Int} (g : vG V) {i k : Nat} {s : List Int × Int × List Int} (h : mdI V i k s) (hi : i < 6) (hk : k + 1 < mm V i) : 0 < s.1.sum := by
  have h1 := hmL_next g hi
  have h2 := hmL_mono g (i := i + 1) (j := 6) (by omega) (Nat.le_refl _)
  have h3 : al V = hmL (V.drop 6) 6 := g.hs
  have := h.h
  omega
theorem mm_all {V : List Int} (g : vG V) (i : Nat) (hi : i < 6) : mm V i ≤ 4 := (mm_man g hi).2
theorem hT_set' {V R : List Int} (g : vG V) {q : Nat} {x c : Int} : ∀ n, n ≤ 6 → n * 4 ≤ q → hT V (R.set q x) c n = hT V R c n
  | 0, _, _ => rfl
  | n + 1, hn, h => by
    unfold hT
    rw [hT_set' g n (by omega) (by omega), hU_set]
    intro b hb
    have := mm_all g n (by omega)
    omega
theorem mdI.next {V : List Int} (g : vG V) {i k : Nat} {s : List Int × Int × List Int} (h : mdI V i k s) (hi : i < 6) (hk : k + 1 < mm V i) : mdI V i (k + 1) (pkS (i * 4 + k) s) := by
  have hm := mm_all g i hi
  have P := pkc_step h.w (h.left g hi hk)
  refine ⟨P.next, ?_, by simp only [pkS, List.length_set]; exact h.l, fun a b ha hb => ?_, fun c h1 h6 => ?_⟩
  · have e1 := h.h
    have e2 := P.sum
    show (lessL s.1 (pkc s.1 s.2.1)).sum = _
    omega
  · have hc := h.c a b ha hb
    simp only [pkS]
    by_cases hq : i * 4 + k = a * 4 + b
    · have ea : a = i := by omega
      have eb : b = k := by omega
      subst ea; subst eb
      rw [getD_set_eq _ _ _ (by rw [h.l]; omega)]
      have := P.c1; have := P.c5
      exact ⟨fun h => by omega, fun _ => ⟨fun _ => by omega, fun h => by omega⟩, fun h => by omega⟩
    · rw [getD_set_ne _ _ _ _ hq]
      exact ⟨hc.lt, fun e => ⟨fun hb => (hc.eq e).1 (by omega), fun hb => (hc.eq e).2 (by omega)⟩, hc.gt⟩
  · have hu := h.u c h1 h6
    have sl : s.2.2.getD (i * 4 + k) 0 = s.2.2.getD (i * 4 + k) 0 := rfl
    have e1 : hT V (s.2.2.set (i * 4 + k) (pkc s.1 s.2.1 : Int)) c i = hT V s.2.2 c i := hT_set' g i (by omega) (by omega)
    have e2 : hU (s.2.2.set (i * 4 + k) (pkc s.1 s.2.1 : Int)) i c (k + 1) = hU s.2.2 i c k + is1 (pkc s.1 s.2.1 : Int) c := by
      rw [hU, hU_set k (fun b hb => by omega), getD_set_eq _ _ _ (by rw [h.l]; omega)]
    simp only [pkS, e1, e2]
    unfold lessL
    by_cases hc : pkc s.1 s.2.1 = c
    · rw [hc, getD_set_eq _ _ _ (by rw [h.w.len]; omega)]
      have : is1 (c : Int) c = 1 := if_pos rfl
      omega
    · rw [getD_set_ne _ _ _ _ hc]
      have : is1 (pkc s.1 s.2.1 : Int) c = 0 := if_neg (by omega)
      omega
theorem mdI.top {V : List Int} (g : vG V) {i : Nat} {s : List Int × Int × List Int} (h : mdI V i (mm V i - 1) s) (hi : i < 6) : mdI V (i + 1) 0 (topS V i s) := by
  have hm := mm_all g i hi
  have hn := hmL_next g hi
  have h1 := h.h
  have u3 := g.u3 i hi
  have u1 := g.u1 i hi
  have u2 := g.u2 i hi
  have em : mm V i = (V.getD (6 + i) 0).toNat := rfl
  by_cases h0 : 0 < mm V i
  · rw [topS, if_pos h0]
    refine ⟨h.w, ?_, by simp only [List.length_set]; exact h.l, fun a b ha hb => ?_, fun c h1 h6 => ?_⟩
    · show s.1.sum = _
      omega
    · have hc := h.c a b ha hb
      by_cases hq : i * 4 + (mm V i - 1) = a * 4 + b
      · have ea : a = i := by omega
        have eb : b = mm V i - 1 := by omega
        subst ea; subst eb
        rw [getD_set_eq _ _ _ (by rw [h.l]; omega)]
        exact ⟨fun _ => ⟨fun h => by omega, fun _ => rfl, fun h => by omega⟩, fun h => by omega, fun h => by omega⟩
      · rw [getD_set_ne _ _ _ _ hq]
        refine ⟨fun hlt => ?_, fun e => ?_, fun hgt => hc.gt (by omega)⟩
        · by_cases e : a = i
          · subst e
            exact ⟨fun h => (hc.eq rfl).1 (by omega), fun h => by omega, fun h => (hc.eq rfl).2 (by omega)⟩
          · exact hc.lt (by omega)
        · have := hc.gt (by omega)
          exact ⟨fun h => by omega, fun _ => this⟩
    · have hu := h.u c h1 h6
      have e1 : hT V (s.2.2.set (i * 4 + (mm V i - 1)) (V.getD i 0)) c (i + 1) = hT V s.2.2 c i + hU s.2.2 i c (mm V i - 1) := by
        rw [hT, hT_set' g i (by omega) (by omega), hU_set _ (fun b hb => by omega)]
      simp only [e1, hU]
      omega
  · rw [topS, if_neg h0]
    have z : mm V i - 1 = 0 := by omega
    rw [z] at h
    refine ⟨h.w, ?_, h.l, fun a b ha hb => ?_, fun c h1 h6 => ?_⟩
    · have := h.h
      omega
    · have hc := h.c a b ha hb
      refine ⟨fun hlt => ?_, fun e => ?_, fun hgt => hc.gt (by omega)⟩
      · by_cases e : a = i
        · subst e
          exact ⟨fun h => by omega, fun h => by omega, fun h => (hc.eq rfl).2 (by omega)⟩
        · exact hc.lt (by omega)
      · have := hc.gt (by omega)
        exact ⟨fun h => by omega, fun _ => this⟩
    · have hu := h.u c h1 h6
      simp only [hT, z, hU] at hu ⊢
      omega
theorem mdI.zero {V : List Int} (g : vG V) (h0 : (hidV V).getD 0 0 = 0) {r : Int} (r0 : 0 ≤ r) (r1 : r < arrF (hidV V)) : mdI V 0 0 (hidV V, r, List.replicate 24 0) := by
  refine ⟨⟨g.lenH, h0, g.bH, g.h18, r0, r1⟩, by simp [hmL, al], by simp, fun a b ha hb => ?_, fun c _ _ => by simp [hT, hU]⟩
  have : (List.replicate 24 (0 : Int)).getD (a * 4 + b) 0 = 0 := by
    rw [List.getD_eq_getElem?_getD, List.getElem?_replicate]
    split <;> rfl
  simp only [this]
  exact ⟨fun h => by omega, fun _ => ⟨fun h => by omega, fun _ => rfl⟩, fun _ => rfl⟩
theorem mdK_I {V : List Int} (g : vG V) {i : Nat} (hi : i < 6) {s : List Int × Int × List Int} (h : mdI V i 0 s) : ∀ k, k ≤ mm V i - 1 → mdI V i k (mdK i s k)
  | 0, _ => h
  | k + 1, hk => (mdK_I g hi h k (by omega)).next g hi (by omega)
theorem mdT_I {V : List Int} (g : vG V) (h0 : (hidV V).getD 0 0 = 0) {r : Int} (r0 : 0 ≤ r) (r1 : r < arrF (hidV V)) : ∀ i, i ≤ 6 → mdI V i 0 (mdT V (hidV V, r, List.replicate 24 0) i)
  | 0, _ => mdI.zero g h0 r0 r1
  | i + 1, hi => (mdK_I g (by omega) (mdT_I g h0 r0 r1 i (by omega)) _ (Nat.le_refl _)).top g (by omega)
/-- What a candidate's tubes are. -/
theorem made_cells {V : List Int} (g : vG V) (h0 : (hidV V).getD 0 0 = 0) {r : Int} (r0 : 0 ≤ r) (r1 : r < arrF (hidV V)) {a : Nat} (ha : a < 6) :
    tubeB (tubeAt (madeF V r) a) = true ∧ layN (tubeAt (madeF V r) a) = mm V a ∧ (topF (tubeAt (madeF V r) a)).1 = V.getD a 0 := by
  have I := mdT_I g h0 r0 r1 6 (Nat.le_refl _)
  have hl : (madeF V r).length = 24 := I.l
  have ht := tubeAt_len hl ha
  have hm := mm_all g a ha
  have u1 := g.u1 a ha
  have u2 := g.u2 a ha
  have u3 := g.u3 a ha
  have em : mm V a = (V.getD (6 + a) 0).toNat := rfl
  have hc := fun b hb => (I.c a b ha hb).lt ha
  have cell : ∀ b, b < 4 → (tubeAt (madeF V r) a).getD b 0 = (mdT V (hidV V, r, List.replicate 24 0) 6).2.2.getD (a * 4 + b) 0 := fun b hb => tubeAt_getD _ _ _ hb
  obtain ⟨t1, t2⟩ := tube_of ht (n := mm V a) hm (fun b hb => by
    rw [cell b (by omega)]
    obtain ⟨p1, p2, p3⟩ := hc b (by omega)
    by_cases h : b + 1 = mm V a
    · rw [p2 h]; omega
    · exact p1 (by omega)) (fun b hb h4 => by
    rw [cell b h4]; exact (hc b h4).2.2 hb)
  refine ⟨t1, t2, ?_⟩
  rcases Nat.eq_zero_or_pos (mm V a) with hz | hz
  · have : topF (tubeAt (madeF V r) a) = (0, 0) := by simp [topF, runsL, t2, hz]
    rw [this]; simp only; omega
  · obtain ⟨q, hq1, _⟩ := topF_run _ ht (by omega)
    rw [hq1]
    simp only
    rw [t2, cell _ (by omega)]
    exact (hc (mm V a - 1) (by omega)).2.1 (by omega)
theorem made_len {V : List Int} (g : vG V) (h0 : (hidV V).getD 0 0 = 0) {r : Int} (r0 : 0 ≤ r) (r1 : r < arrF (hidV V)) : (madeF V r).length = 24 := (mdT_I g h0 r0 r1 6 (Nat.le_refl _)).l
theorem made_rack {V : List Int} (g : vG V) (h0 : (hidV V).getD 0 0 = 0) {r : Int} (r0 : 0 ≤ r) (r1 : r < arrF (hidV V)) : rackB (madeF V r) = true := rack_tubes.2 fun _ hi => (made_cells g h0 r0 r1 hi).1
end Go.Proofs.Ytckcojgfgcjamaa
set_option maxRecDepth 100000
set_option linter.unusedSimpArgs false
set_option linter.unusedVariables false
namespace Go.Proofs.Ytckcojgfgcjamaa
open Go Go.RowKit
def plusQ (a b : List Int) : List Int := fracF (a.getD 0 0 * b.getD 1 0 + b.getD 0 0 * a.getD 1 0) (a.getD 1 0 * b.getD 1 0)
/-- The model's mean: chances are added one by one. -/
def mnS (all same : Int) (m : Nat) (s : Int) : Nat → List Int
  | 0 => [0, 1]
  | r + 1 => plusQ (mnS all same m s r) (fracF ((ltF all same m (r + 1)).getD 0 0 * min ((r + 1 : Nat) : Int) s) ((ltF all same m (r + 1)).getD 1 0))
/-- The program's mean: choices are added, and one fraction is made. -/
def mnN (all same : Int) (m : Nat) (s : Int) : Nat → Int
  | 0 => 0
  | q + 1 => mnN all same m s q + toVal all same m q * min (q : Int) s
end Go.Proofs.Ytckcojgfgcjamaa
set_option maxRecDepth 100000
set_option linter.unusedSimpArgs false
set_option linter.unusedVariables false
namespace Go.Proofs.Ytckcojgfgcjamaa
open Go Go.RowKit
theorem view_hid (R : List Int) : hidV (viewF R) = hidL (topL R) (ctL R) 6 := by unfold hidV; rw [viewF_take, viewF_drop]
end Go.Proofs.Ytckcojgfgcjamaa
set_option maxRecDepth 100000
set_option linter.unusedSimpArgs false
set_option linter.unusedVariables false
namespace Go.Proofs.Ytckcojgfgcjamaa
open Go Go.RowKit
theorem cn_sum {t : List Int} (ht : t.length = 4) (hb : tubeB t = true) : cn t 1 + cn t 2 + cn t 3 + cn t 4 + cn t 5 = (layN t : Int) := by
  have hl := lay_le _ ht
  obtain ⟨h1, h2⟩ := tube_cells ht hb
  have key : ∀ k, k < 4 → is1 (t.getD k 0) 1 + is1 (t.getD k 0) 2 + is1 (t.getD k 0) 3 + is1 (t.getD k 0) 4 + is1 (t.getD k 0) 5 = if k < layN t then 1 else 0 := fun k hk => by
    by_cases h : k < layN t
    · have hc := h1 k h
      rw [is1_sum (by omega), if_neg (by omega), if_pos h]
    · rw [h2 k (by omega), is1_sum (by omega), if_pos rfl, if_neg h]
  have k0 := key 0 (by omega); have k1 := key 1 (by omega); have k2 := key 2 (by omega); have k3 := key 3 (by omega)
  unfold cn
  split at k0 <;> split at k1 <;> split at k2 <;> split at k3 <;> omega
theorem ctL_get (R : List Int) {c : Nat} (h1 : 1 ≤ c) : (ctL R).getD c 0 = (cntL R).getD c 0 := by
  unfold ctL
  rw [List.getD_eq_getElem?_getD, List.getElem?_set_ne (by omega), ← List.getD_eq_getElem?_getD]
theorem ctL_zero (R : List Int) : (ctL R).getD 0 0 = 0 := by
  unfold ctL
  rw [List.getD_eq_getElem?_getD, List.getElem?_set_self (by rw [cntL_len]; omega)]; rfl
theorem view_sum {R : List Int} (hR : R.length = 24) (hr : rackB R = true) : (ctL R).sum = (manL R).sum := by
  rw [sum_six (ctL_len R), sum_six (manL_len R), ctL_zero, ctL_get R (by omega), ctL_get R (by omega), ctL_get R (by omega), ctL_get R (by omega), ctL_get R (by omega)]
  have tk : R.take (6 * 4) = R := List.take_of_length_le (by omega)
  have e : ∀ c : Nat, c < 6 → (cntL R).getD c 0 = cn (tubeAt R 0) c + (cn (tubeAt R 1) c + (cn (tubeAt R 2) c + (cn (tubeAt R 3) c + (cn (tubeAt R 4) c + (cn (tubeAt R 5) c + 0))))) := fun c hc => by
    have := cnt_cells hR hr hc 6 (Nat.le_refl _)
    rw [tk] at this
    rw [this, show List.range 6 = [0, 1, 2, 3, 4, 5] by decide]
    simp only [List.map_cons, List.map_nil, List.sum_cons, List.sum_nil]
  have m : ∀ q, q < 6 → (manL R).getD q 0 = cn (tubeAt R q) 1 + cn (tubeAt R q) 2 + cn (tubeAt R q) 3 + cn (tubeAt R q) 4 + cn (tubeAt R q) 5 := fun q hq => by
    rw [manL_getD R q hq, cn_sum (tubeAt_len hR hq) (tubeAt_ok hr hq)]
  rw [e 1 (by omega), e 2 (by omega), e 3 (by omega), e 4 (by omega), e 5 (by omega), m 0 (by omega), m 1 (by omega), m 2 (by omega), m 3 (by omega), m 4 (by omega), m 5 (by omega)]
  simp only [Int.natCast_one, show ((2 : Nat) : Int) = 2 from rfl, show ((3 : Nat) : Int) = 3 from rfl, show ((4 : Nat) : Int) = 4 from rfl, show ((5 : Nat) : Int) = 5 from rfl]
  omega
theorem view_good {R : List Int} (hR : R.length = 24) (hr : rackB R = true) : isVF (viewF R) = true := by
  obtain ⟨v1, v2, v3⟩ := viewF_ok hR hr
  have d12 := viewF_drop R
  have g12 : (viewF R).getD 12 0 = 0 := by
    have : ((viewF R).drop 12).getD 0 0 = (viewF R).getD 12 0 := by simp [List.getD]
    rw [← this, d12, ctL_zero]
  have h1 : vok (viewF R) = true := vok_of fun k hk => vk_t (v1 k hk) (v2 k hk) (v3 k hk).symm
  have h3 : (ctL R).all in024 = true := (all_six (ctL_len R) _).2 fun k hk => by
    unfold in024
    refine decide_eq_true ?_
    by_cases h0 : k = 0
    · rw [h0, ctL_zero]; omega
    · rw [ctL_get R (by omega)]
      have := cntL_bd R k
      omega
  have h4 : (hidV (viewF R)).all nn = true := (all_six (by rw [view_hid, hidL_len, ctL_len]) _).2 fun k hk => by
    unfold nn
    refine decide_eq_true ?_
    rw [view_hid]
    by_cases h0 : k = 0
    · rw [h0, hidL_zero _ _ (by rw [ctL_len]; omega), ctL_zero]; omega
    · rw [hid_rack hR hr (by omega) hk]
      exact (remT_bd R k 6).1
  have h5 : ((viewF R).drop 6).take 6 = manL R := by rw [viewF_man, List.take_left' (manL_len R)]
  unfold isVF
  rw [h1, g12, d12, h3, h4, h5, view_sum hR hr]
  simp
end Go.Proofs.Ytckcojgfgcjamaa
set_option maxRecDepth 100000
set_option linter.unusedSimpArgs false
set_option linter.unusedVariables false
namespace Go.Proofs.Ytckcojgfgcjamaa
open Go Go.RowKit
/-! Ranks are sums of orders. -/
theorem rkC_eq {L : List Int} (hL : L.length = 6) (hb : Bd 0 24 L) (hs : L.sum ≤ 18) (h0 : L.getD 0 0 = 0) {acc : Int} (ha : 0 ≤ acc) (ha2 : acc ≤ 6402373705728000) : ∀ m, m ≤ 5 → rkC L acc m = acc + sW L m
  | 0, _ => by simp [rkC, sW]
  | m + 1, hm => by
    have ih := rkC_eq hL hb hs h0 ha ha2 m (by omega)
    have hz := hb.getD (k := m + 1) (by omega)
    have w0 := wC_nn hL hb hs (m + 1)
    have s0 := sW_mono hL hb hs (Nat.zero_le m)
    have sz : sW L 0 = 0 := rfl
    have e : sW L (m + 1) = sW L m + wC L (m + 1) := rfl
    have s5 := sW_mono hL hb hs (show m + 1 ≤ 5 by omega)
    unfold rkC
    split
    · rename_i hp
      have ew : wC L (m + 1) = arrF (L.set (m + 1) (L.getD (m + 1) 0 - 1)) := if_pos hp
      have hsum : 0 < L.sum := by
        have := le_sum L (m + 1) hb (by omega)
        omega
      have all := sW_all hL h0 hb hs hsum
      have ab := arrF_bd hb hs
      rw [ih, ← ew, wr_in (by unfold In64; omega)]
      omega
    · rename_i hp
      have ew : wC L (m + 1) = 0 := if_neg hp
      rw [ih]; omega
theorem arr_zero {L : List Int} (hL : L.length = 6) (hz : ∀ k, k < 6 → L.getD k 0 = 0) : arrF L = 1 := by
  match L, hL with
  | [a, b, c, d, e, f], _ =>
    have h0 := hz 0 (by omega); have h1 := hz 1 (by omega); have h2 := hz 2 (by omega); have h3 := hz 3 (by omega); have h4 := hz 4 (by omega); have h5 := hz 5 (by omega)
    simp at h0 h1 h2 h3 h4 h5
    subst h0 h1 h2 h3 h4 h5
    decide
theorem sum_zero {L : List Int} (hL : L.length = 6) (hb : Bd 0 24 L) (hs : L.sum = 0) : ∀ k, k < 6 → L.getD k 0 = 0 := by
  have := sum_six hL
  have b := fun k (hk : k < 6) => hb.getD (k := k) (by omega)
  have b0 := b 0 (by omega); have b1 := b 1 (by omega); have b2 := b 2 (by omega); have b3 := b 3 (by omega); have b4 := b 4 (by omega); have b5 := b 5 (by omega)
  intro k hk
  rcases (show k = 0 ∨ k = 1 ∨ k = 2 ∨ k = 3 ∨ k = 4 ∨ k = 5 by omega) with rfl | rfl | rfl | rfl | rfl | rfl <;> omega
/-! A candidate's cells stay. -/
theorem mdK_keep (i : Nat) (s : List Int × Int × List Int) (k0 : Nat) {q : Nat} (hq : q < i * 4 + k0) : ∀ d, (mdK i s (k0 + d)).2.2.getD q 0 = (mdK i s k0).2.2.getD q 0
  | 0 => rfl
  | d + 1 => by
    show (pkS (i * 4 + (k0 + d)) (mdK i s (k0 + d))).2.2.getD q 0 = _
    unfold pkS
    simp only
    rw [getD_set_ne _ _ _ _ (by omega)]
    exact mdK_keep i s k0 hq d
theorem topS_keep (V : List Int) (i : Nat) (s : List Int × Int × List Int) {q : Nat} (hq : q < i * 4 + (mm V i - 1)) : (topS V i s).2.2.getD q 0 = s.2.2.getD q 0 := by
  unfold topS
  split
  · simp only
    rw [getD_set_ne _ _ _ _ (by omega)]
  · rfl
theorem mdT_keep (V : List Int) (s : List Int × Int × List Int) (i : Nat) {q : Nat} (hq : q < i * 4) : ∀ d, (mdT V s (i + d)).2.2.getD q 0 = (mdT V s i).2.2.getD q 0
  | 0 => rfl
  | d + 1 => by
    show (topS V (i + d) (mdK (i + d) (mdT V s (i + d)) (mm V (i + d) - 1))).2.2.getD q 0 = _
    rw [topS_keep V _ _ (by omega)]
    have := mdK_keep (i + d) (mdT V s (i + d)) 0 (q := q) (by omega) (mm V (i + d) - 1)
    rw [Nat.zero_add] at this
    rw [this]
    exact mdT_keep V s i hq d
theorem made_cell {V : List Int} (g : vG V) {r : Int} {i k : Nat} (hi : i < 6) (hk : k + 1 < mm V i) (hl : (mdK i (mdT V (hidV V, r, List.replicate 24 0) i) k).2.2.length = 24) :
    (tubeAt (madeF V r) i).getD k 0 = (pkc (mdK i (mdT V (hidV V, r, List.replicate 24 0) i) k).1 (mdK i (mdT V (hidV V, r, List.replicate 24 0) i) k).2.1 : Int) := by
  have hm := mm_all g i hi
  rw [tubeAt_getD _ _ _ (by omega)]
  unfold madeF
  have e1 := mdT_keep V (hidV V, r, List.replicate 24 0) (i + 1) (q := i * 4 + k) (by omega) (6 - (i + 1))
  rw [show i + 1 + (6 - (i + 1)) = 6 by omega] at e1
  rw [e1]
  show (topS V i (mdK i (mdT V (hidV V, r, List.replicate 24 0) i) (mm V i - 1))).2.2.getD (i * 4 + k) 0 = _
  rw [topS_keep V _ _ (by omega)]
  have e2 := mdK_keep i (mdT V (hidV V, r, List.replicate 24 0) i) (k + 1) (q := i * 4 + k) (by omega) (mm V i - 1 - (k + 1))
  rw [show k + 1 + (mm V i - 1 - (k + 1)) = mm V i - 1 by omega] at e2
  rw [e2]
  show (pkS (i * 4 + k) (mdK i (mdT V (hidV V, r, List.replicate 24 0) i) k)).2.2.getD (i * 4 + k) 0 = _
  unfold pkS
  simp only
  rw [getD_set_eq _ _ _ (by omega)]
/-! Of a candidate, the rank. -/
structure rkM (r : Int) (p : Int × List Int) (s : List Int × Int × List Int) : Prop where
  a : p.1 = r - s.2.1
  l : p.2 = s.1
theorem rank_made {V : List Int} (g : vG V) (h0 : (hidV V).getD 0 0 = 0) {r : Int} (r0 : 0 ≤ r) (r1 : r < arrF (hidV V)) : (rkT (madeF V r) (0, hidV V) 6).1 = r := by
  have ab := arrF_bd g.bH g.h18
  have II := fun i hi => mdT_I g h0 r0 r1 i hi
  have key : ∀ i, i ≤ 6 → rkM r (rkT (madeF V r) (0, hidV V) i) (mdT V (hidV V, r, List.replicate 24 0) i) ∧ (mdT V (hidV V, r, List.replicate 24 0) i).2.1 ≤ r := by
    intro i
    induction i with
    | zero => intro _; exact ⟨⟨by simp [rkT, mdT], rfl⟩, Int.le_refl _⟩
    | succ i ih =>
      intro hi
      obtain ⟨ih1, ih2⟩ := ih (by omega)
      have hm := mm_all g i (by omega)
      have ec := (made_cells g h0 r0 r1 (a := i) (by omega)).2.1
      have cell := fun k (hk : k + 1 < mm V i) hl => made_cell g (r := r) (i := i) (k := k) (by omega) hk hl
      have In := II i (by omega)
      have eT : rkT (madeF V r) (0, hidV V) (i + 1) = rkK (tubeAt (madeF V r) i) (rkT (madeF V r) (0, hidV V) i) (layN (tubeAt (madeF V r) i) - 1) := rfl
      have eM : mdT V (hidV V, r, List.replicate 24 0) (i + 1) = topS V i (mdK i (mdT V (hidV V, r, List.replicate 24 0) i) (mm V i - 1)) := rfl
      rw [eT, eM, ec]
      generalize rkT (madeF V r) (0, hidV V) i = p at *
      generalize tubeAt (madeF V r) i = t at *
      generalize mdT V (hidV V, r, List.replicate 24 0) i = s at *
      have inner : ∀ k, k ≤ mm V i - 1 → rkM r (rkK t p k) (mdK i s k) ∧ (mdK i s k).2.1 ≤ r := by
        intro k
        induction k with
        | zero => intro _; exact ⟨ih1, ih2⟩
        | succ k ihk =>
          intro hk
          obtain ⟨j1, j2⟩ := ihk (by omega)
          have J := mdK_I g (i := i) (by omega) In k (by omega)
          have P := pkc_step J.w (J.left g (by omega) (by omega))
          have ct := cell k (by omega) J.l
          have eq1 : rkK t p (k + 1) = (rkC (rkK t p k).2 (rkK t p k).1 ((t.getD k 0).toNat - 1), (rkK t p k).2.set (t.getD k 0).toNat ((rkK t p k).2.getD (t.getD k 0).toNat 0 - 1)) := rfl
          have eq2 : mdK i s (k + 1) = pkS (i * 4 + k) (mdK i s k) := rfl
          rw [eq1, eq2, ct, Int.toNat_natCast, j1.l]
          have a0 := J.w.r0
          have e := rkC_eq J.w.len J.w.b J.w.s J.w.z (acc := (rkK t p k).1) (by have := j1.a; omega) (by have := j1.a; omega) (pkc (mdK i s k).1 (mdK i s k).2.1 - 1) (by have := P.c5; omega)
          rw [e]
          have lo := P.next.r0
          refine ⟨⟨?_, rfl⟩, ?_⟩
          · have := j1.a
            show _ = r - ((mdK i s k).2.1 - sW (mdK i s k).1 (pkc (mdK i s k).1 (mdK i s k).2.1 - 1))
            omega
          · show (mdK i s k).2.1 - sW (mdK i s k).1 (pkc (mdK i s k).1 (mdK i s k).2.1 - 1) ≤ r
            have := sW_mono J.w.len J.w.b J.w.s (Nat.zero_le (pkc (mdK i s k).1 (mdK i s k).2.1 - 1))
            have sz : sW (mdK i s k).1 0 = 0 := rfl
            omega
      obtain ⟨f1, f2⟩ := inner (mm V i - 1) (Nat.le_refl _)
      unfold topS
      split
      · exact ⟨⟨f1.a, f1.l⟩, f2⟩
      · exact ⟨f1, f2⟩
  obtain ⟨k1, k2⟩ := key 6 (Nat.le_refl _)
  have I6 := II 6 (Nat.le_refl _)
  have hs := I6.h
  have e : al V = hmL (V.drop 6) 6 := g.hs
  have hz := sum_zero I6.w.len I6.w.b (by omega)
  have az := arr_zero I6.w.len hz
  have := I6.w.r0
  have := I6.w.r1
  have := k1.a
  omega
/-! Of a candidate, the view. -/
theorem hU_hcn {R : List Int} {a : Nat} (c : Int) (h4 : layN (tubeAt R a) ≤ 4) : hcn (tubeAt R a) 0 c = hU R a c (layN (tubeAt R a) - 1) := by
  have e := fun b (hb : b < 4) => tubeAt_getD R a b hb
  unfold hcn
  rw [e 0 (by omega), e 1 (by omega), e 2 (by omega)]
  generalize layN (tubeAt R a) = m at *
  rcases (show m = 0 ∨ m = 1 ∨ m = 2 ∨ m = 3 ∨ m = 4 by omega) with rfl | rfl | rfl | rfl | rfl <;> simp [hU]
theorem made_view {V : List Int} (hV : V.length = 18) (h64 : I64 V) (hv : isVF V = true) {r : Int} (r0 : 0 ≤ r) (r1 : r < arrF (hidV V)) : viewF (madeF V r) = V := by
  obtain ⟨u1, u2, u3, z0, bC, lenH, h0, bH, hs, h18⟩ := isV_facts hV h64 hv
  have g := vG_of hV h64 hv
  have hl := made_len g h0 r0 r1
  have hr := made_rack g h0 r0 r1
  have cells := fun a (ha : a < 6) => made_cells g h0 r0 r1 (a := a) ha
  have I6 := mdT_I g h0 r0 r1 6 (Nat.le_refl _)
  have hz := sum_zero I6.w.len I6.w.b (by have := I6.h; have e : al V = hmL (V.drop 6) 6 := g.hs; omega)
  have eT : topL (madeF V r) = V.take 6 := list_ext6 (topL_len _) (by rw [List.length_take]; omega) fun q h => by rw [topL_getD _ _ h, (cells q h).2.2, take6_get _ _ h]
  have eM : manL (madeF V r) = (V.drop 6).take 6 := list_ext6 (manL_len _) (by rw [List.length_take, List.length_drop]; omega) fun q h => by
    rw [manL_getD _ _ h, (cells q h).2.1]
    have := (mm_man g h).1
    rw [take6_get _ _ h, this]
  have lD : (V.drop 12).length = 6 := by rw [List.length_drop]; omega
  have eC : ctL (madeF V r) = V.drop 12 := list_ext6 (ctL_len _) lD fun c hc => by
    by_cases hc0 : c = 0
    · subst hc0
      rw [ctL_zero]
      have : (V.drop 12).getD 0 0 = V.getD 12 0 := by simp [List.getD]
      rw [this, z0]
    · have c1 : 1 ≤ c := by omega
      have hTop : ∀ k, k < 6 → 0 ≤ (V.take 6).getD k 0 ∧ (V.take 6).getD k 0 ≤ 5 := fun k hk => by rw [take6_get _ _ hk]; exact u1 k hk
      have bD := bC.getD (k := c) (by omega)
      have bR : 0 ≤ (ctL (madeF V r)).getD c 0 ∧ (ctL (madeF V r)).getD c 0 ≤ 24 := by rw [ctL_get _ c1]; have := cntL_bd (madeF V r) c; omega
      have e1 := (hidL_get (ctL_len (madeF V r)) hTop c1 hc bR 6 (Nat.le_refl _)).1
      have e2 := (hidL_get lD hTop c1 hc bD 6 (Nat.le_refl _)).1
      have e3 := hid_rack hl hr c1 hc
      rw [eT] at e3
      have e4 := I6.u c c1 hc
      rw [hz c hc] at e4
      have e5 : hidL (V.take 6) (V.drop 12) 6 = hidV V := rfl
      rw [e5] at e2
      have e6 : remT (madeF V r) c 6 = hT V (madeF V r) c 6 := by
        have hh := fun a (ha : a < 6) => hU_hcn (R := madeF V r) (a := a) (c : Int) (by rw [(cells a ha).2.1]; exact mm_all g a ha)
        simp only [remT, hT, Nat.sub_self, Nat.reduceSub, Nat.sub_zero]
        rw [hh 0 (by omega), hh 1 (by omega), hh 2 (by omega), hh 3 (by omega), hh 4 (by omega), hh 5 (by omega), (cells 0 (by omega)).2.1, (cells 1 (by omega)).2.1, (cells 2 (by omega)).2.1, (cells 3 (by omega)).2.1, (cells 4 (by omega)).2.1, (cells 5 (by omega)).2.1]
        omega
      have e7 : hT V (madeF V r) c 6 + hU (madeF V r) 6 c 0 = (hidV V).getD c 0 := by
        have : (mdT V (hidV V, r, List.replicate 24 0) 6).2.2 = madeF V r := rfl
        rw [this] at e4; omega
      have e8 : hU (madeF V r) 6 (c : Int) 0 = 0 := rfl
      omega
  unfold viewF
  rw [eT, eM, eC]
  exact (split18 hV).symm
theorem rank_of_made {V : List Int} (hV : V.length = 18) (h64 : I64 V) (hv : isVF V = true) {r : Int} (r0 : 0 ≤ r) (r1 : r < arrF (hidV V)) : rankF (madeF V r) = r := by
  have g := vG_of hV h64 hv
  have h0 := (isV_facts hV h64 hv).2.2.2.2.2.2.1
  unfold rankF
  rw [if_pos (made_rack g h0 r0 r1), ← view_hid, made_view hV h64 hv r0 r1]
  exact rank_made g h0 r0 r1
end Go.Proofs.Ytckcojgfgcjamaa
set_option maxRecDepth 100000
set_option linter.unusedSimpArgs false
set_option linter.unusedVariables false
namespace Go.Proofs.Ytckcojgfgcjamaa
open Go Go.RowKit
theorem bd_six {L : List Int} (hL : L.length = 6) (h : ∀ k, k < 6 → 0 ≤ L.getD k 0 ∧ L.getD k 0 ≤ 24) : Bd 0 24 L := fun x hx => by
  obtain ⟨k, hk, e⟩ := List.getElem_of_mem hx
  have := h k (by omega)
  rw [List.getD_eq_getElem?_getD, List.getElem?_eq_getElem hk, e] at this
  exact this
structure rkE (R L : List Int) (i j : Nat) : Prop where
  a : L.length = 6
  b : L.getD 0 0 = 0
  c : ∀ c : Nat, 1 ≤ c → c < 6 → L.getD c 0 = hcn (tubeAt R i) j c + remT R c (5 - i)
  s : L.sum ≤ 18
structure rkH (R L : List Int) (i : Nat) : Prop where
  a : L.length = 6
  b : L.getD 0 0 = 0
  c : ∀ c : Nat, 1 ≤ c → c < 6 → L.getD c 0 = remT R c (6 - i)
  s : L.sum ≤ 18
theorem rkE.bd {R L : List Int} {i j : Nat} (h : rkE R L i j) : Bd 0 24 L := bd_six h.a fun k hk => by
  rcases Nat.eq_zero_or_pos k with rfl | h0
  · rw [h.b]; omega
  · rw [h.c k h0 hk]
    have := hcn_bd (tubeAt R i) j k
    have := remT_bd R k (5 - i)
    omega
theorem rkH.to {R L : List Int} {i : Nat} (hi : i < 6) (h : rkH R L i) : rkE R L i 0 := by
  refine ⟨h.a, h.b, fun c h1 h2 => ?_, h.s⟩
  have := h.c c h1 h2
  rw [show 6 - i = (5 - i) + 1 by omega, remT, show 5 - (5 - i) = i by omega] at this
  exact this
theorem rkE.out {R L : List Int} {i j : Nat} (hi : i < 6) (hj : layN (tubeAt R i) ≤ j + 1) (h : rkE R L i j) : rkH R L (i + 1) := by
  refine ⟨h.a, h.b, fun c h1 h2 => ?_, h.s⟩
  have := h.c c h1 h2
  rw [hcn_end hj] at this
  rw [show 6 - (i + 1) = 5 - i by omega]
  omega
theorem rkE.step {R L : List Int} {i j : Nat} (hR : R.length = 24) (hr : rackB R = true) (hi : i < 6) (hj : j + 2 ≤ layN (tubeAt R i)) (h : rkE R L i j) {x : Nat} (hx : (tubeAt R i).getD j 0 = x) :
    rkE R (lessL L x) i (j + 1) ∧ 1 ≤ x ∧ x < 6 ∧ 0 < L.getD x 0 := by
  have hle := lay_le _ (tubeAt_len hR hi)
  have hx1 := (tube_cells (tubeAt_len hR hi) (tubeAt_ok hr hi)).1 j (by omega)
  rw [hx] at hx1
  have st := fun c => hcn_step hj hle c
  have x1 : 1 ≤ x := by omega
  have x6 : x < 6 := by omega
  have sl := sum_less L x (by rw [h.a]; exact x6)
  refine ⟨⟨by unfold lessL; rw [List.length_set]; exact h.a, by unfold lessL; rw [getD_set_ne _ _ _ _ (by omega)]; exact h.b, fun c h1 h2 => ?_, ?_⟩, x1, x6, ?_⟩
  · have g := h.c c h1 h2
    rw [st, hx] at g
    unfold lessL
    by_cases hc : x = c
    · subst hc
      rw [getD_set_eq _ _ _ (by rw [h.a]; omega)]
      have : is1 (x : Int) x = 1 := if_pos rfl
      omega
    · rw [getD_set_ne _ _ _ _ hc]
      have : is1 (x : Int) c = 0 := if_neg (by omega)
      omega
  · have := h.s
    have e : (lessL L x).sum = L.sum - 1 := sl
    omega
  · have g := h.c x x1 x6
    rw [st, hx] at g
    have : is1 (x : Int) x = 1 := if_pos rfl
    have := hcn_bd (tubeAt R i) (j + 1) x
    have := remT_bd R x (5 - i)
    omega
def leR (p q : Int × List Int) : Prop := p.1 ≤ q.1 ∧ q.1 + arrF q.2 ≤ p.1 + arrF p.2
theorem leR.refl (p : Int × List Int) : leR p p := ⟨Int.le_refl _, Int.le_refl _⟩
theorem leR.trans {p q r : Int × List Int} (h1 : leR p q) (h2 : leR q r) : leR p r := ⟨Int.le_trans h1.1 h2.1, Int.le_trans h2.2 h1.2⟩
structure rkS (R : List Int) (A0 : Int) (i j : Nat) (p : Int × List Int) : Prop where
  e : rkE R p.2 i j
  a0 : 0 ≤ p.1
  a1 : p.1 + arrF p.2 ≤ A0
structure rkP (R : List Int) (A0 : Int) (i j x : Nat) (p q : Int × List Int) : Prop where
  n : rkS R A0 i (j + 1) q
  le : leR p q
  q1 : q.1 = p.1 + sW p.2 (x - 1)
  q2 : q.2 = lessL p.2 x
  x1 : 1 ≤ x
  x6 : x < 6
  p : 0 < p.2.getD x 0
  x : (tubeAt R i).getD j 0 = x
theorem rkS.step {R : List Int} {A0 : Int} {i j : Nat} {p : Int × List Int} (hR : R.length = 24) (hr : rackB R = true) (hA : A0 ≤ 6402373705728000) (hi : i < 6) (hj : j + 2 ≤ layN (tubeAt R i)) (h : rkS R A0 i j p) :
    ∃ x : Nat, rkP R A0 i j x p (rkC p.2 p.1 (((tubeAt R i).getD j 0).toNat - 1), p.2.set ((tubeAt R i).getD j 0).toNat (p.2.getD ((tubeAt R i).getD j 0).toNat 0 - 1)) := by
  have hx1 := (tube_cells (tubeAt_len hR hi) (tubeAt_ok hr hi)).1 j (by omega)
  obtain ⟨x, hx⟩ : ∃ x : Nat, (tubeAt R i).getD j 0 = x := ⟨((tubeAt R i).getD j 0).toNat, by omega⟩
  obtain ⟨s1, x1, x6, xp⟩ := h.e.step hR hr hi hj hx
  refine ⟨x, ?_⟩
  have hb := h.e.bd
  have ab := arrF_bd hb h.e.s
  have a0 := h.a0
  have a1 := h.a1
  have hsum : 0 < p.2.sum := by have := le_sum p.2 x hb (by rw [h.e.a]; exact x6); omega
  have all := sW_all h.e.a h.e.b hb h.e.s hsum
  have e := rkC_eq h.e.a hb h.e.s h.e.b (acc := p.1) a0 (by omega) (x - 1) (by omega)
  have ew : wC p.2 x = arrF (lessL p.2 x) := if_pos xp
  have es : sW p.2 x = sW p.2 (x - 1) + wC p.2 x := by
    obtain ⟨k, rfl⟩ : ∃ k, x = k + 1 := ⟨x - 1, by omega⟩
    rfl
  have m0 := sW_mono h.e.a hb h.e.s (Nat.zero_le (x - 1))
  have m5 := sW_mono h.e.a hb h.e.s (show x ≤ 5 by omega)
  have sz : sW p.2 0 = 0 := rfl
  rw [hx, Int.toNat_natCast, e]
  have l1 : p.1 + sW p.2 (x - 1) + arrF (lessL p.2 x) ≤ p.1 + arrF p.2 := by omega
  exact ⟨⟨s1, by show 0 ≤ p.1 + sW p.2 (x - 1); omega, by show p.1 + sW p.2 (x - 1) + arrF (lessL p.2 x) ≤ A0; omega⟩, ⟨by show p.1 ≤ p.1 + sW p.2 (x - 1); omega, l1⟩, rfl, rfl, x1, x6, xp, hx⟩
section
variable {R : List Int} {A0 : Int} (hR : R.length = 24) (hr : rackB R = true) (hA : A0 ≤ 6402373705728000)
include hR hr hA
theorem rkK_S {i : Nat} (hi : i < 6) {p : Int × List Int} (h : rkS R A0 i 0 p) : ∀ k, k ≤ layN (tubeAt R i) - 1 → rkS R A0 i k (rkK (tubeAt R i) p k)
  | 0, _ => h
  | k + 1, hk => by
    obtain ⟨x, P⟩ := (rkK_S hi h k (by omega)).step hR hr hA hi (by omega)
    exact P.n
theorem rkK_P {i : Nat} (hi : i < 6) {p : Int × List Int} (h : rkS R A0 i 0 p) {k : Nat} (hk : k + 1 ≤ layN (tubeAt R i) - 1) : ∃ x, rkP R A0 i k x (rkK (tubeAt R i) p k) (rkK (tubeAt R i) p (k + 1)) :=
  (rkK_S hR hr hA hi h k (by omega)).step hR hr hA hi (by omega)
theorem rkK_le {i : Nat} (hi : i < 6) {p : Int × List Int} (h : rkS R A0 i 0 p) (k : Nat) : ∀ d, k + d ≤ layN (tubeAt R i) - 1 → leR (rkK (tubeAt R i) p k) (rkK (tubeAt R i) p (k + d))
  | 0, _ => leR.refl _
  | d + 1, hd => by
    obtain ⟨x, P⟩ := rkK_P hR hr hA hi h (k := k + d) (by omega)
    exact (rkK_le hi h k d (by omega)).trans P.le
structure rkS0 (R : List Int) (A0 : Int) (i : Nat) (p : Int × List Int) : Prop where
  e : rkH R p.2 i
  a0 : 0 ≤ p.1
  a1 : p.1 + arrF p.2 ≤ A0
omit hR hr hA in
theorem rkS0.to {i : Nat} {p : Int × List Int} (hi : i < 6) (h : rkS0 R A0 i p) : rkS R A0 i 0 p := ⟨h.e.to hi, h.a0, h.a1⟩
theorem rkT_S {p : Int × List Int} (h : rkS0 R A0 0 p) : ∀ i, i ≤ 6 → rkS0 R A0 i (rkT R p i)
  | 0, _ => h
  | i + 1, hi => by
    have g := rkK_S hR hr hA (i := i) (by omega) ((rkT_S h i (by omega)).to (by omega)) (layN (tubeAt R i) - 1) (Nat.le_refl _)
    exact ⟨g.e.out (by omega) (by omega), g.a0, g.a1⟩
theorem rkT_le {p : Int × List Int} (h : rkS0 R A0 0 p) (i : Nat) : ∀ d, i + d ≤ 6 → leR (rkT R p i) (rkT R p (i + d))
  | 0, _ => leR.refl _
  | d + 1, hd => by
    have g := rkK_le hR hr hA (i := i + d) (by omega) ((rkT_S hR hr hA h (i + d) (by omega)).to (by omega)) 0 (layN (tubeAt R (i + d)) - 1) (by omega)
    rw [Nat.zero_add] at g
    exact (rkT_le h i d (by omega)).trans g
end
/-! The candidate. -/
def cutR (R : List Int) (n : Nat) : List Int := (List.range 24).map fun q => if q < n then R.getD q 0 else 0
theorem cutR_len (R : List Int) (n : Nat) : (cutR R n).length = 24 := by simp [cutR]
theorem cutR_get (R : List Int) (n : Nat) {q : Nat} (h : q < 24) : (cutR R n).getD q 0 = if q < n then R.getD q 0 else 0 := by simp [cutR, List.getD, h]
theorem cutR_zero (R : List Int) : cutR R 0 = List.replicate 24 0 := list_ext24 (cutR_len _ _) (by simp) fun q h => by
  rw [cutR_get _ _ h, if_neg (by omega), List.getD_eq_getElem?_getD, List.getElem?_replicate, if_pos h]; rfl
theorem cutR_set (R : List Int) {n : Nat} (hn : n < 24) {x : Int} (hx : R.getD n 0 = x) : (cutR R n).set n x = cutR R (n + 1) := list_ext24 (by rw [List.length_set, cutR_len]) (cutR_len _ _) fun q h => by
  rw [getD_set' _ _ _ _ (by rw [cutR_len]; omega), cutR_get _ _ h, cutR_get _ _ h]
  by_cases hq : n = q
  · subst hq; rw [if_pos rfl, if_pos (by omega), hx]
  · rw [if_neg hq]
    by_cases h1 : q < n
    · rw [if_pos h1, if_pos (by omega)]
    · rw [if_neg h1, if_neg (by omega)]
theorem cutR_skip (R : List Int) {n m : Nat} (hnm : n ≤ m) (hz : ∀ q, n ≤ q → q < m → R.getD q 0 = 0) : cutR R n = cutR R m := list_ext24 (cutR_len _ _) (cutR_len _ _) fun q h => by
  rw [cutR_get _ _ h, cutR_get _ _ h]
  by_cases h1 : q < n
  · rw [if_pos h1, if_pos (by omega)]
  · rw [if_neg h1]
    split
    · exact (hz q (by omega) (by omega)).symm
    · rfl
theorem cutR_all {R : List Int} (hR : R.length = 24) : cutR R 24 = R := list_ext24 (cutR_len _ _) hR fun q h => by rw [cutR_get _ _ h, if_pos h]
theorem view_vGx {R : List Int} (hR : R.length = 24) (hr : rackB R = true) : vG (viewF R) := by
  refine vG_of (viewF_len R) (fun z hz => ?_) (view_good hR hr)
  obtain ⟨k, hk, e⟩ := List.getElem_of_mem hz
  rw [viewF_len] at hk
  have e2 : (viewF R).getD k 0 = z := by rw [List.getD_eq_getElem?_getD, List.getElem?_eq_getElem (by rw [viewF_len]; exact hk), e]; rfl
  obtain ⟨v1, v2, _⟩ := viewF_ok hR hr
  rw [← e2]
  by_cases h1 : k < 6
  · have := v1 k h1; unfold In64; omega
  · by_cases h2 : k < 12
    · have := v2 (k - 6) (by omega)
      rw [show 6 + (k - 6) = k by omega] at this
      unfold In64; omega
    · have e : (viewF R).getD k 0 = (ctL R).getD (k - 12) 0 := by
        rw [← viewF_drop]
        simp only [List.getD, List.getElem?_drop]
        rw [show 12 + (k - 12) = k by omega]
      rw [e]
      by_cases h0 : k - 12 = 0
      · rw [h0, ctL_zero]; unfold In64; omega
      · rw [ctL_get R (by omega)]
        have := cntL_bd R (k - 12)
        unfold In64; omega
theorem made_rankF {R : List Int} (hR : R.length = 24) (hr : rackB R = true) : madeF (viewF R) (rankF R) = R ∧ 0 ≤ rankF R ∧ rankF R < arrF (hidV (viewF R)) := by
  have g := view_vGx hR hr
  have hh := view_hid R
  have hA := (arrF_bd g.bH g.h18).2
  have hl := g.lenH
  have S0 : rkS0 R (arrF (hidV (viewF R))) 0 (0, hidV (viewF R)) := by
    refine ⟨⟨hl, ?_, fun c h1 h6 => ?_, g.h18⟩, Int.le_refl _, by simp⟩
    · show (hidV (viewF R)).getD 0 0 = 0
      rw [hh, hidL_zero _ _ (by rw [ctL_len]; omega), ctL_zero]
    · show (hidV (viewF R)).getD c 0 = _
      rw [hh, hid_rack hR hr h1 h6]
  have SS := rkT_S hR hr hA S0
  have LE := rkT_le hR hr hA S0
  have S6 := SS 6 (Nat.le_refl _)
  have z6 : arrF (rkT R (0, hidV (viewF R)) 6).2 = 1 := arr_zero S6.e.a fun k hk => by
    rcases Nat.eq_zero_or_pos k with rfl | h0
    · exact S6.e.b
    · rw [S6.e.c k h0 hk]; simp [remT]
  have eρ : rankF R = (rkT R (0, hidV (viewF R)) 6).1 := by unfold rankF; rw [if_pos hr, ← hh]
  have top6 := S6.a1
  rw [z6] at top6
  have ρ0 := S6.a0
  rw [← eρ] at top6 ρ0
  refine ⟨?_, ρ0, by omega⟩
  have mid : ∀ i, i ≤ 6 → (rkT R (0, hidV (viewF R)) i).1 ≤ rankF R ∧ rankF R < (rkT R (0, hidV (viewF R)) i).1 + arrF (rkT R (0, hidV (viewF R)) i).2 := fun i hi => by
    have := LE i (6 - i) (by omega)
    rw [show i + (6 - i) = 6 by omega] at this
    obtain ⟨a, b⟩ := this
    rw [z6] at b
    omega
  have key : ∀ i, i ≤ 6 → mdT (viewF R) (hidV (viewF R), rankF R, List.replicate 24 0) i = ((rkT R (0, hidV (viewF R)) i).2, rankF R - (rkT R (0, hidV (viewF R)) i).1, cutR R (i * 4)) := by
    intro i
    induction i with
    | zero => intro _; simp [mdT, rkT, cutR_zero]
    | succ i ih =>
      intro hi
      have ih := ih (by omega)
      have Si := (SS i (by omega)).to (by omega)
      have em : mm (viewF R) i = layN (tubeAt R i) := by unfold mm; rw [viewF_many (by omega)]; simp
      have ht := tubeAt_len hR (i := i) (by omega)
      have h4 := lay_le _ ht
      have tc := tube_cells ht (tubeAt_ok hr (i := i) (by omega))
      have m1 := mid (i + 1) hi
      have eT : rkT R (0, hidV (viewF R)) (i + 1) = rkK (tubeAt R i) (rkT R (0, hidV (viewF R)) i) (layN (tubeAt R i) - 1) := rfl
      have eM : mdT (viewF R) (hidV (viewF R), rankF R, List.replicate 24 0) (i + 1) = topS (viewF R) i (mdK i (mdT (viewF R) (hidV (viewF R), rankF R, List.replicate 24 0) i) (mm (viewF R) i - 1)) := rfl
      rw [eM, ih, em]
      rw [eT] at m1 ⊢
      generalize rkT R (0, hidV (viewF R)) i = p at *
      have cellR : ∀ k, k < 4 → R.getD (i * 4 + k) 0 = (tubeAt R i).getD k 0 := fun k hk => (tubeAt_getD R i k hk).symm
      have inner : ∀ k, k ≤ layN (tubeAt R i) - 1 → mdK i (p.2, rankF R - p.1, cutR R (i * 4)) k = ((rkK (tubeAt R i) p k).2, rankF R - (rkK (tubeAt R i) p k).1, cutR R (i * 4 + k)) := by
        intro k
        induction k with
        | zero => intro _; rfl
        | succ k ihk =>
          intro hk
          have ihk := ihk (by omega)
          obtain ⟨x, P⟩ := rkK_P hR hr hA (i := i) (by omega) Si (k := k) hk
          have Sk := rkK_S hR hr hA (i := i) (by omega) Si k (by omega)
          have le1 := rkK_le hR hr hA (i := i) (by omega) Si (k + 1) (layN (tubeAt R i) - 1 - (k + 1)) (by omega)
          rw [show k + 1 + (layN (tubeAt R i) - 1 - (k + 1)) = layN (tubeAt R i) - 1 by omega] at le1
          have le0 := P.le
          have hb := Sk.e.bd
          have hsum : 0 < (rkK (tubeAt R i) p k).2.sum := by have := le_sum (rkK (tubeAt R i) p k).2 x hb (by rw [Sk.e.a]; exact P.x6); have := P.p; omega
          have all := sW_all Sk.e.a Sk.e.b hb Sk.e.s hsum
          have ew : wC (rkK (tubeAt R i) p k).2 x = arrF (lessL (rkK (tubeAt R i) p k).2 x) := if_pos P.p
          have es : sW (rkK (tubeAt R i) p k).2 x = sW (rkK (tubeAt R i) p k).2 (x - 1) + wC (rkK (tubeAt R i) p k).2 x := by
            obtain ⟨k, hk⟩ : ∃ k, x = k + 1 := ⟨x - 1, by have := P.x1; omega⟩
            rw [hk]; rfl
          obtain ⟨u1, u2⟩ := le1
          obtain ⟨v1, v2⟩ := le0
          have q1 := P.q1
          have q2 := P.q2
          have u3 : (rkK (tubeAt R i) p (k + 1)).1 + arrF (rkK (tubeAt R i) p (k + 1)).2 > rankF R := by omega
          rw [q1, q2] at u3
          rw [q1] at u1
          have pk : pkc (rkK (tubeAt R i) p k).2 (rankF R - (rkK (tubeAt R i) p k).1) = x := pkc_eq Sk.e.a hb Sk.e.s (by omega) (by omega) P.x1 (by omega) (by omega)
          show pkS (i * 4 + k) (mdK i (p.2, rankF R - p.1, cutR R (i * 4)) k) = _
          rw [ihk]
          unfold pkS
          simp only [pk]
          have hx : R.getD (i * 4 + k) 0 = (x : Int) := by rw [cellR k (by omega)]; exact P.x
          rw [cutR_set R (n := i * 4 + k) (by omega) hx, q1, q2]
          congr 2
          omega
      rw [inner _ (Nat.le_refl _)]
      unfold topS
      rw [em]
      have skip : ∀ n, layN (tubeAt R i) ≤ n → n ≤ 4 → cutR R (i * 4 + n) = cutR R ((i + 1) * 4) := fun n h1 h2 => cutR_skip R (by omega) fun q hq1 hq2 => by
        obtain ⟨k, rfl⟩ : ∃ k, q = i * 4 + k := ⟨q - i * 4, by omega⟩
        rw [cellR k (by omega)]
        exact tc.2 k (by omega)
      split
      · rename_i h0
        simp only
        have hx : R.getD (i * 4 + (layN (tubeAt R i) - 1)) 0 = (viewF R).getD i 0 := by
          rw [cellR _ (by omega), viewF_top (by omega)]
          obtain ⟨q, hq, _⟩ := topF_run _ ht h0
          rw [hq]
        rw [cutR_set R (n := i * 4 + (layN (tubeAt R i) - 1)) (by omega) hx, show i * 4 + (layN (tubeAt R i) - 1) + 1 = i * 4 + layN (tubeAt R i) by omega, skip _ (Nat.le_refl _) h4]
      · rename_i h0
        rw [show i * 4 + (layN (tubeAt R i) - 1) = i * 4 + 0 by omega, skip 0 (by omega) (by omega)]
  unfold madeF
  rw [key 6 (Nat.le_refl _)]
  exact cutR_all hR
end Go.Proofs.Ytckcojgfgcjamaa
set_option maxRecDepth 100000
set_option linter.unusedSimpArgs false
set_option linter.unusedVariables false
namespace Go.Proofs.Ytckcojgfgcjamaa
open Go Go.RowKit
--@tbl candidate = (impl.View).candidate
theorem candidate_ok (V : List Int) (r : Int) (g : vG V) (h0 : (hidV V).getD 0 0 = 0) (r0 : 0 ≤ r) (r1 : r < arrF (hidV V)) : PureH Try.prog 64 [.arr V, .int r] [] (.arr (madeF V r)) := by
  have hV := g.len
  have tkV : V.take 18 = V := List.take_of_length_le (by omega)
  have u1 := g.u1
  have lenH := g.lenH
  have eH : hidL (V.take 6) (V.drop 12) 6 = hidV V := rfl
  have tkH : (hidV V).take 6 = hidV V := List.take_of_length_le (by omega)
  refine pure_of_vc (X := ⟨Try.prog, tys, [(53, hidden_F), (55, arrangements_F)], [], true, true, 0, [], []⟩) fn_64 ⟨tys_ok, (.cons hidden_T (.cons arrangements_T .nil)), .nil, mixed⟩ (n0 := 0) (Nat.le_of_ble_eq_true rfl) (by simp [wfL, SV.wf]) (wfH_spec (by simp [wfH, SObj.wf, wfL, SV.wf])) (Nat.le_refl _) (fun _ => by simp [SV.wf, wfL]) ?_
  simp -implicitDefEqProofs only [Try.f64, Option.getD_some, argS, hidden_F, arrangements_F, hV, tkV, u1, eH, lenH, tkH, ZB, Int.reduceToNat, Nat.reduceLT, Nat.reduceLeDiff, Int.reduceLE, Int.reduceLT, Nat.reduceEqDiff, Nat.reduceSub, SB, SV.known, packR, ne_eq, reduceCtorEq, Nat.reduceEqDiff, ↓reduceIte, if_true, if_false, eq_self, Nat.reduceAdd, Nat.reduceMul, Nat.reduceSub, forall_const, oneCellS, litOne, flat1, Kd.isSca, flat, TYB]
  have I0 := fun i hi => mdT_I g h0 r0 r1 i hi
  have em : madeF V r = (mdT V (hidV V, r, List.replicate 24 0) 6).2.2 := rfl
  have z0 : mdT V (hidV V, r, List.replicate 24 0) 0 = (hidV V, r, List.replicate 24 0) := rfl
  rw [em]
  generalize hs0 : (hidV V, r, List.replicate 24 (0 : Int)) = s0 at *
  have a1 : hidV V = s0.1 := by rw [← hs0]
  have a2 : r = s0.2.1 := by rw [← hs0]
  have a3 : List.replicate 24 (0 : Int) = s0.2.2 := by rw [← hs0]
  have gM : ∀ i, i < 6 → (List.take 6 (List.drop 6 V)).getD i 0 = (mm V i : Int) := fun i hi => by
    rw [← (mm_man g hi).1, take6_get _ _ hi]
  have lM : (List.take 6 (List.drop 6 V)).length = 6 := by rw [List.length_take, List.length_drop]; omega
  refine loop_intro (fun i : Nat => [(16, .int i), (15, .arr (List.take 6 (List.drop 6 V))), (6, .ptr 3 0), (5, .ptr 2 0), (4, .ptr 1 0), (2, .ptr 0 0), (1, .int (mdT V s0 i).2.1)]) (fun i => [(3, .ints (mdT V s0 i).2.2 27), (2, .ints (mdT V s0 i).1 29), (1, .ints (List.replicate 24 0) 27), (0, .ints V 31)]) 4 (fun i => i ≤ 6) (fun i => 6 - i) ?_ ?_
  · refine ⟨0, ?_, Sub.mk_id ?_ ?_ ?_ ?_ ?_⟩
    all_goals (try (simp only [z0, ← a1, ← a2, ← a3, LB, subS, subH, wfS, wfH, SV.ren, renL, SObj.ren, SV.wf, SObj.wf, wfL, SV.known, Nat.reduceEqDiff, ↓reduceIte, if_true, if_false, eq_self, Nat.reduceAdd, Nat.reduceLT, Nat.reduceLeDiff, implies_true, reduceCtorEq, forall_const]; done))
    all_goals (try (simp only [z0, ← a1, ← a2, ← a3, LB, subS, subH, wfS, wfH, SV.ren, renL, SObj.ren, SV.wf, SObj.wf, wfL, SV.known, Nat.reduceEqDiff, ↓reduceIte, if_true, if_false, eq_self, Nat.reduceAdd, Nat.reduceLT, Nat.reduceLeDiff, implies_true, reduceCtorEq, forall_const]; simp; done))
    all_goals (try (simp only [z0, ← a1, ← a2, ← a3, LB, subS, subH, wfS, wfH, SV.ren, renL, SObj.ren, SV.wf, SObj.wf, wfL, SV.known, Nat.reduceEqDiff, ↓reduceIte, if_true, if_false, eq_self, Nat.reduceAdd, Nat.reduceLT, Nat.reduceLeDiff, implies_true, reduceCtorEq, forall_const]; (and_intros <;> (first | omega | rfl | (simp; done) | (simp; omega))); done))
    all_goals (try dsimp only)
    all_goals (and_intros <;> try (first | omega | (unfold In64; omega) | trivial | assumption))
  · intro i hi
    by_cases hlt : i < 6
    · have hil : (i : Int) < 6 := by omega
      have gi := gM i hlt
      have hm4 := mm_all g i hlt
      have II := I0 i hi
      have hl3 := II.l
      have hl1 := II.w.len
      have iw : In64 ((mm V i : Int) - 1) := by unfold In64; omega
      have eN : mdT V s0 (i + 1) = topS V i (mdK i (mdT V s0 i) (mm V i - 1)) := rfl
      have Ik := fun k hk => mdK_I g hlt II (k := k) hk
      have zk : mdK i (mdT V s0 i) 0 = mdT V s0 i := rfl
      simp -implicitDefEqProofs only [lk_normal, hil, gi, lM, iw, ZB, Int.reduceToNat, Nat.reduceLT, Nat.reduceLeDiff, Int.reduceLE, Int.reduceLT, Nat.reduceEqDiff, Nat.reduceSub, SB, SV.known, packR, ne_eq, reduceCtorEq, Nat.reduceEqDiff, ↓reduceIte, if_true, if_false, eq_self, Nat.reduceAdd, Nat.reduceMul, Nat.reduceSub, forall_const, oneCellS, litOne, flat1, Kd.isSca, flat, TYB]
      (try (and_intros <;> try (first | omega | (unfold In64; omega) | trivial | assumption)))
      generalize mdT V s0 i = si at *
      refine loop_intro (fun k : Nat => [(22, .int k), (21, .int ((mm V i : Int) - 1)), (8, .int (mm V i)), (7, .int i), (16, .int i), (15, .arr (List.take 6 (List.drop 6 V))), (6, .ptr 3 0), (5, .ptr 2 0), (4, .ptr 1 0), (2, .ptr 0 0), (1, .int (mdK i si k).2.1)]) (fun k => [(3, .ints (mdK i si k).2.2 27), (2, .ints (mdK i si k).1 29), (1, .ints (List.replicate 24 0) 27), (0, .ints V 31)]) 4 (fun k => k ≤ mm V i - 1) (fun k => 4 - k) ?_ ?_
      · refine ⟨0, ?_, Sub.mk_id ?_ ?_ ?_ ?_ ?_⟩
        all_goals (try (simp only [zk, LB, subS, subH, wfS, wfH, SV.ren, renL, SObj.ren, SV.wf, SObj.wf, wfL, SV.known, Nat.reduceEqDiff, ↓reduceIte, if_true, if_false, eq_self, Nat.reduceAdd, Nat.reduceLT, Nat.reduceLeDiff, implies_true, reduceCtorEq, forall_const]; done))
        all_goals (try (simp only [zk, LB, subS, subH, wfS, wfH, SV.ren, renL, SObj.ren, SV.wf, SObj.wf, wfL, SV.known, Nat.reduceEqDiff, ↓reduceIte, if_true, if_false, eq_self, Nat.reduceAdd, Nat.reduceLT, Nat.reduceLeDiff, implies_true, reduceCtorEq, forall_const]; simp; done))
        all_goals (try (simp only [zk, LB, subS, subH, wfS, wfH, SV.ren, renL, SObj.ren, SV.wf, SObj.wf, wfL, SV.known, Nat.reduceEqDiff, ↓reduceIte, if_true, if_false, eq_self, Nat.reduceAdd, Nat.reduceLT, Nat.reduceLeDiff, implies_true, reduceCtorEq, forall_const]; (and_intros <;> (first | omega | rfl | (simp; done) | (simp; omega))); done))
        all_goals (try dsimp only)
        all_goals (and_intros <;> try (first | omega | (unfold In64; omega) | trivial | assumption))
      · intro k hk
        have J := Ik k hk
        by_cases hkt : k < mm V i - 1
        · have hkl : (k : Int) < (mm V i : Int) - 1 := by omega
          have P := pkc_step J.w (J.left g hlt (by omega))
          have eS : mdK i si (k + 1) = pkS (i * 4 + k) (mdK i si k) := rfl
          simp -implicitDefEqProofs only [lk_normal, hkl, ZB, Int.reduceToNat, Nat.reduceLT, Nat.reduceLeDiff, Int.reduceLE, Int.reduceLT, Nat.reduceEqDiff, Nat.reduceSub, SB, SV.known, packR, ne_eq, reduceCtorEq, Nat.reduceEqDiff, ↓reduceIte, if_true, if_false, eq_self, Nat.reduceAdd, Nat.reduceMul, Nat.reduceSub, forall_const, oneCellS, litOne, flat1, Kd.isSca, flat, TYB]
          (try (and_intros <;> try (first | omega | (unfold In64; omega) | trivial | assumption)))
          generalize mdK i si k = sk at *
          obtain ⟨L, rk, R⟩ := sk
          replace P : pkR L rk (pkc L rk) := P
          have W : vwI L rk := J.w
          have hL := W.len
          have hR : R.length = 24 := J.l
          have ab := arrF_bd W.b W.s
          have rk0 := W.r0
          have rk1 := W.r1
          unfold pkS at eS
          simp only at eS
          generalize hc : pkc L rk = c at *
          have c1 := P.c1
          have c5 := P.c5
          have wn := fun q => wC_nn W.len W.b W.s q
          have sn := fun (q : Nat) => sW_mono W.len W.b W.s (Nat.zero_le q)
          have sz : sW L 0 = 0 := rfl
          refine loop_intro (fun q : Nat => [(10, .int ((q : Int) + 1)), (9, .int k), (22, .int k), (21, .int ((mm V i : Int) - 1)), (8, .int (mm V i)), (7, .int i), (16, .int i), (15, .arr (List.take 6 (List.drop 6 V))), (6, .ptr 3 0), (5, .ptr 2 0), (4, .ptr 1 0), (2, .ptr 0 0), (1, .int (rk - sW L q))]) (fun q => [(3, .ints R 27), (2, .ints L 29), (1, .ints (List.replicate 24 0) 27), (0, .ints V 31)]) 4 (fun q => q < c) (fun q => 5 - q) ?_ ?_
          · refine ⟨0, ?_, Sub.mk_id ?_ ?_ ?_ ?_ ?_⟩
            all_goals (try (simp only [sz, Int.sub_zero, LB, subS, subH, wfS, wfH, SV.ren, renL, SObj.ren, SV.wf, SObj.wf, wfL, SV.known, Nat.reduceEqDiff, ↓reduceIte, if_true, if_false, eq_self, Nat.reduceAdd, Nat.reduceLT, Nat.reduceLeDiff, implies_true, reduceCtorEq, forall_const]; done))
            all_goals (try (simp only [sz, Int.sub_zero, LB, subS, subH, wfS, wfH, SV.ren, renL, SObj.ren, SV.wf, SObj.wf, wfL, SV.known, Nat.reduceEqDiff, ↓reduceIte, if_true, if_false, eq_self, Nat.reduceAdd, Nat.reduceLT, Nat.reduceLeDiff, implies_true, reduceCtorEq, forall_const]; simp; done))
            all_goals (try (simp only [sz, Int.sub_zero, LB, subS, subH, wfS, wfH, SV.ren, renL, SObj.ren, SV.wf, SObj.wf, wfL, SV.known, Nat.reduceEqDiff, ↓reduceIte, if_true, if_false, eq_self, Nat.reduceAdd, Nat.reduceLT, Nat.reduceLeDiff, implies_true, reduceCtorEq, forall_const]; (and_intros <;> (first | omega | rfl | (simp; done) | (simp; omega))); done))
            all_goals (try dsimp only)
            all_goals (and_intros <;> try (first | omega | (unfold In64; omega) | trivial | assumption))
          · intro q hq
            have ql : (q : Int) + 1 ≤ 5 := by omega
            have qn : ((q : Int) + 1).toNat = q + 1 := by omega
            have q0 : 0 ≤ (q : Int) + 1 := by omega
            have q6 : (q : Int) + 1 < 6 := by omega
            have q6n : q + 1 < 6 := by omega
            have lo := P.lo q hq
            have sq := sn q
            have eW : sW L (q + 1) = sW L q + wC L (q + 1) := rfl
            have wq := wn (q + 1)
            have bq := W.b.getD (k := q + 1) (by omega)
            have i1 : In64 (rk - sW L q) := by unfold In64; omega
            by_cases hz : L.getD (q + 1) 0 = 0
            · have hne : q + 1 ≠ c := fun h => by have := P.p; rw [← h] at this; omega
              have ez : wC L (q + 1) = 0 := if_neg (by omega)
              have eS2 : sW L (q + 1) = sW L q := by omega
              simp -implicitDefEqProofs only [lk_normal, ql, qn, q0, q6, q6n, hL, hz, ZB, Int.reduceToNat, Nat.reduceLT, Nat.reduceLeDiff, Int.reduceLE, Int.reduceLT, Nat.reduceEqDiff, Nat.reduceSub, SB, SV.known, packR, ne_eq, reduceCtorEq, Nat.reduceEqDiff, ↓reduceIte, if_true, if_false, eq_self, Nat.reduceAdd, Nat.reduceMul, Nat.reduceSub, forall_const, oneCellS, litOne, flat1, Kd.isSca, flat, TYB]
              (try (and_intros <;> try (first | omega | (unfold In64; omega) | trivial | assumption)))
              refine ⟨q + 1, ?_, ?_, Sub.mk_id ?_ ?_ ?_ ?_ ?_⟩
              all_goals (try (simp only [eS2, LB, subS, subH, wfS, wfH, SV.ren, renL, SObj.ren, SV.wf, SObj.wf, wfL, SV.known, Nat.reduceEqDiff, ↓reduceIte, if_true, if_false, eq_self, Nat.reduceAdd, Nat.reduceLT, Nat.reduceLeDiff, implies_true, reduceCtorEq, forall_const]; done))
              all_goals (try (simp only [eS2, LB, subS, subH, wfS, wfH, SV.ren, renL, SObj.ren, SV.wf, SObj.wf, wfL, SV.known, Nat.reduceEqDiff, ↓reduceIte, if_true, if_false, eq_self, Nat.reduceAdd, Nat.reduceLT, Nat.reduceLeDiff, implies_true, reduceCtorEq, forall_const]; simp; done))
              all_goals (try (simp only [eS2, LB, subS, subH, wfS, wfH, SV.ren, renL, SObj.ren, SV.wf, SObj.wf, wfL, SV.known, Nat.reduceEqDiff, ↓reduceIte, if_true, if_false, eq_self, Nat.reduceAdd, Nat.reduceLT, Nat.reduceLeDiff, implies_true, reduceCtorEq, forall_const]; (and_intros <;> (first | omega | rfl | (simp; done) | (simp; omega))); done))
              all_goals (try dsimp only)
              all_goals (and_intros <;> try (first | omega | (unfold In64; omega) | trivial | assumption))
            · have hp : 0 < L.getD (q + 1) 0 := by omega
              have ew : wC L (q + 1) = arrF (L.set (q + 1) (L.getD (q + 1) 0 - 1)) := if_pos hp
              have bl : Bd 0 1000000 (L.set (q + 1) (L.getD (q + 1) 0 - 1)) := fun x hx => by have := bd_less W.b hp x hx; omega
              have i2 : In64 (L.getD (q + 1) 0 - 1) := by unfold In64; omega
              have i3 : In64 (L.getD (q + 1) 0 - 1 + 1) := by unfold In64; omega
              have tkq : List.take 6 (L.set (q + 1) (L.getD (q + 1) 0 - 1)) = L.set (q + 1) (L.getD (q + 1) 0 - 1) := List.take_of_length_le (by rw [List.length_set]; omega)
              have g1 := getD_set_eq L (q + 1) (L.getD (q + 1) 0 - 1) (by omega)
              have g2 : (L.set (q + 1) (L.getD (q + 1) 0 - 1)).set (q + 1) (L.getD (q + 1) 0 - 1 + 1) = L := by
                rw [List.set_set, show L.getD (q + 1) 0 - 1 + 1 = L.getD (q + 1) 0 by omega]; exact set_getD_self _ _
              have p24 : i * 4 + k < 24 := by omega
              have ki : (k : Int) < 4 := by omega
              by_cases hqc : q + 1 = c
              · have hcr : rk - sW L q < arrF (L.set (q + 1) (L.getD (q + 1) 0 - 1)) := by
                  have := P.hi
                  rw [← hqc] at this
                  omega
                rw [← hqc] at eS
                have eS' : mdK i si (k + 1) = (L.set (q + 1) (L.getD (q + 1) 0 - 1), rk - sW L q, R.set (i * 4 + k) ((q : Int) + 1)) := by rw [eS]; simp [lessL]
                simp -implicitDefEqProofs only [lk_normal, arrangements_F, ql, qn, q0, q6, q6n, hL, hR, hz, bl, i2, tkq, hcr, p24, ki, hil, ZB, Int.reduceToNat, Nat.reduceLT, Nat.reduceLeDiff, Int.reduceLE, Int.reduceLT, Nat.reduceEqDiff, Nat.reduceSub, SB, SV.known, packR, ne_eq, reduceCtorEq, Nat.reduceEqDiff, ↓reduceIte, if_true, if_false, eq_self, Nat.reduceAdd, Nat.reduceMul, Nat.reduceSub, forall_const, oneCellS, litOne, flat1, Kd.isSca, flat, TYB]
                (try (and_intros <;> try (first | omega | (unfold In64; omega) | trivial | assumption)))
                refine ⟨k + 1, ?_, ?_, Sub.mk_id ?_ ?_ ?_ ?_ ?_⟩
                all_goals (try (simp only [eS', LB, subS, subH, wfS, wfH, SV.ren, renL, SObj.ren, SV.wf, SObj.wf, wfL, SV.known, Nat.reduceEqDiff, ↓reduceIte, if_true, if_false, eq_self, Nat.reduceAdd, Nat.reduceLT, Nat.reduceLeDiff, implies_true, reduceCtorEq, forall_const]; done))
                all_goals (try (simp only [eS', LB, subS, subH, wfS, wfH, SV.ren, renL, SObj.ren, SV.wf, SObj.wf, wfL, SV.known, Nat.reduceEqDiff, ↓reduceIte, if_true, if_false, eq_self, Nat.reduceAdd, Nat.reduceLT, Nat.reduceLeDiff, implies_true, reduceCtorEq, forall_const]; simp; done))
                all_goals (try (simp only [eS', LB, subS, subH, wfS, wfH, SV.ren, renL, SObj.ren, SV.wf, SObj.wf, wfL, SV.known, Nat.reduceEqDiff, ↓reduceIte, if_true, if_false, eq_self, Nat.reduceAdd, Nat.reduceLT, Nat.reduceLeDiff, implies_true, reduceCtorEq, forall_const]; (and_intros <;> (first | omega | rfl | (simp; done) | (simp; omega))); done))
                all_goals (try dsimp only)
                all_goals (and_intros <;> try (first | omega | (unfold In64; omega) | trivial | assumption))
              · have hge : sW L (q + 1) ≤ rk := P.lo (q + 1) (by omega)
                have hcr : ¬ rk - sW L q < arrF (L.set (q + 1) (L.getD (q + 1) 0 - 1)) := by omega
                have eS2 : rk - sW L (q + 1) = rk - sW L q - arrF (L.set (q + 1) (L.getD (q + 1) 0 - 1)) := by omega
                have i4 : In64 (rk - sW L q - arrF (L.set (q + 1) (L.getD (q + 1) 0 - 1))) := by unfold In64; omega
                simp -implicitDefEqProofs only [lk_normal, arrangements_F, ql, qn, q0, q6, q6n, hL, hz, bl, i2, i3, i4, tkq, g1, g2, hcr, ZB, Int.reduceToNat, Nat.reduceLT, Nat.reduceLeDiff, Int.reduceLE, Int.reduceLT, Nat.reduceEqDiff, Nat.reduceSub, SB, SV.known, packR, ne_eq, reduceCtorEq, Nat.reduceEqDiff, ↓reduceIte, if_true, if_false, eq_self, Nat.reduceAdd, Nat.reduceMul, Nat.reduceSub, forall_const, oneCellS, litOne, flat1, Kd.isSca, flat, TYB]
                (try (and_intros <;> try (first | omega | (unfold In64; omega) | trivial | assumption)))
                refine ⟨q + 1, ?_, ?_, Sub.mk_id ?_ ?_ ?_ ?_ ?_⟩
                all_goals (try (simp only [eS2, LB, subS, subH, wfS, wfH, SV.ren, renL, SObj.ren, SV.wf, SObj.wf, wfL, SV.known, Nat.reduceEqDiff, ↓reduceIte, if_true, if_false, eq_self, Nat.reduceAdd, Nat.reduceLT, Nat.reduceLeDiff, implies_true, reduceCtorEq, forall_const]; done))
                all_goals (try (simp only [eS2, LB, subS, subH, wfS, wfH, SV.ren, renL, SObj.ren, SV.wf, SObj.wf, wfL, SV.known, Nat.reduceEqDiff, ↓reduceIte, if_true, if_false, eq_self, Nat.reduceAdd, Nat.reduceLT, Nat.reduceLeDiff, implies_true, reduceCtorEq, forall_const]; simp; done))
                all_goals (try (simp only [eS2, LB, subS, subH, wfS, wfH, SV.ren, renL, SObj.ren, SV.wf, SObj.wf, wfL, SV.known, Nat.reduceEqDiff, ↓reduceIte, if_true, if_false, eq_self, Nat.reduceAdd, Nat.reduceLT, Nat.reduceLeDiff, implies_true, reduceCtorEq, forall_const]; (and_intros <;> (first | omega | rfl | (simp; done) | (simp; omega))); done))
                all_goals (try dsimp only)
                all_goals (and_intros <;> try (first | omega | (unfold In64; omega) | trivial | assumption))
        · have hkl : ¬ (k : Int) < (mm V i : Int) - 1 := by omega
          by_cases hm0 : 0 < mm V i
          · obtain rfl : k = mm V i - 1 := by omega
            have ml : 0 < (mm V i : Int) := by omega
            have eT : mdT V s0 (i + 1) = ((mdK i si (mm V i - 1)).1, (mdK i si (mm V i - 1)).2.1, (mdK i si (mm V i - 1)).2.2.set (i * 4 + (mm V i - 1)) (V.getD i 0)) := by rw [eN, topS, if_pos hm0]
            have hR := J.l
            have n1 : ((mm V i : Int) - 1).toNat = mm V i - 1 := by omega
            have n2 : 0 ≤ (mm V i : Int) - 1 := by omega
            have n3 : (mm V i : Int) - 1 < 4 := by omega
            have p24 : i * 4 + (mm V i - 1) < 24 := by omega
            have i18 : i < 18 := by omega
            simp -implicitDefEqProofs only [lk_normal, hkl, ml, iw, n1, n2, n3, hil, hV, i18, hR, p24, ZB, Int.reduceToNat, Nat.reduceLT, Nat.reduceLeDiff, Int.reduceLE, Int.reduceLT, Nat.reduceEqDiff, Nat.reduceSub, SB, SV.known, packR, ne_eq, reduceCtorEq, Nat.reduceEqDiff, ↓reduceIte, if_true, if_false, eq_self, Nat.reduceAdd, Nat.reduceMul, Nat.reduceSub, forall_const, oneCellS, litOne, flat1, Kd.isSca, flat, TYB]
            (try (and_intros <;> try (first | omega | (unfold In64; omega) | trivial | assumption)))
            refine ⟨i + 1, ?_, ?_, Sub.mk_id ?_ ?_ ?_ ?_ ?_⟩
            all_goals (try (simp only [eT, LB, subS, subH, wfS, wfH, SV.ren, renL, SObj.ren, SV.wf, SObj.wf, wfL, SV.known, Nat.reduceEqDiff, ↓reduceIte, if_true, if_false, eq_self, Nat.reduceAdd, Nat.reduceLT, Nat.reduceLeDiff, implies_true, reduceCtorEq, forall_const]; done))
            all_goals (try (simp only [eT, LB, subS, subH, wfS, wfH, SV.ren, renL, SObj.ren, SV.wf, SObj.wf, wfL, SV.known, Nat.reduceEqDiff, ↓reduceIte, if_true, if_false, eq_self, Nat.reduceAdd, Nat.reduceLT, Nat.reduceLeDiff, implies_true, reduceCtorEq, forall_const]; simp; done))
            all_goals (try (simp only [eT, LB, subS, subH, wfS, wfH, SV.ren, renL, SObj.ren, SV.wf, SObj.wf, wfL, SV.known, Nat.reduceEqDiff, ↓reduceIte, if_true, if_false, eq_self, Nat.reduceAdd, Nat.reduceLT, Nat.reduceLeDiff, implies_true, reduceCtorEq, forall_const]; (and_intros <;> (first | omega | rfl | (simp; done) | (simp; omega))); done))
            all_goals (try dsimp only)
            all_goals (and_intros <;> try (first | omega | (unfold In64; omega) | trivial | assumption))
          · have ml : ¬ 0 < (mm V i : Int) := by omega
            have eT : mdT V s0 (i + 1) = mdK i si (mm V i - 1) := by rw [eN, topS, if_neg hm0]
            obtain rfl : k = mm V i - 1 := by omega
            simp -implicitDefEqProofs only [lk_normal, hkl, ml, ZB, Int.reduceToNat, Nat.reduceLT, Nat.reduceLeDiff, Int.reduceLE, Int.reduceLT, Nat.reduceEqDiff, Nat.reduceSub, SB, SV.known, packR, ne_eq, reduceCtorEq, Nat.reduceEqDiff, ↓reduceIte, if_true, if_false, eq_self, Nat.reduceAdd, Nat.reduceMul, Nat.reduceSub, forall_const, oneCellS, litOne, flat1, Kd.isSca, flat, TYB]
            (try (and_intros <;> try (first | omega | (unfold In64; omega) | trivial | assumption)))
            refine ⟨i + 1, ?_, ?_, Sub.mk_id ?_ ?_ ?_ ?_ ?_⟩
            all_goals (try (simp only [eT, LB, subS, subH, wfS, wfH, SV.ren, renL, SObj.ren, SV.wf, SObj.wf, wfL, SV.known, Nat.reduceEqDiff, ↓reduceIte, if_true, if_false, eq_self, Nat.reduceAdd, Nat.reduceLT, Nat.reduceLeDiff, implies_true, reduceCtorEq, forall_const]; done))
            all_goals (try (simp only [eT, LB, subS, subH, wfS, wfH, SV.ren, renL, SObj.ren, SV.wf, SObj.wf, wfL, SV.known, Nat.reduceEqDiff, ↓reduceIte, if_true, if_false, eq_self, Nat.reduceAdd, Nat.reduceLT, Nat.reduceLeDiff, implies_true, reduceCtorEq, forall_const]; simp; done))
            all_goals (try (simp only [eT, LB, subS, subH, wfS, wfH, SV.ren, renL, SObj.ren, SV.wf, SObj.wf, wfL, SV.known, Nat.reduceEqDiff, ↓reduceIte, if_true, if_false, eq_self, Nat.reduceAdd, Nat.reduceLT, Nat.reduceLeDiff, implies_true, reduceCtorEq, forall_const]; (and_intros <;> (first | omega | rfl | (simp; done) | (simp; omega))); done))
            all_goals (try dsimp only)
            all_goals (and_intros <;> try (first | omega | (unfold In64; omega) | trivial | assumption))
    · have hil : ¬ (i : Int) < 6 := by omega
      obtain rfl : i = 6 := by omega
      have hl3 := (I0 6 (Nat.le_refl _)).l
      have tkR := List.take_of_length_le (Nat.le_of_eq hl3)
      simp -implicitDefEqProofs only [lk_normal, hil, lM, hl3, tkR, ZB, Int.reduceToNat, Nat.reduceLT, Nat.reduceLeDiff, Int.reduceLE, Int.reduceLT, Nat.reduceEqDiff, Nat.reduceSub, SB, SV.known, packR, ne_eq, reduceCtorEq, Nat.reduceEqDiff, ↓reduceIte, if_true, if_false, eq_self, Nat.reduceAdd, Nat.reduceMul, Nat.reduceSub, forall_const, oneCellS, litOne, flat1, Kd.isSca, flat, TYB]
      (try (and_intros <;> try (first | omega | (unfold In64; omega) | trivial | assumption)))
theorem candidate_okI (V : List Int) (r : Int) (hv : isVF V = true) (hV : V.length = 18) (h64 : I64 V) (r0 : 0 ≤ r) (r1 : r < arrF (hidV V)) : PureH Try.prog 64 [.arr V, .int r] [] (.arr (madeF V r)) :=
  candidate_ok V r (vG_of hV h64 hv) (isV_facts hV h64 hv).2.2.2.2.2.2.1 r0 r1
def candidate_F : List SV → Heap → Option (Prop × SV)
  | [.arr V, .int r], _ => some (isVF V = true ∧ V.length = 18 ∧ I64 V ∧ 0 ≤ r ∧ r < arrF (hidV V), .arr (madeF V r))
  | _, _ => none
theorem candidate_T : ∀ args H p v, candidate_F args H = some (p, v) → p → PureH Try.prog 64 args H v := by
  intro args H p v h hp
  unfold candidate_F at h
  split at h
  · cases h; exact (candidate_okI _ _ hp.1 hp.2.1 hp.2.2.1 hp.2.2.2.1 hp.2.2.2.2).any _
  · cases h
def caB (V : List Int) (r : Int) : Bool := isVF V && decide (0 ≤ r) && decide (r ≤ arrF (hidV V) - 1)
def caF (V : List Int) (r : Int) : List Int := if caB V r = true then madeF V r else List.replicate 24 0
theorem caF_len {V : List Int} {r : Int} (hV : V.length = 18) (h64 : I64 V) : (caF V r).length = 24 := by
  unfold caF
  split
  · rename_i h
    simp only [caB, Bool.and_eq_true, decide_eq_true_eq] at h
    have hf := isV_facts hV h64 h.1.1
    exact made_len (vG_of hV h64 h.1.1) hf.2.2.2.2.2.2.1 h.1.2 (by omega)
  · exact List.length_replicate
--@tbl CandidateAt = impl.CandidateAt
theorem CandidateAt_ok (V : List Int) (r : Int) (hV : V.length = 18) (h64 : I64 V) : PureH Try.prog 13 [.arr V, .int r] [] (.tup [.arr (caF V r), .bool (caB V r)]) := by
  have tkV : V.take 18 = V := List.take_of_length_le (by omega)
  have lC := caF_len (r := r) hV h64
  unfold caF at lC ⊢
  unfold caB at lC ⊢
  cases hv : isVF V
  · have tkz : List.take 24 (List.replicate 24 (0 : Int)) = List.replicate 24 0 := List.take_of_length_le (by simp)
    refine pure_of_vc (X := ⟨Try.prog, tys, [(27, IsView_F), (53, hidden_F), (55, arrangements_F), (63, within_F), (64, candidate_F)], [], true, true, 0, [], []⟩) fn_13 ⟨tys_ok, (.cons IsView_T (.cons hidden_T (.cons arrangements_T (.cons within_T (.cons candidate_T .nil))))), .nil, mixed⟩ (n0 := 0) (Nat.le_of_ble_eq_true rfl) (by simp [wfL, SV.wf]) (wfH_spec (by simp [wfH, SObj.wf, wfL, SV.wf])) (Nat.le_refl _) (fun _ => by simp [SV.wf, wfL]) ?_
    simp -implicitDefEqProofs only [Try.f13, Option.getD_some, argS, IsView_F, hidden_F, arrangements_F, within_F, candidate_F, hV, tkV, hv, tkz, ZB, Int.reduceToNat, Nat.reduceLT, Nat.reduceLeDiff, Int.reduceLE, Int.reduceLT, Nat.reduceEqDiff, Nat.reduceSub, SB, SV.known, packR, ne_eq, reduceCtorEq, Nat.reduceEqDiff, ↓reduceIte, if_true, if_false, eq_self, Nat.reduceAdd, Nat.reduceMul, Nat.reduceSub, forall_const, oneCellS, litOne, flat1, Kd.isSca, flat, TYB]
  obtain ⟨u1, u2, u3, z0, bC, lenH, h0, bH, hs, h18⟩ := isV_facts hV h64 hv
  have eH : hidL (V.take 6) (V.drop 12) 6 = hidV V := rfl
  have tkH : (hidV V).take 6 = hidV V := List.take_of_length_le (by omega)
  have ab := arrF_bd bH h18
  have bl : Bd 0 1000000 (hidV V) := fun x hx => by have := bH x hx; omega
  have i1 : In64 (arrF (hidV V) - 1) := by unfold In64; omega
  have tkz : List.take 24 (List.replicate 24 (0 : Int)) = List.replicate 24 0 := List.take_of_length_le (by simp)
  by_cases h1 : 0 ≤ r
  · by_cases h2 : r ≤ arrF (hidV V) - 1
    · have h3 : r < arrF (hidV V) := by omega
      have lM := made_len (vG_of hV h64 hv) h0 h1 h3
      have tkM := List.take_of_length_le (Nat.le_of_eq lM)
      refine pure_of_vc (X := ⟨Try.prog, tys, [(27, IsView_F), (53, hidden_F), (55, arrangements_F), (63, within_F), (64, candidate_F)], [], true, true, 0, [], []⟩) fn_13 ⟨tys_ok, (.cons IsView_T (.cons hidden_T (.cons arrangements_T (.cons within_T (.cons candidate_T .nil))))), .nil, mixed⟩ (n0 := 0) (Nat.le_of_ble_eq_true rfl) (by simp [wfL, SV.wf]) (wfH_spec (by simp [wfH, SObj.wf, wfL, SV.wf])) (Nat.le_refl _) (fun _ => by simp [SV.wf, wfL]) ?_
      simp -implicitDefEqProofs only [Try.f13, Option.getD_some, argS, IsView_F, hidden_F, arrangements_F, within_F, candidate_F, hV, tkV, hv, h64, u1, eH, lenH, tkH, bl, i1, h1, h2, h3, lM, tkM, ZB, Int.reduceToNat, Nat.reduceLT, Nat.reduceLeDiff, Int.reduceLE, Int.reduceLT, Nat.reduceEqDiff, Nat.reduceSub, SB, SV.known, packR, ne_eq, reduceCtorEq, Nat.reduceEqDiff, ↓reduceIte, if_true, if_false, eq_self, Nat.reduceAdd, Nat.reduceMul, Nat.reduceSub, forall_const, oneCellS, litOne, flat1, Kd.isSca, flat, TYB]
    · refine pure_of_vc (X := ⟨Try.prog, tys, [(27, IsView_F), (53, hidden_F), (55, arrangements_F), (63, within_F), (64, candidate_F)], [], true, true, 0, [], []⟩) fn_13 ⟨tys_ok, (.cons IsView_T (.cons hidden_T (.cons arrangements_T (.cons within_T (.cons candidate_T .nil))))), .nil, mixed⟩ (n0 := 0) (Nat.le_of_ble_eq_true rfl) (by simp [wfL, SV.wf]) (wfH_spec (by simp [wfH, SObj.wf, wfL, SV.wf])) (Nat.le_refl _) (fun _ => by simp [SV.wf, wfL]) ?_
      simp -implicitDefEqProofs only [Try.f13, Option.getD_some, argS, IsView_F, hidden_F, arrangements_F, within_F, candidate_F, hV, tkV, hv, u1, eH, lenH, tkH, bl, i1, h1, h2, tkz, ZB, Int.reduceToNat, Nat.reduceLT, Nat.reduceLeDiff, Int.reduceLE, Int.reduceLT, Nat.reduceEqDiff, Nat.reduceSub, SB, SV.known, packR, ne_eq, reduceCtorEq, Nat.reduceEqDiff, ↓reduceIte, if_true, if_false, eq_self, Nat.reduceAdd, Nat.reduceMul, Nat.reduceSub, forall_const, oneCellS, litOne, flat1, Kd.isSca, flat, TYB]
  · have e : ∀ p : Prop, (0 ≤ r ∧ p) = False := fun p => eq_false (fun h => h1 h.1)
    refine pure_of_vc (X := ⟨Try.prog, tys, [(27, IsView_F), (53, hidden_F), (55, arrangements_F), (63, within_F), (64, candidate_F)], [], true, true, 0, [], []⟩) fn_13 ⟨tys_ok, (.cons IsView_T (.cons hidden_T (.cons arrangements_T (.cons within_T (.cons candidate_T .nil))))), .nil, mixed⟩ (n0 := 0) (Nat.le_of_ble_eq_true rfl) (by simp [wfL, SV.wf]) (wfH_spec (by simp [wfH, SObj.wf, wfL, SV.wf])) (Nat.le_refl _) (fun _ => by simp [SV.wf, wfL]) ?_
    simp -implicitDefEqProofs only [Try.f13, Option.getD_some, argS, IsView_F, hidden_F, arrangements_F, within_F, candidate_F, hV, tkV, hv, u1, eH, lenH, tkH, bl, i1, h1, e, tkz, ZB, Int.reduceToNat, Nat.reduceLT, Nat.reduceLeDiff, Int.reduceLE, Int.reduceLT, Nat.reduceEqDiff, Nat.reduceSub, SB, SV.known, packR, ne_eq, reduceCtorEq, Nat.reduceEqDiff, ↓reduceIte, if_true, if_false, eq_self, Nat.reduceAdd, Nat.reduceMul, Nat.reduceSub, forall_const, oneCellS, litOne, flat1, Kd.isSca, flat, TYB]
    exact ⟨fun h => h.1.elim, fun _ => trivial⟩
def CandidateAt_F : List SV → Heap → Option (Prop × SV)
  | [.arr V, .int r], _ => some (V.length = 18 ∧ I64 V, .tup [.arr (caF V r), .bool (caB V r)])
  | _, _ => none
theorem CandidateAt_T : ∀ args H p v, CandidateAt_F args H = some (p, v) → p → PureH Try.prog 13 args H v := by
  intro args H p v h hp
  unfold CandidateAt_F at h
  split at h
  · cases h; exact (CandidateAt_ok _ _ hp.1 hp.2).any _
  · cases h
--@tbl FirstCandidate = impl.FirstCandidate
theorem FirstCandidate_ok (V : List Int) (hV : V.length = 18) (h64 : I64 V) : PureH Try.prog 17 [.arr V] [] (.tup [.arr (caF V 0), .bool (caB V 0)]) := by
  have tkV : V.take 18 = V := List.take_of_length_le (by omega)
  have lC := caF_len (r := 0) hV h64
  have tkC := List.take_of_length_le (Nat.le_of_eq lC)
  refine pure_of_vc (X := ⟨Try.prog, tys, [(13, CandidateAt_F)], [], true, true, 0, [], []⟩) fn_17 ⟨tys_ok, (.cons CandidateAt_T .nil), .nil, mixed⟩ (n0 := 0) (Nat.le_of_ble_eq_true rfl) (by simp [wfL, SV.wf]) (wfH_spec (by simp [wfH, SObj.wf, wfL, SV.wf])) (Nat.le_refl _) (fun _ => by simp [SV.wf, wfL]) ?_
  simp -implicitDefEqProofs only [Try.f17, Option.getD_some, argS, CandidateAt_F, hV, tkV, h64, lC, tkC, ZB, Int.reduceToNat, Nat.reduceLT, Nat.reduceLeDiff, Int.reduceLE, Int.reduceLT, Nat.reduceEqDiff, Nat.reduceSub, SB, SV.known, packR, ne_eq, reduceCtorEq, Nat.reduceEqDiff, ↓reduceIte, if_true, if_false, eq_self, Nat.reduceAdd, Nat.reduceMul, Nat.reduceSub, forall_const, oneCellS, litOne, flat1, Kd.isSca, flat, TYB]
def FirstCandidate_F : List SV → Heap → Option (Prop × SV)
  | [.arr V], _ => some (V.length = 18 ∧ I64 V, .tup [.arr (caF V 0), .bool (caB V 0)])
  | _, _ => none
theorem FirstCandidate_T : ∀ args H p v, FirstCandidate_F args H = some (p, v) → p → PureH Try.prog 17 args H v := by
  intro args H p v h hp
  unfold FirstCandidate_F at h
  split at h
  · cases h; exact (FirstCandidate_ok _ hp.1 hp.2).any _
  · cases h
theorem caB_zero {V : List Int} (hV : V.length = 18) (h64 : I64 V) : caB V 0 = isVF V := by
  unfold caB
  cases hv : isVF V
  · rfl
  · obtain ⟨u1, u2, u3, z0, bC, lenH, h0, bH, hs, h18⟩ := isV_facts hV h64 hv
    have ab := arrF_bd bH h18
    simp; omega
end Go.Proofs.Ytckcojgfgcjamaa
set_option maxRecDepth 100000
set_option linter.unusedSimpArgs false
set_option linter.unusedVariables false
namespace Go.Proofs.Ytckcojgfgcjamaa
open Go Go.RowKit
--@tbl isViewAt = impl.isViewAt
end Go.Proofs.Ytckcojgfgcjamaa
set_option maxRecDepth 100000
set_option linter.unusedSimpArgs false
set_option linter.unusedVariables false
namespace Go.Proofs.Ytckcojgfgcjamaa
open Go Go.RowKit
structure mnX (all same : Int) (m : Nat) (s : Int) : Prop where
  n : ∀ q, q < 6 → 0 ≤ mnN all same m s q ∧ mnN all same m s q ≤ 1000000000
  t : ∀ q, q < 5 → 0 ≤ toVal all same m q * min (q : Int) s ∧ toVal all same m q * min (q : Int) s ≤ 1000000000
  f : ∀ r, r ≤ m → 0 ≤ (mnS all same m s r).getD 0 0 ∧ (mnS all same m s r).getD 0 0 ≤ 1000000000 ∧ 0 < (mnS all same m s r).getD 1 0 ∧ (mnS all same m s r).getD 1 0 ≤ 1000000000
  l : ∀ r, r < m → 0 ≤ (ltF all same m (r + 1)).getD 0 0 * min ((r + 1 : Nat) : Int) s ∧ (ltF all same m (r + 1)).getD 0 0 * min ((r + 1 : Nat) : Int) s ≤ 1000000000 ∧ 0 < (ltF all same m (r + 1)).getD 1 0 ∧ (ltF all same m (r + 1)).getD 1 0 ≤ 1000000000
end Go.Proofs.Ytckcojgfgcjamaa
set_option maxRecDepth 100000
set_option linter.unusedSimpArgs false
set_option linter.unusedVariables false
namespace Go.Proofs.Ytckcojgfgcjamaa
open Go Go.RowKit
theorem ltF_len (all same : Int) (m r : Nat) : (ltF all same m r).length = 2 := by
  have k : ∀ q, (ltK all same q).length = 2 := fun q => by cases q <;> rfl
  unfold ltF
  repeat' split
  · rfl
  · rfl
  · exact k _
--@tbl MeanMoved = impl.MeanMoved
--@tbl sMeanMoved = spec.MeanMoved
end Go.Proofs.Ytckcojgfgcjamaa
set_option maxRecDepth 100000
set_option linter.unusedSimpArgs false
set_option linter.unusedVariables false
namespace Go.Proofs.Ytckcojgfgcjamaa
open Go Go.RowKit
end Go.Proofs.Ytckcojgfgcjamaa
set_option maxRecDepth 100000
set_option linter.unusedSimpArgs false
set_option linter.unusedVariables false
namespace Go.Proofs.Ytckcojgfgcjamaa
open Go Go.RowKit
end Go.Proofs.Ytckcojgfgcjamaa
set_option maxRecDepth 100000
set_option linter.unusedSimpArgs false
set_option linter.unusedVariables false
namespace Go.Proofs.Ytckcojgfgcjamaa
open Go Go.RowKit
/-! A pour exchanges cells. -/
/-! Sorted racks. -/
end Go.Proofs.Ytckcojgfgcjamaa
set_option maxRecDepth 100000
set_option linter.unusedSimpArgs false
set_option linter.unusedVariables false
namespace Go.Proofs.Ytckcojgfgcjamaa
open Go Go.RowKit
theorem eqI_p2 : EqI Try.prog 47 2 := eqI_of (D := 2) (by omega) (eqA_ints (i := (Try.prog.info? 3).getD default) Try.underlying47 (by kernel_rfl) (by kernel_rfl) rfl Try.underlying3) (by kernel_rfl)
--@tbl rPairs = laws.rPairs
--@tbl rIn = laws.rIn
--@tbl rPart = laws.rPart
end Go.Proofs.Ytckcojgfgcjamaa
set_option maxRecDepth 100000
set_option linter.unusedSimpArgs false
set_option linter.unusedVariables false
namespace Go.Proofs.Ytckcojgfgcjamaa
open Go Go.RowKit
end Go.Proofs.Ytckcojgfgcjamaa
set_option maxRecDepth 100000
set_option linter.unusedSimpArgs false
set_option linter.unusedVariables false
namespace Go.Proofs.Ytckcojgfgcjamaa
open Go Go.RowKit
/-! Views of racks. -/
def voF (R : List Int) : List Int := if rackB R = true then viewF R else List.replicate 18 0
theorem voF_len (R : List Int) : (voF R).length = 18 := by
  unfold voF
  split
  · exact viewF_len R
  · simp
--@tbl ViewOf = impl.ViewOf
--@tbl sViewOf = spec.ViewOf
theorem ViewOf_ok (R : List Int) (hR : R.length = 24) : PureH Try.prog 7 [.arr R] [] (.tup [.arr (voF R), .bool (rackB R)]) := by
  have tkR : R.take 24 = R := List.take_of_length_le (by omega)
  have lV := viewF_len R
  have tkV := List.take_of_length_le (Nat.le_of_eq lV)
  have z : List.take 18 (List.replicate 18 (0 : Int)) = List.replicate 18 0 := rfl
  unfold voF
  cases hr : rackB R
  · refine pure_of_vc (X := ⟨Try.prog, tys, [(49, IsRack_F), (50, viewOf_F)], [], true, true, 0, [], []⟩) fn_7 ⟨tys_ok, (.cons IsRack_T (.cons viewOf_T .nil)), .nil, mixed⟩ (n0 := 0) (Nat.le_of_ble_eq_true rfl) (by simp [wfL, SV.wf]) (wfH_spec (by simp [wfH, SObj.wf, wfL, SV.wf])) (Nat.le_refl _) (fun _ => by simp [SV.wf, wfL]) ?_
    simp -implicitDefEqProofs only [Try.f7, Option.getD_some, argS, IsRack_F, viewOf_F, hR, tkR, hr, z, ZB, Int.reduceToNat, Nat.reduceLT, Nat.reduceLeDiff, Int.reduceLE, Int.reduceLT, Nat.reduceEqDiff, Nat.reduceSub, SB, SV.known, packR, ne_eq, reduceCtorEq, Nat.reduceEqDiff, ↓reduceIte, if_true, if_false, eq_self, Nat.reduceAdd, Nat.reduceMul, Nat.reduceSub, forall_const, oneCellS, litOne, flat1, Kd.isSca, flat, TYB]
  · refine pure_of_vc (X := ⟨Try.prog, tys, [(49, IsRack_F), (50, viewOf_F)], [], true, true, 0, [], []⟩) fn_7 ⟨tys_ok, (.cons IsRack_T (.cons viewOf_T .nil)), .nil, mixed⟩ (n0 := 0) (Nat.le_of_ble_eq_true rfl) (by simp [wfL, SV.wf]) (wfH_spec (by simp [wfH, SObj.wf, wfL, SV.wf])) (Nat.le_refl _) (fun _ => by simp [SV.wf, wfL]) ?_
    simp -implicitDefEqProofs only [Try.f7, Option.getD_some, argS, IsRack_F, viewOf_F, hR, tkR, hr, lV, tkV, ZB, Int.reduceToNat, Nat.reduceLT, Nat.reduceLeDiff, Int.reduceLE, Int.reduceLT, Nat.reduceEqDiff, Nat.reduceSub, SB, SV.known, packR, ne_eq, reduceCtorEq, Nat.reduceEqDiff, ↓reduceIte, if_true, if_false, eq_self, Nat.reduceAdd, Nat.reduceMul, Nat.reduceSub, forall_const, oneCellS, litOne, flat1, Kd.isSca, flat, TYB]
theorem sViewOf_ok (R : List Int) (hR : R.length = 24) : PureH Try.prog 8 [.arr R] [] (.tup [.arr (voF R), .bool (rackB R)]) := by
  have tkR : R.take 24 = R := List.take_of_length_le (by omega)
  have lV := viewF_len R
  have tkV := List.take_of_length_le (Nat.le_of_eq lV)
  have z : List.take 18 (List.replicate 18 (0 : Int)) = List.replicate 18 0 := rfl
  unfold voF
  cases hr : rackB R
  · refine pure_of_vc (X := ⟨Try.prog, tys, [(51, l2Rack_F), (52, l7View_F)], [], true, true, 0, [], []⟩) fn_8 ⟨tys_ok, (.cons l2Rack_T (.cons l7View_T .nil)), .nil, mixed⟩ (n0 := 0) (Nat.le_of_ble_eq_true rfl) (by simp [wfL, SV.wf]) (wfH_spec (by simp [wfH, SObj.wf, wfL, SV.wf])) (Nat.le_refl _) (fun _ => by simp [SV.wf, wfL]) ?_
    simp -implicitDefEqProofs only [Try.f8, Option.getD_some, argS, l2Rack_F, l7View_F, hR, tkR, hr, z, ZB, Int.reduceToNat, Nat.reduceLT, Nat.reduceLeDiff, Int.reduceLE, Int.reduceLT, Nat.reduceEqDiff, Nat.reduceSub, SB, SV.known, packR, ne_eq, reduceCtorEq, Nat.reduceEqDiff, ↓reduceIte, if_true, if_false, eq_self, Nat.reduceAdd, Nat.reduceMul, Nat.reduceSub, forall_const, oneCellS, litOne, flat1, Kd.isSca, flat, TYB]
  · refine pure_of_vc (X := ⟨Try.prog, tys, [(51, l2Rack_F), (52, l7View_F)], [], true, true, 0, [], []⟩) fn_8 ⟨tys_ok, (.cons l2Rack_T (.cons l7View_T .nil)), .nil, mixed⟩ (n0 := 0) (Nat.le_of_ble_eq_true rfl) (by simp [wfL, SV.wf]) (wfH_spec (by simp [wfH, SObj.wf, wfL, SV.wf])) (Nat.le_refl _) (fun _ => by simp [SV.wf, wfL]) ?_
    simp -implicitDefEqProofs only [Try.f8, Option.getD_some, argS, l2Rack_F, l7View_F, hR, tkR, hr, lV, tkV, ZB, Int.reduceToNat, Nat.reduceLT, Nat.reduceLeDiff, Int.reduceLE, Int.reduceLT, Nat.reduceEqDiff, Nat.reduceSub, SB, SV.known, packR, ne_eq, reduceCtorEq, Nat.reduceEqDiff, ↓reduceIte, if_true, if_false, eq_self, Nat.reduceAdd, Nat.reduceMul, Nat.reduceSub, forall_const, oneCellS, litOne, flat1, Kd.isSca, flat, TYB]
def ViewOf_F : List SV → Heap → Option (Prop × SV)
  | [.arr R], _ => some (R.length = 24, .tup [.arr (voF R), .bool (rackB R)])
  | _, _ => none
theorem ViewOf_T : ∀ args H p v, ViewOf_F args H = some (p, v) → p → PureH Try.prog 7 args H v := by
  intro args H p v h hp
  unfold ViewOf_F at h
  split at h
  · cases h; exact (ViewOf_ok _ hp).any _
  · cases h
def sViewOf_F : List SV → Heap → Option (Prop × SV)
  | [.arr R], _ => some (R.length = 24, .tup [.arr (voF R), .bool (rackB R)])
  | _, _ => none
theorem sViewOf_T : ∀ args H p v, sViewOf_F args H = some (p, v) → p → PureH Try.prog 8 args H v := by
  intro args H p v h hp
  unfold sViewOf_F at h
  split at h
  · cases h; exact (sViewOf_ok _ hp).any _
  · cases h
/-! How many candidates. -/
def ccV (V : List Int) : Int := if isVF V = true then arrF (hidV V) else 0
--@tbl CountCandidates = impl.CountCandidates
--@tbl sCountCandidates = spec.CountCandidates
theorem CountCandidates_ok (V : List Int) (hV : V.length = 18) (h64 : I64 V) : PureH Try.prog 15 [.arr V] [] (.tup [.int (ccV V), .bool (isVF V)]) := by
  have tkV : V.take 18 = V := List.take_of_length_le (by omega)
  unfold ccV
  cases hv : isVF V
  · refine pure_of_vc (X := ⟨Try.prog, tys, [(27, IsView_F), (53, hidden_F), (55, arrangements_F)], [], true, true, 0, [], []⟩) fn_15 ⟨tys_ok, (.cons IsView_T (.cons hidden_T (.cons arrangements_T .nil))), .nil, mixed⟩ (n0 := 0) (Nat.le_of_ble_eq_true rfl) (by simp [wfL, SV.wf]) (wfH_spec (by simp [wfH, SObj.wf, wfL, SV.wf])) (Nat.le_refl _) (fun _ => by simp [SV.wf, wfL]) ?_
    simp -implicitDefEqProofs only [Try.f15, Option.getD_some, argS, IsView_F, hidden_F, arrangements_F, hV, tkV, hv, ZB, Int.reduceToNat, Nat.reduceLT, Nat.reduceLeDiff, Int.reduceLE, Int.reduceLT, Nat.reduceEqDiff, Nat.reduceSub, SB, SV.known, packR, ne_eq, reduceCtorEq, Nat.reduceEqDiff, ↓reduceIte, if_true, if_false, eq_self, Nat.reduceAdd, Nat.reduceMul, Nat.reduceSub, forall_const, oneCellS, litOne, flat1, Kd.isSca, flat, TYB]
  obtain ⟨u1, u2, u3, z0, bC, lenH, h0, bH, hs, h18⟩ := isV_facts hV h64 hv
  have eH : hidL (V.take 6) (V.drop 12) 6 = hidV V := rfl
  have tkH : (hidV V).take 6 = hidV V := List.take_of_length_le (by omega)
  have bl : Bd 0 1000000 (hidV V) := fun x hx => by have := bH x hx; omega
  refine pure_of_vc (X := ⟨Try.prog, tys, [(27, IsView_F), (53, hidden_F), (55, arrangements_F)], [], true, true, 0, [], []⟩) fn_15 ⟨tys_ok, (.cons IsView_T (.cons hidden_T (.cons arrangements_T .nil))), .nil, mixed⟩ (n0 := 0) (Nat.le_of_ble_eq_true rfl) (by simp [wfL, SV.wf]) (wfH_spec (by simp [wfH, SObj.wf, wfL, SV.wf])) (Nat.le_refl _) (fun _ => by simp [SV.wf, wfL]) ?_
  simp -implicitDefEqProofs only [Try.f15, Option.getD_some, argS, IsView_F, hidden_F, arrangements_F, hV, tkV, hv, u1, eH, lenH, tkH, bl, ZB, Int.reduceToNat, Nat.reduceLT, Nat.reduceLeDiff, Int.reduceLE, Int.reduceLT, Nat.reduceEqDiff, Nat.reduceSub, SB, SV.known, packR, ne_eq, reduceCtorEq, Nat.reduceEqDiff, ↓reduceIte, if_true, if_false, eq_self, Nat.reduceAdd, Nat.reduceMul, Nat.reduceSub, forall_const, oneCellS, litOne, flat1, Kd.isSca, flat, TYB]
theorem sCountCandidates_ok (V : List Int) (hV : V.length = 18) (h64 : I64 V) : PureH Try.prog 16 [.arr V] [] (.tup [.int (ccV V), .bool (isVF V)]) := by
  have tkV : V.take 18 = V := List.take_of_length_le (by omega)
  unfold ccV
  cases hv : isVF V
  · refine pure_of_vc (X := ⟨Try.prog, tys, [(67, l7Good_F), (56, l7Hidden_F), (58, l7Ways_F)], [], true, true, 0, [], []⟩) fn_16 ⟨tys_ok, (.cons l7Good_T (.cons l7Hidden_T (.cons l7Ways_T .nil))), .nil, mixed⟩ (n0 := 0) (Nat.le_of_ble_eq_true rfl) (by simp [wfL, SV.wf]) (wfH_spec (by simp [wfH, SObj.wf, wfL, SV.wf])) (Nat.le_refl _) (fun _ => by simp [SV.wf, wfL]) ?_
    simp -implicitDefEqProofs only [Try.f16, Option.getD_some, argS, l7Good_F, l7Hidden_F, l7Ways_F, hV, tkV, hv, h64, ZB, Int.reduceToNat, Nat.reduceLT, Nat.reduceLeDiff, Int.reduceLE, Int.reduceLT, Nat.reduceEqDiff, Nat.reduceSub, SB, SV.known, packR, ne_eq, reduceCtorEq, Nat.reduceEqDiff, ↓reduceIte, if_true, if_false, eq_self, Nat.reduceAdd, Nat.reduceMul, Nat.reduceSub, forall_const, oneCellS, litOne, flat1, Kd.isSca, flat, TYB]
  obtain ⟨u1, u2, u3, z0, bC, lenH, h0, bH, hs, h18⟩ := isV_facts hV h64 hv
  have eH : hidL (V.take 6) (V.drop 12) 6 = hidV V := rfl
  have tkH : (hidV V).take 6 = hidV V := List.take_of_length_le (by omega)
  have bl : Bd 0 1000000 ((hidV V).drop 1) := fun x hx => by have := bH x (List.mem_of_mem_drop hx); omega
  have ed := arrF_drop lenH h0
  refine pure_of_vc (X := ⟨Try.prog, tys, [(67, l7Good_F), (56, l7Hidden_F), (58, l7Ways_F)], [], true, true, 0, [], []⟩) fn_16 ⟨tys_ok, (.cons l7Good_T (.cons l7Hidden_T (.cons l7Ways_T .nil))), .nil, mixed⟩ (n0 := 0) (Nat.le_of_ble_eq_true rfl) (by simp [wfL, SV.wf]) (wfH_spec (by simp [wfH, SObj.wf, wfL, SV.wf])) (Nat.le_refl _) (fun _ => by simp [SV.wf, wfL]) ?_
  simp -implicitDefEqProofs only [Try.f16, Option.getD_some, argS, l7Good_F, l7Hidden_F, l7Ways_F, hV, tkV, hv, h64, u1, u2, u3, eH, lenH, tkH, bl, ed, ZB, Int.reduceToNat, Nat.reduceLT, Nat.reduceLeDiff, Int.reduceLE, Int.reduceLT, Nat.reduceEqDiff, Nat.reduceSub, SB, SV.known, packR, ne_eq, reduceCtorEq, Nat.reduceEqDiff, ↓reduceIte, if_true, if_false, eq_self, Nat.reduceAdd, Nat.reduceMul, Nat.reduceSub, forall_const, oneCellS, litOne, flat1, Kd.isSca, flat, TYB]
def CountCandidates_F : List SV → Heap → Option (Prop × SV)
  | [.arr V], _ => some (V.length = 18 ∧ I64 V, .tup [.int (ccV V), .bool (isVF V)])
  | _, _ => none
theorem CountCandidates_T : ∀ args H p v, CountCandidates_F args H = some (p, v) → p → PureH Try.prog 15 args H v := by
  intro args H p v h hp
  unfold CountCandidates_F at h
  split at h
  · cases h; exact (CountCandidates_ok _ hp.1 hp.2).any _
  · cases h
def sCountCandidates_F : List SV → Heap → Option (Prop × SV)
  | [.arr V], _ => some (V.length = 18 ∧ I64 V, .tup [.int (ccV V), .bool (isVF V)])
  | _, _ => none
theorem sCountCandidates_T : ∀ args H p v, sCountCandidates_F args H = some (p, v) → p → PureH Try.prog 16 args H v := by
  intro args H p v h hp
  unfold sCountCandidates_F at h
  split at h
  · cases h; exact (sCountCandidates_ok _ hp.1 hp.2).any _
  · cases h
--@tbl vLess = laws.vLess
end Go.Proofs.Ytckcojgfgcjamaa
set_option maxRecDepth 100000
set_option linter.unusedSimpArgs false
set_option linter.unusedVariables false
namespace Go.Proofs.Ytckcojgfgcjamaa
open Go Go.RowKit
--@tbl l7Made = spec.l7Made
theorem l7Made_ok (V : List Int) (r : Int) (g : vG V) (h0 : (hidV V).getD 0 0 = 0) (r0 : 0 ≤ r) (r1 : r < arrF (hidV V)) : PureH Try.prog 66 [.arr V, .int r] [] (.arr (madeF V r)) := by
  have hV := g.len
  have tkV : V.take 18 = V := List.take_of_length_le (by omega)
  have u1 := g.u1
  have u2 := g.u2
  have u3 := g.u3
  have lenH := g.lenH
  have eH : hidL (V.take 6) (V.drop 12) 6 = hidV V := rfl
  have tkH : (hidV V).take 6 = hidV V := List.take_of_length_le (by omega)
  refine pure_of_vc (X := ⟨Try.prog, tys, [(56, l7Hidden_F), (58, l7Ways_F)], [], true, true, 0, [], []⟩) fn_66 ⟨tys_ok, (.cons l7Hidden_T (.cons l7Ways_T .nil)), .nil, mixed⟩ (n0 := 0) (Nat.le_of_ble_eq_true rfl) (by simp [wfL, SV.wf]) (wfH_spec (by simp [wfH, SObj.wf, wfL, SV.wf])) (Nat.le_refl _) (fun _ => by simp [SV.wf, wfL]) ?_
  simp -implicitDefEqProofs only [Try.f66, Option.getD_some, argS, l7Hidden_F, l7Ways_F, hV, tkV, u1, u2, u3, eH, lenH, tkH, ZB, Int.reduceToNat, Nat.reduceLT, Nat.reduceLeDiff, Int.reduceLE, Int.reduceLT, Nat.reduceEqDiff, Nat.reduceSub, SB, SV.known, packR, ne_eq, reduceCtorEq, Nat.reduceEqDiff, ↓reduceIte, if_true, if_false, eq_self, Nat.reduceAdd, Nat.reduceMul, Nat.reduceSub, forall_const, oneCellS, litOne, flat1, Kd.isSca, flat, TYB]
  have I0 := fun i hi => mdT_I g h0 r0 r1 i hi
  have em : madeF V r = (mdT V (hidV V, r, List.replicate 24 0) 6).2.2 := rfl
  have z0 : mdT V (hidV V, r, List.replicate 24 0) 0 = (hidV V, r, List.replicate 24 0) := rfl
  rw [em]
  generalize hs0 : (hidV V, r, List.replicate 24 (0 : Int)) = s0 at *
  have a1 : hidV V = s0.1 := by rw [← hs0]
  have a2 : r = s0.2.1 := by rw [← hs0]
  have a3 : List.replicate 24 (0 : Int) = s0.2.2 := by rw [← hs0]
  have gM : ∀ i, i < 6 → V.getD (6 + i) 0 = (mm V i : Int) := fun i hi => (vsm_of g hi).m_
  refine loop_intro (fun i : Nat => [(8, .int i), (7, .ptr 3 0), (5, .ptr 2 0), (4, .ptr 1 0), (2, .ptr 0 0), (1, .int (mdT V s0 i).2.1)]) (fun i => [(3, .ints (mdT V s0 i).1 29), (2, .ints (mdT V s0 i).2.2 27), (1, .ints (List.replicate 24 0) 27), (0, .ints V 31)]) 4 (fun i => i ≤ 6) (fun i => 6 - i) ?_ ?_
  · refine ⟨0, ?_, Sub.mk_id ?_ ?_ ?_ ?_ ?_⟩
    all_goals (try (simp only [z0, ← a1, ← a2, ← a3, LB, subS, subH, wfS, wfH, SV.ren, renL, SObj.ren, SV.wf, SObj.wf, wfL, SV.known, Nat.reduceEqDiff, ↓reduceIte, if_true, if_false, eq_self, Nat.reduceAdd, Nat.reduceLT, Nat.reduceLeDiff, implies_true, reduceCtorEq, forall_const]; done))
    all_goals (try (simp only [z0, ← a1, ← a2, ← a3, LB, subS, subH, wfS, wfH, SV.ren, renL, SObj.ren, SV.wf, SObj.wf, wfL, SV.known, Nat.reduceEqDiff, ↓reduceIte, if_true, if_false, eq_self, Nat.reduceAdd, Nat.reduceLT, Nat.reduceLeDiff, implies_true, reduceCtorEq, forall_const]; simp; done))
    all_goals (try (simp only [z0, ← a1, ← a2, ← a3, LB, subS, subH, wfS, wfH, SV.ren, renL, SObj.ren, SV.wf, SObj.wf, wfL, SV.known, Nat.reduceEqDiff, ↓reduceIte, if_true, if_false, eq_self, Nat.reduceAdd, Nat.reduceLT, Nat.reduceLeDiff, implies_true, reduceCtorEq, forall_const]; (and_intros <;> (first | omega | rfl | (simp; done) | (simp; omega))); done))
    all_goals (try dsimp only)
    all_goals (and_intros <;> try (first | omega | (unfold In64; omega) | trivial | assumption))
  · intro i hi
    by_cases hlt : i < 6
    · have hil : (i : Int) < 6 := by omega
      have gi := gM i hlt
      have hm4 := mm_all g i hlt
      have II := I0 i hi
      have iw : In64 ((mm V i : Int) - 1) := by unfold In64; omega
      have eN : mdT V s0 (i + 1) = topS V i (mdK i (mdT V s0 i) (mm V i - 1)) := rfl
      have Ik := fun k hk => mdK_I g hlt II (k := k) hk
      have zk : mdK i (mdT V s0 i) 0 = mdT V s0 i := rfl
      have i6 : 6 + i < 18 := by omega
      have i18 : i < 18 := by omega
      simp -implicitDefEqProofs only [lk_normal, hil, ZB, Int.reduceToNat, Nat.reduceLT, Nat.reduceLeDiff, Int.reduceLE, Int.reduceLT, Nat.reduceEqDiff, Nat.reduceSub, SB, SV.known, packR, ne_eq, reduceCtorEq, Nat.reduceEqDiff, ↓reduceIte, if_true, if_false, eq_self, Nat.reduceAdd, Nat.reduceMul, Nat.reduceSub, forall_const, oneCellS, litOne, flat1, Kd.isSca, flat, TYB]
      generalize mdT V s0 i = si at *
      refine loop_intro (fun k : Nat => [(9, .int k), (8, .int i), (7, .ptr 3 0), (5, .ptr 2 0), (4, .ptr 1 0), (2, .ptr 0 0), (1, .int (mdK i si k).2.1)]) (fun k => [(3, .ints (mdK i si k).1 29), (2, .ints (mdK i si k).2.2 27), (1, .ints (List.replicate 24 0) 27), (0, .ints V 31)]) 4 (fun k => k ≤ mm V i - 1) (fun k => 4 - k) ?_ ?_
      · refine ⟨0, ?_, Sub.mk_id ?_ ?_ ?_ ?_ ?_⟩
        all_goals (try (simp only [zk, LB, subS, subH, wfS, wfH, SV.ren, renL, SObj.ren, SV.wf, SObj.wf, wfL, SV.known, Nat.reduceEqDiff, ↓reduceIte, if_true, if_false, eq_self, Nat.reduceAdd, Nat.reduceLT, Nat.reduceLeDiff, implies_true, reduceCtorEq, forall_const]; done))
        all_goals (try (simp only [zk, LB, subS, subH, wfS, wfH, SV.ren, renL, SObj.ren, SV.wf, SObj.wf, wfL, SV.known, Nat.reduceEqDiff, ↓reduceIte, if_true, if_false, eq_self, Nat.reduceAdd, Nat.reduceLT, Nat.reduceLeDiff, implies_true, reduceCtorEq, forall_const]; simp; done))
        all_goals (try (simp only [zk, LB, subS, subH, wfS, wfH, SV.ren, renL, SObj.ren, SV.wf, SObj.wf, wfL, SV.known, Nat.reduceEqDiff, ↓reduceIte, if_true, if_false, eq_self, Nat.reduceAdd, Nat.reduceLT, Nat.reduceLeDiff, implies_true, reduceCtorEq, forall_const]; (and_intros <;> (first | omega | rfl | (simp; done) | (simp; omega))); done))
        all_goals (try dsimp only)
        all_goals (and_intros <;> try (first | omega | (unfold In64; omega) | trivial | assumption))
      · intro k hk
        have J := Ik k hk
        by_cases hkt : k < mm V i - 1
        · have hkl : (k : Int) < (mm V i : Int) - 1 := by omega
          have P := pkc_step J.w (J.left g hlt (by omega))
          have eS : mdK i si (k + 1) = pkS (i * 4 + k) (mdK i si k) := rfl
          simp -implicitDefEqProofs only [lk_normal, hil, hV, i6, gi, iw, hkl, ZB, Int.reduceToNat, Nat.reduceLT, Nat.reduceLeDiff, Int.reduceLE, Int.reduceLT, Nat.reduceEqDiff, Nat.reduceSub, SB, SV.known, packR, ne_eq, reduceCtorEq, Nat.reduceEqDiff, ↓reduceIte, if_true, if_false, eq_self, Nat.reduceAdd, Nat.reduceMul, Nat.reduceSub, forall_const, oneCellS, litOne, flat1, Kd.isSca, flat, TYB]
          (try (and_intros <;> try (first | omega | (unfold In64; omega) | trivial | assumption)))
          generalize mdK i si k = sk at *
          obtain ⟨L, rk, R⟩ := sk
          replace P : pkR L rk (pkc L rk) := P
          have W : vwI L rk := J.w
          have hL := W.len
          have hR : R.length = 24 := J.l
          have ab := arrF_bd W.b W.s
          have rk0 := W.r0
          have rk1 := W.r1
          unfold pkS at eS
          simp only at eS
          generalize hc : pkc L rk = c at *
          have c1 := P.c1
          have c5 := P.c5
          have wn := fun q => wC_nn W.len W.b W.s q
          have sn := fun (q : Nat) => sW_mono W.len W.b W.s (Nat.zero_le q)
          have sz : sW L 0 = 0 := rfl
          refine loop_intro (fun q : Nat => [(10, .int ((q : Int) + 1)), (9, .int k), (8, .int i), (7, .ptr 3 0), (5, .ptr 2 0), (4, .ptr 1 0), (2, .ptr 0 0), (1, .int (rk - sW L q))]) (fun q => [(3, .ints L 29), (2, .ints R 27), (1, .ints (List.replicate 24 0) 27), (0, .ints V 31)]) 4 (fun q => q < c) (fun q => 5 - q) ?_ ?_
          · refine ⟨0, ?_, Sub.mk_id ?_ ?_ ?_ ?_ ?_⟩
            all_goals (try (simp only [sz, Int.sub_zero, LB, subS, subH, wfS, wfH, SV.ren, renL, SObj.ren, SV.wf, SObj.wf, wfL, SV.known, Nat.reduceEqDiff, ↓reduceIte, if_true, if_false, eq_self, Nat.reduceAdd, Nat.reduceLT, Nat.reduceLeDiff, implies_true, reduceCtorEq, forall_const]; done))
            all_goals (try (simp only [sz, Int.sub_zero, LB, subS, subH, wfS, wfH, SV.ren, renL, SObj.ren, SV.wf, SObj.wf, wfL, SV.known, Nat.reduceEqDiff, ↓reduceIte, if_true, if_false, eq_self, Nat.reduceAdd, Nat.reduceLT, Nat.reduceLeDiff, implies_true, reduceCtorEq, forall_const]; simp; done))
            all_goals (try (simp only [sz, Int.sub_zero, LB, subS, subH, wfS, wfH, SV.ren, renL, SObj.ren, SV.wf, SObj.wf, wfL, SV.known, Nat.reduceEqDiff, ↓reduceIte, if_true, if_false, eq_self, Nat.reduceAdd, Nat.reduceLT, Nat.reduceLeDiff, implies_true, reduceCtorEq, forall_const]; (and_intros <;> (first | omega | rfl | (simp; done) | (simp; omega))); done))
            all_goals (try dsimp only)
            all_goals (and_intros <;> try (first | omega | (unfold In64; omega) | trivial | assumption))
          · intro q hq
            have qn : ((q : Int) + 1).toNat = q + 1 := by omega
            have q0 : 0 ≤ (q : Int) + 1 := by omega
            have q6 : (q : Int) + 1 < 6 := by omega
            have q6n : q + 1 < 6 := by omega
            have lo := P.lo q hq
            have sq := sn q
            have eW : sW L (q + 1) = sW L q + wC L (q + 1) := rfl
            have wq := wn (q + 1)
            have bq := W.b.getD (k := q + 1) (by omega)
            have i1 : In64 (rk - sW L q) := by unfold In64; omega
            by_cases hz : 0 < L.getD (q + 1) 0
            · have ew : wC L (q + 1) = arrF (L.set (q + 1) (L.getD (q + 1) 0 - 1)) := if_pos hz
              have lq : (L.set (q + 1) (L.getD (q + 1) 0 - 1)).length = 6 := by rw [List.length_set]; exact hL
              have zq : (L.set (q + 1) (L.getD (q + 1) 0 - 1)).getD 0 0 = 0 := by rw [getD_set_ne _ _ _ _ (by omega)]; exact W.z
              have bl : Bd 0 1000000 ((L.set (q + 1) (L.getD (q + 1) 0 - 1)).drop 1) := fun x hx => by have := bd_less W.b hz x (List.mem_of_mem_drop hx); omega
              have ed := arrF_drop lq zq
              have i2 : In64 (L.getD (q + 1) 0 - 1) := by unfold In64; omega
              have i3 : In64 (L.getD (q + 1) 0 - 1 + 1) := by unfold In64; omega
              have tkq : List.take 6 (L.set (q + 1) (L.getD (q + 1) 0 - 1)) = L.set (q + 1) (L.getD (q + 1) 0 - 1) := List.take_of_length_le (by omega)
              have g1 := getD_set_eq L (q + 1) (L.getD (q + 1) 0 - 1) (by omega)
              have g2 : (L.set (q + 1) (L.getD (q + 1) 0 - 1)).set (q + 1) (L.getD (q + 1) 0 - 1 + 1) = L := by
                rw [List.set_set, show L.getD (q + 1) 0 - 1 + 1 = L.getD (q + 1) 0 by omega]; exact set_getD_self _ _
              have p24 : i * 4 + k < 24 := by omega
              have ki : (k : Int) < 4 := by omega
              by_cases hqc : q + 1 = c
              · have hcr : rk - sW L q < arrF (L.set (q + 1) (L.getD (q + 1) 0 - 1)) := by
                  have := P.hi
                  rw [← hqc] at this
                  omega
                rw [← hqc] at eS
                have eS' : mdK i si (k + 1) = (L.set (q + 1) (L.getD (q + 1) 0 - 1), rk - sW L q, R.set (i * 4 + k) ((q : Int) + 1)) := by rw [eS]; simp [lessL]
                simp -implicitDefEqProofs only [lk_normal, l7Ways_F, qn, q0, q6, q6n, hL, hR, hz, bl, ed, i2, i3, tkq, g1, g2, hcr, p24, ki, hil, ZB, Int.reduceToNat, Nat.reduceLT, Nat.reduceLeDiff, Int.reduceLE, Int.reduceLT, Nat.reduceEqDiff, Nat.reduceSub, SB, SV.known, packR, ne_eq, reduceCtorEq, Nat.reduceEqDiff, ↓reduceIte, if_true, if_false, eq_self, Nat.reduceAdd, Nat.reduceMul, Nat.reduceSub, forall_const, oneCellS, litOne, flat1, Kd.isSca, flat, TYB]
                (try (and_intros <;> try (first | omega | (unfold In64; omega) | trivial | assumption)))
                refine ⟨k + 1, ?_, ?_, Sub.mk_id ?_ ?_ ?_ ?_ ?_⟩
                all_goals (try (simp only [eS', LB, subS, subH, wfS, wfH, SV.ren, renL, SObj.ren, SV.wf, SObj.wf, wfL, SV.known, Nat.reduceEqDiff, ↓reduceIte, if_true, if_false, eq_self, Nat.reduceAdd, Nat.reduceLT, Nat.reduceLeDiff, implies_true, reduceCtorEq, forall_const]; done))
                all_goals (try (simp only [eS', LB, subS, subH, wfS, wfH, SV.ren, renL, SObj.ren, SV.wf, SObj.wf, wfL, SV.known, Nat.reduceEqDiff, ↓reduceIte, if_true, if_false, eq_self, Nat.reduceAdd, Nat.reduceLT, Nat.reduceLeDiff, implies_true, reduceCtorEq, forall_const]; simp; done))
                all_goals (try (simp only [eS', LB, subS, subH, wfS, wfH, SV.ren, renL, SObj.ren, SV.wf, SObj.wf, wfL, SV.known, Nat.reduceEqDiff, ↓reduceIte, if_true, if_false, eq_self, Nat.reduceAdd, Nat.reduceLT, Nat.reduceLeDiff, implies_true, reduceCtorEq, forall_const]; (and_intros <;> (first | omega | rfl | (simp; done) | (simp; omega))); done))
                all_goals (try dsimp only)
                all_goals (and_intros <;> try (first | omega | (unfold In64; omega) | trivial | assumption))
              · have hge : sW L (q + 1) ≤ rk := P.lo (q + 1) (by omega)
                have hcr : ¬ rk - sW L q < arrF (L.set (q + 1) (L.getD (q + 1) 0 - 1)) := by omega
                have eS2 : rk - sW L (q + 1) = rk - sW L q - arrF (L.set (q + 1) (L.getD (q + 1) 0 - 1)) := by omega
                have i4 : In64 (rk - sW L q - arrF (L.set (q + 1) (L.getD (q + 1) 0 - 1))) := by unfold In64; omega
                simp -implicitDefEqProofs only [lk_normal, l7Ways_F, qn, q0, q6, q6n, hL, hz, bl, ed, i2, i3, i4, tkq, g1, g2, hcr, ZB, Int.reduceToNat, Nat.reduceLT, Nat.reduceLeDiff, Int.reduceLE, Int.reduceLT, Nat.reduceEqDiff, Nat.reduceSub, SB, SV.known, packR, ne_eq, reduceCtorEq, Nat.reduceEqDiff, ↓reduceIte, if_true, if_false, eq_self, Nat.reduceAdd, Nat.reduceMul, Nat.reduceSub, forall_const, oneCellS, litOne, flat1, Kd.isSca, flat, TYB]
                (try (and_intros <;> try (first | omega | (unfold In64; omega) | trivial | assumption)))
                refine ⟨q + 1, ?_, ?_, Sub.mk_id ?_ ?_ ?_ ?_ ?_⟩
                all_goals (try (simp only [eS2, LB, subS, subH, wfS, wfH, SV.ren, renL, SObj.ren, SV.wf, SObj.wf, wfL, SV.known, Nat.reduceEqDiff, ↓reduceIte, if_true, if_false, eq_self, Nat.reduceAdd, Nat.reduceLT, Nat.reduceLeDiff, implies_true, reduceCtorEq, forall_const]; done))
                all_goals (try (simp only [eS2, LB, subS, subH, wfS, wfH, SV.ren, renL, SObj.ren, SV.wf, SObj.wf, wfL, SV.known, Nat.reduceEqDiff, ↓reduceIte, if_true, if_false, eq_self, Nat.reduceAdd, Nat.reduceLT, Nat.reduceLeDiff, implies_true, reduceCtorEq, forall_const]; simp; done))
                all_goals (try (simp only [eS2, LB, subS, subH, wfS, wfH, SV.ren, renL, SObj.ren, SV.wf, SObj.wf, wfL, SV.known, Nat.reduceEqDiff, ↓reduceIte, if_true, if_false, eq_self, Nat.reduceAdd, Nat.reduceLT, Nat.reduceLeDiff, implies_true, reduceCtorEq, forall_const]; (and_intros <;> (first | omega | rfl | (simp; done) | (simp; omega))); done))
                all_goals (try dsimp only)
                all_goals (and_intros <;> try (first | omega | (unfold In64; omega) | trivial | assumption))
            · have hne : q + 1 ≠ c := fun h => by have := P.p; rw [← h] at this; omega
              have ez : wC L (q + 1) = 0 := if_neg hz
              have eS2 : sW L (q + 1) = sW L q := by omega
              have hge : sW L (q + 1) ≤ rk := P.lo (q + 1) (by omega)
              have hcr : ¬ rk - sW L q < 0 := by omega
              simp -implicitDefEqProofs only [lk_normal, qn, q0, q6, q6n, hL, hz, hcr, i1, Int.sub_zero, ZB, Int.reduceToNat, Nat.reduceLT, Nat.reduceLeDiff, Int.reduceLE, Int.reduceLT, Nat.reduceEqDiff, Nat.reduceSub, SB, SV.known, packR, ne_eq, reduceCtorEq, Nat.reduceEqDiff, ↓reduceIte, if_true, if_false, eq_self, Nat.reduceAdd, Nat.reduceMul, Nat.reduceSub, forall_const, oneCellS, litOne, flat1, Kd.isSca, flat, TYB]
              (try (and_intros <;> try (first | omega | (unfold In64; omega) | trivial | assumption)))
              refine ⟨q + 1, ?_, ?_, Sub.mk_id ?_ ?_ ?_ ?_ ?_⟩
              all_goals (try (simp only [eS2, LB, subS, subH, wfS, wfH, SV.ren, renL, SObj.ren, SV.wf, SObj.wf, wfL, SV.known, Nat.reduceEqDiff, ↓reduceIte, if_true, if_false, eq_self, Nat.reduceAdd, Nat.reduceLT, Nat.reduceLeDiff, implies_true, reduceCtorEq, forall_const]; done))
              all_goals (try (simp only [eS2, LB, subS, subH, wfS, wfH, SV.ren, renL, SObj.ren, SV.wf, SObj.wf, wfL, SV.known, Nat.reduceEqDiff, ↓reduceIte, if_true, if_false, eq_self, Nat.reduceAdd, Nat.reduceLT, Nat.reduceLeDiff, implies_true, reduceCtorEq, forall_const]; simp; done))
              all_goals (try (simp only [eS2, LB, subS, subH, wfS, wfH, SV.ren, renL, SObj.ren, SV.wf, SObj.wf, wfL, SV.known, Nat.reduceEqDiff, ↓reduceIte, if_true, if_false, eq_self, Nat.reduceAdd, Nat.reduceLT, Nat.reduceLeDiff, implies_true, reduceCtorEq, forall_const]; (and_intros <;> (first | omega | rfl | (simp; done) | (simp; omega))); done))
              all_goals (try dsimp only)
              all_goals (and_intros <;> try (first | omega | (unfold In64; omega) | trivial | assumption))
        · have hkl : ¬ (k : Int) < (mm V i : Int) - 1 := by omega
          by_cases hm0 : 0 < mm V i
          · obtain rfl : k = mm V i - 1 := by omega
            have ml : 0 < (mm V i : Int) := by omega
            have eT : mdT V s0 (i + 1) = ((mdK i si (mm V i - 1)).1, (mdK i si (mm V i - 1)).2.1, (mdK i si (mm V i - 1)).2.2.set (i * 4 + (mm V i - 1)) (V.getD i 0)) := by rw [eN, topS, if_pos hm0]
            have hR := J.l
            have n1 : ((mm V i : Int) - 1).toNat = mm V i - 1 := by omega
            have n2 : 0 ≤ (mm V i : Int) - 1 := by omega
            have n3 : (mm V i : Int) - 1 < 4 := by omega
            have p24 : i * 4 + (mm V i - 1) < 24 := by omega
            simp -implicitDefEqProofs only [lk_normal, hkl, ml, iw, n1, n2, n3, hil, hV, i6, gi, i18, hR, p24, ZB, Int.reduceToNat, Nat.reduceLT, Nat.reduceLeDiff, Int.reduceLE, Int.reduceLT, Nat.reduceEqDiff, Nat.reduceSub, SB, SV.known, packR, ne_eq, reduceCtorEq, Nat.reduceEqDiff, ↓reduceIte, if_true, if_false, eq_self, Nat.reduceAdd, Nat.reduceMul, Nat.reduceSub, forall_const, oneCellS, litOne, flat1, Kd.isSca, flat, TYB]
            (try (and_intros <;> try (first | omega | (unfold In64; omega) | trivial | assumption)))
            refine ⟨i + 1, ?_, ?_, Sub.mk_id ?_ ?_ ?_ ?_ ?_⟩
            all_goals (try (simp only [eT, LB, subS, subH, wfS, wfH, SV.ren, renL, SObj.ren, SV.wf, SObj.wf, wfL, SV.known, Nat.reduceEqDiff, ↓reduceIte, if_true, if_false, eq_self, Nat.reduceAdd, Nat.reduceLT, Nat.reduceLeDiff, implies_true, reduceCtorEq, forall_const]; done))
            all_goals (try (simp only [eT, LB, subS, subH, wfS, wfH, SV.ren, renL, SObj.ren, SV.wf, SObj.wf, wfL, SV.known, Nat.reduceEqDiff, ↓reduceIte, if_true, if_false, eq_self, Nat.reduceAdd, Nat.reduceLT, Nat.reduceLeDiff, implies_true, reduceCtorEq, forall_const]; simp; done))
            all_goals (try (simp only [eT, LB, subS, subH, wfS, wfH, SV.ren, renL, SObj.ren, SV.wf, SObj.wf, wfL, SV.known, Nat.reduceEqDiff, ↓reduceIte, if_true, if_false, eq_self, Nat.reduceAdd, Nat.reduceLT, Nat.reduceLeDiff, implies_true, reduceCtorEq, forall_const]; (and_intros <;> (first | omega | rfl | (simp; done) | (simp; omega))); done))
            all_goals (try dsimp only)
            all_goals (and_intros <;> try (first | omega | (unfold In64; omega) | trivial | assumption))
          · have ml : ¬ 0 < (mm V i : Int) := by omega
            have eT : mdT V s0 (i + 1) = mdK i si (mm V i - 1) := by rw [eN, topS, if_neg hm0]
            obtain rfl : k = mm V i - 1 := by omega
            simp -implicitDefEqProofs only [lk_normal, hkl, ml, iw, hil, hV, i6, gi, ZB, Int.reduceToNat, Nat.reduceLT, Nat.reduceLeDiff, Int.reduceLE, Int.reduceLT, Nat.reduceEqDiff, Nat.reduceSub, SB, SV.known, packR, ne_eq, reduceCtorEq, Nat.reduceEqDiff, ↓reduceIte, if_true, if_false, eq_self, Nat.reduceAdd, Nat.reduceMul, Nat.reduceSub, forall_const, oneCellS, litOne, flat1, Kd.isSca, flat, TYB]
            (try (and_intros <;> try (first | omega | (unfold In64; omega) | trivial | assumption)))
            refine ⟨i + 1, ?_, ?_, Sub.mk_id ?_ ?_ ?_ ?_ ?_⟩
            all_goals (try (simp only [eT, LB, subS, subH, wfS, wfH, SV.ren, renL, SObj.ren, SV.wf, SObj.wf, wfL, SV.known, Nat.reduceEqDiff, ↓reduceIte, if_true, if_false, eq_self, Nat.reduceAdd, Nat.reduceLT, Nat.reduceLeDiff, implies_true, reduceCtorEq, forall_const]; done))
            all_goals (try (simp only [eT, LB, subS, subH, wfS, wfH, SV.ren, renL, SObj.ren, SV.wf, SObj.wf, wfL, SV.known, Nat.reduceEqDiff, ↓reduceIte, if_true, if_false, eq_self, Nat.reduceAdd, Nat.reduceLT, Nat.reduceLeDiff, implies_true, reduceCtorEq, forall_const]; simp; done))
            all_goals (try (simp only [eT, LB, subS, subH, wfS, wfH, SV.ren, renL, SObj.ren, SV.wf, SObj.wf, wfL, SV.known, Nat.reduceEqDiff, ↓reduceIte, if_true, if_false, eq_self, Nat.reduceAdd, Nat.reduceLT, Nat.reduceLeDiff, implies_true, reduceCtorEq, forall_const]; (and_intros <;> (first | omega | rfl | (simp; done) | (simp; omega))); done))
            all_goals (try dsimp only)
            all_goals (and_intros <;> try (first | omega | (unfold In64; omega) | trivial | assumption))
    · have hil : ¬ (i : Int) < 6 := by omega
      obtain rfl : i = 6 := by omega
      have hl3 := (I0 6 (Nat.le_refl _)).l
      have tkR := List.take_of_length_le (Nat.le_of_eq hl3)
      simp -implicitDefEqProofs only [lk_normal, hil, hl3, tkR, ZB, Int.reduceToNat, Nat.reduceLT, Nat.reduceLeDiff, Int.reduceLE, Int.reduceLT, Nat.reduceEqDiff, Nat.reduceSub, SB, SV.known, packR, ne_eq, reduceCtorEq, Nat.reduceEqDiff, ↓reduceIte, if_true, if_false, eq_self, Nat.reduceAdd, Nat.reduceMul, Nat.reduceSub, forall_const, oneCellS, litOne, flat1, Kd.isSca, flat, TYB]
      (try (and_intros <;> try (first | omega | (unfold In64; omega) | trivial | assumption)))
end Go.Proofs.Ytckcojgfgcjamaa
set_option maxRecDepth 100000
set_option linter.unusedSimpArgs false
set_option linter.unusedVariables false
namespace Go.Proofs.Ytckcojgfgcjamaa
open Go Go.RowKit
def ctOK (all same : Int) (m : Nat) : Bool :=
  ((List.range 4).all fun r => decide (ltF all same m (r + 1) = fracF (toVal all same m (r + 1)) (chP all 0 (m - 1))) && decide (0 ≤ toVal all same m (r + 1)) && decide (toVal all same m (r + 1) ≤ 1000000)) &&
  decide (toVal all same m 1 + toVal all same m 2 + toVal all same m 3 + toVal all same m 4 = chP all 0 (m - 1)) && decide (0 < chP all 0 (m - 1)) && decide (chP all 0 (m - 1) ≤ 1000000)
def ctAll (all : Nat) : Bool := (List.range (all + 1)).all fun same => (List.range 4).all fun m => decide (all < m) || ctOK all same (m + 1)
theorem ct_all : (List.range 19).all ctAll = true := by decide +kernel
structure ctX (all same : Int) (m : Nat) : Prop where
  e : ∀ r, 1 ≤ r → r ≤ 4 → ltF all same m r = fracF (toVal all same m r) (chP all 0 (m - 1))
  t : ∀ r, 1 ≤ r → r ≤ 4 → 0 ≤ toVal all same m r ∧ toVal all same m r ≤ 1000000
  s : toVal all same m 1 + toVal all same m 2 + toVal all same m 3 + toVal all same m 4 = chP all 0 (m - 1)
  p : 0 < chP all 0 (m - 1) ∧ chP all 0 (m - 1) ≤ 1000000
theorem ctX_of {all same : Int} {m : Nat} (h1 : 0 ≤ all ∧ all ≤ 18) (h2 : 0 ≤ same ∧ same ≤ all) (h3 : 1 ≤ m) (h4 : m ≤ 4) (h5 : (m : Int) - 1 ≤ all) : ctX all same m := by
  obtain ⟨a, rfl⟩ := Int.eq_ofNat_of_zero_le h1.1
  obtain ⟨b, rfl⟩ := Int.eq_ofNat_of_zero_le h2.1
  have q := List.all_eq_true.1 ct_all a (List.mem_range.2 (by omega))
  have q := List.all_eq_true.1 q b (List.mem_range.2 (by omega))
  have q := List.all_eq_true.1 q (m - 1) (List.mem_range.2 (by omega))
  rw [Bool.or_eq_true] at q
  rcases q with q | q
  · exact absurd (of_decide_eq_true q) (by omega)
  · rw [show m - 1 + 1 = m by omega] at q
    simp only [ctOK, Bool.and_eq_true, List.all_eq_true, List.mem_range, decide_eq_true_eq] at q
    obtain ⟨⟨⟨q1, q2⟩, q3⟩, q4⟩ := q
    refine ⟨fun r h1 h2 => ?_, fun r h1 h2 => ?_, q2, q3, q4⟩
    · have := (q1 (r - 1) (by omega)).1.1
      rw [show r - 1 + 1 = r by omega] at this
      exact this
    · have := q1 (r - 1) (by omega)
      rw [show r - 1 + 1 = r by omega] at this
      exact ⟨this.1.2, this.2⟩
/-! Fractions that mean the same are the same. -/
theorem fracF_nat (x y : Nat) : fracF (x : Int) (y : Int) = [((x / Nat.gcd x y : Nat) : Int), ((y / Nat.gcd x y : Nat) : Int)] := by
  simp only [fracF, Int.toNat_natCast]; rfl
theorem fracF_scale {x y k : Nat} (hk : 0 < k) : fracF ((x * k : Nat) : Int) ((y * k : Nat) : Int) = fracF (x : Int) (y : Int) := by
  rw [fracF_nat, fracF_nat, Nat.gcd_mul_right, Nat.mul_div_mul_right _ _ hk, Nat.mul_div_mul_right _ _ hk]
theorem fracF_same {a b c d : Int} (ha : 0 ≤ a) (hb : 0 < b) (hc : 0 ≤ c) (hd : 0 < d) (h : a * d = c * b) : fracF a b = fracF c d := by
  obtain ⟨x, rfl⟩ := Int.eq_ofNat_of_zero_le ha
  obtain ⟨y, rfl⟩ := Int.eq_ofNat_of_zero_le (Int.le_of_lt hb)
  obtain ⟨z, rfl⟩ := Int.eq_ofNat_of_zero_le hc
  obtain ⟨w, rfl⟩ := Int.eq_ofNat_of_zero_le (Int.le_of_lt hd)
  have h' : x * w = z * y := by
    have : ((x * w : Nat) : Int) = ((z * y : Nat) : Int) := by rw [Int.natCast_mul, Int.natCast_mul]; exact h
    exact Int.ofNat_inj.1 this
  rw [← fracF_scale (x := x) (y := y) (k := w) (by omega), ← fracF_scale (x := z) (y := w) (k := y) (by omega), h', Nat.mul_comm y w]
theorem fracF_cross {a b : Int} (ha : 0 ≤ a) (hb : 0 < b) : (fracF a b).getD 0 0 * b = a * (fracF a b).getD 1 0 := by
  obtain ⟨x, rfl⟩ := Int.eq_ofNat_of_zero_le ha
  obtain ⟨y, rfl⟩ := Int.eq_ofNat_of_zero_le (Int.le_of_lt hb)
  rw [fracF_nat]
  show ((x / Nat.gcd x y : Nat) : Int) * (y : Int) = (x : Int) * ((y / Nat.gcd x y : Nat) : Int)
  rw [← Int.natCast_mul, ← Int.natCast_mul]
  congr 1
  obtain ⟨p, hp⟩ := Nat.gcd_dvd_left x y
  obtain ⟨q, hq⟩ := Nat.gcd_dvd_right x y
  have hg : 0 < Nat.gcd x y := Nat.gcd_pos_of_pos_right _ (by omega)
  generalize Nat.gcd x y = g at *
  subst hp hq
  rw [Nat.mul_div_cancel_left _ hg, Nat.mul_div_cancel_left _ hg]
  exact (show p * (g * q) = g * p * q by rw [Nat.mul_left_comm, Nat.mul_assoc])
/-- Sums of fractions over one number. -/
theorem plus_frac {p q n : Int} (hp : 0 ≤ p) (hq : 0 ≤ q) (hn : 0 < n) : plusF (fracF p n) (fracF q n) = fracF (p + q) n := by
  have a := fracF_pos hp hn
  have b := fracF_pos hq hn
  have c := fracF_cross hp hn
  have d := fracF_cross hq hn
  unfold plusF
  generalize (fracF p n).getD 0 0 = p0 at *
  generalize (fracF p n).getD 1 0 = p1 at *
  generalize (fracF q n).getD 0 0 = q0 at *
  generalize (fracF q n).getD 1 0 = q1 at *
  have m1 := Int.mul_nonneg a.1 (Int.le_of_lt b.2.2.1)
  have m2 := Int.mul_nonneg b.1 (Int.le_of_lt a.2.2.1)
  refine fracF_same (by omega) (Int.mul_pos a.2.2.1 b.2.2.1) (by omega) hn ?_
  have e1 : (p0 * q1 + q0 * p1) * n = (p0 * n) * q1 + (q0 * n) * p1 := by
    rw [Int.add_mul, Int.mul_right_comm p0 q1 n, Int.mul_right_comm q0 p1 n]
  rw [e1, c, d, Int.add_mul, Int.mul_assoc p, Int.mul_assoc q, Int.mul_comm q1 p1]
theorem frac_zero {n : Int} (hn : 0 < n) : fracF 0 n = [0, 1] := by
  obtain ⟨y, rfl⟩ := Int.eq_ofNat_of_zero_le (Int.le_of_lt hn)
  have := fracF_nat 0 y
  rw [Nat.gcd_zero_left, Nat.zero_div, Nat.div_self (by omega)] at this
  exact this
theorem frac_one {n : Int} (hn : 0 < n) : fracF n n = [1, 1] := by
  obtain ⟨y, rfl⟩ := Int.eq_ofNat_of_zero_le (Int.le_of_lt hn)
  have := fracF_nat y y
  rw [Nat.gcd_self, Nat.div_self (by omega)] at this
  exact this
end Go.Proofs.Ytckcojgfgcjamaa
