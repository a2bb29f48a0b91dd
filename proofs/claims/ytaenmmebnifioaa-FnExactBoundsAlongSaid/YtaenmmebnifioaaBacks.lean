/- Walks: PourBacks. -/
import Derived.Test.YtaenmmebnifioaaPath
set_option maxRecDepth 100000
set_option linter.unusedSimpArgs false
set_option linter.unusedVariables false
namespace Go.Proofs.Ytaenmmebnifioaa
open Go Go.RowKit
/-- The first number from i on, below i + f, at which p fails; else i + f. -/
def firstN (p : Nat → Bool) : Nat → Nat → Nat
  | 0, i => i
  | f + 1, i => if p i = true then firstN p f (i + 1) else i
theorem firstN_skip (p : Nat → Bool) (f : Nat) : ∀ d i, (∀ q, i ≤ q → q < i + d → p q = true) → firstN p (d + f) i = firstN p f (i + d)
  | 0, i, _ => by rw [Nat.zero_add, Nat.add_zero]
  | d + 1, i, h => by
    rw [show d + 1 + f = (d + f) + 1 by omega]
    show (if p i = true then firstN p (d + f) (i + 1) else i) = _
    rw [if_pos (h i (by omega) (by omega)), firstN_skip p f d (i + 1) fun q h1 h2 => h q (by omega) (by omega), show i + 1 + d = i + (d + 1) by omega]
theorem firstN_at {p : Nat → Bool} {len i : Nat} (hi : i < len) (h : ∀ q, q < i → p q = true) (hn : p i = false) : firstN p len 0 = i := by
  have := firstN_skip p (len - i) i 0 fun q _ h2 => h q (by omega)
  rw [show i + (len - i) = len by omega, Nat.zero_add] at this
  rw [this, show len - i = (len - i - 1) + 1 by omega]
  show (if p i = true then firstN p (len - i - 1) (i + 1) else i) = _
  rw [hn]; rfl
theorem firstN_end {p : Nat → Bool} {len : Nat} (h : ∀ q, q < len → p q = true) : firstN p len 0 = len := by
  have := firstN_skip p 0 len 0 fun q _ h2 => h q (by omega)
  rw [Nat.add_zero, Nat.zero_add] at this
  exact this
theorem firstN_le (p : Nat → Bool) : ∀ f i, firstN p f i ≤ i + f
  | 0, i => by simp [firstN]
  | f + 1, i => by
    unfold firstN
    split
    · have := firstN_le p f (i + 1); omega
    · omega
theorem firstN_congr {p q : Nat → Bool} : ∀ f i, (∀ k, i ≤ k → k < i + f → p k = q k) → firstN p f i = firstN q f i
  | 0, i, _ => rfl
  | f + 1, i, h => by
    show (if p i = true then firstN p f (i + 1) else i) = if q i = true then firstN q f (i + 1) else i
    rw [h i (by omega) (by omega), firstN_congr f (i + 1) fun k h1 h2 => h k (by omega) (by omega)]
def pbS (R L : List Int) : Nat → List Int
  | 0 => R
  | k + 1 => bkR (pbS R L k) (L.getD (k * 3) 0) (L.getD (k * 3 + 1) 0) (L.getD (k * 3 + 2) 0)
theorem pbS_zero (R L : List Int) : pbS R L 0 = R := rfl
theorem pbS_succ (R L : List Int) (k : Nat) : pbS R L (k + 1) = bkR (pbS R L k) (L.getD (k * 3) 0) (L.getD (k * 3 + 1) 0) (L.getD (k * 3 + 2) 0) := rfl
def pbO (R L : List Int) (k : Nat) : Bool := bkB (pbS R L k) (L.getD (k * 3) 0) (L.getD (k * 3 + 1) 0) (L.getD (k * 3 + 2) 0)
theorem bkB_rack {R : List Int} {i j m : Int} (hR : R.length = 24) (hr : rackB R = true) (h : bkB R i j m = true) : rackB (bkR R i j m) = true := by
  have h2 := bk_21 h
  simp only [bk2, Bool.and_eq_true] at h2
  exact bk_rack hR hr h2.1
theorem pbS_facts {R L : List Int} (hR : R.length = 24) (hr : rackB R = true) : ∀ k, (∀ i, i < k → pbO R L i = true) → (pbS R L k).length = 24 ∧ rackB (pbS R L k) = true
  | 0, _ => ⟨hR, hr⟩
  | k + 1, h => by
    have ih := pbS_facts hR hr k fun i hi => h i (by omega)
    exact ⟨bkR_len ih.1 _ _ _, bkB_rack ih.1 ih.2 (h k (by omega))⟩
def pbsN (R L : List Int) (len : Nat) : Nat := firstN (pbO R L) len 0
def pbsT (R L : List Int) (len : Nat) : List SV := if rackB R = true then [.arr (pbS R L (pbsN R L len)), .int (pbsN R L len), .bool true] else [.arr (List.replicate 24 0), .int 0, .bool false]
theorem bkT_pos {R : List Int} {i j m : Int} (h : bkB R i j m = true) : bkT R i j m = bkR R i j m := by unfold bkT; rw [if_pos h]
theorem take3_drop (L : List Int) (a : Nat) (h : a + 3 ≤ L.length) : List.take 3 (List.drop a L) = [L.getD a 0, L.getD (a + 1) 0, L.getD (a + 2) 0] := by
  apply List.ext_getElem
  · simp; omega
  · intro i h1 h2
    simp at h2
    rcases (show i = 0 ∨ i = 1 ∨ i = 2 by omega) with rfl | rfl | rfl <;> simp [List.getD, List.getElem?_eq_getElem (show a < L.length by omega), List.getElem?_eq_getElem (show a + 1 < L.length by omega), List.getElem?_eq_getElem (show a + 2 < L.length by omega)]
attribute [local irreducible] bkR bkB bk2 bkT
--@tbl PourBacks = impl.PourBacks
theorem PourBacks_ok (R L : List Int) (e len cap : Nat) (hR : R.length = 24) (hL : len * 3 ≤ L.length) (hl : len ≤ 1048576) : PureH Try.prog 51 [.arr R, .slice 0 0 len cap] [(0, .ints L e)] (.tup (pbsT R L len)) := by
  have tkR : R.take 24 = R := List.take_of_length_le (by omega)
  have r24 : List.take 24 (List.replicate 24 (0 : Int)) = List.replicate 24 0 := rfl
  unfold pbsT
  cases hr : rackB R
  · refine pure_of_vc (X := ⟨Try.prog, tys, [(67, IsRack_F), (105, back_F)], [], true, true, 1, [], []⟩) fn_51 ⟨tys_ok, (.cons IsRack_T (.cons back_T .nil)), .nil, mixed⟩ (n0 := 1) (Nat.le_of_ble_eq_true rfl) (by simp [wfL, SV.wf]) (wfH_spec (by simp [wfH, SObj.wf])) (Nat.le_refl _) (fun _ => by simp [SV.wf, wfL]) ?_
    simp -implicitDefEqProofs only [Try.f51, Option.getD_some, argS, IsRack_F, back_F, hR, tkR, hr, r24, ZB, Int.reduceToNat, Nat.reduceLT, Nat.reduceLeDiff, Int.reduceLE, Int.reduceLT, Nat.reduceEqDiff, Nat.reduceSub, SB, SV.known, packR, ne_eq, reduceCtorEq, Nat.reduceEqDiff, ↓reduceIte, if_true, if_false, eq_self, Nat.reduceAdd, Nat.reduceMul, Nat.reduceSub, forall_const, oneCellS, Kd.isSca, flat, TYB]
  · refine pure_of_vc (X := ⟨Try.prog, tys, [(67, IsRack_F), (105, back_F)], [], true, true, 1, [], []⟩) fn_51 ⟨tys_ok, (.cons IsRack_T (.cons back_T .nil)), .nil, mixed⟩ (n0 := 1) (Nat.le_of_ble_eq_true rfl) (by simp [wfL, SV.wf]) (wfH_spec (by simp [wfH, SObj.wf])) (Nat.le_refl _) (fun _ => by simp [SV.wf, wfL]) ?_
    simp -implicitDefEqProofs only [Try.f51, Option.getD_some, argS, IsRack_F, back_F, hR, tkR, hr, r24, ZB, Int.reduceToNat, Nat.reduceLT, Nat.reduceLeDiff, Int.reduceLE, Int.reduceLT, Nat.reduceEqDiff, Nat.reduceSub, SB, SV.known, packR, ne_eq, reduceCtorEq, Nat.reduceEqDiff, ↓reduceIte, if_true, if_false, eq_self, Nat.reduceAdd, Nat.reduceMul, Nat.reduceSub, forall_const, oneCellS, Kd.isSca, flat, TYB]
    refine loop_intro (fun i : Nat => [(17, .int i), (16, .int len), (15, .slice 0 0 len cap), (6, .bool false), (5, .int 0), (4, .ptr 2 0), (2, .ptr 1 0), (1, .slice 0 0 len cap)]) (fun i => [(2, .ints (List.replicate 24 0) 30), (1, .ints (pbS R L i) 30), (0, .ints L e)]) 3 (fun i => i ≤ len ∧ ∀ q, q < i → pbO R L q = true) (fun i => len - i) ?_ ?_
    · refine ⟨0, ?_, Sub.mk_id ?_ ?_ ?_ ?_ ?_⟩
      all_goals (try (simp only [pbS_zero, LB, subS, subH, wfS, wfH, SV.ren, renL, SObj.ren, SV.wf, SObj.wf, wfL, SV.known, Nat.reduceEqDiff, ↓reduceIte, if_true, if_false, eq_self, Nat.reduceAdd, Nat.reduceLT, Nat.reduceLeDiff, implies_true, reduceCtorEq, forall_const]; done))
      all_goals (try (simp only [pbS_zero, LB, subS, subH, wfS, wfH, SV.ren, renL, SObj.ren, SV.wf, SObj.wf, wfL, SV.known, Nat.reduceEqDiff, ↓reduceIte, if_true, if_false, eq_self, Nat.reduceAdd, Nat.reduceLT, Nat.reduceLeDiff, implies_true, reduceCtorEq, forall_const]; simp; done))
      all_goals (try (simp only [pbS_zero, LB, subS, subH, wfS, wfH, SV.ren, renL, SObj.ren, SV.wf, SObj.wf, wfL, SV.known, Nat.reduceEqDiff, ↓reduceIte, if_true, if_false, eq_self, Nat.reduceAdd, Nat.reduceLT, Nat.reduceLeDiff, implies_true, reduceCtorEq, forall_const]; (and_intros <;> (first | omega | rfl | (simp; done) | (simp; omega))); done))
      all_goals (try dsimp only)
      all_goals (and_intros <;> try (first | omega | (unfold In64; omega) | trivial | assumption))
    · rintro i ⟨hi, hall⟩
      obtain ⟨qR, qr⟩ := pbS_facts hR hr i hall
      have tkQ : (pbS R L i).take 24 = pbS R L i := List.take_of_length_le (by omega)
      have dQ : List.drop 24 (pbS R L i) = [] := List.drop_eq_nil_of_le (by omega)
      by_cases hlt : i < len
      · have hil : (i : Int) < len := by omega
        have eP : List.take 3 (List.drop (i * 3) L) = [L.getD (i * 3) 0, L.getD (i * 3 + 1) 0, L.getD (i * 3 + 2) 0] := take3_drop _ _ (by omega)
        have ec : pbO R L i = bkB (pbS R L i) (L.getD (i * 3) 0) (L.getD (i * 3 + 1) 0) (L.getD (i * 3 + 2) 0) := rfl
        have bl := bkR_len qR (L.getD (i * 3) 0) (L.getD (i * 3 + 1) 0) (L.getD (i * 3 + 2) 0)
        have bT := bkT_len qR (L.getD (i * 3) 0) (L.getD (i * 3 + 1) 0) (L.getD (i * 3 + 2) 0)
        have tkb : (bkR (pbS R L i) (L.getD (i * 3) 0) (L.getD (i * 3 + 1) 0) (L.getD (i * 3 + 2) 0)).take 24 = bkR (pbS R L i) (L.getD (i * 3) 0) (L.getD (i * 3 + 1) 0) (L.getD (i * 3 + 2) 0) := List.take_of_length_le (by omega)
        have tkt : (bkT (pbS R L i) (L.getD (i * 3) 0) (L.getD (i * 3 + 1) 0) (L.getD (i * 3 + 2) 0)).take 24 = bkT (pbS R L i) (L.getD (i * 3) 0) (L.getD (i * 3 + 1) 0) (L.getD (i * 3 + 2) 0) := List.take_of_length_le (by omega)
        cases hc : bkB (pbS R L i) (L.getD (i * 3) 0) (L.getD (i * 3 + 1) 0) (L.getD (i * 3 + 2) 0) with
        | false =>
          have hn : pbsN R L len = i := firstN_at hlt hall (by rw [ec, hc])
          cases h2 : bk2 (pbS R L i) (L.getD (i * 3) 0) (L.getD (i * 3 + 1) 0) (L.getD (i * 3 + 2) 0)
          all_goals simp -implicitDefEqProofs only [lk_normal, back_F, hil, eP, qR, qr, tkQ, dQ, hc, h2, hn, bl, bT, tkb, tkt, r24, List.getD_cons_zero, List.getD_cons_succ, ZB, Int.reduceToNat, Nat.reduceLT, Nat.reduceLeDiff, Int.reduceLE, Int.reduceLT, Nat.reduceEqDiff, Nat.reduceSub, SB, SV.known, packR, ne_eq, reduceCtorEq, Nat.reduceEqDiff, ↓reduceIte, if_true, if_false, eq_self, Nat.reduceAdd, Nat.reduceMul, Nat.reduceSub, forall_const, oneCellS, Kd.isSca, flat, TYB]
          all_goals exact ⟨by omega, by omega⟩
        | true =>
          have h2 := bk_21 hc
          have h3 := bkT_pos hc
          have hp : pbO R L i = true := by rw [ec, hc]
          simp -implicitDefEqProofs only [lk_normal, back_F, hil, eP, qR, qr, tkQ, dQ, hc, h2, h3, bl, tkb, List.getD_cons_zero, List.getD_cons_succ, ZB, Int.reduceToNat, Nat.reduceLT, Nat.reduceLeDiff, Int.reduceLE, Int.reduceLT, Nat.reduceEqDiff, Nat.reduceSub, SB, SV.known, packR, ne_eq, reduceCtorEq, Nat.reduceEqDiff, ↓reduceIte, if_true, if_false, eq_self, Nat.reduceAdd, Nat.reduceMul, Nat.reduceSub, forall_const, oneCellS, Kd.isSca, flat, TYB]
          (try (and_intros <;> try (first | omega | (unfold In64; omega) | trivial | assumption)))
          refine ⟨i + 1, ?_, ?_, Sub.mk_id ?_ ?_ ?_ ?_ ?_⟩
          all_goals (try (simp only [pbS_succ, LB, subS, subH, wfS, wfH, SV.ren, renL, SObj.ren, SV.wf, SObj.wf, wfL, SV.known, Nat.reduceEqDiff, ↓reduceIte, if_true, if_false, eq_self, Nat.reduceAdd, Nat.reduceLT, Nat.reduceLeDiff, implies_true, reduceCtorEq, forall_const]; done))
          all_goals (try (simp only [pbS_succ, LB, subS, subH, wfS, wfH, SV.ren, renL, SObj.ren, SV.wf, SObj.wf, wfL, SV.known, Nat.reduceEqDiff, ↓reduceIte, if_true, if_false, eq_self, Nat.reduceAdd, Nat.reduceLT, Nat.reduceLeDiff, implies_true, reduceCtorEq, forall_const]; simp; done))
          all_goals (try (simp only [pbS_succ, LB, subS, subH, wfS, wfH, SV.ren, renL, SObj.ren, SV.wf, SObj.wf, wfL, SV.known, Nat.reduceEqDiff, ↓reduceIte, if_true, if_false, eq_self, Nat.reduceAdd, Nat.reduceLT, Nat.reduceLeDiff, implies_true, reduceCtorEq, forall_const]; (and_intros <;> (first | omega | rfl | (simp; done) | (simp; omega))); done))
          all_goals (try dsimp only)
          all_goals (and_intros <;> try (first | omega | (unfold In64; omega) | trivial | assumption))
          all_goals (intro q hq; by_cases hqi : q = i)
          · subst hqi; exact hp
          · exact hall q (by omega)
      · have hil : ¬ (i : Int) < len := by omega
        obtain rfl : i = len := by omega
        have hn : pbsN R L i = i := firstN_end hall
        simp -implicitDefEqProofs only [lk_normal, hil, hn, qR, tkQ, ZB, Int.reduceToNat, Nat.reduceLT, Nat.reduceLeDiff, Int.reduceLE, Int.reduceLT, Nat.reduceEqDiff, Nat.reduceSub, SB, SV.known, packR, ne_eq, reduceCtorEq, Nat.reduceEqDiff, ↓reduceIte, if_true, if_false, eq_self, Nat.reduceAdd, Nat.reduceMul, Nat.reduceSub, forall_const, oneCellS, Kd.isSca, flat, TYB]
--@tbl sPourBacks = spec.PourBacks
theorem sPourBacks_ok (R L : List Int) (e len cap : Nat) (hR : R.length = 24) (hL : len * 3 ≤ L.length) (hl : len ≤ 1048576) : PureH Try.prog 49 [.arr R, .slice 0 0 len cap] [(0, .ints L e)] (.tup (pbsT R L len)) := by
  have tkR : R.take 24 = R := List.take_of_length_le (by omega)
  have r24 : List.take 24 (List.replicate 24 (0 : Int)) = List.replicate 24 0 := rfl
  unfold pbsT
  cases hr : rackB R
  · refine pure_of_vc (X := ⟨Try.prog, tys, [(64, l2Rack_F), (103, l5Back_F)], [], true, true, 1, [], []⟩) fn_49 ⟨tys_ok, (.cons l2Rack_T (.cons l5Back_T .nil)), .nil, mixed⟩ (n0 := 1) (Nat.le_of_ble_eq_true rfl) (by simp [wfL, SV.wf]) (wfH_spec (by simp [wfH, SObj.wf])) (Nat.le_refl _) (fun _ => by simp [SV.wf, wfL]) ?_
    simp -implicitDefEqProofs only [Try.f49, Option.getD_some, argS, l2Rack_F, l5Back_F, hR, tkR, hr, r24, ZB, Int.reduceToNat, Nat.reduceLT, Nat.reduceLeDiff, Int.reduceLE, Int.reduceLT, Nat.reduceEqDiff, Nat.reduceSub, SB, SV.known, packR, ne_eq, reduceCtorEq, Nat.reduceEqDiff, ↓reduceIte, if_true, if_false, eq_self, Nat.reduceAdd, Nat.reduceMul, Nat.reduceSub, forall_const, oneCellS, Kd.isSca, flat, TYB]
  · refine pure_of_vc (X := ⟨Try.prog, tys, [(64, l2Rack_F), (103, l5Back_F)], [], true, true, 1, [], []⟩) fn_49 ⟨tys_ok, (.cons l2Rack_T (.cons l5Back_T .nil)), .nil, mixed⟩ (n0 := 1) (Nat.le_of_ble_eq_true rfl) (by simp [wfL, SV.wf]) (wfH_spec (by simp [wfH, SObj.wf])) (Nat.le_refl _) (fun _ => by simp [SV.wf, wfL]) ?_
    simp -implicitDefEqProofs only [Try.f49, Option.getD_some, argS, l2Rack_F, l5Back_F, hR, tkR, hr, r24, ZB, Int.reduceToNat, Nat.reduceLT, Nat.reduceLeDiff, Int.reduceLE, Int.reduceLT, Nat.reduceEqDiff, Nat.reduceSub, SB, SV.known, packR, ne_eq, reduceCtorEq, Nat.reduceEqDiff, ↓reduceIte, if_true, if_false, eq_self, Nat.reduceAdd, Nat.reduceMul, Nat.reduceSub, forall_const, oneCellS, Kd.isSca, flat, TYB]
    refine loop_intro (fun i : Nat => [(7, .int i), (6, .bool false), (5, .int 0), (4, .ptr 2 0), (2, .ptr 1 0), (1, .slice 0 0 len cap)]) (fun i => [(2, .ints (List.replicate 24 0) 30), (1, .ints (pbS R L i) 30), (0, .ints L e)]) 3 (fun i => i ≤ len ∧ ∀ q, q < i → pbO R L q = true) (fun i => len - i) ?_ ?_
    · refine ⟨0, ?_, Sub.mk_id ?_ ?_ ?_ ?_ ?_⟩
      all_goals (try (simp only [pbS_zero, LB, subS, subH, wfS, wfH, SV.ren, renL, SObj.ren, SV.wf, SObj.wf, wfL, SV.known, Nat.reduceEqDiff, ↓reduceIte, if_true, if_false, eq_self, Nat.reduceAdd, Nat.reduceLT, Nat.reduceLeDiff, implies_true, reduceCtorEq, forall_const]; done))
      all_goals (try (simp only [pbS_zero, LB, subS, subH, wfS, wfH, SV.ren, renL, SObj.ren, SV.wf, SObj.wf, wfL, SV.known, Nat.reduceEqDiff, ↓reduceIte, if_true, if_false, eq_self, Nat.reduceAdd, Nat.reduceLT, Nat.reduceLeDiff, implies_true, reduceCtorEq, forall_const]; simp; done))
      all_goals (try (simp only [pbS_zero, LB, subS, subH, wfS, wfH, SV.ren, renL, SObj.ren, SV.wf, SObj.wf, wfL, SV.known, Nat.reduceEqDiff, ↓reduceIte, if_true, if_false, eq_self, Nat.reduceAdd, Nat.reduceLT, Nat.reduceLeDiff, implies_true, reduceCtorEq, forall_const]; (and_intros <;> (first | omega | rfl | (simp; done) | (simp; omega))); done))
      all_goals (try dsimp only)
      all_goals (and_intros <;> try (first | omega | (unfold In64; omega) | trivial | assumption))
    · rintro i ⟨hi, hall⟩
      obtain ⟨qR, qr⟩ := pbS_facts hR hr i hall
      have tkQ : (pbS R L i).take 24 = pbS R L i := List.take_of_length_le (by omega)
      have dQ : List.drop 24 (pbS R L i) = [] := List.drop_eq_nil_of_le (by omega)
      by_cases hlt : i < len
      · have hil : (i : Int) < len := by omega
        have eP : List.take 3 (List.drop (i * 3) L) = [L.getD (i * 3) 0, L.getD (i * 3 + 1) 0, L.getD (i * 3 + 2) 0] := take3_drop _ _ (by omega)
        have ec : pbO R L i = bkB (pbS R L i) (L.getD (i * 3) 0) (L.getD (i * 3 + 1) 0) (L.getD (i * 3 + 2) 0) := rfl
        have bl := bkR_len qR (L.getD (i * 3) 0) (L.getD (i * 3 + 1) 0) (L.getD (i * 3 + 2) 0)
        have bT := bkT_len qR (L.getD (i * 3) 0) (L.getD (i * 3 + 1) 0) (L.getD (i * 3 + 2) 0)
        have tkb : (bkR (pbS R L i) (L.getD (i * 3) 0) (L.getD (i * 3 + 1) 0) (L.getD (i * 3 + 2) 0)).take 24 = bkR (pbS R L i) (L.getD (i * 3) 0) (L.getD (i * 3 + 1) 0) (L.getD (i * 3 + 2) 0) := List.take_of_length_le (by omega)
        have tkt : (bkT (pbS R L i) (L.getD (i * 3) 0) (L.getD (i * 3 + 1) 0) (L.getD (i * 3 + 2) 0)).take 24 = bkT (pbS R L i) (L.getD (i * 3) 0) (L.getD (i * 3 + 1) 0) (L.getD (i * 3 + 2) 0) := List.take_of_length_le (by omega)
        cases hc : bkB (pbS R L i) (L.getD (i * 3) 0) (L.getD (i * 3 + 1) 0) (L.getD (i * 3 + 2) 0) with
        | false =>
          have hn : pbsN R L len = i := firstN_at hlt hall (by rw [ec, hc])
          cases h2 : bk2 (pbS R L i) (L.getD (i * 3) 0) (L.getD (i * 3 + 1) 0) (L.getD (i * 3 + 2) 0)
          all_goals simp -implicitDefEqProofs only [lk_normal, l5Back_F, hil, eP, qR, qr, tkQ, dQ, hc, h2, hn, bl, bT, tkb, tkt, r24, List.getD_cons_zero, List.getD_cons_succ, ZB, Int.reduceToNat, Nat.reduceLT, Nat.reduceLeDiff, Int.reduceLE, Int.reduceLT, Nat.reduceEqDiff, Nat.reduceSub, SB, SV.known, packR, ne_eq, reduceCtorEq, Nat.reduceEqDiff, ↓reduceIte, if_true, if_false, eq_self, Nat.reduceAdd, Nat.reduceMul, Nat.reduceSub, forall_const, oneCellS, Kd.isSca, flat, TYB]
          all_goals exact ⟨by omega, by omega⟩
        | true =>
          have h2 := bk_21 hc
          have h3 := bkT_pos hc
          have hp : pbO R L i = true := by rw [ec, hc]
          simp -implicitDefEqProofs only [lk_normal, l5Back_F, hil, eP, qR, qr, tkQ, dQ, hc, h2, h3, bl, tkb, List.getD_cons_zero, List.getD_cons_succ, ZB, Int.reduceToNat, Nat.reduceLT, Nat.reduceLeDiff, Int.reduceLE, Int.reduceLT, Nat.reduceEqDiff, Nat.reduceSub, SB, SV.known, packR, ne_eq, reduceCtorEq, Nat.reduceEqDiff, ↓reduceIte, if_true, if_false, eq_self, Nat.reduceAdd, Nat.reduceMul, Nat.reduceSub, forall_const, oneCellS, Kd.isSca, flat, TYB]
          (try (and_intros <;> try (first | omega | (unfold In64; omega) | trivial | assumption)))
          refine ⟨i + 1, ?_, ?_, Sub.mk_id ?_ ?_ ?_ ?_ ?_⟩
          all_goals (try (simp only [pbS_succ, LB, subS, subH, wfS, wfH, SV.ren, renL, SObj.ren, SV.wf, SObj.wf, wfL, SV.known, Nat.reduceEqDiff, ↓reduceIte, if_true, if_false, eq_self, Nat.reduceAdd, Nat.reduceLT, Nat.reduceLeDiff, implies_true, reduceCtorEq, forall_const]; done))
          all_goals (try (simp only [pbS_succ, LB, subS, subH, wfS, wfH, SV.ren, renL, SObj.ren, SV.wf, SObj.wf, wfL, SV.known, Nat.reduceEqDiff, ↓reduceIte, if_true, if_false, eq_self, Nat.reduceAdd, Nat.reduceLT, Nat.reduceLeDiff, implies_true, reduceCtorEq, forall_const]; simp; done))
          all_goals (try (simp only [pbS_succ, LB, subS, subH, wfS, wfH, SV.ren, renL, SObj.ren, SV.wf, SObj.wf, wfL, SV.known, Nat.reduceEqDiff, ↓reduceIte, if_true, if_false, eq_self, Nat.reduceAdd, Nat.reduceLT, Nat.reduceLeDiff, implies_true, reduceCtorEq, forall_const]; (and_intros <;> (first | omega | rfl | (simp; done) | (simp; omega))); done))
          all_goals (try dsimp only)
          all_goals (and_intros <;> try (first | omega | (unfold In64; omega) | trivial | assumption))
          all_goals (intro q hq; by_cases hqi : q = i)
          · subst hqi; exact hp
          · exact hall q (by omega)
      · have hil : ¬ (i : Int) < len := by omega
        obtain rfl : i = len := by omega
        have hn : pbsN R L i = i := firstN_end hall
        simp -implicitDefEqProofs only [lk_normal, hil, hn, qR, tkQ, ZB, Int.reduceToNat, Nat.reduceLT, Nat.reduceLeDiff, Int.reduceLE, Int.reduceLT, Nat.reduceEqDiff, Nat.reduceSub, SB, SV.known, packR, ne_eq, reduceCtorEq, Nat.reduceEqDiff, ↓reduceIte, if_true, if_false, eq_self, Nat.reduceAdd, Nat.reduceMul, Nat.reduceSub, forall_const, oneCellS, Kd.isSca, flat, TYB]
theorem pbS_app (R L J : List Int) : ∀ k, k * 3 ≤ L.length → pbS R (L ++ J) k = pbS R L k
  | 0, _ => rfl
  | k + 1, h => by rw [pbS_succ, pbS_succ, pbS_app R L J k (by omega), getD_app _ _ _ (by omega), getD_app _ _ _ (by omega), getD_app _ _ _ (by omega)]
theorem pbsT_app (R L J : List Int) (len : Nat) (h : len * 3 ≤ L.length) : pbsT R (L ++ J) len = pbsT R L len := by
  have hn : pbsN R (L ++ J) len = pbsN R L len := firstN_congr len 0 fun k _ hk => by
    unfold pbO
    rw [pbS_app R L J k (by omega), getD_app _ _ _ (by omega), getD_app _ _ _ (by omega), getD_app _ _ _ (by omega)]
  have hle : pbsN R L len ≤ 0 + len := firstN_le _ _ _
  unfold pbsT
  rw [hn, pbS_app R L J _ (by omega)]
def PourBacks_F : List SV → Heap → Option (Prop × SV)
  | [.arr R, .slice b 0 len _], H => match hget H b with
    | some (.ints L _) => some (R.length = 24 ∧ len * 3 ≤ L.length ∧ len ≤ 1048576, .tup (pbsT R (L.take (len * 3)) len))
    | _ => none
  | _, _ => none
theorem PourBacks_T : ∀ args H p v, PourBacks_F args H = some (p, v) → p → PureH Try.prog 51 args H v := by
  intro args H p v h hp
  unfold PourBacks_F at h
  split at h
  · split at h
    · rename_i L e hb
      cases h
      rw [← pbsT_app _ (L.take _) (L.drop _) _ (by rw [List.length_take]; omega), List.take_append_drop]
      exact one_block (PourBacks_ok _ L e _ _ hp.1 hp.2.1 hp.2.2) hb rfl (fun _ => by unfold pbsT; split <;> simp [SV.wf, wfL])
    · cases h
  · cases h
def sPourBacks_F : List SV → Heap → Option (Prop × SV)
  | [.arr R, .slice b 0 len _], H => match hget H b with
    | some (.ints L _) => some (R.length = 24 ∧ len * 3 ≤ L.length ∧ len ≤ 1048576, .tup (pbsT R (L.take (len * 3)) len))
    | _ => none
  | _, _ => none
theorem sPourBacks_T : ∀ args H p v, sPourBacks_F args H = some (p, v) → p → PureH Try.prog 49 args H v := by
  intro args H p v h hp
  unfold sPourBacks_F at h
  split at h
  · split at h
    · rename_i L e hb
      cases h
      rw [← pbsT_app _ (L.take _) (L.drop _) _ (by rw [List.length_take]; omega), List.take_append_drop]
      exact one_block (sPourBacks_ok _ L e _ _ hp.1 hp.2.1 hp.2.2) hb rfl (fun _ => by unfold pbsT; split <;> simp [SV.wf, wfL])
    · cases h
  · cases h
theorem pbsT_three (R L : List Int) (len : Nat) (hR : R.length = 24) : ∃ T n b, pbsT R L len = [.arr T, .int n, .bool b] ∧ T.length = 24 := by
  unfold pbsT
  split
  · rename_i hr
    refine ⟨_, _, _, rfl, ?_⟩
    have : ∀ k, (pbS R L k).length = 24 := fun k => by
      induction k with
      | zero => exact hR
      | succ k ih => exact bkR_len ih _ _ _
    exact this _
  · exact ⟨_, _, _, rfl, by simp⟩
theorem lawPourBacks (R L : List Int) (off len cap : Nat) (hR : R.length = 24) (_ : ∀ x ∈ R, In64 x) (hle : len ≤ cap) (hcm : cap ≤ maxLen) (hL : L.length = len * 3) (_ : ∀ x ∈ L, In64 x) : PureH Try.prog 13 [.arr R, .slice 0 off len cap] [(0, .win off L)] (.bool true) := by
  have tkR : R.take 24 = R := List.take_of_length_le (by omega)
  have hb : len ≤ 9223372036854775807 := by unfold maxLen at hcm; omega
  have tkL : ∀ J, (L ++ J).take (len * 3) = L := fun J => List.take_left' hL
  by_cases hbig : 1048576 - (len : Int) < 0
  · refine pure_of_vc (X := ⟨Try.prog, tys, [(48, szSo_F), (16, toRack_F), (51, PourBacks_F), (49, sPourBacks_F), (35, eqS3_F), (26, eqRack_F)], [(50, toSoS_F)], true, true, 1, [50], []⟩) (show FnOK Try.prog 13 Try.f13 (Try.f13.body.getD .skip) [50] [] from ⟨Try.func13, rfl, by kernel_rfl, by kernel_rfl⟩) ⟨tys_ok, (.cons szSo_T (.cons toRack_T (.cons PourBacks_T (.cons sPourBacks_T (.cons eqS3_T (.cons eqRack_T .nil)))))), (.cons toSoS_T .nil), mixed⟩ (n0 := 1) (Nat.le_of_ble_eq_true rfl) (by simp [wfL, SV.wf]) (wfH_spec (by simp [wfH, SObj.wf])) (Nat.le_refl _) (fun _ => by simp [SV.wf, wfL]) ?_
    simp -implicitDefEqProofs only [Try.f13, Option.getD_some, argS, szSo_F, toRack_F, PourBacks_F, sPourBacks_F, eqS3_F, eqRack_F, toSoS_F, hR, tkR, hbig, hb, freshK, Wrap.ap, ZB, Int.reduceToNat, Nat.reduceLT, Nat.reduceLeDiff, Int.reduceLE, Int.reduceLT, Nat.reduceEqDiff, Nat.reduceSub, SB, SV.known, packR, ne_eq, reduceCtorEq, Nat.reduceEqDiff, ↓reduceIte, if_true, if_false, eq_self, Nat.reduceAdd, Nat.reduceMul, Nat.reduceSub, forall_const, oneCellS, Kd.isSca, flat, TYB]
  · have hl : len ≤ 1048576 := by omega
    have ln : ∀ J : List Int, len * 3 ≤ (L ++ J).length := fun J => by rw [List.length_append]; omega
    obtain ⟨T, n, b, hT, hTl⟩ := pbsT_three R L len hR
    have tkT : T.take 24 = T := List.take_of_length_le (by omega)
    refine pure_of_vc (X := ⟨Try.prog, tys, [(48, szSo_F), (16, toRack_F), (51, PourBacks_F), (49, sPourBacks_F), (35, eqS3_F), (26, eqRack_F)], [(50, toSoS_F)], true, true, 1, [50], []⟩) (show FnOK Try.prog 13 Try.f13 (Try.f13.body.getD .skip) [50] [] from ⟨Try.func13, rfl, by kernel_rfl, by kernel_rfl⟩) ⟨tys_ok, (.cons szSo_T (.cons toRack_T (.cons PourBacks_T (.cons sPourBacks_T (.cons eqS3_T (.cons eqRack_T .nil)))))), (.cons toSoS_T .nil), mixed⟩ (n0 := 1) (Nat.le_of_ble_eq_true rfl) (by simp [wfL, SV.wf]) (wfH_spec (by simp [wfH, SObj.wf])) (Nat.le_refl _) (fun _ => by simp [SV.wf, wfL]) ?_
    simp -implicitDefEqProofs only [Try.f13, Option.getD_some, argS, szSo_F, toRack_F, PourBacks_F, sPourBacks_F, eqS3_F, eqRack_F, toSoS_F, hR, tkR, hbig, hb, hl, hL, tkL, hT, hTl, tkT, freshK, Wrap.ap, ZB, Int.reduceToNat, Nat.reduceLT, Nat.reduceLeDiff, Int.reduceLE, Int.reduceLT, Nat.reduceEqDiff, Nat.reduceSub, SB, SV.known, packR, ne_eq, reduceCtorEq, Nat.reduceEqDiff, ↓reduceIte, if_true, if_false, eq_self, Nat.reduceAdd, Nat.reduceMul, Nat.reduceSub, forall_const, oneCellS, Kd.isSca, flat, TYB]
    exact fun _ _ _ => ⟨ln _, fun _ _ _ => ⟨ln _, fun _ _ _ => ⟨ln _, ln _, by omega⟩⟩⟩
theorem lawPourBacksN (R : List Int) (hR : R.length = 24) (_ : ∀ x ∈ R, In64 x) : PureH Try.prog 13 [.arr R, .nils] [] (.bool true) := by
  have tkR : R.take 24 = R := List.take_of_length_le (by omega)
  obtain ⟨T, n, b, hT, hTl⟩ := pbsT_three R [] 0 hR
  have tkT : T.take 24 = T := List.take_of_length_le (by omega)
  refine pure_of_vc (X := ⟨Try.prog, tys, [(48, szSo_F), (16, toRack_F), (51, PourBacks_F), (49, sPourBacks_F), (35, eqS3_F), (26, eqRack_F)], [(50, toSoS_F)], true, true, 0, [50], []⟩) (show FnOK Try.prog 13 Try.f13 (Try.f13.body.getD .skip) [50] [] from ⟨Try.func13, rfl, by kernel_rfl, by kernel_rfl⟩) ⟨tys_ok, (.cons szSo_T (.cons toRack_T (.cons PourBacks_T (.cons sPourBacks_T (.cons eqS3_T (.cons eqRack_T .nil)))))), (.cons toSoS_T .nil), mixed⟩ (n0 := 0) (Nat.le_of_ble_eq_true rfl) (by simp [wfL, SV.wf]) (wfH_spec (by simp [wfH, SObj.wf])) (Nat.le_refl _) (fun _ => by simp [SV.wf, wfL]) ?_
  simp -implicitDefEqProofs only [Try.f13, Option.getD_some, argS, szSo_F, toRack_F, PourBacks_F, sPourBacks_F, eqS3_F, eqRack_F, toSoS_F, hR, tkR, hT, hTl, tkT, freshK, Wrap.ap, ZB, Int.reduceToNat, Nat.reduceLT, Nat.reduceLeDiff, Int.reduceLE, Int.reduceLT, Nat.reduceEqDiff, Nat.reduceSub, SB, SV.known, packR, ne_eq, reduceCtorEq, Nat.reduceEqDiff, ↓reduceIte, if_true, if_false, eq_self, Nat.reduceAdd, Nat.reduceMul, Nat.reduceSub, forall_const, oneCellS, Kd.isSca, flat, TYB]
  exact fun _ _ _ _ _ _ _ _ _ => trivial
end Go.Proofs.Ytaenmmebnifioaa
