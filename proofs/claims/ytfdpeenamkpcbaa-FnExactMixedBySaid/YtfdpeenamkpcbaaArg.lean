/- Walks: what the laws do with arguments that are slices. -/
import Derived.Test.YtfdpeenamkpcbaaSl3
import Derived.Test.YtfdpeenamkpcbaaK
set_option maxRecDepth 100000
set_option linter.unusedSimpArgs false
set_option linter.unusedVariables false
namespace Go.Proofs.Ytfdpeenamkpcbaa
open Go Go.RowKit
--@tbl toIntA2 = laws.toIntA2
theorem toIntA2_ok (L : List Int) (hL : L.length = 2) : PureH Try.prog 46 [.arr L] [] (.arr L) := by
  refine pure_of_vc (X := ⟨Try.prog, tys, [], [], true, true, 0, [], []⟩) fn_46 ⟨tys_ok, .nil, .nil, mixed⟩ (n0 := 0) (Nat.le_of_ble_eq_true rfl) (by simp [wfL, SV.wf]) (wfH_spec (by simp [wfH, SObj.wf])) (Nat.le_refl _) (fun _ => by simp [SV.wf, wfL]) ?_
  simp -implicitDefEqProofs only [Try.f46, Option.getD_some, argS, SB, SV.known, packR, ne_eq, reduceCtorEq, Nat.reduceEqDiff, ↓reduceIte, if_true, if_false, eq_self, Nat.reduceAdd, Nat.reduceMul, Nat.reduceSub, forall_const, oneCellS, Kd.isSca, flat, TYB]
  refine loop_intro (fun i : Nat => [(1, .ptr 0 0), (2, .ptr 1 0), (3, .ptr 2 0), (4, .int i)]) (fun i => [(0, .ints L 50), (1, .ints (List.replicate 2 0) 50), (2, .ints (L.take i ++ List.replicate (2 - i) 0) 50)]) 3 (fun i => i ≤ 2) (fun i => 2 - i) ?_ ?_
  · refine ⟨0, by omega, Sub.mk_id ?_ ?_ ?_ ?_ ?_⟩
    all_goals simp only [LB, subS, subH, wfS, wfH, SV.ren, renL, SObj.ren, SV.wf, SObj.wf, wfL, SV.known, Nat.reduceEqDiff, ↓reduceIte, if_true, if_false, eq_self, Nat.reduceAdd, Nat.reduceLT, Nat.reduceLeDiff, implies_true, reduceCtorEq, forall_const]
    all_goals simp
  · intro i hi
    simp -implicitDefEqProofs only [lk_normal, SB, SV.known, packR, ne_eq, reduceCtorEq, Nat.reduceEqDiff, ↓reduceIte, if_true, if_false, eq_self, Nat.reduceAdd, Nat.reduceMul, Nat.reduceSub, forall_const, oneCellS, Kd.isSca, flat, TYB]
    have e1 : (List.take i L ++ List.replicate (2 - i) 0).length = 2 := by simp; omega
    simp only [Int.toNat_natCast, Nat.mul_one, e1, hL]
    refine ⟨fun h => ?_, fun h => ?_⟩
    · have hlt : i < 2 := by omega
      refine ⟨by omega, by omega, by omega, by omega, by omega, by omega, by unfold In64; omega, i + 1, by omega, by omega, Sub.mk_id ?_ ?_ ?_ ?_ ?_⟩
      all_goals simp only [LB, subS, subH, wfS, wfH, SV.ren, renL, SObj.ren, SV.wf, SObj.wf, wfL, SV.known, Nat.reduceEqDiff, ↓reduceIte, if_true, if_false, eq_self, Nat.reduceAdd, Nat.reduceLT, Nat.reduceLeDiff, implies_true, reduceCtorEq, forall_const]
      exact fill_step L i 2 hlt hL
    · obtain rfl : i = 2 := by omega
      simp [hL, List.take_of_length_le]
def toIntA2_F : List SV → Heap → Option (Prop × SV)
  | [.arr L], _ => some (L.length = 2, .arr L)
  | _, _ => none
theorem toIntA2_T : ∀ args H p v, toIntA2_F args H = some (p, v) → p → PureH Try.prog 46 args H v := by
  intro args H p v h hp
  unfold toIntA2_F at h
  split at h
  · cases h; exact (toIntA2_ok _ hp).any _
  · cases h
/-- A filled row: one value more. -/
theorem fill_row (L : List Int) (k w r : Nat) (h : k + w ≤ L.length) :
    List.take k (L.take k ++ List.replicate r (0 : Int)) ++ List.take w (List.drop k L) ++ List.drop (k + w) (L.take k ++ List.replicate r 0) = L.take (k + w) ++ List.replicate (r - w) 0 := by
  have h1 : (L.take k).length = k := by rw [List.length_take]; omega
  rw [List.take_left' h1, List.take_add, List.drop_append, h1, List.drop_eq_nil_of_le (by omega : (L.take k).length ≤ k + w), List.nil_append, List.drop_replicate]
  congr 2
  omega
--@tbl szA2 = laws.szIntA2S
theorem szA2_ok (L : List Int) (off len cap : Nat) (k : Int) (hk : 0 ≤ k ∧ k ≤ 1048576) (hl : len ≤ 9223372036854775807) : PureH Try.prog 11 [.slice 0 off len cap, .int k] [(0, .win off L)] (.int (if k - len < 0 then -1 else k - len)) := by
  refine pure_of_vc (X := ⟨Try.prog, tys, [], [], true, true, 1, [], []⟩) fn_11 ⟨tys_ok, .nil, .nil, mixed⟩ (n0 := 1) (Nat.le_of_ble_eq_true rfl) (by simp [wfL, SV.wf]) (wfH_spec (by simp [wfH, SObj.wf])) (Nat.le_refl _) (fun _ => by simp [SV.wf, wfL]) ?_
  simp -implicitDefEqProofs only [Try.f11, Option.getD_some, argS, ZB, Int.reduceToNat, Nat.reduceLT, Nat.reduceLeDiff, Int.reduceLE, Int.reduceLT, Nat.reduceEqDiff, Nat.reduceSub, SB, SV.known, packR, ne_eq, reduceCtorEq, Nat.reduceEqDiff, ↓reduceIte, if_true, if_false, eq_self, Nat.reduceAdd, Nat.reduceMul, Nat.reduceSub, forall_const, oneCellS, Kd.isSca, flat, TYB]
  refine ⟨by unfold In64; omega, fun h => by rw [if_pos h], fun h => by rw [if_neg h]⟩
theorem szA2_nil (k : Int) (hk : 0 ≤ k ∧ k ≤ 1048576) : PureH Try.prog 11 [.nils, .int k] [] (.int k) := by
  refine pure_of_vc (X := ⟨Try.prog, tys, [], [], true, true, 0, [], []⟩) fn_11 ⟨tys_ok, .nil, .nil, mixed⟩ (n0 := 0) (Nat.le_of_ble_eq_true rfl) (by simp [wfL, SV.wf]) (wfH_spec (by simp [wfH, SObj.wf])) (Nat.le_refl _) (fun _ => by simp [SV.wf, wfL]) ?_
  simp -implicitDefEqProofs only [Try.f11, Option.getD_some, argS, Int.sub_zero, ZB, Int.reduceToNat, Nat.reduceLT, Nat.reduceLeDiff, Int.reduceLE, Int.reduceLT, Nat.reduceEqDiff, Nat.reduceSub, SB, SV.known, packR, ne_eq, reduceCtorEq, Nat.reduceEqDiff, ↓reduceIte, if_true, if_false, eq_self, Nat.reduceAdd, Nat.reduceMul, Nat.reduceSub, forall_const, oneCellS, Kd.isSca, flat, TYB]
  refine ⟨by unfold In64; omega, fun h => by omega, fun _ => trivial⟩
def szA2_F : List SV → Heap → Option (Prop × SV)
  | [.slice 0 off len cap, .int k], H => match hget H 0 with
    | some (.win o _) => some (o = off ∧ (0 ≤ k ∧ k ≤ 1048576) ∧ len ≤ 9223372036854775807, .int (if k - len < 0 then -1 else k - len))
    | _ => none
  | [.nils, .int k], _ => some (0 ≤ k ∧ k ≤ 1048576, .int k)
  | _, _ => none
theorem szA2_T : ∀ args H p v, szA2_F args H = some (p, v) → p → PureH Try.prog 11 args H v := by
  intro args H p v h hp
  unfold szA2_F at h
  split at h
  · rename_i off len cap k
    split at h
    · rename_i o L hb
      cases h
      obtain ⟨rfl, h1, h2⟩ := hp
      have := (szA2_ok L o len cap k h1 h2).sub (H := H) (fun j => j) (fun j o1 hj => by
        rw [hget_cons] at hj
        split at hj
        · rename_i hj0; cases hj; subst hj0; exact ⟨hb, fun _ => by omega, by simp⟩
        · cases hj) (fun x _ y _ he => he) (fun _ => trivial)
      simpa [renL, SV.ren] using this
    · cases h
  · cases h; exact (szA2_nil _ hp).any _
  · cases h
--@tbl toA2S = laws.toIntA2S
theorem toA2S_ok (L : List Int) (off len cap : Nat) (hL : L.length = len * 2) (hl : len ≤ 1048576) : FreshP Try.prog 14 [.slice 0 off len cap] [(0, .win off L)] L len 2 50 false .one := by
  refine fresh_of_vc (X := ⟨Try.prog, tys, [(46, toIntA2_F)], [], true, true, 1, [], []⟩) fn_14 ⟨tys_ok, (.cons toIntA2_T .nil), .nil, mixed⟩ (n0 := 1) rfl (Nat.le_of_ble_eq_true rfl) (by simp [wfL, SV.wf]) (wfH_spec (by simp [wfH, SObj.wf])) (Nat.le_refl _) ?_
  simp -implicitDefEqProofs only [Try.f14, Option.getD_some, argS, toIntA2_F, hL, freshK, Wrap.ap, ZB, Int.reduceToNat, Nat.reduceLT, Nat.reduceLeDiff, Int.reduceLE, Int.reduceLT, Nat.reduceEqDiff, Nat.reduceSub, SB, SV.known, packR, ne_eq, reduceCtorEq, Nat.reduceEqDiff, ↓reduceIte, if_true, if_false, eq_self, Nat.reduceAdd, Nat.reduceMul, Nat.reduceSub, forall_const, oneCellS, Kd.isSca, flat, TYB]
  refine ⟨by omega, by omega, by omega, ?_⟩
  refine loop_intro (fun i : Nat => [(4, .int i), (3, .slice 1 0 len len), (0, .slice 0 off len cap)]) (fun i => [(1, .ints (L.take (i * 2) ++ List.replicate ((len - i) * 2) 0) 50), (0, .win off L)]) 2 (fun i => i ≤ len) (fun i => len - i) ?_ ?_
  · refine ⟨0, ?_, Sub.mk_id ?_ ?_ ?_ ?_ ?_⟩
    all_goals (try (simp only [LB, subS, subH, wfS, wfH, SV.ren, renL, SObj.ren, SV.wf, SObj.wf, wfL, SV.known, Nat.reduceEqDiff, ↓reduceIte, if_true, if_false, eq_self, Nat.reduceAdd, Nat.reduceLT, Nat.reduceLeDiff, implies_true, reduceCtorEq, forall_const]; done))
    all_goals (try (simp only [LB, subS, subH, wfS, wfH, SV.ren, renL, SObj.ren, SV.wf, SObj.wf, wfL, SV.known, Nat.reduceEqDiff, ↓reduceIte, if_true, if_false, eq_self, Nat.reduceAdd, Nat.reduceLT, Nat.reduceLeDiff, implies_true, reduceCtorEq, forall_const]; simp; done))
    all_goals (try (simp only [LB, subS, subH, wfS, wfH, SV.ren, renL, SObj.ren, SV.wf, SObj.wf, wfL, SV.known, Nat.reduceEqDiff, ↓reduceIte, if_true, if_false, eq_self, Nat.reduceAdd, Nat.reduceLT, Nat.reduceLeDiff, implies_true, reduceCtorEq, forall_const]; (and_intros <;> (first | omega | rfl | (simp; done) | (simp; omega))); done))
    all_goals (try dsimp only)
    all_goals (and_intros <;> try (first | omega | (unfold In64; omega) | trivial | assumption))
    all_goals (try simp)
  · intro i hi
    have ll : (L.take (i * 2) ++ List.replicate ((len - i) * 2) (0 : Int)).length = len * 2 := by
      rw [List.length_append, List.length_take, List.length_replicate]; omega
    by_cases hlt : i < len
    · have hil : (i : Int) < len := by omega
      have fr := fill_row L (i * 2) 2 ((len - i) * 2) (by omega)
      have e1 : (i + 1) * 2 = i * 2 + 2 := by omega
      have e2 : (len - (i + 1)) * 2 = (len - i) * 2 - 2 := by omega
      have l2 : ((L.drop (i * 2)).take 2).length = 2 := by rw [List.length_take, List.length_drop]; omega
      have e0 : off + i * 2 - off = i * 2 := by omega
      simp -implicitDefEqProofs only [lk_normal, toIntA2_F, hil, ll, hL, e0, l2, ZB, Int.reduceToNat, Nat.reduceLT, Nat.reduceLeDiff, Int.reduceLE, Int.reduceLT, Nat.reduceEqDiff, Nat.reduceSub, SB, SV.known, packR, ne_eq, reduceCtorEq, Nat.reduceEqDiff, ↓reduceIte, if_true, if_false, eq_self, Nat.reduceAdd, Nat.reduceMul, Nat.reduceSub, forall_const, oneCellS, Kd.isSca, flat, TYB]
      (try (and_intros <;> try (first | omega | (unfold In64; omega) | trivial | assumption)))
      refine ⟨i + 1, ?_, ?_, Sub.mk_id ?_ ?_ ?_ ?_ ?_⟩
      all_goals (try (simp only [fr, e1, e2, LB, subS, subH, wfS, wfH, SV.ren, renL, SObj.ren, SV.wf, SObj.wf, wfL, SV.known, Nat.reduceEqDiff, ↓reduceIte, if_true, if_false, eq_self, Nat.reduceAdd, Nat.reduceLT, Nat.reduceLeDiff, implies_true, reduceCtorEq, forall_const]; done))
      all_goals (try (simp only [fr, e1, e2, LB, subS, subH, wfS, wfH, SV.ren, renL, SObj.ren, SV.wf, SObj.wf, wfL, SV.known, Nat.reduceEqDiff, ↓reduceIte, if_true, if_false, eq_self, Nat.reduceAdd, Nat.reduceLT, Nat.reduceLeDiff, implies_true, reduceCtorEq, forall_const]; simp; done))
      all_goals (try (simp only [fr, e1, e2, LB, subS, subH, wfS, wfH, SV.ren, renL, SObj.ren, SV.wf, SObj.wf, wfL, SV.known, Nat.reduceEqDiff, ↓reduceIte, if_true, if_false, eq_self, Nat.reduceAdd, Nat.reduceLT, Nat.reduceLeDiff, implies_true, reduceCtorEq, forall_const]; (and_intros <;> (first | omega | rfl | (simp; done) | (simp; omega))); done))
      all_goals (try dsimp only)
      all_goals (and_intros <;> try (first | omega | (unfold In64; omega) | trivial | assumption))
    · have hil : ¬ (i : Int) < len := by omega
      obtain rfl : i = len := by omega
      simp -implicitDefEqProofs only [lk_normal, hil, ZB, Int.reduceToNat, Nat.reduceLT, Nat.reduceLeDiff, Int.reduceLE, Int.reduceLT, Nat.reduceEqDiff, Nat.reduceSub, SB, SV.known, packR, ne_eq, reduceCtorEq, Nat.reduceEqDiff, ↓reduceIte, if_true, if_false, eq_self, Nat.reduceAdd, Nat.reduceMul, Nat.reduceSub, forall_const, oneCellS, Kd.isSca, flat, TYB]
      refine .inr ⟨1, i, [], rfl, ?_, by omega, by simp [hL], by simp⟩
      simp [hget_cons, ← hL]
theorem toA2S_nil : FreshP Try.prog 14 [.nils] [] [] 0 2 50 false .one := by
  refine fresh_of_vc (X := ⟨Try.prog, tys, [(46, toIntA2_F)], [], true, true, 0, [], []⟩) fn_14 ⟨tys_ok, (.cons toIntA2_T .nil), .nil, mixed⟩ (n0 := 0) rfl (Nat.le_of_ble_eq_true rfl) (by simp [wfL, SV.wf]) (wfH_spec (by simp [wfH, SObj.wf])) (Nat.le_refl _) ?_
  simp -implicitDefEqProofs only [Try.f14, Option.getD_some, argS, toIntA2_F, freshK, Wrap.ap, ZB, Int.reduceToNat, Nat.reduceLT, Nat.reduceLeDiff, Int.reduceLE, Int.reduceLT, Nat.reduceEqDiff, Nat.reduceSub, SB, SV.known, packR, ne_eq, reduceCtorEq, Nat.reduceEqDiff, ↓reduceIte, if_true, if_false, eq_self, Nat.reduceAdd, Nat.reduceMul, Nat.reduceSub, forall_const, oneCellS, Kd.isSca, flat, TYB]
  refine ⟨by omega, ?_⟩
  refine loop_intro (fun i : Unit => [(4, .int 0), (3, .slice 0 0 0 0), (0, .nils)]) (fun i => [(0, .ints [] 50)]) 1 (fun i => True) (fun i => 0) ?_ ?_
  · refine ⟨(), ?_, Sub.mk_id ?_ ?_ ?_ ?_ ?_⟩
    all_goals (try (simp only [LB, subS, subH, wfS, wfH, SV.ren, renL, SObj.ren, SV.wf, SObj.wf, wfL, SV.known, Nat.reduceEqDiff, ↓reduceIte, if_true, if_false, eq_self, Nat.reduceAdd, Nat.reduceLT, Nat.reduceLeDiff, implies_true, reduceCtorEq, forall_const]; done))
    all_goals (try (simp only [LB, subS, subH, wfS, wfH, SV.ren, renL, SObj.ren, SV.wf, SObj.wf, wfL, SV.known, Nat.reduceEqDiff, ↓reduceIte, if_true, if_false, eq_self, Nat.reduceAdd, Nat.reduceLT, Nat.reduceLeDiff, implies_true, reduceCtorEq, forall_const]; simp; done))
    all_goals (try (simp only [LB, subS, subH, wfS, wfH, SV.ren, renL, SObj.ren, SV.wf, SObj.wf, wfL, SV.known, Nat.reduceEqDiff, ↓reduceIte, if_true, if_false, eq_self, Nat.reduceAdd, Nat.reduceLT, Nat.reduceLeDiff, implies_true, reduceCtorEq, forall_const]; (and_intros <;> (first | omega | rfl | (simp; done) | (simp; omega))); done))
    all_goals (try dsimp only)
    all_goals (and_intros <;> try (first | omega | (unfold In64; omega) | trivial | assumption))
  · intro i hi
    simp -implicitDefEqProofs only [lk_normal, ZB, Int.reduceToNat, Nat.reduceLT, Nat.reduceLeDiff, Int.reduceLE, Int.reduceLT, Nat.reduceEqDiff, Nat.reduceSub, SB, SV.known, packR, ne_eq, reduceCtorEq, Nat.reduceEqDiff, ↓reduceIte, if_true, if_false, eq_self, Nat.reduceAdd, Nat.reduceMul, Nat.reduceSub, forall_const, oneCellS, Kd.isSca, flat, TYB]
    exact .inr ⟨0, 0, [], rfl, by simp [hget_cons], by omega, rfl, by simp⟩
def toA2S_F : List SV → Heap → Nat → Nat → K1 → Prop
  | [.slice 0 off len _], H, n, _, κ => match hget H 0 with
    | some (.win o L) => (o = off ∧ L.length = len * 2 ∧ len ≤ 1048576) ∧ freshK .one L len 2 50 false H n κ
    | _ => False
  | [.nils], H, n, _, κ => freshK .one [] 0 2 50 false H n κ
  | _, _, _, _, _ => False
theorem toA2S_T : ∀ args H n m κ, toA2S_F args H n m κ → GenOK Try.prog 14 args H n m κ := by
  intro args H n m κ h
  unfold toA2S_F at h
  split at h
  · split at h
    · rename_i o L hb
      obtain ⟨⟨rfl, h1, h2⟩, h3⟩ := h
      exact gen_of_fresh (toA2S_ok L _ _ _ h1 h2) (fun k o1 hk => by
        rw [hget_cons] at hk
        split at hk
        · rename_i hj0; cases hk; subst hj0; exact hb
        · cases hk) h3
    · exact h.elim
  · exact gen_of_fresh toA2S_nil (fun k o hk => by cases hk) h
  · exact h.elim
--@tbl szSo = laws.szSourceS
def szSo_F : List SV → Heap → Option (Prop × SV)
  | [.slice 0 off len cap, .int k], H => match hget H 0 with
    | some (.win o _) => some (o = off ∧ (0 ≤ k ∧ k ≤ 1048576) ∧ len ≤ 9223372036854775807, .int (if k - len < 0 then -1 else k - len))
    | _ => none
  | [.nils, .int k], _ => some (0 ≤ k ∧ k ≤ 1048576, .int k)
  | _, _ => none
--@tbl toSoS = laws.toSourceS
def toSoS_F : List SV → Heap → Nat → Nat → K1 → Prop
  | [.slice 0 off len _], H, n, _, κ => match hget H 0 with
    | some (.win o L) => (o = off ∧ L.length = len * 3 ∧ len ≤ 1048576) ∧ freshK .one L len 3 99 false H n κ
    | _ => False
  | [.nils], H, n, _, κ => freshK .one [] 0 3 99 false H n κ
  | _, _, _, _, _ => False
end Go.Proofs.Ytfdpeenamkpcbaa
