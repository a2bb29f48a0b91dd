/- Walks: sums, arrangements, deals. -/
import Derived.Test.YtfdpeenamkpcbaaB
set_option maxRecDepth 100000
set_option linter.unusedSimpArgs false
set_option linter.unusedVariables false
namespace Go.Proofs.Ytfdpeenamkpcbaa
open Go Go.RowKit

/-! Sums. -/
def Bd (a b : Int) (l : List Int) : Prop := ∀ x ∈ l, a ≤ x ∧ x ≤ b
theorem Bd.getD {a b : Int} {l : List Int} (h : Bd a b l) {k : Nat} (hk : k < l.length) : a ≤ l.getD k 0 ∧ l.getD k 0 ≤ b := by
  simp only [List.getD, List.getElem?_eq_getElem hk, Option.getD_some]
  exact h _ (List.getElem_mem _)
theorem Bd.take {a b : Int} {l : List Int} (h : Bd a b l) (k : Nat) : Bd a b (l.take k) := fun x hx => h x (List.mem_of_mem_take hx)
theorem Bd.drop {a b : Int} {l : List Int} (h : Bd a b l) (k : Nat) : Bd a b (l.drop k) := fun x hx => h x (List.mem_of_mem_drop hx)
theorem sum_bd {a b : Int} : ∀ (l : List Int), Bd a b l → a * l.length ≤ l.sum ∧ l.sum ≤ b * l.length
  | [], _ => by simp
  | x :: r, h => by
    have h1 := h x (by simp)
    have h2 := sum_bd r fun y hy => h y (by simp [hy])
    simp only [List.sum_cons, List.length_cons]
    have e1 : a * ((r.length + 1 : Nat) : Int) = a * r.length + a := by rw [Int.natCast_add, Int.mul_add]; simp
    have e2 : b * ((r.length + 1 : Nat) : Int) = b * r.length + b := by rw [Int.natCast_add, Int.mul_add]; simp
    omega
theorem sum_take_succ (l : List Int) (k : Nat) (h : k < l.length) : (l.take (k + 1)).sum = (l.take k).sum + l.getD k 0 := by
  rw [List.take_succ_eq_append_getElem h, List.sum_append]
  simp [List.getD, List.getElem?_eq_getElem h]

--@tbl sum = impl.sum
theorem sum_ok (L : List Int) (e off len cap : Nat) (hl : off + len ≤ L.length) (hm : len ≤ 1000) (hb : Bd (-1000000) 1000000 ((L.drop off).take len)) :
    PureH Try.prog 107 [.slice 0 off len cap] [(0, .ints L e)] (.int ((L.drop off).take len).sum) := by
  have hE : ((L.drop off).take len).length = len := by simp; omega
  refine pure_of_vc (X := ⟨Try.prog, tys, [], [], true, true, 1, [], []⟩) fn_107 ⟨tys_ok, .nil, .nil, mixed⟩ (n0 := 1) (Nat.le_of_ble_eq_true rfl) (by simp [wfL, SV.wf]) (wfH_spec (by simp [wfH, SObj.wf])) (Nat.le_refl _) (fun _ => by simp [SV.wf, wfL]) ?_
  simp -implicitDefEqProofs only [Try.f107, Option.getD_some, argS, SB, SV.known, packR, ne_eq, reduceCtorEq, Nat.reduceEqDiff, ↓reduceIte, if_true, if_false, eq_self, Nat.reduceAdd, Nat.reduceMul, Nat.reduceSub, forall_const, oneCellS, Kd.isSca, flat, TYB]
  refine loop_intro (fun i : Nat => [(6, .slice 0 off len cap), (7, .int len), (8, .int i), (3, .int (((L.drop off).take len).take i).sum)]) (fun _ => [(0, .ints L e)]) 1 (fun i => i ≤ len) (fun i => len - i) ?_ ?_
  · refine ⟨0, by omega, Sub.mk_id ?_ ?_ ?_ ?_ ?_⟩
    all_goals simp only [LB, subS, subH, wfS, wfH, SV.ren, renL, SObj.ren, SV.wf, SObj.wf, wfL, SV.known, Nat.reduceEqDiff, ↓reduceIte, if_true, if_false, eq_self, Nat.reduceAdd, Nat.reduceLT, Nat.reduceLeDiff, implies_true, reduceCtorEq, forall_const]
    all_goals simp
  · intro i hi
    simp -implicitDefEqProofs only [lk_normal, SB, SV.known, packR, ne_eq, reduceCtorEq, Nat.reduceEqDiff, ↓reduceIte, if_true, if_false, eq_self, Nat.reduceAdd, Nat.reduceMul, Nat.reduceSub, forall_const, oneCellS, Kd.isSca, flat, TYB]
    simp only [Int.toNat_natCast, Nat.mul_one]
    have hb1 := sum_bd _ (hb.take i)
    have hl1 : (((L.drop off).take len).take i).length = i := by rw [List.length_take, hE]; omega
    rw [hl1] at hb1
    refine ⟨fun h => ?_, fun h => ?_⟩
    · have hlt : i < len := by omega
      have hg := hb.getD (k := i) (by omega)
      rw [← getD_cut L off len i hlt]
      refine ⟨by omega, by omega, by omega, by unfold In64; omega, by unfold In64; omega, i + 1, by omega, by omega, Sub.mk_id ?_ ?_ ?_ ?_ ?_⟩
      any_goals (simp only [LB, subS, subH, wfS, wfH, SV.ren, renL, SObj.ren, SV.wf, SObj.wf, wfL, SV.known, Nat.reduceEqDiff, ↓reduceIte, if_true, if_false, eq_self, Nat.reduceAdd, Nat.reduceLT, Nat.reduceLeDiff, implies_true, reduceCtorEq, forall_const]; done)
      simp only [LB, subS, subH, wfS, wfH, SV.ren, renL, SObj.ren, SV.wf, SObj.wf, wfL, SV.known, Nat.reduceEqDiff, ↓reduceIte, if_true, if_false, eq_self, Nat.reduceAdd, Nat.reduceLT, Nat.reduceLeDiff, implies_true, reduceCtorEq, forall_const]
      exact (sum_take_succ _ i (by omega)).symm
    · obtain rfl : i = len := by omega
      rw [List.take_take, Nat.min_self]
def sum_F : List SV → Heap → Option (Prop × SV)
  | [.slice b off len _], H => match hget H b with
    | some (.ints L _) => some (off + len ≤ L.length ∧ len ≤ 1000 ∧ Bd (-1000000) 1000000 ((L.drop off).take len), .int ((L.drop off).take len).sum)
    | _ => none
  | _, _ => none
theorem one_block {P : Program} {f : FuncId} {args : List SV} {o : SObj} {r : SV} {H : Heap} {b : Nat} (h : PureH P f args [(0, o)] r) (hb : hget H b = some o) (ho : o.ren (fun _ => b) = o) (hr : ∀ n, r.wf n) : PureH P f (renL (fun _ => b) args) H r :=
  h.sub (fun _ => b) (fun j o' hj => by
    rw [hget_cons] at hj
    split at hj
    · cases hj; exact ⟨by rw [ho]; exact hb, fun _ => by omega, by simp [*]⟩
    · cases hj) (fun a ha c hc _ => by simp at ha hc; omega) hr
theorem sum_T : ∀ args H p v, sum_F args H = some (p, v) → p → PureH Try.prog 107 args H v := by
  intro args H p v h hp
  unfold sum_F at h
  split at h
  · rename_i b off len cap
    split at h
    · rename_i L e hb
      cases h
      exact one_block (sum_ok L e off len cap hp.1 hp.2.1 hp.2.2) hb rfl (fun _ => trivial)
    · cases h
  · cases h

/-! Arrangements. -/
def arrN : Nat → Int × Int → Int × Int
  | 0, s => s
  | k + 1, s => (IntKind.i64.wrap ((IntKind.i64.wrap ((arrN k s).1 * ((arrN k s).2 + 1))).tdiv (k + 1)), (arrN k s).2 + 1)
def arrL : List Int → Int × Int → Int × Int
  | [], s => s
  | n :: r, s => arrL r (arrN n.toNat s)
def arrF (l : List Int) : Int := (arrL l (1, 0)).1
theorem arrN_snd : ∀ (k : Nat) (s : Int × Int), (arrN k s).2 = s.2 + k
  | 0, s => by simp [arrN]
  | k + 1, s => by simp only [arrN]; rw [arrN_snd k s]; omega
theorem arrL_append : ∀ (l m : List Int) (s : Int × Int), arrL (l ++ m) s = arrL m (arrL l s)
  | [], m, s => rfl
  | n :: r, m, s => by simp only [List.cons_append, arrL]; exact arrL_append r m _
theorem arrL_take_succ (l : List Int) (k : Nat) (h : k < l.length) (s : Int × Int) : arrL (l.take (k + 1)) s = arrN (l.getD k 0).toNat (arrL (l.take k) s) := by
  rw [List.take_succ_eq_append_getElem h, arrL_append]
  simp [arrL, List.getD, List.getElem?_eq_getElem h]
theorem arrL_snd (m : Int) : ∀ (l : List Int) (s : Int × Int), Bd 0 m l → s.2 ≤ (arrL l s).2 ∧ (arrL l s).2 ≤ s.2 + m * l.length
  | [], s, _ => by simp [arrL]
  | n :: r, s, h => by
    have h1 := h n (by simp)
    have h2 := arrL_snd m r (arrN n.toNat s) fun y hy => h y (by simp [hy])
    rw [arrN_snd] at h2
    simp only [arrL, List.length_cons]
    have e1 : m * ((r.length + 1 : Nat) : Int) = m * r.length + m := by rw [Int.natCast_add, Int.mul_add]; simp
    omega

--@tbl arrangements = impl.arrangements
theorem arrangements_ok (L : List Int) (hL : L.length = 6) (hb : Bd 0 1000000 L) : PureH Try.prog 57 [.arr L] [] (.int (arrF L)) := by
  have tk : L.take 6 = L := List.take_of_length_le (by omega)
  refine pure_of_vc (X := ⟨Try.prog, tys, [], [], true, false, 0, [], []⟩) fn_57 ⟨tys_ok, .nil, .nil, mixed⟩ (n0 := 0) (Nat.le_of_ble_eq_true rfl) (by simp [wfL, SV.wf]) (wfH_spec (by simp [wfH, SObj.wf])) (Nat.le_refl _) (fun _ => by simp [SV.wf, wfL]) ?_
  simp -implicitDefEqProofs only [Try.f57, Option.getD_some, argS, tk, hL, SB, SV.known, packR, ne_eq, reduceCtorEq, Nat.reduceEqDiff, ↓reduceIte, if_true, if_false, eq_self, Nat.reduceAdd, Nat.reduceMul, Nat.reduceSub, forall_const, oneCellS, Kd.isSca, flat, TYB]
  refine loop_intro (fun i : Nat => [(1, .ptr 0 0), (8, .arr L), (9, .int i), (3, .int (arrL (L.take i) (1, 0)).1), (4, .int (arrL (L.take i) (1, 0)).2)]) (fun _ => [(0, .ints L 39)]) 1 (fun i => i ≤ 6) (fun i => 6 - i) ?_ ?_
  · refine ⟨0, by omega, Sub.mk_id ?_ ?_ ?_ ?_ ?_⟩
    all_goals simp only [LB, subS, subH, wfS, wfH, SV.ren, renL, SObj.ren, SV.wf, SObj.wf, wfL, SV.known, Nat.reduceEqDiff, ↓reduceIte, if_true, if_false, eq_self, Nat.reduceAdd, Nat.reduceLT, Nat.reduceLeDiff, implies_true, reduceCtorEq, forall_const]
    all_goals simp [arrL]
  · intro i hi
    simp -implicitDefEqProofs only [lk_normal, SB, SV.known, packR, ne_eq, reduceCtorEq, Nat.reduceEqDiff, ↓reduceIte, if_true, if_false, eq_self, Nat.reduceAdd, Nat.reduceMul, Nat.reduceSub, forall_const, oneCellS, Kd.isSca, flat, TYB]
    simp only [Int.toNat_natCast, Nat.mul_one]
    refine ⟨fun h => ?_, fun h => ?_⟩
    · have hlt : i < 6 := by omega
      have hg := hb.getD (k := i) (by omega)
      refine ⟨by omega, by omega, by omega, ?_⟩
      refine loop_intro (fun j : Nat => [(1, .ptr 0 0), (8, .arr L), (9, .int i), (12, .int (L.getD i 0)), (13, .int j), (3, .int (arrN j (arrL (L.take i) (1, 0))).1), (4, .int (arrN j (arrL (L.take i) (1, 0))).2)]) (fun _ => [(0, .ints L 39)]) 1 (fun j => j ≤ (L.getD i 0).toNat) (fun j => (L.getD i 0).toNat - j) ?_ ?_
      · refine ⟨0, by omega, Sub.mk_id ?_ ?_ ?_ ?_ ?_⟩
        all_goals simp only [LB, subS, subH, wfS, wfH, SV.ren, renL, SObj.ren, SV.wf, SObj.wf, wfL, SV.known, Nat.reduceEqDiff, ↓reduceIte, if_true, if_false, eq_self, Nat.reduceAdd, Nat.reduceLT, Nat.reduceLeDiff, implies_true, reduceCtorEq, forall_const]
        all_goals simp [arrN]
      · intro j hj
        simp -implicitDefEqProofs only [lk_normal, SB, SV.known, packR, ne_eq, reduceCtorEq, Nat.reduceEqDiff, ↓reduceIte, if_true, if_false, eq_self, Nat.reduceAdd, Nat.reduceMul, Nat.reduceSub, forall_const, oneCellS, Kd.isSca, flat, TYB]
        have h1 := arrN_snd j (arrL (L.take i) (1, 0))
        have h2 := arrL_snd 1000000 (L.take i) (1, 0) (hb.take i)
        have hl1 : (L.take i).length = i := by rw [List.length_take]; omega
        rw [hl1] at h2
        simp only at h2
        refine ⟨fun h => ?_, fun h => ?_⟩
        · refine ⟨by unfold In64; omega, by unfold In64; omega, by omega, by unfold In64; omega, j + 1, by omega, by omega, Sub.mk_id ?_ ?_ ?_ ?_ ?_⟩
          any_goals (simp only [LB, subS, subH, wfS, wfH, SV.ren, renL, SObj.ren, SV.wf, SObj.wf, wfL, SV.known, Nat.reduceEqDiff, ↓reduceIte, if_true, if_false, eq_self, Nat.reduceAdd, Nat.reduceLT, Nat.reduceLeDiff, implies_true, reduceCtorEq, forall_const]; done)
          simp only [LB, subS, subH, wfS, wfH, SV.ren, renL, SObj.ren, SV.wf, SObj.wf, wfL, SV.known, Nat.reduceEqDiff, ↓reduceIte, if_true, if_false, eq_self, Nat.reduceAdd, Nat.reduceLT, Nat.reduceLeDiff, implies_true, reduceCtorEq, forall_const, arrN]
        · have e1 : (L.getD i 0).toNat = j := by omega
          refine ⟨by unfold In64; omega, i + 1, by omega, by omega, Sub.mk_id ?_ ?_ ?_ ?_ ?_⟩
          any_goals (simp only [LB, subS, subH, wfS, wfH, SV.ren, renL, SObj.ren, SV.wf, SObj.wf, wfL, SV.known, Nat.reduceEqDiff, ↓reduceIte, if_true, if_false, eq_self, Nat.reduceAdd, Nat.reduceLT, Nat.reduceLeDiff, implies_true, reduceCtorEq, forall_const]; done)
          simp only [LB, subS, subH, wfS, wfH, SV.ren, renL, SObj.ren, SV.wf, SObj.wf, wfL, SV.known, Nat.reduceEqDiff, ↓reduceIte, if_true, if_false, eq_self, Nat.reduceAdd, Nat.reduceLT, Nat.reduceLeDiff, implies_true, reduceCtorEq, forall_const]
          rw [arrL_take_succ L i (by omega), e1]
          exact ⟨rfl, rfl⟩
    · obtain rfl : i = 6 := by omega
      rw [tk]
      rfl
def arrangements_F : List SV → Heap → Option (Prop × SV)
  | [.arr L], _ => some (L.length = 6 ∧ Bd 0 1000000 L, .int (arrF L))
  | _, _ => none
theorem arrangements_T : ∀ args H p v, arrangements_F args H = some (p, v) → p → PureH Try.prog 57 args H v := by
  intro args H p v h hp
  unfold arrangements_F at h
  split at h
  · cases h; exact (arrangements_ok _ hp.1 hp.2).any _
  · cases h

--@tbl l7Ways = spec.l7Ways
theorem l7Ways_ok (L : List Int) (hL : L.length = 6) (hb : Bd 0 1000000 (L.drop 1)) : PureH Try.prog 53 [.arr L] [] (.int (arrF (L.drop 1))) := by
  refine pure_of_vc (X := ⟨Try.prog, tys, [], [], true, false, 0, [], []⟩) fn_53 ⟨tys_ok, .nil, .nil, mixed⟩ (n0 := 0) (Nat.le_of_ble_eq_true rfl) (by simp [wfL, SV.wf]) (wfH_spec (by simp [wfH, SObj.wf])) (Nat.le_refl _) (fun _ => by simp [SV.wf, wfL]) ?_
  simp -implicitDefEqProofs only [Try.f53, Option.getD_some, argS, SB, SV.known, packR, ne_eq, reduceCtorEq, Nat.reduceEqDiff, ↓reduceIte, if_true, if_false, eq_self, Nat.reduceAdd, Nat.reduceMul, Nat.reduceSub, forall_const, oneCellS, Kd.isSca, flat, TYB]
  refine loop_intro (fun i : Nat => [(1, .ptr 0 0), (5, .int (i + 1)), (3, .int (arrL ((L.drop 1).take i) (1, 0)).1), (4, .int (arrL ((L.drop 1).take i) (1, 0)).2)]) (fun _ => [(0, .ints L 39)]) 1 (fun i => i ≤ 5) (fun i => 5 - i) ?_ ?_
  · refine ⟨0, by omega, Sub.mk_id ?_ ?_ ?_ ?_ ?_⟩
    all_goals simp only [LB, subS, subH, wfS, wfH, SV.ren, renL, SObj.ren, SV.wf, SObj.wf, wfL, SV.known, Nat.reduceEqDiff, ↓reduceIte, if_true, if_false, eq_self, Nat.reduceAdd, Nat.reduceLT, Nat.reduceLeDiff, implies_true, reduceCtorEq, forall_const]
    all_goals simp [arrL]
  · intro i hi
    simp -implicitDefEqProofs only [lk_normal, SB, SV.known, packR, ne_eq, reduceCtorEq, Nat.reduceEqDiff, ↓reduceIte, if_true, if_false, eq_self, Nat.reduceAdd, Nat.reduceMul, Nat.reduceSub, forall_const, oneCellS, Kd.isSca, flat, TYB]
    refine ⟨fun h => ?_, fun h => ?_⟩
    · have hlt : i < 5 := by omega
      have hd : (L.drop 1).length = 5 := by simp; omega
      have hg := hb.getD (k := i) (by omega)
      have ed : (L.drop 1).getD i 0 = L.getD (i + 1) 0 := by simp [List.getD, Nat.add_comm]
      refine loop_intro (fun j : Nat => [(1, .ptr 0 0), (5, .int (i + 1)), (6, .int (j + 1)), (3, .int (arrN j (arrL ((L.drop 1).take i) (1, 0))).1), (4, .int (arrN j (arrL ((L.drop 1).take i) (1, 0))).2)]) (fun _ => [(0, .ints L 39)]) 1 (fun j => j ≤ ((L.drop 1).getD i 0).toNat) (fun j => ((L.drop 1).getD i 0).toNat - j) ?_ ?_
      · refine ⟨0, by omega, Sub.mk_id ?_ ?_ ?_ ?_ ?_⟩
        all_goals simp only [LB, subS, subH, wfS, wfH, SV.ren, renL, SObj.ren, SV.wf, SObj.wf, wfL, SV.known, Nat.reduceEqDiff, ↓reduceIte, if_true, if_false, eq_self, Nat.reduceAdd, Nat.reduceLT, Nat.reduceLeDiff, implies_true, reduceCtorEq, forall_const]
        all_goals simp [arrN]
      · intro j hj
        simp -implicitDefEqProofs only [lk_normal, SB, SV.known, packR, ne_eq, reduceCtorEq, Nat.reduceEqDiff, ↓reduceIte, if_true, if_false, eq_self, Nat.reduceAdd, Nat.reduceMul, Nat.reduceSub, forall_const, oneCellS, Kd.isSca, flat, TYB]
        have e0 : ((i : Int) + 1).toNat = i + 1 := by omega
        simp only [e0, Nat.mul_one]
        have h1 := arrN_snd j (arrL ((L.drop 1).take i) (1, 0))
        have h2 := arrL_snd 1000000 ((L.drop 1).take i) (1, 0) (hb.take i)
        have hl1 : ((L.drop 1).take i).length = i := by rw [List.length_take]; omega
        rw [hl1] at h2
        simp only at h2
        rw [ed] at hg hj
        refine ⟨by omega, by omega, by omega, fun h => ?_, fun h => ?_⟩
        · refine ⟨by unfold In64; omega, by omega, by unfold In64; omega, j + 1, by rw [ed]; omega, by rw [ed]; omega, Sub.mk_id ?_ ?_ ?_ ?_ ?_⟩
          any_goals (simp only [LB, subS, subH, wfS, wfH, SV.ren, renL, SObj.ren, SV.wf, SObj.wf, wfL, SV.known, Nat.reduceEqDiff, ↓reduceIte, if_true, if_false, eq_self, Nat.reduceAdd, Nat.reduceLT, Nat.reduceLeDiff, implies_true, reduceCtorEq, forall_const]; done)
          simp only [LB, subS, subH, wfS, wfH, SV.ren, renL, SObj.ren, SV.wf, SObj.wf, wfL, SV.known, Nat.reduceEqDiff, ↓reduceIte, if_true, if_false, eq_self, Nat.reduceAdd, Nat.reduceLT, Nat.reduceLeDiff, implies_true, reduceCtorEq, forall_const, arrN]
        · have e1 : ((L.drop 1).getD i 0).toNat = j := by rw [ed]; omega
          refine ⟨by unfold In64; omega, i + 1, by omega, by omega, Sub.mk_id ?_ ?_ ?_ ?_ ?_⟩
          any_goals (simp only [LB, subS, subH, wfS, wfH, SV.ren, renL, SObj.ren, SV.wf, SObj.wf, wfL, SV.known, Nat.reduceEqDiff, ↓reduceIte, if_true, if_false, eq_self, Nat.reduceAdd, Nat.reduceLT, Nat.reduceLeDiff, implies_true, reduceCtorEq, forall_const]; done)
          simp only [LB, subS, subH, wfS, wfH, SV.ren, renL, SObj.ren, SV.wf, SObj.wf, wfL, SV.known, Nat.reduceEqDiff, ↓reduceIte, if_true, if_false, eq_self, Nat.reduceAdd, Nat.reduceLT, Nat.reduceLeDiff, implies_true, reduceCtorEq, forall_const]
          rw [arrL_take_succ (L.drop 1) i (by omega), e1]
          exact ⟨rfl, rfl⟩
    · obtain rfl : i = 5 := by omega
      rw [List.take_of_length_le (by simp; omega)]
      rfl
def l7Ways_F : List SV → Heap → Option (Prop × SV)
  | [.arr L], _ => some (L.length = 6 ∧ Bd 0 1000000 (L.drop 1), .int (arrF (L.drop 1)))
  | _, _ => none
theorem l7Ways_T : ∀ args H p v, l7Ways_F args H = some (p, v) → p → PureH Try.prog 53 args H v := by
  intro args H p v h hp
  unfold l7Ways_F at h
  split at h
  · cases h; exact (l7Ways_ok _ hp.1 hp.2).any _
  · cases h
end Go.Proofs.Ytfdpeenamkpcbaa
