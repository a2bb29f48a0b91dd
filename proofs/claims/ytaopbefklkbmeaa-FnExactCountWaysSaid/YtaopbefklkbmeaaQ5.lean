/- Texts of this claim, joined (Form, Upd, Gen, SrtF, D, E, O, Del, P, G, Pour, H, Q, Val, Bnd, Use, GL, Map, Sl, Dist). -/
import Derived.Test.YtaopbefklkbmeaaQ1
import Derived.Test.YtaopbefklkbmeaaQ2
import Derived.Test.YtaopbefklkbmeaaQ3
import Derived.Test.YtaopbefklkbmeaaQ4
set_option maxRecDepth 100000
set_option linter.unusedSimpArgs false
set_option linter.unusedVariables false
namespace Go.Proofs.Ytaopbefklkbmeaa
open Go Go.RowKit
--@tbl l3Below = spec.l3Below
theorem l3Below_ok (x y : List Int) (hx : x.length = 4) (hy : y.length = 4) : PureH Try.prog 48 [.arr x, .arr y] [] (.bool (decide (lexC x y < 0))) := by
  have tx : x.take 4 = x := List.take_of_length_le (by omega)
  have ty : y.take 4 = y := List.take_of_length_le (by omega)
  refine pure_of_vc (X := ⟨Try.prog, tys, [], [], true, true, 0, [], []⟩) fn_48 ⟨tys_ok, .nil, .nil, mixed⟩ (n0 := 0) (Nat.le_of_ble_eq_true rfl) (by simp [wfL, SV.wf]) (wfH_spec (by simp [wfH, SObj.wf, wfL, SV.wf])) (Nat.le_refl _) (fun _ => by simp [SV.wf, wfL]) ?_
  simp -implicitDefEqProofs only [Try.f48, Option.getD_some, argS, hx, hy, tx, ty, ZB, Int.reduceToNat, Nat.reduceLT, Nat.reduceLeDiff, Int.reduceLE, Int.reduceLT, Nat.reduceEqDiff, Nat.reduceSub, SB, SV.known, packR, ne_eq, reduceCtorEq, Nat.reduceEqDiff, ↓reduceIte, if_true, if_false, eq_self, Nat.reduceAdd, Nat.reduceMul, Nat.reduceSub, forall_const, oneCellS, litOne, flat1, Kd.isSca, flat, TYB]
  refine loop_intro (fun i : Nat => [(5, .int i), (3, .ptr 1 0), (2, .ptr 0 0)]) (fun _ => [(1, .ints y 22), (0, .ints x 22)]) 2 (fun i => i ≤ 4 ∧ lexC x y = lexC (x.drop i) (y.drop i)) (fun i => 4 - i) ?_ ?_
  · refine ⟨0, ⟨by omega, rfl⟩, Sub.mk_id ?_ ?_ ?_ ?_ ?_⟩
    all_goals ((try simp only [LB, subS, subH, wfS, wfH, SV.ren, renL, SObj.ren, SV.wf, SObj.wf, wfL, SV.known, Nat.reduceEqDiff, ↓reduceIte, if_true, if_false, eq_self, Nat.reduceAdd, Nat.reduceLT, Nat.reduceLeDiff, implies_true, reduceCtorEq, forall_const]) <;> simp)
  · rintro i ⟨hi, he⟩
    by_cases hlt : i < 4
    · have hil : (i : Int) < 4 := by omega
      have hix : i < x.length := by omega
      have hiy : i < y.length := by omega
      have st := lexC_step x y 4 i hlt (by omega) (by omega)
      rw [tx, ty, ← he] at st
      unfold icmp at st
      by_cases hc : x.getD i 0 = y.getD i 0
      · simp only [hc, Int.lt_irrefl, if_false, if_true] at st
        simp -implicitDefEqProofs only [lk_normal, hil, hix, hiy, hx, hy, hlt, hc, ZB, Int.reduceToNat, Nat.reduceLT, Nat.reduceLeDiff, Int.reduceLE, Int.reduceLT, Nat.reduceEqDiff, Nat.reduceSub, SB, SV.known, packR, ne_eq, reduceCtorEq, Nat.reduceEqDiff, ↓reduceIte, if_true, if_false, eq_self, Nat.reduceAdd, Nat.reduceMul, Nat.reduceSub, forall_const, oneCellS, litOne, flat1, Kd.isSca, flat, TYB]
        refine ⟨by omega, by omega, by unfold In64; omega, i + 1, ⟨by omega, st⟩, by omega, Sub.mk_id ?_ ?_ ?_ ?_ ?_⟩
        all_goals ((try simp only [LB, subS, subH, wfS, wfH, SV.ren, renL, SObj.ren, SV.wf, SObj.wf, wfL, SV.known, Nat.reduceEqDiff, ↓reduceIte, if_true, if_false, eq_self, Nat.reduceAdd, Nat.reduceLT, Nat.reduceLeDiff, implies_true, reduceCtorEq, forall_const]) <;> simp)
      · simp -implicitDefEqProofs only [lk_normal, hil, hix, hiy, hx, hy, hlt, hc, ZB, Int.reduceToNat, Nat.reduceLT, Nat.reduceLeDiff, Int.reduceLE, Int.reduceLT, Nat.reduceEqDiff, Nat.reduceSub, SB, SV.known, packR, ne_eq, reduceCtorEq, Nat.reduceEqDiff, ↓reduceIte, if_true, if_false, eq_self, Nat.reduceAdd, Nat.reduceMul, Nat.reduceSub, forall_const, oneCellS, litOne, flat1, Kd.isSca, flat, TYB]
        refine ⟨by omega, by omega, by omega, by omega, ?_⟩
        congr 1
        apply propext
        rw [st]
        repeat' split
        all_goals omega
    · have hil : ¬ (i : Int) < 4 := by omega
      obtain rfl : i = 4 := by omega
      have e0 : lexC x y = 0 := by
        rw [he, List.drop_eq_nil_of_le (by omega)]; rfl
      simp -implicitDefEqProofs only [lk_normal, hil, e0, Int.lt_irrefl, ZB, Int.reduceToNat, Nat.reduceLT, Nat.reduceLeDiff, Int.reduceLE, Int.reduceLT, Nat.reduceEqDiff, Nat.reduceSub, SB, SV.known, packR, ne_eq, reduceCtorEq, Nat.reduceEqDiff, ↓reduceIte, if_true, if_false, eq_self, Nat.reduceAdd, Nat.reduceMul, Nat.reduceSub, forall_const, oneCellS, litOne, flat1, Kd.isSca, flat, TYB]
def l3Below_F : List SV → Heap → Option (Prop × SV)
  | [.arr x, .arr y], _ => some (x.length = 4 ∧ y.length = 4, .bool (decide (lexC x y < 0)))
  | _, _ => none
theorem l3Below_T : ∀ args H p v, l3Below_F args H = some (p, v) → p → PureH Try.prog 48 args H v := by
  intro args H p v h hp
  unfold l3Below_F at h
  split at h
  · cases h; exact (l3Below_ok _ _ hp.1 hp.2).any _
  · cases h
/-! Sorted tubes. -/
def insT (x : List Int) : List (List Int) → List (List Int)
  | [] => [x]
  | y :: l => if lexL x y = true then x :: y :: l else y :: insT x l
def srtT : List (List Int) → List (List Int)
  | [] => []
  | x :: l => insT x (srtT l)
theorem insT_perm (x : List Int) : ∀ l, (insT x l).Perm (x :: l)
  | [] => List.Perm.refl _
  | y :: l => by
    unfold insT
    split
    · exact List.Perm.refl _
    · exact (List.Perm.cons y (insT_perm x l)).trans (List.Perm.swap x y l)
theorem srtT_perm : ∀ l, (srtT l).Perm l
  | [] => List.Perm.refl _
  | x :: l => (insT_perm x (srtT l)).trans (List.Perm.cons x (srtT_perm l))
theorem insT_pw {w : Nat} {x : List Int} (hx : x.length = w) : ∀ {l : List (List Int)}, (∀ y ∈ l, y.length = w) → l.Pairwise (fun a b => lexL a b = true) → (insT x l).Pairwise (fun a b => lexL a b = true)
  | [], _, _ => by simp [insT]
  | y :: l, h, hp => by
    have hy := h y (List.mem_cons_self ..)
    rw [List.pairwise_cons] at hp
    unfold insT
    split
    · rename_i hxy
      rw [List.pairwise_cons]
      refine ⟨fun z hz => ?_, List.pairwise_cons.2 hp⟩
      rcases List.mem_cons.1 hz with rfl | hz
      · exact hxy
      · exact lexL_trans (by rw [hx, hy]) (by rw [hy, h z (List.mem_cons_of_mem _ hz)]) hxy (hp.1 z hz)
    · rename_i hxy
      have hyx := (lexL_total x y (by rw [hx, hy])).resolve_left hxy
      rw [List.pairwise_cons]
      refine ⟨fun z hz => ?_, insT_pw hx (fun z hz => h z (List.mem_cons_of_mem _ hz)) hp.2⟩
      rcases List.mem_cons.1 ((insT_perm x l).mem_iff.1 hz) with rfl | hz
      · exact hyx
      · exact hp.1 z hz
theorem srtT_pw {w : Nat} : ∀ {l : List (List Int)}, (∀ y ∈ l, y.length = w) → (srtT l).Pairwise (fun a b => lexL a b = true)
  | [], _ => List.Pairwise.nil
  | x :: l, h => insT_pw (h x (List.mem_cons_self ..)) (fun y hy => h y (List.mem_cons_of_mem _ ((srtT_perm l).mem_iff.1 hy))) (srtT_pw fun y hy => h y (List.mem_cons_of_mem _ hy))
def tubs (R : List Int) : List (List Int) := (List.range 6).map (tubeAt R)
theorem tubs_len {R : List Int} (hR : R.length = 24) : ∀ y ∈ tubs R, y.length = 4 := fun y hy => by
  obtain ⟨i, hi, rfl⟩ := List.mem_map.1 hy
  exact tubeAt_len hR (List.mem_range.1 hi)
theorem tubs_flat {R : List Int} (hR : R.length = 24) : (tubs R).flatten = R := by
  have h : ∀ m, m ≤ 6 → ((List.range m).map (tubeAt R)).flatten = R.take (m * 4) := fun m => by
    induction m with
    | zero => intro _; simp
    | succ m ih =>
      intro hm
      rw [List.range_succ, List.map_append, List.flatten_append, ih (by omega), show (m + 1) * 4 = m * 4 + 4 by omega, List.take_add]
      simp [tubeAt]
  have := h 6 (by omega)
  unfold tubs
  rw [this, List.take_of_length_le (by omega)]
def frm (R : List Int) : List Int := (srtT (tubs R)).flatten
/-- Another order of the tubes, sorted: the form. -/
theorem frm_of {R R' : List Int} (hR : R.length = 24) (hR' : R'.length = 24) (hp : (tubs R').Perm (tubs R)) (hs : (tubs R').Pairwise (fun a b => lexL a b = true)) : R' = frm R := by
  unfold frm
  rw [← lexL_one (tubs_len hR') (hp.trans (srtT_perm _).symm) hs (srtT_pw (tubs_len hR)), tubs_flat hR']
theorem frm_len {R : List Int} (hR : R.length = 24) : (frm R).length = 24 := by
  unfold frm
  have h1 : ∀ l : List (List Int), (∀ y ∈ l, y.length = 4) → l.flatten.length = l.length * 4 := fun l => by
    induction l with
    | nil => intro _; rfl
    | cons x l ih => intro h; rw [List.flatten_cons, List.length_append, ih (fun y hy => h y (List.mem_cons_of_mem _ hy)), h x (List.mem_cons_self ..), List.length_cons]; omega
  rw [h1 _ fun y hy => tubs_len hR y ((srtT_perm _).mem_iff.1 hy), (srtT_perm _).length_eq]
  simp [tubs]
/-! Exchanges of tubes. -/
def putT (R : List Int) (k : Nat) (v : List Int) : List Int := R.take (k * 4) ++ v ++ R.drop (k * 4 + 4)
theorem putT_len {R v : List Int} {k : Nat} (hR : R.length = 24) (hv : v.length = 4) (hk : k < 6) : (putT R k v).length = 24 := by
  unfold putT
  rw [List.length_append, List.length_append, List.length_take, List.length_drop]; omega
theorem tubeAt_put {R v : List Int} {k q : Nat} (hR : R.length = 24) (hv : v.length = 4) (hk : k < 6) (hq : q < 6) : tubeAt (putT R k v) q = if q = k then v else tubeAt R q := by
  have l1 : (R.take (k * 4)).length = k * 4 := by rw [List.length_take]; omega
  unfold tubeAt putT
  by_cases h : q = k
  · subst h
    rw [if_pos rfl, List.append_assoc, List.drop_left' l1, List.take_left' hv]
  · rw [if_neg h]
    by_cases hlt : q < k
    · rw [List.append_assoc, List.drop_append_of_le_length (by omega), List.take_append_of_le_length (by rw [List.length_drop]; omega), List.drop_take, List.take_take, Nat.min_eq_left (by omega)]
    · obtain ⟨d, rfl⟩ : ∃ d, q = k + 1 + d := ⟨q - (k + 1), by omega⟩
      rw [show (k + 1 + d) * 4 = (k * 4 + 4) + d * 4 by omega, ← List.drop_drop, List.drop_left' (by rw [List.length_append, l1, hv]), List.drop_drop]
def swT (R : List Int) (k : Nat) : List Int := putT (putT R k (tubeAt R (k + 1))) (k + 1) (tubeAt R k)
theorem swT_len {R : List Int} {k : Nat} (hR : R.length = 24) (hk : k < 5) : (swT R k).length = 24 :=
  putT_len (putT_len hR (tubeAt_len hR (by omega)) (by omega)) (tubeAt_len hR (by omega)) (by omega)
theorem tubeAt_sw {R : List Int} {k q : Nat} (hR : R.length = 24) (hk : k < 5) (hq : q < 6) : tubeAt (swT R k) q = if q = k then tubeAt R (k + 1) else if q = k + 1 then tubeAt R k else tubeAt R q := by
  unfold swT
  rw [tubeAt_put (putT_len hR (tubeAt_len hR (by omega)) (by omega)) (tubeAt_len hR (by omega)) (by omega) hq, tubeAt_put hR (tubeAt_len hR (by omega)) (by omega) hq]
  by_cases h1 : q = k + 1
  · rw [if_pos h1, if_neg (by omega), if_pos h1]
  · rw [if_neg h1, if_neg h1]
theorem tubs_sw {R : List Int} {k : Nat} (hR : R.length = 24) (hk : k < 5) : (tubs (swT R k)).Perm (tubs R) := by
  have e : tubs (swT R k) = (List.range 6).map fun q => if q = k then tubeAt R (k + 1) else if q = k + 1 then tubeAt R k else tubeAt R q :=
    List.map_congr_left fun q hq => tubeAt_sw hR hk (List.mem_range.1 hq)
  rw [e]
  have r6 : List.range 6 = [0, 1, 2, 3, 4, 5] := rfl
  unfold tubs
  rw [r6]
  obtain rfl | rfl | rfl | rfl | rfl : k = 0 ∨ k = 1 ∨ k = 2 ∨ k = 3 ∨ k = 4 := by omega
  · exact List.Perm.swap ..
  · exact (List.Perm.swap ..).cons _
  · exact ((List.Perm.swap ..).cons _).cons _
  · exact (((List.Perm.swap ..).cons _).cons _).cons _
  · exact ((((List.Perm.swap ..).cons _).cons _).cons _).cons _
/-- What a bubble sort keeps, in round i at place k. -/
structure Bub (R0 R : List Int) (i k : Nat) : Prop where
  len : R.length = 24
  perm : (tubs R).Perm (tubs R0)
  tail : ∀ p q, p < q → q ≤ 5 → 6 - i ≤ q → lexL (tubeAt R p) (tubeAt R q) = true
  top : ∀ p, p < k → lexL (tubeAt R p) (tubeAt R k) = true
  fin : 5 - i ≤ k → ∀ p, p < 5 - i → lexL (tubeAt R p) (tubeAt R (5 - i)) = true
theorem Bub.start {R : List Int} (hR : R.length = 24) : Bub R R 0 0 := ⟨hR, List.Perm.refl _, fun p q h1 h2 h3 => by omega, fun p h => by omega, fun h => by omega⟩
theorem Bub.round {R0 R : List Int} {i : Nat} (h : Bub R0 R i 5) (hi : i < 6) : Bub R0 R (i + 1) 0 := by
  refine ⟨h.len, h.perm, fun p q h1 h2 h3 => ?_, fun p hp => by omega, fun h0 p hp => by omega⟩
  by_cases hq : 6 - i ≤ q
  · exact h.tail p q h1 h2 hq
  · obtain rfl : q = 5 - i := by omega
    exact h.fin (by omega) p h1
theorem Bub.keep {R0 R : List Int} {i k : Nat} (h : Bub R0 R i k) (hk : k < 5) (hc : ¬ lexC (tubeAt R (k + 1)) (tubeAt R k) < 0) : Bub R0 R i (k + 1) := by
  have hl : lexL (tubeAt R k) (tubeAt R (k + 1)) = true := by simp only [lexL, Bool.not_eq_true', decide_eq_false_iff_not]; exact hc
  have l4 := fun q (hq : q < 6) => tubeAt_len h.len hq
  have htop : ∀ p, p < k + 1 → lexL (tubeAt R p) (tubeAt R (k + 1)) = true := fun p hp => by
    by_cases hpk : p = k
    · subst hpk; exact hl
    · exact lexL_trans (by rw [l4 p (by omega), l4 k (by omega)]) (by rw [l4 k (by omega), l4 (k + 1) (by omega)]) (h.top p (by omega)) hl
  refine ⟨h.len, h.perm, h.tail, htop, fun h1 p hp => ?_⟩
  by_cases h2 : 5 - i ≤ k
  · exact h.fin h2 p hp
  · obtain h3 : 5 - i = k + 1 := by omega
    rw [h3]
    exact htop p (by omega)
theorem Bub.swap {R0 R : List Int} {i k : Nat} (h : Bub R0 R i k) (hk : k < 5) (hc : lexC (tubeAt R (k + 1)) (tubeAt R k) < 0) : Bub R0 (swT R k) i (k + 1) := by
  have l4 := fun q (hq : q < 6) => tubeAt_len h.len hq
  have hl : lexL (tubeAt R (k + 1)) (tubeAt R k) = true := by
    simp only [lexL, Bool.not_eq_true', decide_eq_false_iff_not]
    intro h2
    have := lexC_trans (by rw [l4 k (by omega), l4 (k + 1) (by omega)]) (by rw [l4 k (by omega), l4 (k + 1) (by omega)]) h2 hc
    rw [lexC_refl] at this; omega
  have hnot : k + 1 < 6 - i := by
    rcases Nat.lt_or_ge (k + 1) (6 - i) with h1 | h1
    · exact h1
    · have := h.tail k (k + 1) (by omega) (by omega) h1
      simp only [lexL, Bool.not_eq_true', decide_eq_false_iff_not] at this
      exact absurd hc this
  have ts := fun q (hq : q < 6) => tubeAt_sw (k := k) h.len hk hq
  have htop : ∀ p, p < k + 1 → lexL (tubeAt (swT R k) p) (tubeAt (swT R k) (k + 1)) = true := fun p hp => by
    rw [ts p (by omega), ts (k + 1) (by omega), if_neg (by omega : ¬ k + 1 = k), if_pos (rfl : k + 1 = k + 1)]
    by_cases hpk : p = k
    · rw [if_pos hpk]; exact hl
    · rw [if_neg hpk, if_neg (by omega)]; exact h.top p (by omega)
  refine ⟨swT_len h.len hk, (tubs_sw h.len hk).trans h.perm, fun p q h1 h2 h3 => ?_, htop, fun h1 p hp => ?_⟩
  · rw [ts p (by omega), ts q (by omega), if_neg (by omega : ¬ q = k), if_neg (by omega : ¬ q = k + 1)]
    by_cases hp1 : p = k
    · rw [if_pos hp1]; exact h.tail (k + 1) q (by omega) h2 h3
    · rw [if_neg hp1]
      by_cases hp2 : p = k + 1
      · rw [if_pos hp2]; exact h.tail k q (by omega) h2 h3
      · rw [if_neg hp2]; exact h.tail p q h1 h2 h3
  · obtain h4 : 5 - i = k + 1 := by omega
    rw [h4]
    exact htop p (by omega)
theorem Bub.done {R0 R : List Int} {k : Nat} (hR : R0.length = 24) (h : Bub R0 R 6 k) : R = frm R0 := by
  refine frm_of hR h.len h.perm ?_
  unfold tubs
  rw [List.pairwise_map]
  have : (List.range 6).Pairwise (fun a b => a < b ∧ b < 6) := by decide
  exact this.imp fun {a b} hab => h.tail a b hab.1 (by omega) (by omega)
theorem l3Form_ok (R : List Int) (hR : R.length = 24) : PureH Try.prog 19 [.arr R] [] (.arr (frm R)) := by
  have tkR : R.take 24 = R := List.take_of_length_le (by omega)
  refine pure_of_vc (X := ⟨Try.prog, tys, [(48, l3Below_F)], [], true, true, 0, [], [(8, .tree (.one 0 (.one 1 (.one 2 (.one 3 (.one 4 (.one 5 (.one 6 (.one 7 (.alt 8 (.alt 9 (.one 10 (.one 11 (.one 12 .done))) (.alt 10 (.one 9 (.one 11 (.one 12 .done))) .stop)) (.alt 9 (.alt 8 (.one 10 (.one 11 (.one 12 .done))) (.alt 10 (.alt 8 (.one 11 (.one 12 .done)) (.alt 11 (.one 8 (.one 12 .done)) .stop)) .stop)) (.alt 10 (.alt 8 (.one 9 (.one 11 (.one 12 .done))) (.alt 9 (.alt 8 (.one 11 (.one 12 .done)) (.alt 11 (.one 8 (.one 12 .done)) .stop)) .stop)) .stop))))))))))))]⟩) fn_19 ⟨tys_ok, (.cons l3Below_T .nil), .nil, mixed⟩ (n0 := 0) (Nat.le_of_ble_eq_true rfl) (by simp [wfL, SV.wf]) (wfH_spec (by simp [wfH, SObj.wf, wfL, SV.wf])) (Nat.le_refl _) (fun _ => by simp [SV.wf, wfL]) ?_
  simp -implicitDefEqProofs only [Try.f19, Option.getD_some, argS, l3Below_F, hR, tkR, ZB, Int.reduceToNat, Nat.reduceLT, Nat.reduceLeDiff, Int.reduceLE, Int.reduceLT, Nat.reduceEqDiff, Nat.reduceSub, SB, SV.known, packR, ne_eq, reduceCtorEq, Nat.reduceEqDiff, ↓reduceIte, if_true, if_false, eq_self, Nat.reduceAdd, Nat.reduceMul, Nat.reduceSub, forall_const, oneCellS, litOne, flat1, Kd.isSca, flat, TYB]
  refine loop_intro (fun s : Nat × List Int => [(3, .int s.1), (2, .ptr 1 0), (1, .ptr 0 0)]) (fun s => [(1, .ints (List.replicate 24 0) 29), (0, .ints s.2 29)]) 2 (fun s => s.1 ≤ 6 ∧ Bub R s.2 s.1 0) (fun s => 6 - s.1) ?_ ?_
  · refine ⟨(0, R), ⟨by simp, Bub.start hR⟩, Sub.mk_id ?_ ?_ ?_ ?_ ?_⟩
    all_goals ((try simp only [LB, subS, subH, wfS, wfH, SV.ren, renL, SObj.ren, SV.wf, SObj.wf, wfL, SV.known, Nat.reduceEqDiff, ↓reduceIte, if_true, if_false, eq_self, Nat.reduceAdd, Nat.reduceLT, Nat.reduceLeDiff, implies_true, reduceCtorEq, forall_const]) <;> simp)
  · rintro ⟨i, Q⟩ ⟨hi, hb⟩
    simp only at hi hb
    by_cases hlt : i < 6
    · have hil : (i : Int) < 6 := by omega
      simp -implicitDefEqProofs only [lk_normal, hil, ZB, Int.reduceToNat, Nat.reduceLT, Nat.reduceLeDiff, Int.reduceLE, Int.reduceLT, Nat.reduceEqDiff, Nat.reduceSub, SB, SV.known, packR, ne_eq, reduceCtorEq, Nat.reduceEqDiff, ↓reduceIte, if_true, if_false, eq_self, Nat.reduceAdd, Nat.reduceMul, Nat.reduceSub, forall_const, oneCellS, litOne, flat1, Kd.isSca, flat, TYB]
      refine loop_intro (fun s : Nat × List Int => [(4, .int s.1), (3, .int i), (2, .ptr 1 0), (1, .ptr 0 0)]) (fun s => [(1, .ints (List.replicate 24 0) 29), (0, .ints s.2 29)]) 2 (fun s => s.1 ≤ 5 ∧ Bub R s.2 i s.1) (fun s => 5 - s.1) ?_ ?_
      · refine ⟨(0, Q), ⟨by simp, hb⟩, Sub.mk_id ?_ ?_ ?_ ?_ ?_⟩
        all_goals ((try simp only [LB, subS, subH, wfS, wfH, SV.ren, renL, SObj.ren, SV.wf, SObj.wf, wfL, SV.known, Nat.reduceEqDiff, ↓reduceIte, if_true, if_false, eq_self, Nat.reduceAdd, Nat.reduceLT, Nat.reduceLeDiff, implies_true, reduceCtorEq, forall_const]) <;> simp)
      · rintro ⟨k, Q⟩ ⟨hk, hb⟩
        simp only at hk hb
        have hQ := hb.len
        by_cases hk5 : k < 5
        · have hkl : (k : Int) + 1 < 6 := by omega
          have tk1 : ((k : Int) + 1).toNat = k + 1 := by omega
          have e1 : List.take 4 (List.drop (k * 4) Q) = tubeAt Q k := rfl
          have e2 : List.take 4 (List.drop ((k + 1) * 4) Q) = tubeAt Q (k + 1) := rfl
          have l1 := tubeAt_len hQ (show k < 6 by omega)
          have l2 := tubeAt_len hQ (show k + 1 < 6 by omega)
          by_cases hc : lexC (tubeAt Q (k + 1)) (tubeAt Q k) < 0
          · simp -implicitDefEqProofs only [lk_normal, l3Below_F, hkl, tk1, e1, e2, l1, l2, hQ, hc, ZB, Int.reduceToNat, Nat.reduceLT, Nat.reduceLeDiff, Int.reduceLE, Int.reduceLT, Nat.reduceEqDiff, Nat.reduceSub, SB, SV.known, packR, ne_eq, reduceCtorEq, Nat.reduceEqDiff, ↓reduceIte, if_true, if_false, eq_self, Nat.reduceAdd, Nat.reduceMul, Nat.reduceSub, forall_const, oneCellS, litOne, flat1, Kd.isSca, flat, TYB]
            refine ⟨by unfold In64; omega, by unfold In64; omega, by omega, by omega, by omega, by omega, by omega, ?_⟩
            refine ⟨Unit, fun _ => [(4, .int k), (3, .int i), (2, .ptr 1 0), (1, .ptr 0 0), (5, .ptr 2 0), (6, .ptr 3 0)], fun _ => [(2, .ints (tubeAt Q k) 22), (3, .ints (tubeAt Q (k + 1)) 22), (1, .ints (List.replicate 24 0) 29), (0, .ints Q 29)], fun _ => 4, ?_, fun _ => ?_⟩
            · have i1 : In64 ((k : Int) + 1) := by unfold In64; omega
              have i2 : 0 ≤ (k : Int) := by omega
              have i3 : (k : Int) < 6 := by omega
              have i4 : 0 ≤ (k : Int) + 1 := by omega
              have i5 : k * 4 ≤ 20 := by omega
              have i6 : (k + 1) * 4 ≤ 20 := by omega
              simp -implicitDefEqProofs only [hkl, tk1, e1, e2, l1, l2, hQ, i1, i2, i3, i4, i5, i6, ZB, Int.reduceToNat, Nat.reduceLT, Nat.reduceLeDiff, Int.reduceLE, Int.reduceLT, Nat.reduceEqDiff, Nat.reduceSub, SB, SV.known, packR, ne_eq, reduceCtorEq, Nat.reduceEqDiff, ↓reduceIte, if_true, if_false, eq_self, Nat.reduceAdd, Nat.reduceMul, Nat.reduceSub, forall_const, oneCellS, litOne, flat1, Kd.isSca, flat, TYB]
              repeat' apply And.intro
              all_goals (first
                | (refine ⟨(), Sub.mk_id ?_ ?_ ?_ ?_ ?_⟩ <;> ((try simp only [LB, subS, subH, wfS, wfH, SV.ren, renL, SObj.ren, SV.wf, SObj.wf, wfL, SV.known, Nat.reduceEqDiff, ↓reduceIte, if_true, if_false, eq_self, Nat.reduceAdd, Nat.reduceLT, Nat.reduceLeDiff, implies_true, reduceCtorEq, forall_const]) <;> simp) <;> done)
                | (refine ⟨(), Sub.mk_to2 2 3 3 2 ?_ ?_ ?_ ?_ ?_ ?_ ?_ ?_⟩ <;> ((try simp only [LB, subS, subH, wfS, wfH, SV.ren, renL, SObj.ren, SV.wf, SObj.wf, wfL, SV.known, Nat.reduceEqDiff, ↓reduceIte, if_true, if_false, eq_self, Nat.reduceAdd, Nat.reduceLT, Nat.reduceLeDiff, implies_true, reduceCtorEq, forall_const]) <;> simp) <;> done))
            · have t1 : List.take 4 (tubeAt Q k) = tubeAt Q k := List.take_of_length_le (by omega)
              have t2 : List.take 4 (tubeAt Q (k + 1)) = tubeAt Q (k + 1) := List.take_of_length_le (by omega)
              have p1 : List.take (k * 4) Q ++ tubeAt Q (k + 1) ++ List.drop (k * 4 + 4) Q = putT Q k (tubeAt Q (k + 1)) := rfl
              have p2 : List.take ((k + 1) * 4) (putT Q k (tubeAt Q (k + 1))) ++ tubeAt Q k ++ List.drop ((k + 1) * 4 + 4) (putT Q k (tubeAt Q (k + 1))) = swT Q k := rfl
              have lp := putT_len hQ l2 (show k < 6 by omega)
              simp -implicitDefEqProofs only [lk_normal, hkl, tk1, e1, e2, l1, l2, hQ, t1, t2, p1, p2, lp, ZB, Int.reduceToNat, Nat.reduceLT, Nat.reduceLeDiff, Int.reduceLE, Int.reduceLT, Nat.reduceEqDiff, Nat.reduceSub, SB, SV.known, packR, ne_eq, reduceCtorEq, Nat.reduceEqDiff, ↓reduceIte, if_true, if_false, eq_self, Nat.reduceAdd, Nat.reduceMul, Nat.reduceSub, forall_const, oneCellS, litOne, flat1, Kd.isSca, flat, TYB]
              refine ⟨by omega, by omega, by omega, by unfold In64; omega, by omega, by omega, by unfold In64; omega, (k + 1, swT Q k), ⟨by simp only; omega, hb.swap hk5 hc⟩, by simp only; omega, Sub.mk_id ?_ ?_ ?_ ?_ ?_⟩
              all_goals ((try simp only [LB, subS, subH, wfS, wfH, SV.ren, renL, SObj.ren, SV.wf, SObj.wf, wfL, SV.known, Nat.reduceEqDiff, ↓reduceIte, if_true, if_false, eq_self, Nat.reduceAdd, Nat.reduceLT, Nat.reduceLeDiff, implies_true, reduceCtorEq, forall_const]) <;> simp)
          · simp -implicitDefEqProofs only [lk_normal, l3Below_F, hkl, tk1, e1, e2, l1, l2, hQ, hc, ZB, Int.reduceToNat, Nat.reduceLT, Nat.reduceLeDiff, Int.reduceLE, Int.reduceLT, Nat.reduceEqDiff, Nat.reduceSub, SB, SV.known, packR, ne_eq, reduceCtorEq, Nat.reduceEqDiff, ↓reduceIte, if_true, if_false, eq_self, Nat.reduceAdd, Nat.reduceMul, Nat.reduceSub, forall_const, oneCellS, litOne, flat1, Kd.isSca, flat, TYB]
            refine ⟨by unfold In64; omega, by unfold In64; omega, by omega, by omega, by omega, by omega, by omega, by unfold In64; omega, (k + 1, Q), ⟨by simp only; omega, hb.keep hk5 hc⟩, by simp only; omega, Sub.mk_id ?_ ?_ ?_ ?_ ?_⟩
            all_goals ((try simp only [LB, subS, subH, wfS, wfH, SV.ren, renL, SObj.ren, SV.wf, SObj.wf, wfL, SV.known, Nat.reduceEqDiff, ↓reduceIte, if_true, if_false, eq_self, Nat.reduceAdd, Nat.reduceLT, Nat.reduceLeDiff, implies_true, reduceCtorEq, forall_const]) <;> simp)
        · obtain rfl : k = 5 := by omega
          have hkl : ¬ (5 : Int) + 1 < 6 := by omega
          simp -implicitDefEqProofs only [lk_normal, hkl, ZB, Int.reduceToNat, Nat.reduceLT, Nat.reduceLeDiff, Int.reduceLE, Int.reduceLT, Nat.reduceEqDiff, Nat.reduceSub, SB, SV.known, packR, ne_eq, reduceCtorEq, Nat.reduceEqDiff, ↓reduceIte, if_true, if_false, eq_self, Nat.reduceAdd, Nat.reduceMul, Nat.reduceSub, forall_const, oneCellS, litOne, flat1, Kd.isSca, flat, TYB]
          refine ⟨by unfold In64; omega, by unfold In64; omega, (i + 1, Q), ⟨by simp only; omega, hb.round hlt⟩, by simp only; omega, Sub.mk_id ?_ ?_ ?_ ?_ ?_⟩
          all_goals ((try simp only [LB, subS, subH, wfS, wfH, SV.ren, renL, SObj.ren, SV.wf, SObj.wf, wfL, SV.known, Nat.reduceEqDiff, ↓reduceIte, if_true, if_false, eq_self, Nat.reduceAdd, Nat.reduceLT, Nat.reduceLeDiff, implies_true, reduceCtorEq, forall_const]) <;> simp)
    · have hil : ¬ (i : Int) < 6 := by omega
      obtain rfl : i = 6 := by omega
      have hd := hb.done hR
      have tkQ : List.take 24 Q = Q := List.take_of_length_le (by have := hb.len; omega)
      have hQ := hb.len
      simp -implicitDefEqProofs only [lk_normal, hil, hQ, tkQ, ZB, Int.reduceToNat, Nat.reduceLT, Nat.reduceLeDiff, Int.reduceLE, Int.reduceLT, Nat.reduceEqDiff, Nat.reduceSub, SB, SV.known, packR, ne_eq, reduceCtorEq, Nat.reduceEqDiff, ↓reduceIte, if_true, if_false, eq_self, Nat.reduceAdd, Nat.reduceMul, Nat.reduceSub, forall_const, oneCellS, litOne, flat1, Kd.isSca, flat, TYB]
      exact hd
--@tbl l3Form = spec.l3Form
def l3Form_F : List SV → Heap → Option (Prop × SV)
  | [.arr R], _ => some (R.length = 24, .arr (frm R))
  | _, _ => none
theorem l3Form_T : ∀ args H p v, l3Form_F args H = some (p, v) → p → PureH Try.prog 19 args H v := by
  intro args H p v h hp
  unfold l3Form_F at h
  split at h
  · cases h; exact (l3Form_ok _ hp).any _
  · cases h
end Go.Proofs.Ytaopbefklkbmeaa
set_option maxRecDepth 100000
set_option linter.unusedSimpArgs false
set_option linter.unusedVariables false
namespace Go.Proofs.Ytaopbefklkbmeaa
open Go Go.RowKit

structure UpdP (P : Program) (f : FuncId) (args : List SV) (b : Nat) (H0 : Heap) (o o' : SObj) (r : SV) : Prop where
  ent : Entd P f
  lo : o.live = true
  wo : ∀ n, o'.wf n
  call : ∀ B w, HR B ((b, o) :: H0) w → Calls P f (denL B args).toArray w fun e w' => e = .returned (r.den B) ∧ Kept (fun i => i = B b ∨ w.heap.size ≤ i) w w' ∧ w'.heap[B b]? = some (o'.den B)

theorem upd_of_vc {X : Cx} {f : FuncId} {fn : Func} {c : Code} (hf : FnOK X.P f fn c X.sx X.hr) (hX : CxOK X) {n0 b : Nat} {args : List SV} {H0 : Heap} {o o' : SObj} {r : SV} (hb : b < n0) (hN : args.length ≤ fn.ntmps) (hwa : wfL n0 args) (hwH : hwf n0 ((b, o) :: H0)) (hm : ∀ k o1, hget H0 k = some o1 → k < X.m) (hlo : o.live = true) (hlo' : o'.live = true) (hwo : ∀ n, o'.wf n) (hwr : r.wf n0)
    (h : codeVC X n0 c (argS 0 args) ((b, o) :: H0) n0 (retK X.τ fn.results.toList fun v H' _ => v = r ∧ hget H' b = some o')) (hfo' : o'.full = true := by rfl) : UpdP X.P f args b H0 o o' r := by
  refine ⟨hf.ent, hlo, hwo, fun B w hH => ?_⟩
  have hown : Own (fun i => i = B b ∨ w.heap.size ≤ i) X.m B ((b, o) :: H0) := by
    intro k o1 hl _ hmk
    rw [hget_cons] at hl
    split at hl
    · rename_i hkb; subst hkb; exact .inl rfl
    · have := hm k o1 hl; omega
  refine (run_of_vc hf hX hN hwa hwH (Nat.le_refl _) h B (fun i => i = B b ∨ w.heap.size ≤ i) w hH hown (fun _ h => .inr h)).mono fun e w' hh => ?_
  obtain ⟨v, H', n', B', rfl, ⟨rfl, h2⟩, g1, g2, g3, g4, g5, g6, g7⟩ := hh
  refine ⟨?_, g5, ?_⟩
  · rw [SV.den_congr (n := n0) g6 v hwr]
  · have := SObj.den_of_sat hfo' (g3.at_ b o' h2 hlo')
    rw [g6 b hb] at this
    rw [this, SObj.den_congr (n := 0) (fun k hk => by omega) o' (hwo 0)]

theorem gen_of_upd {P : Program} {f : FuncId} {args : List SV} {b : Nat} {H0 H : Heap} {o o' : SObj} {r : SV} {n m : Nat} {κ : K1} (h : UpdP P f args b H0 o o' r) (ρ : Nat → Nat) (hs : ∀ k o1, hget ((b, o) :: H0) k = some o1 → hget H (ρ k) = some (o1.ren ρ))
    (hi : ∀ k o1 j o2, hget ((b, o) :: H0) k = some o1 → hget ((b, o) :: H0) j = some o2 → ρ k = ρ j → k = j) (hm : m ≤ ρ b) (hlo' : o'.live = true) (hwr : ∀ n, ρ b < n → (r.ren ρ).wf n) (hk : κ (r.ren ρ) ((ρ b, o') :: H) n) (hfo' : o'.full = true := by rfl) : GenOK P f (renL ρ args) H n m κ := by
  refine ⟨h.ent, fun B M w hH hwH hwa hown hM => ?_⟩
  have hb0 : hget H (ρ b) = some (o.ren ρ) := hs b o (by rw [hget_cons, if_pos rfl])
  have hlive : (o.ren ρ).live = true := by rw [SObj.live_ren]; exact h.lo
  have hR : HR (fun k => B (ρ k)) ((b, o) :: H0) w := ⟨fun k o1 hl hk1 => by
    have := hH.at_ _ _ (hs k o1 hl) (by rw [SObj.live_ren]; exact hk1)
    rw [SObj.sat_ren] at this
    exact this, fun k j o1 o2 h1 h2 h3 h4 he => hi k o1 j o2 h1 h3 (hH.inj _ _ _ _ (hs k o1 h1) (by rw [SObj.live_ren]; exact h2) (hs j o2 h3) (by rw [SObj.live_ren]; exact h4) he)⟩
  rw [denL_ren]
  refine (h.call _ w hR).mono fun e w' hh => ?_
  obtain ⟨rfl, hkept, hblk⟩ := hh
  have hbn := (hwH (ρ b) _ hb0).1
  have hden : o'.den (fun k => B (ρ k)) = o'.den B := by
    rw [SObj.den_congr (n := 0) (B := B) (B' := fun k => B (ρ k)) (fun k hk => by omega) o' (h.wo 0)]
  have off : ∀ k o1, hget H k = some o1 → o1.live = true → k ≠ ρ b → o1.sat B w' (B k) := fun k o1 hl hk1 hne => by
    have hlt := hH.lt hl hk1
    exact SObj.sat_heap (hkept.block (B k) hlt (fun hc => by
      rcases hc with hc | hc
      · exact hne (hH.inj k (ρ b) _ _ hl hk1 hb0 hlive hc)
      · omega)) (hH.at_ k o1 hl hk1)
  refine ⟨r.ren ρ, (ρ b, o') :: H, n, B, by rw [SV.den_ren], hk, Nat.le_refl _, hwr n hbn, hwf_cons hwH hbn (h.wo n), fun _ _ => rfl, ⟨fun k o1 hl hk1 => ?_, fun k j o1 o2 h1 h2 h3 h4 he => ?_⟩, ?_, ?_⟩
  · rw [hget_cons] at hl
    split at hl
    · rename_i hkb
      subst hkb
      cases hl
      exact SObj.sat_of_den hfo' (by rw [hblk, hden])
    · rename_i hkb
      exact off k o1 hl hk1 hkb
  · rw [hget_cons] at h1 h3
    have up : ∀ k o1, (if k = ρ b then some o' else hget H k) = some o1 → o1.live = true → ∃ o2, hget H k = some o2 ∧ o2.live = true := fun k o1 hl hk1 => by
      split at hl
      · rename_i hkb; rw [hkb]; exact ⟨_, hb0, hlive⟩
      · exact ⟨o1, hl, hk1⟩
    obtain ⟨p1, q1, r1⟩ := up k o1 h1 h2
    obtain ⟨p2, q2, r2⟩ := up j o2 h3 h4
    exact hH.inj k j p1 p2 q1 r1 q2 r2 he
  · intro k o1 hl hk1 hmk
    rw [hget_cons] at hl
    split at hl
    · rename_i hkb; rw [hkb]; exact hown (ρ b) _ hb0 hlive hm
    · exact hown k o1 hl hk1 hmk
  · refine ⟨hkept.os, hkept.tape, hkept.output, hkept.size, fun i hi1 hi2 => hkept.block i hi1 fun hc => ?_, hkept.drawn⟩
    rcases hc with hc | hc
    · rw [hc] at hi2; exact hi2 (hown (ρ b) _ hb0 hlive hm)
    · omega

/-- A heap that holds another one. -/
def Ext (Hc H : Heap) : Prop := ∀ k o, hget Hc k = some o → hget H k = some o
theorem Ext.refl (H : Heap) : Ext H H := fun _ _ h => h
theorem Ext.cons {Hc H : Heap} {b : Nat} {o : SObj} {n : Nat} (hw : hwf n Hc) (hb : n ≤ b) (h : Ext Hc H) : Ext Hc ((b, o) :: H) := fun k o1 hk => by
  have := (hw k o1 hk).1
  rw [hget_cons, if_neg (by omega)]
  exact h k o1 hk
theorem hget_app (l Hc : Heap) (k : Nat) : hget (l ++ Hc) k = (hget l k).or (hget Hc k) := by
  induction l with
  | nil => simp [hget]
  | cons q l ih =>
    obtain ⟨b, o⟩ := q
    rw [List.cons_append, hget_cons, hget_cons, ih]
    split <;> rfl
theorem Sub.mk_ext {p m : Nat} {S S' : Env} {H l Hc : Heap} {n' : Nat} (h1 : subS (fun k => k) S S') (h2 : subH (fun k => k) m H l) (h3 : wfS n' S') (h4 : wfH n' l) (h5 : p ≤ n') (hE : Ext Hc H) (hw : hwf n' Hc) : Sub p m S H S' (l ++ Hc) n' := by
  refine ⟨fun k => k, h1, fun k o hk => ?_, h3, fun k o hk => ?_, fun _ _ _ _ h => h, fun _ _ => rfl, h5⟩
  · rw [hget_app] at hk
    cases hl : hget l k with
    | none =>
      rw [hl] at hk
      simp at hk
      exact ⟨by rw [SObj.ren_id]; exact hE k o hk, fun h => h, by
        have := mem_keys hk
        simp only [List.map_append, List.mem_append]
        exact .inr this⟩
    | some o1 =>
      rw [hl] at hk
      simp at hk
      subst hk
      obtain ⟨g1, g2, g3⟩ := subH_spec h2 k o1 hl
      exact ⟨g1, g2, by simp only [List.map_append, List.mem_append]; exact .inl g3⟩
  · rw [hget_app] at hk
    cases hl : hget l k with
    | none => rw [hl] at hk; simp at hk; exact hw k o hk
    | some o1 => rw [hl] at hk; simp at hk; subst hk; exact wfH_spec h4 k o1 hl
end Go.Proofs.Ytaopbefklkbmeaa
set_option maxRecDepth 100000
set_option linter.unusedSimpArgs false
set_option linter.unusedVariables false
namespace Go.Proofs.Ytaopbefklkbmeaa
open Go Go.RowKit

mutual
theorem SV.wf_ren {n N : Nat} {ρ : Nat → Nat} (h : ∀ k, k < n → ρ k < N) : ∀ v : SV, v.wf n → (v.ren ρ).wf N
  | .non, _ => trivial
  | .und, _ => trivial
  | .int _, _ => trivial
  | .bool _, _ => trivial
  | .arr _, _ => trivial
  | .barr _, _ => trivial
  | .lit _, _ => trivial
  | .nils, _ => trivial
  | .ptr b o, hw => by simp only [SV.ren, SV.wf] at *; exact h b hw
  | .slice b o l c, hw => by simp only [SV.ren, SV.wf] at *; exact h b hw
  | .mp b, hw => by simp only [SV.ren, SV.wf] at *; exact h b hw
  | .fn f caps, hw => by simp only [SV.ren, SV.wf] at *; exact wfL_ren h caps hw
  | .tup l, hw => by simp only [SV.ren, SV.wf] at *; exact wfL_ren h l hw
  | .stc l, hw => by simp only [SV.ren, SV.wf] at *; exact wfL_ren h l hw
theorem wfL_ren {n N : Nat} {ρ : Nat → Nat} (h : ∀ k, k < n → ρ k < N) : ∀ l : List SV, wfL n l → wfL N (renL ρ l)
  | [], _ => trivial
  | v :: r, hw => by simp only [renL, wfL] at *; exact ⟨SV.wf_ren h v hw.1, wfL_ren h r hw.2⟩
end
theorem SObj.wf_ren {n N : Nat} {ρ : Nat → Nat} (h : ∀ k, k < n → ρ k < N) (o : SObj) (hw : o.wf n) : (o.ren ρ).wf N := by
  cases o <;> simp only [SObj.ren, SObj.wf] at *
  exact wfL_ren h _ hw
/-- Names of a call's blocks among the caller's. -/
def ext (ρ : Nat → Nat) (n0 n : Nat) : Nat → Nat := fun k => if k < n0 then ρ k else n + (k - n0)
theorem ext_lt {ρ : Nat → Nat} {n0 n k : Nat} (h : k < n0) : ext ρ n0 n k = ρ k := if_pos h
theorem ext_ge {ρ : Nat → Nat} {n0 n k : Nat} (h : n0 ≤ k) : ext ρ n0 n k = n + (k - n0) := if_neg (by omega)
def renH (ρ : Nat → Nat) (H : Heap) : Heap := H.map fun q => (ρ q.1, q.2.ren ρ)
theorem renH_get {ρ : Nat → Nat} (hi : ∀ a b, ρ a = ρ b → a = b) (H : Heap) (k : Nat) : hget (renH ρ H) (ρ k) = (hget H k).map (SObj.ren ρ) := by
  induction H with
  | nil => rfl
  | cons q H ih =>
    obtain ⟨b, o⟩ := q
    show hget ((ρ b, o.ren ρ) :: renH ρ H) (ρ k) = _
    rw [hget_cons, hget_cons, ih]
    by_cases h : k = b
    · subst h; rw [if_pos rfl, if_pos rfl]; rfl
    · rw [if_neg (fun h2 => h (hi _ _ h2)), if_neg h]
theorem renH_key {ρ : Nat → Nat} (H : Heap) {j : Nat} {o : SObj} (h : hget (renH ρ H) j = some o) : ∃ k, j = ρ k := by
  induction H with
  | nil => cases h
  | cons q H ih =>
    obtain ⟨b, o1⟩ := q
    have h' : hget ((ρ b, o1.ren ρ) :: renH ρ H) j = some o := h
    rw [hget_cons] at h'
    split at h'
    · exact ⟨b, by assumption⟩
    · exact ih h'
/-- What a walk comes to: a value and blocks under names of its own. -/
def finK (p m : Nat) (ψ : SV → Heap → Nat → Prop) : K1 := fun v H' _ => ∃ v' H'' n'', Sub p m [(0, v)] H' [(0, v')] H'' n'' ∧ ψ v' H'' n''

theorem gen_of_vc {X : Cx} {f : FuncId} {fn : Func} {c : Code} (hf : FnOK X.P f fn c X.sx X.hr) (hX : CxOK X) {n0 : Nat} {args : List SV} {H0 : Heap} {ψ : SV → Heap → Nat → Prop} (hN : args.length ≤ fn.ntmps) (hwa : wfL n0 args) (hwH : hwf n0 H0) (hm0 : X.m ≤ n0)
    (h : codeVC X n0 c (argS 0 args) H0 n0 (retK X.τ fn.results.toList (finK n0 X.m ψ)))
    (ρ : Nat → Nat) {H : Heap} {n m : Nat} {κ : K1} (hdom : ∀ k, k < n0 → ∃ o, hget H0 k = some o) (hi : ∀ a b, a < n0 → b < n0 → ρ a = ρ b → a = b)
    (hs : ∀ k o, hget H0 k = some o → hget H (ρ k) = some (o.ren ρ)) (hm : ∀ k o, hget H0 k = some o → X.m ≤ k → m ≤ ρ k)
    (hq : ∀ v H' n', ψ v H' n' → (∀ k o, hget H0 k = some o → o.live = true → X.m ≤ k → (hget H' k).isSome = true) ∧ (∀ k o, hget H' k = some o → o.live = true → k < X.m → ∃ o0, hget H0 k = some o0 ∧ o0.live = true))
    (hk : ∀ v H' n', ψ v H' n' → n0 ≤ n' → κ (v.ren (ext ρ n0 n)) (renH (ext ρ n0 n) H' ++ H) (n + (n' - n0))) : GenOK X.P f (renL ρ args) H n m κ := by
  refine ⟨hf.ent, fun B M w hH hwHH hwa' hown hM => ?_⟩
  have hρ : ∀ k, k < n0 → ρ k < n := fun k hk0 => by
    obtain ⟨o, ho⟩ := hdom k hk0
    exact (hwHH _ _ (hs k o ho)).1
  have hR : HR (fun k => B (ρ k)) H0 w := ⟨fun k o hl hk1 => by
    have := hH.at_ _ _ (hs k o hl) (by rw [SObj.live_ren]; exact hk1)
    rw [SObj.sat_ren] at this
    exact this, fun k j o1 o2 h1 h2 h3 h4 he => hi k j (hwH k o1 h1).1 (hwH j o2 h3).1 (hH.inj _ _ _ _ (hs k o1 h1) (by rw [SObj.live_ren]; exact h2) (hs j o2 h3) (by rw [SObj.live_ren]; exact h4) he)⟩
  rw [denL_ren]
  let M0 : Nat → Prop := fun i => (∃ k o, hget H0 k = some o ∧ o.live = true ∧ X.m ≤ k ∧ i = B (ρ k)) ∨ w.heap.size ≤ i
  have hM0 : ∀ i, M0 i → M i := fun i hi0 => by
    rcases hi0 with ⟨k, o, h1, h2, h3, rfl⟩ | h1
    · exact hown _ _ (hs k o h1) (by rw [SObj.live_ren]; exact h2) (hm k o h1 h3)
    · exact hM i h1
  have hown0 : Own M0 X.m (fun k => B (ρ k)) H0 := fun k o h1 h2 h3 => .inl ⟨k, o, h1, h2, h3, rfl⟩
  refine (run_of_vc hf hX hN hwa hwH (Nat.le_refl _) h (fun k => B (ρ k)) M0 w hR hown0 (fun _ h => .inr h)).mono fun e w' hh => ?_
  obtain ⟨v1, H1, n1, B1, rfl, ⟨v, H', n', hsub, hψ⟩, g1, g2, g3, g4, g5, g6, g7⟩ := hh
  -- the last renaming
  obtain ⟨σ, s1, s2, s3, s4, s5, s6, s7⟩ := hsub
  have sv := subS_spec s1 0 v rfl
  have e1 : v1 = v.ren σ := sv.1
  have vw : v.wf n' := s3.1
  let B2 : Nat → Nat := fun k => B1 (σ k)
  have hB2 : ∀ k, k < n0 → B2 k = B (ρ k) := fun k hk1 => by
    show B1 (σ k) = _
    rw [s6 k hk1, g6 k hk1]
  have hR2 : HR B2 H' w' := ⟨fun k o hl hk1 => by
    obtain ⟨a1, _, _⟩ := s2 k o hl
    have := g3.at_ _ _ a1 (by rw [SObj.live_ren]; exact hk1)
    rw [SObj.sat_ren] at this
    exact this, fun k j o o' a1 a2 a3 a4 he => by
    obtain ⟨b1, _, b3⟩ := s2 k o a1
    obtain ⟨c1, _, c3⟩ := s2 j o' a3
    exact s5 k b3 j c3 (g3.inj _ _ _ _ b1 (by rw [SObj.live_ren]; exact a2) c1 (by rw [SObj.live_ren]; exact a4) he)⟩
  have hO2 : Own M0 X.m B2 H' := fun k o hl hk1 hmk => by
    obtain ⟨a1, a2, _⟩ := s2 k o hl
    exact g4 _ _ a1 (by rw [SObj.live_ren]; exact hk1) (a2 hmk)
  obtain ⟨q1, q2⟩ := hq v H' n' hψ
  have hκ := hk v H' n' hψ s7
  -- names among the caller's
  let E := ext ρ n0 n
  let B3 : Nat → Nat := fun j => if j < n then B j else B2 (n0 + (j - n))
  have hE : ∀ k, k < n' → E k < n + (n' - n0) := fun k hk1 => by
    show ext ρ n0 n k < _
    by_cases hlt : k < n0
    · rw [ext_lt hlt]; have := hρ k hlt; omega
    · rw [ext_ge (by omega)]; omega
  have hEi : ∀ a b, E a = E b → a = b := fun a b he => by
    have he' : ext ρ n0 n a = ext ρ n0 n b := he
    by_cases ha : a < n0
    · have := hρ a ha
      by_cases hb : b < n0
      · rw [ext_lt ha, ext_lt hb] at he'; exact hi a b ha hb he'
      · rw [ext_lt ha, ext_ge (by omega)] at he'; omega
    · by_cases hb : b < n0
      · have := hρ b hb
        rw [ext_ge (by omega), ext_lt hb] at he'; omega
      · rw [ext_ge (by omega), ext_ge (by omega)] at he'; omega
  have hB3 : ∀ k, B3 (E k) = B2 k := fun k => by
    show (if ext ρ n0 n k < n then B (ext ρ n0 n k) else B2 (n0 + (ext ρ n0 n k - n))) = _
    by_cases hlt : k < n0
    · rw [ext_lt hlt, if_pos (hρ k hlt), hB2 k hlt]
    · rw [ext_ge (by omega), if_neg (by omega), show n0 + (n + (k - n0) - n) = k by omega]
  have hB3l : ∀ j, j < n → B3 j = B j := fun j hj => if_pos hj
  -- a look-up in the new heap
  have look : ∀ j o, hget (renH E H' ++ H) j = some o → (∃ k o', j = E k ∧ hget H' k = some o' ∧ o = o'.ren E) ∨ (hget H j = some o ∧ ∀ k, j = E k → hget H' k = none) := fun j o hl => by
    rw [hget_app] at hl
    cases hr : hget (renH E H') j with
    | some o1 =>
      rw [hr] at hl
      simp at hl
      subst hl
      obtain ⟨k, rfl⟩ := renH_key H' hr
      rw [renH_get hEi] at hr
      cases hk1 : hget H' k with
      | none => rw [hk1] at hr; cases hr
      | some o' => rw [hk1] at hr; simp at hr; exact .inl ⟨k, o', rfl, hk1, hr.symm⟩
    | none =>
      rw [hr] at hl
      simp at hl
      refine .inr ⟨hl, fun k hjk => ?_⟩
      subst hjk
      rw [renH_get hEi] at hr
      cases hk1 : hget H' k with
      | none => rfl
      | some o' => rw [hk1] at hr; cases hr
  -- blocks of the caller's that the call did not write
  have same : ∀ j o, hget H j = some o → o.live = true → (∀ k, j = E k → hget H' k = none) → ¬ M0 (B j) := fun j o hl hk1 hno hc => by
    rcases hc with ⟨k, o1, a1, a2, a3, a4⟩ | hc
    · have hj := hH.inj j (ρ k) _ _ hl hk1 (hs k o1 a1) (by rw [SObj.live_ren]; exact a2) a4
      have hkn := (hwH k o1 a1).1
      have hn := hno k (by rw [hj]; exact (ext_lt hkn).symm)
      have := q1 k o1 a1 a2 a3
      rw [hn] at this; cases this
    · have := hH.lt hl hk1
      omega
  have ren3 : ∀ (o : SObj) (id : Nat), o.wf n' → o.sat B2 w' id → (o.ren E).sat B3 w' id := fun o id hw1 hs1 => by
    rw [SObj.sat_ren]
    exact SObj.sat_congr (fun k _ => hB3 k) o hw1 hs1
  refine ⟨v.ren E, renH E H' ++ H, n + (n' - n0), B3, ?_, hκ, by omega, SV.wf_ren hE v vw, ?_, fun k hk1 => hB3l k hk1, ⟨fun j o hl hk1 => ?_, fun j1 j2 o1 o2 a1 a2 a3 a4 he => ?_⟩, ?_, ?_⟩
  · congr 1
    rw [SV.den_ren, e1, SV.den_ren]
    exact (SV.den_congr (n := n') (fun k _ => hB3 k) v vw).symm
  · intro j o hl
    rcases look j o hl with ⟨k, o', rfl, a1, rfl⟩ | ⟨a1, _⟩
    · have := s4 k o' a1
      exact ⟨hE k this.1, SObj.wf_ren hE o' this.2⟩
    · have := hwHH j o a1
      exact ⟨by omega, SObj.wf_mono (by omega) _ this.2⟩
  · rcases look j o hl with ⟨k, o', rfl, a1, rfl⟩ | ⟨a1, hno⟩
    · rw [SObj.live_ren] at hk1
      rw [hB3]
      exact ren3 o' _ (s4 k o' a1).2 (hR2.at_ k o' a1 hk1)
    · have hjn := (hwHH j o a1).1
      rw [hB3l j hjn]
      refine SObj.sat_congr (fun k hk2 => hB3l k hk2) o (hwHH j o a1).2 ?_
      exact SObj.sat_heap (g5.block (B j) (hH.lt a1 hk1) (same j o a1 hk1 hno)) (hH.at_ j o a1 hk1)
  · have cross : ∀ k o' j o, hget H' k = some o' → o'.live = true → hget H j = some o → o.live = true → (∀ k, j = E k → hget H' k = none) → B2 k ≠ B j := fun k o' j o b1 b2 b3 b4 hno hc => by
      by_cases hkm : k < X.m
      · obtain ⟨o0, c1, c2⟩ := q2 k o' b1 b2 hkm
        have hkn : k < n0 := by omega
        rw [hB2 k hkn] at hc
        have hj := hH.inj _ _ _ _ (hs k o0 c1) (by rw [SObj.live_ren]; exact c2) b3 b4 hc
        have := hno k (by rw [← hj]; exact (ext_lt hkn).symm)
        rw [this] at b1; cases b1
      · have := hO2 k o' b1 b2 (by omega)
        rw [hc] at this
        exact same j o b3 b4 hno this
    rcases look j1 o1 a1 with ⟨k1, p1, rfl, b1, rfl⟩ | ⟨b1, n1'⟩ <;> rcases look j2 o2 a3 with ⟨k2, p2, rfl, c1, rfl⟩ | ⟨c1, n2'⟩
    · rw [SObj.live_ren] at a2 a4
      rw [hB3, hB3] at he
      rw [hR2.inj k1 k2 _ _ b1 a2 c1 a4 he]
    · rw [SObj.live_ren] at a2
      rw [hB3, hB3l j2 (hwHH j2 o2 c1).1] at he
      exact absurd he (cross k1 p1 j2 o2 b1 a2 c1 a4 n2')
    · rw [SObj.live_ren] at a4
      rw [hB3, hB3l j1 (hwHH j1 o1 b1).1] at he
      exact absurd he.symm (cross k2 p2 j1 o1 c1 a4 b1 a2 n1')
    · rw [hB3l j1 (hwHH j1 o1 b1).1, hB3l j2 (hwHH j2 o2 c1).1] at he
      exact hH.inj j1 j2 _ _ b1 a2 c1 a4 he
  · intro j o hl hk1 hmj
    rcases look j o hl with ⟨k, o', rfl, a1, rfl⟩ | ⟨a1, _⟩
    · rw [SObj.live_ren] at hk1
      rw [hB3]
      by_cases hkm : k < X.m
      · obtain ⟨o0, c1, c2⟩ := q2 k o' a1 hk1 hkm
        have hkn : k < n0 := by omega
        rw [hB2 k hkn]
        have hmj' : m ≤ ext ρ n0 n k := hmj
        rw [ext_lt hkn] at hmj'
        exact hown _ _ (hs k o0 c1) (by rw [SObj.live_ren]; exact c2) hmj'
      · exact hM0 _ (hO2 k o' a1 hk1 (by omega))
    · rw [hB3l j (hwHH j o a1).1]
      exact hown j o a1 hk1 hmj
  · exact ⟨g5.os, g5.tape, g5.output, g5.size, fun i hi1 hi2 => g5.block i hi1 fun hc => hi2 (hM0 i hc), g5.drawn⟩
end Go.Proofs.Ytaopbefklkbmeaa
set_option maxRecDepth 100000
set_option linter.unusedSimpArgs false
set_option linter.unusedVariables false
namespace Go.Proofs.Ytaopbefklkbmeaa
open Go Go.RowKit
abbrev Ro (k : Nat) := {x : List Int // x.length = k}
instance (k : Nat) : Inhabited (Ro k) := ⟨⟨List.replicate k 0, by simp⟩⟩
def encR {k : Nat} (x : Ro k) : List Value := x.1.map (Value.int .i64)
theorem encR_len {k : Nat} (x : Ro k) : (encR x).length = k := by unfold encR; rw [List.length_map]; exact x.2
theorem flat_lenW {w : Nat} : ∀ {Q : List (List Int)}, (∀ x ∈ Q, x.length = w) → Q.flatten.length = Q.length * w
  | [], _ => by simp
  | x :: Q, h => by
    rw [List.flatten_cons, List.length_append, flat_lenW fun y hy => h y (List.mem_cons_of_mem _ hy), h x (List.mem_cons_self ..), List.length_cons, Nat.add_mul]; omega
theorem flat_at {w : Nat} : ∀ {Q : List (List Int)}, (∀ x ∈ Q, x.length = w) → ∀ {i j : Nat}, i < Q.length → j < w → Q.flatten.getD (i * w + j) 0 = (Q.getD i []).getD j 0
  | [], _, i, _, hi, _ => by simp at hi
  | x :: Q, h, i, j, hi, hj => by
    have hx := h x (List.mem_cons_self ..)
    rw [List.flatten_cons]
    cases i with
    | zero =>
      rw [Nat.zero_mul, Nat.zero_add, getD_app _ _ _ (by omega)]; rfl
    | succ i =>
      have e : (i + 1) * w + j = x.length + (i * w + j) := by rw [hx, Nat.add_mul]; omega
      rw [e, List.getD_eq_getElem?_getD, List.getElem?_append_right (by omega), Nat.add_sub_cancel_left, ← List.getD_eq_getElem?_getD, flat_at (fun y hy => h y (List.mem_cons_of_mem _ hy)) (by simpa using hi) hj]
      rfl
def roL {k : Nat} (d : Array (Ro k)) : List (List Int) := d.toList.map (·.1)
theorem roL_len {k : Nat} (d : Array (Ro k)) : ∀ x ∈ roL d, x.length = k := fun x hx => by
  obtain ⟨y, _, rfl⟩ := List.mem_map.1 hx
  exact y.2
theorem flatK_ro {k : Nat} (hk : 0 < k) (d : Array (Ro k)) : Sort.flatK encR k d = ints (roL d).flatten := by
  have hl : (roL d).flatten.length = d.size * k := by rw [flat_lenW (roL_len d)]; simp [roL]
  have hsz : (ints (roL d).flatten).size = d.size * k := by unfold ints; rw [List.size_toArray, List.length_map, hl]
  refine Sort.ext_get! (by rw [hsz, Sort.size_flatK]) fun t ht => ?_
  have ht' : t < d.size * k := by simpa using ht
  rw [Sort.get_flatK _ _ _ _ ht']
  have hq : t / k < d.size := Nat.div_lt_of_lt_mul (by rw [Nat.mul_comm]; exact ht')
  have hr : t % k < k := Nat.mod_lt _ hk
  have e := flat_at (roL_len d) (i := t / k) (j := t % k) (by simpa [roL] using hq) hr
  have et : t / k * k + t % k = t := by rw [Nat.mul_comm]; exact Nat.div_add_mod t k
  rw [et] at e
  have e2 : (roL d).getD (t / k) [] = (d[t / k]!).1 := by
    rw [List.getD_eq_getElem?_getD, List.getElem?_eq_getElem (by simpa [roL] using hq)]
    simp [roL, hq]
  rw [e2] at e
  have hx := (d[t / k]!).2
  rw [getElem!_pos (encR d[t / k]!) (t % k) (by rw [encR_len]; exact hr), getElem!_pos (ints (roL d).flatten) t (by rw [hsz]; exact ht')]
  simp only [encR, ints, List.getElem_map, List.getElem_toArray]
  congr 1
  rw [List.getD_eq_getElem?_getD, List.getElem?_eq_getElem (by omega), List.getD_eq_getElem?_getD, List.getElem?_eq_getElem (by omega)] at e
  simpa using e.symm
theorem grow_of_bel {w w' : World} (h : Bel w.heap.size w w') : ∃ q os', w' = Sort.grow (w.drewN q) os' := by
  refine ⟨w'.drawn - w.drawn, w'.heap.extract w.heap.size w'.heap.size, ?_⟩
  have h1 := h.os; have h2 := h.tape; have h3 := h.output; have h4 := h.size; have h5 := h.block; have h6 := h.drawn
  have hh : w'.heap = w.heap ++ w'.heap.extract w.heap.size w'.heap.size := by
    apply Array.ext_getElem?
    intro i
    rw [Array.getElem?_append]
    split
    · exact h5 i (by assumption)
    · rw [Array.getElem?_extract]
      split
      · rw [show w.heap.size + (i - w.heap.size) = i by omega]
      · rw [Array.getElem?_eq_none (by omega)]
  cases w' with
  | mk hp tp dr os out =>
    cases w with
    | mk hp0 tp0 dr0 os0 out0 =>
      simp only at h1 h2 h3 h4 h5 h6 hh
      subst h1 h2 h3
      simp only [Sort.grow, World.drewN, World.mk.injEq]
      refine ⟨hh, trivial, by omega, trivial, trivial⟩
theorem swo_ro (k : Nat) : Sort.SWO (ltOf fun x y : Ro k => lexC x.1 y.1) where
  irrefl x := by simp [ltOf, lexC_refl]
  trans x y z h1 h2 := by
    simp only [ltOf, decide_eq_true_eq] at *
    exact lexC_trans (by rw [x.2, y.2]) (by rw [y.2, z.2]) h1 h2
  ntrans x y z h1 h2 := by
    simp only [ltOf, decide_eq_false_iff_not] at *
    have := lexL_trans (x := z.1) (y := y.1) (z := x.1) (by rw [z.2, y.2]) (by rw [y.2, x.2]) (by simp [lexL]; omega) (by simp [lexL]; omega)
    simp only [lexL, Bool.not_eq_true', decide_eq_false_iff_not] at this
    exact this
theorem cmp_lays {g k : Nat} {blk off size : Nat} {w : World} (hc : ∀ x y : List Int, x.length = k → y.length = k → PureH Try.prog g [.arr x, .arr y] [] (.int (lexC x y))) : CmpLays Try.prog g #[] encR k (fun x y : Ro k => lexC x.1 y.1) blk off size w := by
  intro m os dk _ x y
  have := (hc x.1 y.1 x.2 y.2).call (fun _ => 0) (sortWorldK encR k w blk off m dk os) (HR.nil _ _)
  refine this.mono fun e w' hh => ⟨hh.1, grow_of_bel hh.2⟩
theorem ints_get (L : List Int) (t : Nat) : (ints L)[t]? = L[t]?.map (Value.int .i64) := by simp [ints]
theorem ints_get! (L : List Int) (t : Nat) (h : t < L.length) : (ints L)[t]! = .int .i64 L[t] := by simp [ints, h]
/-- A row of cells inside a block of numbers. -/
theorem holds_mid {w : World} {blk e off : Nat} {A F Z : List Int} (hb : w.heap[blk]? = some (.cells (ints (A ++ F ++ Z)) e (0, 0))) (ho : A.length = off) : Sort.Holds id w blk off (ints F) := fun j hj => by
  have hj' : j < F.length := by simpa [ints] using hj
  refine ⟨?_, ?_⟩
  · simp only [World.cell?, hb]
    subst ho
    have h1 : (A ++ F ++ Z)[A.length + j]? = F[j]? := by
      rw [List.append_assoc, List.getElem?_append_right (by omega), Nat.add_sub_cancel_left, List.getElem?_append_left hj']
    show (ints (A ++ F ++ Z))[A.length + j]? = some (ints F)[j]!
    rw [ints_get, h1, ints_get! F j hj', List.getElem?_eq_getElem hj']; rfl
  · simp [World.frozen?, hb]
theorem put_mid {A F F' Z : List Int} {off : Nat} (ho : A.length = off) (hF : F'.length = F.length) : Sort.putCells id off (ints F') (ints (A ++ F ++ Z)) = ints (A ++ F' ++ Z) := by
  subst ho
  apply Array.ext_getElem?
  intro t
  simp only [Sort.putCells, Array.getElem?_mapIdx]
  have sz : (ints F').size = F'.length := by simp [ints]
  rw [ints_get, ints_get]
  by_cases h1 : t < A.length
  · rw [List.append_assoc, List.getElem?_append_left h1, List.append_assoc, List.getElem?_append_left h1]
    cases A[t]? with
    | none => rfl
    | some v => simp only [Option.map_some]; rw [if_neg (fun h => by rw [sz] at h; omega)]
  · rw [List.append_assoc, List.getElem?_append_right (show A.length ≤ t by omega), List.append_assoc, List.getElem?_append_right (show A.length ≤ t by omega)]
    by_cases h2 : t - A.length < F'.length
    · rw [List.getElem?_append_left (show t - A.length < F.length by omega), List.getElem?_append_left h2, List.getElem?_eq_getElem (by omega), List.getElem?_eq_getElem h2]
      simp only [Option.map_some]
      rw [if_pos (⟨by omega, by rw [sz]; omega⟩ : A.length ≤ t ∧ t < A.length + (ints F').size), ints_get! F' _ h2]; rfl
    · rw [List.getElem?_append_right (show F.length ≤ t - A.length by omega), List.getElem?_append_right (show F'.length ≤ t - A.length by omega), hF]
      cases Z[t - A.length - F.length]? with
      | none => rfl
      | some v => simp only [Option.map_some]; rw [if_neg (fun h => by rw [sz] at h; omega)]
theorem ro_sorted {k : Nat} {d d' : Array (Ro k)} (hp : Sort.PermIn 0 d.size d d') (hs : Sort.SortedIn (ltOf fun x y : Ro k => lexC x.1 y.1) 0 d.size d') : roL d' = srtT (roL d) := by
  have hsz := hp.1
  refine lexL_one (roL_len d') ?_ ?_ (srtT_pw (roL_len d))
  · have h3 := hp.2.2
    have e1 : d'.extract 0 d.size = d' := by rw [← hsz]; simp
    have e2 : d.extract 0 d.size = d := by simp
    rw [e1, e2] at h3
    exact (h3.map _).trans (srtT_perm _).symm
  · unfold roL
    rw [List.pairwise_map, List.pairwise_iff_getElem]
    intro i j hi hj hij
    have := hs i j (Nat.zero_le _) hij (by simpa [hsz] using hj)
    simp only [ltOf, decide_eq_false_iff_not] at this
    simp only [lexL, Bool.not_eq_true', decide_eq_false_iff_not]
    have gi : d'[i]! = d'.toList[i] := by rw [getElem!_pos _ _ (by simpa using hi)]; simp
    have gj : d'[j]! = d'.toList[j] := by rw [getElem!_pos _ _ (by simpa using hj)]; simp
    rw [← gi, ← gj]
    exact this
def mkRo {k : Nat} : (Q : List (List Int)) → (∀ x ∈ Q, x.length = k) → List (Ro k)
  | [], _ => []
  | x :: Q, h => ⟨x, h x (List.mem_cons_self ..)⟩ :: mkRo Q fun y hy => h y (List.mem_cons_of_mem _ hy)
theorem mkRo_map {k : Nat} : ∀ (Q : List (List Int)) (h : ∀ x ∈ Q, x.length = k), (mkRo Q h).map (·.1) = Q
  | [], _ => rfl
  | x :: Q, h => by simp [mkRo, mkRo_map Q]
/-- slices.SortFunc over lists of k numbers each, compared in the order of lists. -/
theorem sortF_ok {ρ : Go.Shelf.Ren} (L : SlLaysF0.n6 Try.prog ρ) (k : Nat) (hk : 0 < k) (aE : ∀ w, (isAgg (ρ.t 24)).run Try.prog w = .ok true w) (zE : ∀ w, (Go.sizeOf (ρ.t 24)).run Try.prog w = .ok k w) (g : Nat) (eg : Entd Try.prog g) (es : Entd Try.prog (ρ.f 6))
    (hc : ∀ x y : List Int, x.length = k → y.length = k → PureH Try.prog g [.arr x, .arr y] [] (.int (lexC x y))) (A Z : List Int) (Q : List (List Int)) (hQ : ∀ x ∈ Q, x.length = k) (e cap off n : Nat) (hA : A.length = off) (hn : Q.length = n) (hb : n < 4611686018427387904) :
    UpdP Try.prog (ρ.f 6) [.slice 0 off n cap, .fn g []] 0 [] (.ints (A ++ Q.flatten ++ Z) e) (.ints (A ++ (srtT Q).flatten ++ Z) e) (.tup []) := by
  refine ⟨es, rfl, fun _ => trivial, fun B w hH => ?_⟩
  have hblk : w.heap[B 0]? = some (.cells (ints (A ++ Q.flatten ++ Z)) e (0, 0)) := hH.at_ 0 _ rfl rfl
  have hlt : B 0 < w.heap.size := by
    rcases Nat.lt_or_ge (B 0) w.heap.size with h | h
    · exact h
    · rw [Array.getElem?_eq_none h] at hblk; cases hblk
  let d : Array (Ro k) := (mkRo Q hQ).toArray
  have dQ : roL d = Q := by show (mkRo Q hQ).map (·.1) = Q; exact mkRo_map Q hQ
  have dn : d.size = n := by
    have := congrArg List.length dQ
    simp [roL] at this
    omega
  have hH2 : Sort.HoldsK encR k w (B 0) off d := by
    unfold Sort.HoldsK
    rw [flatK_ro hk, dQ]
    exact holds_mid hblk hA
  have hcon := AnyQ.slices_SortFunc L k aE zE encR encR_len (fun x v hv => by
    obtain ⟨z, _, rfl⟩ := List.mem_map.1 hv
    rfl) (fun x y : Ro k => lexC x.1 y.1) (swo_ro k) g #[] (B 0) off cap d w eg (cmp_lays hc) hH2 hlt (by omega)
  rw [dn] at hcon
  refine hcon.mono fun r w' hh => ?_
  obtain ⟨rfl, d', m, os, hp, hs, rfl⟩ := hh
  have hs' := ro_sorted (d := d) (d' := d') (by rw [dn]; exact hp) (by rw [dn]; exact hs)
  rw [dQ] at hs'
  have hl : (srtT Q).flatten.length = Q.flatten.length := by
    rw [flat_lenW hQ, flat_lenW fun x hx => hQ x ((srtT_perm Q).mem_iff.1 hx), (srtT_perm Q).length_eq]
  have hblk' : (sortWorldK encR k w (B 0) off m d' os).heap[B 0]? = some (.cells (ints (A ++ (srtT Q).flatten ++ Z)) e (0, 0)) := by
    unfold sortWorldK Sort.grow Sort.putRowK Sort.putRow Sort.mapBlock Sort.ahead
    simp only []
    rw [Array.getElem?_append_left (by simpa using hlt), Array.getElem?_modify, if_pos rfl, hblk]
    simp only [Option.map_some, Sort.onCells]
    rw [flatK_ro hk, hs', put_mid hA hl]
  refine ⟨rfl, ⟨rfl, rfl, rfl, ?_, fun i hi hM => ?_, ?_⟩, hblk'⟩
  · exact size_sortWorldK_c encR k w (B 0) off m d' os
  · have hne : B 0 ≠ i := fun h => hM (.inl h.symm)
    unfold sortWorldK Sort.grow Sort.putRowK Sort.putRow Sort.mapBlock Sort.ahead
    simp only []
    rw [Array.getElem?_append_left (by simpa using hi), Array.getElem?_modify, if_neg hne]
  · exact Nat.le_add_right _ _
/-! At tubes. -/
theorem sortT_ok (A Z : List Int) (Q : List (List Int)) (hQ : ∀ x ∈ Q, x.length = 4) (e cap off n : Nat) (hA : A.length = off) (hn : Q.length = n) (hb : n < 4611686018427387904) :
    UpdP Try.prog 74 [.slice 0 off n cap, .fn 75 []] 0 [] (.ints (A ++ Q.flatten ++ Z) e) (.ints (A ++ (srtT Q).flatten ++ Z) e) (.tup []) :=
  sortF_ok laySortT 4 (by omega) Try.isAgg22 Try.sizeOf22 75 fn_75.ent fn_74.ent cmpT_ok A Z Q hQ e cap off n hA hn hb
def sortT_F : List SV → Heap → Nat → Nat → K1 → Prop
  | [.slice b 0 n _, .fn g []], H, N, m, κ => match hget H b with
    | some (.ints L e) => g = 75 ∧ L.length = 24 ∧ n = 6 ∧ m ≤ b ∧ κ (.tup []) ((b, .ints (frm L) e) :: H) N
    | _ => False
  | _, _, _, _, _ => False
--@tbl sortT = slices.SortFunc[[][4]int,[4]int]
theorem sortT_T : ∀ args H n m κ, sortT_F args H n m κ → GenOK Try.prog 74 args H n m κ := by
  intro args H N m κ h
  unfold sortT_F at h
  split at h
  · rename_i b n cap g
    split at h
    · rename_i L e hb
      obtain ⟨rfl, hL, rfl, hm, h⟩ := h
      have hu := sortT_ok [] [] (tubs L) (tubs_len hL) e cap 0 6 rfl (by simp [tubs]) (by omega)
      rw [List.nil_append, List.append_nil, List.nil_append, List.append_nil, tubs_flat hL] at hu
      have := gen_of_upd (H := H) (n := N) (m := m) (κ := κ) hu (fun _ => b) (fun j o1 hj => by
        rw [hget_cons] at hj
        split at hj
        · cases hj; exact hb
        · cases hj) (fun j1 o1 j2 o2 g1 g2 he => by
        rw [hget_cons] at g1 g2
        split at g1
        · split at g2
          · omega
          · cases g2
        · cases g1) (by simpa using hm) rfl (fun _ _ => trivial) (by simpa [SV.ren, renL, frm] using h)
      simpa [renL, SV.ren] using this
    · exact h.elim
  · exact h.elim
theorem formOf_ok (R : List Int) (hR : R.length = 24) : PureH Try.prog 52 [.arr R] [] (.arr (frm R)) := by
  have tkR : R.take 24 = R := List.take_of_length_le (by omega)
  have hl := frm_len hR
  have tkf : (frm R).take 24 = frm R := List.take_of_length_le (by omega)
  refine pure_of_vc (X := ⟨Try.prog, tys, [], [(74, sortT_F)], true, true, 0, [], []⟩) fn_52 ⟨tys_ok, .nil, (.cons sortT_T .nil), mixed⟩ (n0 := 0) (Nat.le_of_ble_eq_true rfl) (by simp [wfL, SV.wf]) (wfH_spec (by simp [wfH, SObj.wf, wfL, SV.wf])) (Nat.le_refl _) (fun _ => by simp [SV.wf, wfL]) ?_
  simp -implicitDefEqProofs only [Try.f52, Option.getD_some, argS, sortT_F, hR, tkR, hl, tkf, ZB, Int.reduceToNat, Nat.reduceLT, Nat.reduceLeDiff, Int.reduceLE, Int.reduceLT, Nat.reduceEqDiff, Nat.reduceSub, SB, SV.known, packR, ne_eq, reduceCtorEq, Nat.reduceEqDiff, ↓reduceIte, if_true, if_false, eq_self, Nat.reduceAdd, Nat.reduceMul, Nat.reduceSub, forall_const, oneCellS, litOne, flat1, Kd.isSca, flat, TYB]
--@tbl formOf = impl.formOf
def formOf_F : List SV → Heap → Option (Prop × SV)
  | [.arr R], _ => some (R.length = 24, .arr (frm R))
  | _, _ => none
theorem formOf_T : ∀ args H p v, formOf_F args H = some (p, v) → p → PureH Try.prog 52 args H v := by
  intro args H p v h hp
  unfold formOf_F at h
  split at h
  · cases h; exact (formOf_ok _ hp).any _
  · cases h
/-! At racks. -/
end Go.Proofs.Ytaopbefklkbmeaa
set_option maxRecDepth 100000
set_option linter.unusedSimpArgs false
set_option linter.unusedVariables false
namespace Go.Proofs.Ytaopbefklkbmeaa
open Go Go.RowKit

end Go.Proofs.Ytaopbefklkbmeaa
set_option maxRecDepth 100000
set_option linter.unusedSimpArgs false
set_option linter.unusedVariables false
namespace Go.Proofs.Ytaopbefklkbmeaa
open Go Go.RowKit
theorem l1Most_ok (a b : Int) : PureH Try.prog 62 [.int a, .int b] [] (.int (max a b)) := by
  refine pure_of_vc (X := ⟨Try.prog, tys, [], [], true, true, 0, [], []⟩) fn_62 ⟨tys_ok, .nil, .nil, mixed⟩ (n0 := 0) (Nat.le_of_ble_eq_true rfl) (by simp [wfL, SV.wf]) (wfH_spec (by simp [wfH, SObj.wf, wfL, SV.wf])) (Nat.le_refl _) (fun _ => by simp [SV.wf, wfL]) ?_
  simp -implicitDefEqProofs only [Try.f62, Option.getD_some, argS, ZB, Int.reduceToNat, Nat.reduceLT, Nat.reduceLeDiff, Int.reduceLE, Int.reduceLT, Nat.reduceEqDiff, Nat.reduceSub, SB, SV.known, packR, ne_eq, reduceCtorEq, Nat.reduceEqDiff, ↓reduceIte, if_true, if_false, eq_self, Nat.reduceAdd, Nat.reduceMul, Nat.reduceSub, forall_const, oneCellS, litOne, flat1, Kd.isSca, flat, TYB]
  constructor <;> intro h <;> omega
def l1Most_F : List SV → Heap → Option (Prop × SV)
  | [.int a, .int b], _ => some (True, .int (max a b))
  | _, _ => none
theorem l1Most_T : ∀ args H p v, l1Most_F args H = some (p, v) → p → PureH Try.prog 62 args H v := by
  intro args H p v h hp
  unfold l1Most_F at h
  split at h
  · cases h; exact (l1Most_ok _ _).any _
  · cases h
--@tbl l7Cut = spec.l7Cut
--@tbl isPlace = impl.isPlace
--@tbl l2Place = spec.l2Place
--@tbl isColor = impl.isColor
end Go.Proofs.Ytaopbefklkbmeaa
set_option maxRecDepth 100000
set_option linter.unusedSimpArgs false
set_option linter.unusedVariables false
namespace Go.Proofs.Ytaopbefklkbmeaa
open Go Go.RowKit
theorem PL_bd (R : List Int) (m : Nat) (hm : m ≤ 36) : ∀ x ∈ PL R m, 0 ≤ x ∧ x ≤ 5 := by
  intro x hx
  unfold PL at hx
  obtain ⟨k, hk, hx⟩ := List.mem_flatMap.1 hx
  have := List.mem_range.1 hk
  unfold prK at hx
  split at hx
  · simp at hx; omega
  · simp at hx
theorem PL_even (R : List Int) : ∀ m, ∃ n, (PL R m).length = n * 2 ∧ n ≤ m
  | 0 => ⟨0, rfl, by omega⟩
  | m + 1 => by
    obtain ⟨n, h1, h2⟩ := PL_even R m
    rw [PL_succ, List.length_append, h1]
    unfold prK
    split
    · exact ⟨n + 1, by simp; omega, by omega⟩
    · exact ⟨n, by simp, by omega⟩
def pours_F : List SV → Heap → Nat → Nat → K1 → Prop
  | [.arr R], H, n, _, κ => R.length = 24 ∧ freshK .one (PL R 36) ((PL R 36).length / 2) 2 49 true H n κ
  | _, _, _, _, _ => False
theorem pours_T : ∀ args H n m κ, pours_F args H n m κ → GenOK Try.prog 57 args H n m κ := by
  intro args H n m κ h
  unfold pours_F at h
  split at h
  · exact gen_of_fresh (pours_ok _ h.1) (fun k o hk => by cases hk) h.2
  · exact h.elim
def l2Pours_F : List SV → Heap → Nat → Nat → K1 → Prop
  | [.arr R], H, n, _, κ => (R.length = 24 ∧ rackB R = true) ∧ freshK .one (PL R 36) ((PL R 36).length / 2) 2 49 false H n κ
  | _, _, _, _, _ => False
theorem l2Pours_T : ∀ args H n m κ, l2Pours_F args H n m κ → GenOK Try.prog 40 args H n m κ := by
  intro args H n m κ h
  unfold l2Pours_F at h
  split at h
  · exact gen_of_fresh (l2Pours_ok _ h.1.1 h.1.2) (fun k o hk => by cases hk) h.2
  · exact h.elim
theorem take2_drop (L : List Int) (o : Nat) (h : o + 2 ≤ L.length) : (L.drop o).take 2 = [L.getD o 0, L.getD (o + 1) 0] := by
  rw [List.drop_eq_getElem_cons (show o < L.length by omega), List.drop_eq_getElem_cons (show o + 1 < L.length by omega)]
  simp only [List.getD, List.getElem?_eq_getElem (show o < L.length by omega), List.getElem?_eq_getElem (show o + 1 < L.length by omega), Option.getD_some, List.take_succ_cons, List.take_zero]
--@tbl MostPoured = impl.MostPoured
--@tbl sMostPoured = spec.MostPoured
end Go.Proofs.Ytaopbefklkbmeaa
set_option maxRecDepth 100000
set_option linter.unusedSimpArgs false
set_option linter.unusedVariables false
namespace Go.Proofs.Ytaopbefklkbmeaa
open Go Go.RowKit
def chk (L : List Int) (off len : Nat) : List (List Int) := (List.range len).map fun i => (L.drop (off + i * 2)).take 2
theorem chk_len (L : List Int) (off len : Nat) : (chk L off len).length = len := by simp [chk]
theorem chk_getD (L : List Int) (off len k : Nat) (h : k < len) : (chk L off len).getD k [] = (L.drop (off + k * 2)).take 2 := by simp [chk, List.getD, h]
theorem chk_succ (L : List Int) (off k : Nat) : chk L off (k + 1) = chk L off k ++ [(L.drop (off + k * 2)).take 2] := by
  unfold chk
  rw [List.range_succ, List.map_append]; rfl
/-- What is kept. -/
def kept (np : List Int → Bool) (L : List Int) (k : Nat) : List Int := ((chk L 0 k).filter np).flatten
theorem kept_zero (np : List Int → Bool) (L : List Int) : kept np L 0 = [] := rfl
theorem kept_succ (np : List Int → Bool) (L : List Int) (k : Nat) : kept np L (k + 1) = kept np L k ++ if np ((L.drop (k * 2)).take 2) = true then (L.drop (k * 2)).take 2 else [] := by
  unfold kept
  rw [chk_succ, List.filter_append, List.flatten_append, Nat.zero_add]
  congr 1
  simp only [List.filter_cons, List.filter_nil]
  split <;> simp
theorem kept_even (np : List Int → Bool) (L : List Int) : ∀ k, k * 2 ≤ L.length → ∃ i, (kept np L k).length = i * 2 ∧ i ≤ k
  | 0, _ => ⟨0, rfl, by omega⟩
  | k + 1, h => by
    obtain ⟨i, h1, h2⟩ := kept_even np L k (by omega)
    rw [kept_succ, List.length_append, h1]
    split
    · exact ⟨i + 1, by rw [List.length_take, List.length_drop]; omega, by omega⟩
    · exact ⟨i, by simp, by omega⟩
theorem kept_all {np : List Int → Bool} {L : List Int} : ∀ k, k * 2 ≤ L.length → (∀ i, i < k → np ((L.drop (i * 2)).take 2) = true) → kept np L k = L.take (k * 2)
  | 0, _, _ => by simp [kept_zero]
  | k + 1, h, hn => by
    rw [kept_succ, if_pos (hn k (by omega)), kept_all k (by omega) fun i hi => hn i (by omega), show (k + 1) * 2 = k * 2 + 2 by omega, List.take_add]
theorem kept_app (np : List Int → Bool) (L M : List Int) : ∀ k, k * 2 ≤ L.length → kept np (L ++ M) k = kept np L k
  | 0, _ => rfl
  | k + 1, h => by
    have e : ((L ++ M).drop (k * 2)).take 2 = (L.drop (k * 2)).take 2 := by
      rw [List.drop_append_of_le_length (by omega), List.take_append_of_le_length (by rw [List.length_drop]; omega)]
    rw [kept_succ, kept_succ, kept_app np L M k (by omega), e]

theorem indexFuncP_ok (g : Nat) (caps : List SV) (H Hc : Heap) (pr : List Int → Bool) (n0 b : Nat) (L : List Int) (e len cap : Nat) (hb : hget H b = some (.ints L e)) (hl : len * 2 ≤ L.length) (hm : len ≤ 9223372036854775806)
    (Q : List Int → Prop) (hQ : ∀ i, i < len → Q ((L.drop (i * 2)).take 2)) (hc : ∀ x : List Int, Q x → PureH Try.prog g (.arr x :: caps) Hc (.bool (pr x))) (hE : Ext Hc H) (hw : wfL n0 caps) (hwH : hwf n0 H) :
    PureH Try.prog 56 [.slice b 0 len cap, .fn g caps] H (.int (idxG pr (chk L 0 len))) := by
  have hE2 := chk_len L 0 len
  have h00 : b < n0 := (hwH b _ hb).1
  refine pure_of_vc (X := ⟨Try.prog, tys, [(g, fun args H' => match args with | .arr x :: r => some (r = caps ∧ Ext Hc H' ∧ Q x, .bool (pr x)) | _ => none)], [], true, true, n0, [], []⟩) fn_56
    ⟨tys_ok, .cons (fun args H' p v h hp => ?_) .nil, .nil, mixed⟩ (n0 := n0) (Nat.le_of_ble_eq_true rfl) ⟨by simpa [SV.wf] using h00, by simpa [SV.wf] using hw, trivial⟩ hwH (Nat.le_refl _) (fun _ => trivial) ?_
  · split at h
    · cases h
      obtain ⟨rfl, hx1, hx⟩ := hp
      exact (hc _ hx).weaken hx1 (fun _ => trivial)
    · cases h
  simp -implicitDefEqProofs only [Try.f56, Option.getD_some, argS, hb, SB, SV.known, packR, ne_eq, reduceCtorEq, Nat.reduceEqDiff, ↓reduceIte, if_true, if_false, eq_self, Nat.reduceAdd, Nat.reduceMul, Nat.reduceSub, forall_const, oneCellS, litOne, flat1, Kd.isSca, flat, TYB]
  refine loop_intro (fun i : Nat => [(0, .slice b 0 len cap), (1, .fn g caps), (7, .int len), (8, .int i)]) (fun i => H) n0 (fun i => i ≤ len ∧ ∀ k, k < i → pr ((chk L 0 len).getD k []) = false) (fun i => len - i) ?_ ?_
  · refine ⟨0, ⟨by omega, by simp⟩, Sub.same ?_ ?_ hwH (Nat.le_refl _)⟩
    · simp [subS, subH, wfS, wfH, SV.ren, renL, SObj.ren, SV.wf, SObj.wf, wfL, sget_cons, hget_cons, SV.known, renL_id]
    · simp [subS, subH, wfS, wfH, SV.ren, renL, SObj.ren, SV.wf, SObj.wf, wfL, sget_cons, hget_cons, hw, h00]
  · intro i hi
    obtain ⟨hi1, hi2⟩ := hi
    simp -implicitDefEqProofs only [lk_normal, hb, SB, SV.known, packR, ne_eq, reduceCtorEq, Nat.reduceEqDiff, ↓reduceIte, if_true, if_false, eq_self, Nat.reduceAdd, Nat.reduceMul, Nat.reduceSub, forall_const, oneCellS, litOne, flat1, Kd.isSca, flat, TYB]
    refine ⟨fun h => ?_, fun h => ?_⟩
    · have hlt : i < len := by omega
      have e1 : 0 + (i : Int).toNat * 2 = i * 2 := by simp
      have e2 : (L.drop (i * 2)).take 2 = (chk L 0 len).getD i [] := by rw [chk_getD L 0 len i hlt, Nat.zero_add]
      have e3 : Q ((chk L 0 len).getD i []) := by rw [← e2]; exact hQ i hlt
      simp only [Int.toNat_natCast, Nat.zero_add, e2]
      refine ⟨by omega, by omega, by omega, ⟨hE, e3⟩, ?_⟩
      cases hp : pr ((chk L 0 len).getD i []) with
      | true =>
        simp -implicitDefEqProofs only [SB, SV.known, packR, ne_eq, reduceCtorEq, Nat.reduceEqDiff, ↓reduceIte, if_true, if_false, eq_self, Nat.reduceAdd, Nat.reduceMul, Nat.reduceSub, forall_const, oneCellS, litOne, flat1, Kd.isSca, flat, TYB]
        rw [idxG_hit (by omega) hp hi2]
      | false =>
        simp -implicitDefEqProofs only [lk_normal, SB, SV.known, packR, ne_eq, reduceCtorEq, Nat.reduceEqDiff, ↓reduceIte, if_true, if_false, eq_self, Nat.reduceAdd, Nat.reduceMul, Nat.reduceSub, forall_const, oneCellS, litOne, flat1, Kd.isSca, flat, TYB]
        refine ⟨by unfold In64; omega, i + 1, ⟨by omega, fun k hk => ?_⟩, by omega, Sub.same ?_ ?_ hwH (Nat.le_refl _)⟩
        · by_cases hki : k = i
          · subst hki; exact hp
          · exact hi2 k (by omega)
        · simp [subS, subH, wfS, wfH, SV.ren, renL, SObj.ren, SV.wf, SObj.wf, wfL, sget_cons, hget_cons, SV.known, renL_id]
        · simp [subS, subH, wfS, wfH, SV.ren, renL, SObj.ren, SV.wf, SObj.wf, wfL, sget_cons, hget_cons, hw, h00]
    · obtain rfl : i = len := by omega
      rw [idxG_none (by rw [hE2]; exact hi2)]
theorem idxG_none' {α : Type} {pr : α → Bool} {l : List α} (d : α) (h : idxG pr l < 0) : idxG pr l = -1 ∧ ∀ k, k < l.length → pr (l.getD k d) = false := by
  unfold idxG at h ⊢
  cases hf : l.findIdx? pr with
  | none =>
    refine ⟨rfl, fun k hk => ?_⟩
    have := (List.findIdx?_eq_none_iff).1 hf l[k] (List.getElem_mem hk)
    simpa [List.getD, List.getElem?_eq_getElem hk] using this
  | some k => rw [hf] at h; simp at h; omega
theorem idxG_some' {α : Type} {pr : α → Bool} {l : List α} (d : α) (h : ¬ idxG pr l < 0) : ∃ i : Nat, idxG pr l = (i : Int) ∧ i < l.length ∧ pr (l.getD i d) = true ∧ ∀ k : Nat, k < i → pr (l.getD k d) = false := by
  unfold idxG at h ⊢
  cases hf : l.findIdx? pr with
  | none => rw [hf] at h; simp at h
  | some k =>
    obtain ⟨hk, hp, hn⟩ := List.findIdx?_eq_some_iff_getElem.1 hf
    refine ⟨k, rfl, hk, by simpa [List.getD, List.getElem?_eq_getElem hk] using hp, fun j hj => ?_⟩
    have := hn j hj
    simpa [List.getD, List.getElem?_eq_getElem (show j < l.length by omega)] using this
theorem deleteFunc_ok (g : Nat) (hg : g ≠ 56) (caps : List SV) (Hc : Heap) (pr : List Int → Bool) (b : Nat) (L : List Int) (e len cap : Nat) (hlen : L.length = cap * 2) (hlc : len ≤ cap) (hm : len ≤ 4611686018427387903)
    (Q : List Int → Prop) (hQ : ∀ i, i < len → Q ((L.drop (i * 2)).take 2)) (hc : ∀ x : List Int, Q x → PureH Try.prog g (.arr x :: caps) Hc (.bool (pr x))) (hw : wfL b caps) (hwH : hwf b Hc) :
    UpdP Try.prog 27 [.slice b 0 len cap, .fn g caps] b Hc (.ints L e)
      (.ints (kept (fun x => !pr x) L len ++ List.replicate (len * 2 - (kept (fun x => !pr x) L len).length) 0 ++ L.drop (len * 2)) e) (.slice b 0 ((kept (fun x => !pr x) L len).length / 2) cap) := by
  have hl2 : len * 2 ≤ L.length := by omega
  have hb0 : hget ((b, SObj.ints L e) :: Hc) b = some (.ints L e) := by rw [hget_cons, if_pos rfl]
  have hwf1 : ∀ o : SObj, (∀ n, o.wf n) → hwf (b + 1) ((b, o) :: Hc) := fun o ho => hwf_cons (hwf_mono (by omega) hwH) (by omega) (ho _)
  have hw1 : wfL (b + 1) caps := wfL_mono (by omega) caps hw
  have hE : ∀ o : SObj, Ext Hc ((b, o) :: Hc) := fun o => Ext.cons hwH (Nat.le_refl _) (Ext.refl Hc)
  refine upd_of_vc (X := ⟨Try.prog, tys, [(56, fun args H' => some (args = [.slice b 0 len cap, .fn g caps] ∧ H' = (b, .ints L e) :: Hc, .int (idxG pr (chk L 0 len)))),
      (g, fun args H' => match args with | .arr x :: r => some (r = caps ∧ Ext Hc H' ∧ Q x, .bool (pr x)) | _ => none)], [], true, true, b, [], []⟩) fn_27
    ⟨tys_ok, .cons (fun args H' p v h hp => ?_) (.cons (fun args H' p v h hp => ?_) .nil), .nil, mixed⟩ (n0 := b + 1) (by omega) (Nat.le_of_ble_eq_true rfl) ⟨by simp [SV.wf], by simpa [SV.wf] using hw1, trivial⟩ (hwf1 _ fun _ => trivial) (fun k o1 hk => (hwH k o1 hk).1) rfl rfl (fun _ => trivial) (by simp [SV.wf]) ?_
  · cases h
    obtain ⟨rfl, rfl⟩ := hp
    exact indexFuncP_ok g caps _ Hc pr (b + 1) b L e len cap hb0 hl2 (by omega) Q hQ hc (hE _) hw1 (hwf1 _ fun _ => trivial)
  · split at h
    · cases h
      obtain ⟨rfl, hx1, hx⟩ := hp
      exact (hc _ hx).weaken hx1 (fun _ => trivial)
    · cases h
  simp -implicitDefEqProofs only [Try.f27, Option.getD_some, argS, hb0, hg, SB, SV.known, packR, ne_eq, reduceCtorEq, Nat.reduceEqDiff, ↓reduceIte, if_true, if_false, eq_self, Nat.reduceAdd, Nat.reduceMul, Nat.reduceSub, forall_const, oneCellS, litOne, flat1, Kd.isSca, flat, TYB]
  have hkl := kept_even (fun x => !pr x) L len hl2
  have hwc : hwf (b + 1) Hc := hwf_mono (by omega) hwH
  by_cases hneg : idxG pr (chk L 0 len) < 0
  · obtain ⟨h1, h2⟩ := idxG_none' [] hneg
    have hk : kept (fun x => !pr x) L len = L.take (len * 2) := kept_all len hl2 fun i hi => by
      have := h2 i (by rw [chk_len]; exact hi)
      rw [chk_getD L 0 len i hi, Nat.zero_add] at this
      simp [this]
    have hkl : (L.take (len * 2)).length = len * 2 := by rw [List.length_take]; omega
    rw [h1, hk, hkl]
    refine ⟨fun _ => ⟨?_, ?_⟩, fun hx => absurd rfl hx⟩
    · rw [show len * 2 / 2 = len by omega]
    · simp
  · obtain ⟨i0, h1, h2, h3, h4⟩ := idxG_some' [] hneg
    rw [chk_len] at h2
    rw [chk_getD L 0 len i0 h2, Nat.zero_add] at h3
    have hk0 : kept (fun x => !pr x) L i0 = L.take (i0 * 2) := kept_all i0 (by omega) fun i hi => by
      have := h4 i hi
      rw [chk_getD L 0 len i (by omega), Nat.zero_add] at this
      simp [this]
    have hk1 : kept (fun x => !pr x) L (i0 + 1) = L.take (i0 * 2) := by
      rw [kept_succ, hk0, h3]; simp
    rw [h1]
    refine ⟨fun hx => absurd hx (by omega), fun _ => ?_⟩
    (try (and_intros <;> try (first | omega | (unfold In64; omega) | trivial | assumption)))
    refine loop_intro (fun s : Nat × Nat × List Int => [(6, .int s.1), (5, .int s.2.1), (0, .slice b 0 len cap), (1, .fn g caps)]) (fun s => [(b, .ints (kept (fun x => !pr x) L s.1 ++ s.2.2 ++ L.drop (s.1 * 2)) e)] ++ Hc) (b + 1)
      (fun s => s.1 ≤ len ∧ (kept (fun x => !pr x) L s.1).length = s.2.1 * 2 ∧ s.2.1 < s.1 ∧ s.2.2.length + s.2.1 * 2 = s.1 * 2) (fun s => len - s.1) ?_ ?_
    · have e1 : (L.drop (i0 * 2)).take 2 ++ L.drop ((i0 + 1) * 2) = L.drop (i0 * 2) := by
        rw [show (i0 + 1) * 2 = i0 * 2 + 2 by omega, ← List.drop_drop]; exact List.take_append_drop 2 _
      refine ⟨(i0 + 1, i0, (L.drop (i0 * 2)).take 2), ⟨by simp only; omega, by simp only; rw [hk1, List.length_take]; omega, by simp only; omega, by simp only; rw [List.length_take, List.length_drop]; omega⟩, Sub.mk_ext ?_ ?_ ?_ ?_ (Nat.le_refl _) (hE _) hwc⟩
      · simp [subS, subH, wfS, wfH, SV.ren, renL, SObj.ren, SV.wf, SObj.wf, wfL, sget_cons, hget_cons, SV.known, renL_id]
      · rw [hk1, List.append_assoc, e1, List.take_append_drop]
        simp [subS, subH, wfS, wfH, SV.ren, renL, SObj.ren, SV.wf, SObj.wf, wfL, sget_cons, hget_cons]
      · simp [subS, subH, wfS, wfH, SV.ren, renL, SObj.ren, SV.wf, SObj.wf, wfL, sget_cons, hget_cons, hw1]
      · simp [subS, subH, wfS, wfH, SV.ren, renL, SObj.ren, SV.wf, SObj.wf, wfL, sget_cons, hget_cons]
    · rintro ⟨j, i, mid⟩ ⟨g1, g2, g3, g4⟩
      simp only at g1 g2 g3 g4
      have lenL : (kept (fun x => !pr x) L j ++ mid ++ L.drop (j * 2)).length = cap * 2 := by
        rw [List.length_append, List.length_append, List.length_drop]; omega
      by_cases hlt : j < len
      · have ex : ((kept (fun x => !pr x) L j ++ mid ++ L.drop (j * 2)).drop (j * 2)).take 2 = (L.drop (j * 2)).take 2 := by
          rw [List.drop_left' (by rw [List.length_append]; omega)]
        have l2 : ((L.drop (j * 2)).take 2).length = 2 := by rw [List.length_take, List.length_drop]; omega
        have es := kept_succ (fun x => !pr x) L j
        have tt : List.take 2 ((L.drop (j * 2)).take 2) = (L.drop (j * 2)).take 2 := by simp [List.take_take]
        have hjl : (j : Int) < len := by omega
        have hQj := hQ j hlt
        have dl : (L.drop (j * 2)).take 2 ++ L.drop ((j + 1) * 2) = L.drop (j * 2) := by
          rw [show (j + 1) * 2 = j * 2 + 2 by omega, ← List.drop_drop]; exact List.take_append_drop 2 _
        have hE2 : ∀ o1 o2 o3 : SObj, Ext Hc ((b + 1, o1) :: (b + 1, o2) :: (b, o3) :: Hc) := fun o1 o2 o3 => Ext.cons hwH (by omega) (Ext.cons hwH (by omega) (hE _))
        cases hp : pr ((L.drop (j * 2)).take 2) with
        | true =>
          rw [hp] at es
          simp only [Bool.not_true, Bool.false_eq_true, if_false, List.append_nil] at es
          simp -implicitDefEqProofs only [lk_normal, hget_cons, List.cons_append, List.nil_append, hg, lenL, ex, l2, tt, hp, hjl, hE2, hQj, ZB, Int.reduceToNat, Nat.reduceLT, Nat.reduceLeDiff, Int.reduceLE, Int.reduceLT, Nat.reduceEqDiff, Nat.reduceSub, SB, SV.known, packR, ne_eq, reduceCtorEq, Nat.reduceEqDiff, ↓reduceIte, if_true, if_false, eq_self, Nat.reduceAdd, Nat.reduceMul, Nat.reduceSub, forall_const, oneCellS, litOne, flat1, Kd.isSca, flat, TYB]
          (try (and_intros <;> try (first | omega | (unfold In64; omega) | trivial | assumption)))
          refine ⟨(j + 1, i, mid ++ (L.drop (j * 2)).take 2), ⟨by simp only; omega, by simp only; rw [es]; exact g2, by simp only; omega, by simp only; rw [List.length_append, l2]; omega⟩, by simp only; omega, Sub.mk_ext (l := [(b, _)]) ?_ ?_ ?_ ?_ (Nat.le_refl _) (hE2 _ _ _) hwc⟩
          · simp [subS, subH, wfS, wfH, SV.ren, renL, SObj.ren, SV.wf, SObj.wf, wfL, sget_cons, hget_cons, SV.known, renL_id]
          · rw [es]
            simp only [List.append_assoc, dl]
            simp [subS, subH, wfS, wfH, SV.ren, renL, SObj.ren, SV.wf, SObj.wf, wfL, sget_cons, hget_cons]
          · simp [subS, subH, wfS, wfH, SV.ren, renL, SObj.ren, SV.wf, SObj.wf, wfL, sget_cons, hget_cons, hw1]
          · simp [subS, subH, wfS, wfH, SV.ren, renL, SObj.ren, SV.wf, SObj.wf, wfL, sget_cons, hget_cons]
        | false =>
          rw [hp] at es
          simp only [Bool.not_false, if_true] at es
          have hbb : ¬ b = b + 1 := by omega
          have st : List.take (i * 2) (kept (fun x => !pr x) L j ++ mid ++ L.drop (j * 2)) ++ (L.drop (j * 2)).take 2 ++ List.drop (i * 2 + 2) (kept (fun x => !pr x) L j ++ mid ++ L.drop (j * 2)) = kept (fun x => !pr x) L (j + 1) ++ (mid.drop 2 ++ (L.drop (j * 2)).take 2) ++ L.drop ((j + 1) * 2) := by
            rw [es, ← List.drop_drop, List.append_assoc (kept (fun x => !pr x) L j), List.take_left' g2, List.drop_left' g2, List.drop_append_of_le_length (by omega)]
            simp only [List.append_assoc, dl]
          simp -implicitDefEqProofs only [lk_normal, hget_cons, List.cons_append, List.nil_append, hg, lenL, ex, l2, tt, hp, hjl, hE2, hQj, hbb, st, ZB, Int.reduceToNat, Nat.reduceLT, Nat.reduceLeDiff, Int.reduceLE, Int.reduceLT, Nat.reduceEqDiff, Nat.reduceSub, SB, SV.known, packR, ne_eq, reduceCtorEq, Nat.reduceEqDiff, ↓reduceIte, if_true, if_false, eq_self, Nat.reduceAdd, Nat.reduceMul, Nat.reduceSub, forall_const, oneCellS, litOne, flat1, Kd.isSca, flat, TYB]
          (try (and_intros <;> try (first | omega | (unfold In64; omega) | trivial | assumption)))
          refine ⟨(j + 1, i + 1, mid.drop 2 ++ (L.drop (j * 2)).take 2), ⟨by simp only; omega, by simp only; rw [es, List.length_append, g2, l2]; omega, by simp only; omega, by simp only; rw [List.length_append, l2, List.length_drop]; omega⟩, by simp only; omega, Sub.mk_ext (l := [(b, _)]) ?_ ?_ ?_ ?_ (Nat.le_refl _) (Ext.cons hwH (Nat.le_refl _) (hE2 _ _ _)) hwc⟩
          · simp [subS, subH, wfS, wfH, SV.ren, renL, SObj.ren, SV.wf, SObj.wf, wfL, sget_cons, hget_cons, SV.known, renL_id]
          · simp [subS, subH, wfS, wfH, SV.ren, renL, SObj.ren, SV.wf, SObj.wf, wfL, sget_cons, hget_cons]
          · simp [subS, subH, wfS, wfH, SV.ren, renL, SObj.ren, SV.wf, SObj.wf, wfL, sget_cons, hget_cons, hw1]
          · simp [subS, subH, wfS, wfH, SV.ren, renL, SObj.ren, SV.wf, SObj.wf, wfL, sget_cons, hget_cons]
      · have hjl : ¬ (j : Int) < len := by omega
        obtain rfl : j = len := by omega
        simp -implicitDefEqProofs only [lk_normal, hget_cons, List.cons_append, List.nil_append, hg, lenL, hjl, ZB, Int.reduceToNat, Nat.reduceLT, Nat.reduceLeDiff, Int.reduceLE, Int.reduceLT, Nat.reduceEqDiff, Nat.reduceSub, SB, SV.known, packR, ne_eq, reduceCtorEq, Nat.reduceEqDiff, ↓reduceIte, if_true, if_false, eq_self, Nat.reduceAdd, Nat.reduceMul, Nat.reduceSub, forall_const, oneCellS, litOne, flat1, Kd.isSca, flat, TYB]
        have c1 : cutOff cap i 0 2 = i * 2 := by unfold cutOff; rw [if_neg (by omega)]; omega
        have c2 : i * 2 + (j - i) * 2 = j * 2 := by omega
        rw [c1, c2, g2]
        refine ⟨by omega, by omega, by omega, by omega, by omega, by omega, ?_, ?_⟩
        · rw [show i * 2 / 2 = i by omega]
        · rw [List.append_assoc (kept (fun x => !pr x) L j), List.take_left' g2, ← List.append_assoc, List.drop_left' (by rw [List.length_append]; omega), show (j - i) * 2 = j * 2 - i * 2 by omega]
/-- On a slice that is nil. -/
theorem deleteFunc_nil (g : Nat) (caps : List SV) (H : Heap) (n0 : Nat) (hw : wfL n0 caps) (hwH : hwf n0 H) : PureH Try.prog 27 [.nils, .fn g caps] H .nils := by
  have h1 : PureH Try.prog 56 [.nils, .fn g caps] H (.int (-1)) := by
    refine pure_of_vc (X := ⟨Try.prog, tys, [], [], true, true, n0, [], []⟩) fn_56 ⟨tys_ok, .nil, .nil, mixed⟩ (n0 := n0) (Nat.le_of_ble_eq_true rfl) ⟨trivial, by simpa [SV.wf] using hw, trivial⟩ hwH (Nat.le_refl _) (fun _ => trivial) ?_
    simp -implicitDefEqProofs only [Try.f56, Option.getD_some, argS, SB, SV.known, packR, ne_eq, reduceCtorEq, Nat.reduceEqDiff, ↓reduceIte, if_true, if_false, eq_self, Nat.reduceAdd, Nat.reduceMul, Nat.reduceSub, forall_const, oneCellS, litOne, flat1, Kd.isSca, flat, TYB]
    refine loop_intro (fun i : Unit => [(0, .nils), (1, .fn g caps), (7, .int 0), (8, .int 0)]) (fun i => H) n0 (fun i => True) (fun i => 0) ?_ ?_
    · refine ⟨(), trivial, Sub.same ?_ ?_ hwH (Nat.le_refl _)⟩
      · simp [subS, subH, wfS, wfH, SV.ren, renL, SObj.ren, SV.wf, SObj.wf, wfL, sget_cons, hget_cons, SV.known, renL_id]
      · simp [subS, subH, wfS, wfH, SV.ren, renL, SObj.ren, SV.wf, SObj.wf, wfL, sget_cons, hget_cons, hw]
    · intro _ _
      simp -implicitDefEqProofs only [lk_normal, SB, SV.known, packR, ne_eq, reduceCtorEq, Nat.reduceEqDiff, ↓reduceIte, if_true, if_false, eq_self, Nat.reduceAdd, Nat.reduceMul, Nat.reduceSub, forall_const, oneCellS, litOne, flat1, Kd.isSca, flat, TYB]
      simp
  refine pure_of_vc (X := ⟨Try.prog, tys, [(56, fun args H' => some (args = [.nils, .fn g caps] ∧ H' = H, .int (-1)))], [], true, true, n0, [], []⟩) fn_27 ⟨tys_ok, .cons (fun args H' p v h hp => ?_) .nil, .nil, mixed⟩ (n0 := n0) (Nat.le_of_ble_eq_true rfl) ⟨trivial, by simpa [SV.wf] using hw, trivial⟩ hwH (Nat.le_refl _) (fun _ => trivial) ?_
  · cases h
    obtain ⟨rfl, rfl⟩ := hp
    exact h1
  simp -implicitDefEqProofs only [Try.f27, Option.getD_some, argS, SB, SV.known, packR, ne_eq, reduceCtorEq, Nat.reduceEqDiff, ↓reduceIte, if_true, if_false, eq_self, Nat.reduceAdd, Nat.reduceMul, Nat.reduceSub, forall_const, oneCellS, litOne, flat1, Kd.isSca, flat, TYB]
theorem kept_pair {np : List Int → Bool} {L : List Int} : ∀ k, k * 2 ≤ L.length → ∀ i, i * 2 + 2 ≤ (kept np L k).length → ∃ j, j < k ∧ ((kept np L k).drop (i * 2)).take 2 = (L.drop (j * 2)).take 2 ∧ np ((L.drop (j * 2)).take 2) = true
  | 0, _, i, h => by simp [kept_zero] at h
  | k + 1, hk, i, h => by
    obtain ⟨n, hn, _⟩ := kept_even np L k (by omega)
    have l2 : ((L.drop (k * 2)).take 2).length = 2 := by rw [List.length_take, List.length_drop]; omega
    rw [kept_succ] at h ⊢
    by_cases hi : i * 2 + 2 ≤ n * 2
    · obtain ⟨j, h1, h2, h3⟩ := kept_pair (np := np) (L := L) k (by omega) i (by omega)
      refine ⟨j, by omega, ?_, h3⟩
      rw [List.drop_append_of_le_length (by omega), List.take_append_of_le_length (by rw [List.length_drop]; omega)]
      exact h2
    · split at h
      · rename_i hc
        rw [List.length_append, hn, l2] at h
        have : i = n := by omega
        subst this
        refine ⟨k, by omega, ?_, hc⟩
        rw [if_pos hc, List.drop_left' hn, List.take_of_length_le (by omega)]
      · simp at h; omega
end Go.Proofs.Ytaopbefklkbmeaa
set_option maxRecDepth 100000
set_option linter.unusedSimpArgs false
set_option linter.unusedVariables false
namespace Go.Proofs.Ytaopbefklkbmeaa
open Go Go.RowKit
--@tbl isAt = impl.isAt
--@tbl areAll_place = impl.areAll[int]
end Go.Proofs.Ytaopbefklkbmeaa
set_option maxRecDepth 100000
set_option linter.unusedSimpArgs false
set_option linter.unusedVariables false
namespace Go.Proofs.Ytaopbefklkbmeaa
open Go Go.RowKit
end Go.Proofs.Ytaopbefklkbmeaa
set_option maxRecDepth 100000
set_option linter.unusedSimpArgs false
set_option linter.unusedVariables false
namespace Go.Proofs.Ytaopbefklkbmeaa
open Go Go.RowKit
theorem pourF_len {R : List Int} (hR : R.length = 24) (a b : Nat) : (pourF R a b).length = 24 := by unfold pourF; rw [pmR_len, hR]
end Go.Proofs.Ytaopbefklkbmeaa
set_option maxRecDepth 100000
set_option linter.unusedSimpArgs false
set_option linter.unusedVariables false
namespace Go.Proofs.Ytaopbefklkbmeaa
open Go Go.RowKit
end Go.Proofs.Ytaopbefklkbmeaa
set_option maxRecDepth 100000
set_option linter.unusedSimpArgs false
set_option linter.unusedVariables false
namespace Go.Proofs.Ytaopbefklkbmeaa
open Go Go.RowKit

--@tbl eqIntA3 = laws.eqIntA3
--@tbl eqIntA4 = laws.eqIntA4
--@tbl eqIntA5 = laws.eqIntA5
--@tbl eqIntA6 = laws.eqIntA6
--@tbl eqIntA4A6 = laws.eqIntA4A6
--@tbl eqRack = laws.eqRack
--@tbl eqView = laws.eqView
--@tbl toSource = laws.toSource
end Go.Proofs.Ytaopbefklkbmeaa
set_option maxRecDepth 100000
set_option linter.unusedSimpArgs false
set_option linter.unusedVariables false
namespace Go.Proofs.Ytaopbefklkbmeaa
open Go Go.RowKit
theorem tube_cells {t : List Int} (ht : t.length = 4) (hb : tubeB t = true) : (∀ b, b < layN t → 1 ≤ t.getD b 0 ∧ t.getD b 0 ≤ 5) ∧ (∀ b, layN t ≤ b → t.getD b 0 = 0) := by
  have hle := lay_le t ht
  unfold tubeB at hb
  simp only [Bool.and_eq_true] at hb
  constructor
  · intro b hbn
    have hlt : b < t.length := by omega
    have := List.all_eq_true.1 hb.1 (t.getD b 0) (by
      simp only [List.getD, List.getElem?_eq_getElem hlt, Option.getD_some]
      exact List.mem_take_iff_getElem.2 ⟨b, by omega, rfl⟩)
    simpa [coT] using this
  · intro b hbn
    rcases Nat.lt_or_ge b 4 with h4 | h4
    · have hlt : b < t.length := by omega
      have := List.all_eq_true.1 hb.2 (t.getD b 0) (by
        simp only [List.getD, List.getElem?_eq_getElem hlt, Option.getD_some]
        exact List.mem_drop_iff_getElem.2 ⟨b - layN t, by omega, by congr 1; omega⟩)
      simpa [is0] using this
    · simp [List.getD, List.getElem?_eq_none (show t.length ≤ b by omega)]
theorem tube_of {t : List Int} (ht : t.length = 4) {n : Nat} (hn : n ≤ 4) (h1 : ∀ b, b < n → 1 ≤ t.getD b 0 ∧ t.getD b 0 ≤ 5) (h2 : ∀ b, n ≤ b → b < 4 → t.getD b 0 = 0) : tubeB t = true ∧ layN t = n := by
  have hl : layN t = n := by
    unfold layN
    rcases Nat.lt_or_ge n 4 with h4 | h4
    · have : t.findIdx? isZ0 = some n := by
        rw [List.findIdx?_eq_some_iff_getElem]
        refine ⟨by omega, ?_, fun j hj => ?_⟩
        · have := h2 n (by omega) h4
          simp only [List.getD, List.getElem?_eq_getElem (show n < t.length by omega), Option.getD_some] at this
          simp [isZ0, this]
        · have := h1 j hj
          simp only [List.getD, List.getElem?_eq_getElem (show j < t.length by omega), Option.getD_some] at this
          simp [isZ0]; omega
      rw [this]; rfl
    · have : t.findIdx? isZ0 = none := by
        rw [List.findIdx?_eq_none_iff]
        intro x hx
        obtain ⟨k, hk, rfl⟩ := List.getElem_of_mem hx
        have := h1 k (by omega)
        simp only [List.getD, List.getElem?_eq_getElem hk, Option.getD_some] at this
        simp [isZ0]; omega
      rw [this]
      simp; omega
  refine ⟨?_, hl⟩
  unfold tubeB
  rw [hl]
  simp only [Bool.and_eq_true]
  constructor
  · rw [List.all_eq_true]
    intro x hx
    obtain ⟨k, hk, rfl⟩ := List.mem_take_iff_getElem.1 hx
    have := h1 k (by omega)
    simp only [List.getD, List.getElem?_eq_getElem (show k < t.length by omega), Option.getD_some] at this
    simpa [coT] using this
  · rw [List.all_eq_true]
    intro x hx
    obtain ⟨k, hk, rfl⟩ := List.mem_drop_iff_getElem.1 hx
    have := h2 (n + k) (by omega) (by omega)
    simp only [List.getD, List.getElem?_eq_getElem (show n + k < t.length by omega), Option.getD_some] at this
    simpa [is0] using this
theorem rack_tubes {R : List Int} : rackB R = true ↔ ∀ i, i < 6 → tubeB (tubeAt R i) = true := by
  unfold rackB tubesOf tubeAt
  simp only [List.all_map, List.all_eq_true, List.mem_range, Function.comp, Nat.zero_add]
theorem tubeAt_getD (R : List Int) (i k : Nat) (h : k < 4) : (tubeAt R i).getD k 0 = R.getD (i * 4 + k) 0 := cut_getD R i k h
theorem tubeAt_ext {R R' : List Int} {i j : Nat} (h1 : (tubeAt R i).length = 4) (h2 : (tubeAt R' j).length = 4) (h : ∀ k, k < 4 → R.getD (i * 4 + k) 0 = R'.getD (j * 4 + k) 0) : tubeAt R i = tubeAt R' j := by
  apply List.ext_getElem (by omega)
  intro k hk1 hk2
  have e1 := tubeAt_getD R i k (by omega)
  have e2 := tubeAt_getD R' j k (by omega)
  have := h k (by omega)
  simp only [List.getD, List.getElem?_eq_getElem hk1, List.getElem?_eq_getElem hk2, Option.getD_some] at e1 e2 this
  rw [e1, e2]; exact this
theorem getD_set' (L : List Int) (a b : Nat) (x : Int) (h : a < L.length) : (L.set a x).getD b 0 = if a = b then x else L.getD b 0 := by
  simp only [List.getD, List.getElem?_set]
  split
  · simp [h]
  · rfl
/-- The cells of a rack behind some moved layers. -/
theorem pmR_cell {R : List Int} (hR : R.length = 24) {i j : Nat} (hi : i < 6) (hj : j < 6) (hij : i ≠ j) : ∀ m, m ≤ layN (tubeAt R i) → m + layN (tubeAt R j) ≤ 4 → ∀ a b, a < 6 → b < 4 →
    (pmR R i j m).getD (a * 4 + b) 0 = if a = i ∧ layN (tubeAt R i) - m ≤ b ∧ b < layN (tubeAt R i) then 0 else if a = j ∧ layN (tubeAt R j) ≤ b ∧ b < layN (tubeAt R j) + m then (topF (tubeAt R i)).1 else R.getD (a * 4 + b) 0
  | 0, _, _, a, b, _, _ => by
    simp only [pmR]
    rw [if_neg (by omega), if_neg (by omega)]
  | m + 1, hm, hm2, a, b, ha, hb => by
    have hli := lay_le _ (tubeAt_len hR hi)
    have hlj := lay_le _ (tubeAt_len hR hj)
    have ih := pmR_cell hR hi hj hij m (by omega) (by omega) a b ha hb
    simp only [pmR]
    rw [getD_set' _ _ _ _ (by rw [List.length_set, pmR_len]; omega), getD_set' _ _ _ _ (by rw [pmR_len]; omega), ih]
    by_cases h1 : j * 4 + (layN (tubeAt R j) + m) = a * 4 + b
    · have haj : a = j := by omega
      subst haj
      rw [if_pos h1, if_neg (by omega), if_pos (by omega)]
    · rw [if_neg h1]
      by_cases h2 : i * 4 + (layN (tubeAt R i) - 1 - m) = a * 4 + b
      · have hai : a = i := by omega
        subst hai
        rw [if_pos h2, if_pos (by omega)]
      · rw [if_neg h2]
        by_cases h3 : a = i ∧ layN (tubeAt R i) - m ≤ b ∧ b < layN (tubeAt R i)
        · rw [if_pos h3, if_pos (by omega)]
        · rw [if_neg h3]
          by_cases h4 : a = i ∧ layN (tubeAt R i) - (m + 1) ≤ b ∧ b < layN (tubeAt R i)
          · omega
          · rw [if_neg h4]
            by_cases h5 : a = j ∧ layN (tubeAt R j) ≤ b ∧ b < layN (tubeAt R j) + m
            · rw [if_pos h5, if_pos (by omega)]
            · rw [if_neg h5, if_neg (by omega)]
theorem top_co {t : List Int} (ht : t.length = 4) (hb : tubeB t = true) (h0 : 0 < layN t) : 1 ≤ (topF t).1 ∧ (topF t).1 ≤ 5 := by
  obtain ⟨r, h1, h2⟩ := topF_run t ht h0
  rw [h1]
  exact (tube_cells ht hb).1 _ (by omega)
theorem pm_facts {R : List Int} (hR : R.length = 24) (hr : rackB R = true) {i j : Nat} (hi : i < 6) (hj : j < 6) (hij : i ≠ j) {m : Nat} (hm : m ≤ layN (tubeAt R i)) (hm2 : m + layN (tubeAt R j) ≤ 4) :
    (tubeB (tubeAt (pmR R i j m) i) = true ∧ layN (tubeAt (pmR R i j m) i) = layN (tubeAt R i) - m) ∧ (tubeB (tubeAt (pmR R i j m) j) = true ∧ layN (tubeAt (pmR R i j m) j) = layN (tubeAt R j) + m) ∧
    (∀ k, k < 6 → k ≠ i → k ≠ j → tubeAt (pmR R i j m) k = tubeAt R k) := by
  have hP : (pmR R i j m).length = 24 := by rw [pmR_len, hR]
  have hc := pmR_cell hR hi hj hij m hm hm2
  have hli := tubeAt_len hR hi
  have hlj := tubeAt_len hR hj
  have ci := tube_cells hli (tubeAt_ok hr hi)
  have cj := tube_cells hlj (tubeAt_ok hr hj)
  have li := lay_le _ hli
  refine ⟨tube_of (tubeAt_len hP hi) (by omega) (fun b hb => ?_) (fun b hb hb4 => ?_), tube_of (tubeAt_len hP hj) (by omega) (fun b hb => ?_) (fun b hb hb4 => ?_), fun k hk h1 h2 => ?_⟩
  · rw [tubeAt_getD _ _ _ (by omega), hc i b hi (by omega), if_neg (by omega), if_neg (by omega), ← tubeAt_getD _ _ _ (by omega)]
    exact ci.1 b (by omega)
  · rw [tubeAt_getD _ _ _ hb4, hc i b hi hb4]
    by_cases h3 : b < layN (tubeAt R i)
    · rw [if_pos ⟨rfl, hb, h3⟩]
    · rw [if_neg (by omega), if_neg (by omega), ← tubeAt_getD _ _ _ hb4]
      exact ci.2 b (by omega)
  · rw [tubeAt_getD _ _ _ (by omega), hc j b hj (by omega), if_neg (by omega)]
    by_cases h3 : layN (tubeAt R j) ≤ b
    · rw [if_pos (by omega)]
      exact top_co hli (tubeAt_ok hr hi) (by omega)
    · rw [if_neg (by omega), ← tubeAt_getD _ _ _ (by omega)]
      exact cj.1 b (by omega)
  · rw [tubeAt_getD _ _ _ hb4, hc j b hj hb4, if_neg (by omega), if_neg (by omega), ← tubeAt_getD _ _ _ hb4]
    exact cj.2 b (by omega)
  · refine tubeAt_ext (tubeAt_len hP hk) (tubeAt_len hR hk) fun b hb => ?_
    rw [hc k b hk hb, if_neg (by omega), if_neg (by omega)]
theorem pm_rack {R : List Int} (hR : R.length = 24) (hr : rackB R = true) {i j : Nat} (hi : i < 6) (hj : j < 6) (hij : i ≠ j) {m : Nat} (hm : m ≤ layN (tubeAt R i)) (hm2 : m + layN (tubeAt R j) ≤ 4) : rackB (pmR R i j m) = true := by
  obtain ⟨h1, h2, h3⟩ := pm_facts hR hr hi hj hij hm hm2
  rw [rack_tubes]
  intro k hk
  by_cases hki : k = i
  · rw [hki]; exact h1.1
  · by_cases hkj : k = j
    · rw [hkj]; exact h2.1
    · rw [h3 k hk hki hkj]; exact tubeAt_ok hr hk
theorem can_facts {R : List Int} {i j : Int} (hR : R.length = 24) (hr : rackB R = true) (hi : 0 ≤ i ∧ i ≤ 5) (hj : 0 ≤ j ∧ j ≤ 5) (h : canF R i j = true) : i ≠ j ∧ 0 < layN (tubeAt R i.toNat) ∧ layN (tubeAt R j.toNat) < 4 ∧ 0 < pmN R i.toNat j.toNat ∧
    (pmN R i.toNat j.toNat).toNat ≤ layN (tubeAt R i.toNat) ∧ (pmN R i.toNat j.toNat).toNat + layN (tubeAt R j.toNat) ≤ 4 ∧ pmN R i.toNat j.toNat ≤ 4 := by
  simp only [canF, Bool.and_eq_true, Bool.not_eq_true', decide_eq_false_iff_not, decide_eq_true_eq] at h
  have hli := tubeAt_len hR (i := i.toNat) (by omega)
  have hlj := tubeAt_len hR (i := j.toNat) (by omega)
  have tp := top_pos _ hli (tubeAt_ok hr (by omega))
  have tl := topF_le _ hli
  have h0 := tp.1.1 h.1.1.2
  have h2 := tp.2.2 h0
  have := lay_le _ hlj
  have := lay_le _ hli
  unfold pmN
  refine ⟨h.1.1.1, h0, by omega, by omega, by omega, by omega, by omega⟩
theorem pour_rack {R : List Int} {i j : Int} (hR : R.length = 24) (hr : rackB R = true) (hi : 0 ≤ i ∧ i ≤ 5) (hj : 0 ≤ j ∧ j ≤ 5) (h : canF R i j = true) : rackB (pourF R i.toNat j.toNat) = true := by
  obtain ⟨h1, h2, h3, h4, h5, h6, _⟩ := can_facts hR hr hi hj h
  exact pm_rack hR hr (by omega) (by omega) (by omega) h5 h6
end Go.Proofs.Ytaopbefklkbmeaa
set_option maxRecDepth 100000
set_option linter.unusedSimpArgs false
set_option linter.unusedVariables false
namespace Go.Proofs.Ytaopbefklkbmeaa
open Go Go.RowKit
def crN (t : List Int) : Int := ((runsL t).length / 2 : Nat)
/-! Counts. -/
/-! The bound. -/
theorem RL_last (t : List Int) (ht : t.length = 4) : ∀ i, 0 < i → i ≤ 4 → ∃ r n : Nat, (RL t i).length = n * 2 ∧ 0 < n ∧ (RL t i).getD (n * 2 - 2) 0 = t.getD (i - 1) 0 ∧ (RL t i).getD (n * 2 - 1) 0 = r ∧ 0 < r ∧ r ≤ i := by
  intro i
  induction i with
  | zero => intro h; omega
  | succ i ih =>
    intro _ hi
    rw [RL_succ t i (by omega)]
    by_cases hi0 : i = 0
    · subst hi0
      rw [RL_zero]
      exact ⟨1, 1, by simp [stepR], by omega, by simp [stepR], by simp [stepR], by omega, by omega⟩
    · obtain ⟨r, n, h1, h2, h3, h4, h5, h6⟩ := ih (by omega) (by omega)
      by_cases he : (RL t i).getD (n * 2 - 2) 0 = t.getD i 0
      · rw [stepR_eq h1 h2 he]
        refine ⟨r + 1, n, by simpa using h1, h2, ?_, ?_, by omega, by omega⟩
        · rw [show i + 1 - 1 = i by omega, ← he]
          simp only [List.getD, List.getElem?_set]
          rw [if_neg (by omega)]
        · rw [getD_set_self _ _ _ (by omega), h4]; omega
      · rw [stepR_ne h1 he]
        refine ⟨1, n + 1, by simp; omega, by omega, ?_, ?_, by omega, by omega⟩
        · rw [show (n + 1) * 2 - 2 = (RL t i).length + 0 by omega, getD_app_right]; rfl
        · rw [show (n + 1) * 2 - 1 = (RL t i).length + 1 by omega, getD_app_right]; rfl
theorem l2Runs_ok (t : List Int) (ht : t.length = 4) (hb : tubeB t = true) : FreshP Try.prog 67 [.arr t] [] (runsL t) ((runsL t).length / 2) 2 49 false .one := by
  have tk : t.take 4 = t := List.take_of_length_le (by omega)
  have hp := posC_lay t ht hb
  have hle := lay_le t ht
  refine fresh_of_vc (X := ⟨Try.prog, tys, [(45, l2Many_F)], [], true, true, 0, [], []⟩) fn_67 ⟨tys_ok, (.cons l2Many_T .nil), .nil, mixed⟩ (n0 := 0) rfl (Nat.le_of_ble_eq_true rfl) (by simp [wfL, SV.wf]) (wfH_spec (by simp [wfH, SObj.wf, wfL, SV.wf])) (Nat.le_refl _) ?_
  simp -implicitDefEqProofs only [Try.f67, Option.getD_some, argS, l2Many_F, ht, tk, hp, ZB, Int.reduceToNat, Nat.reduceLT, Nat.reduceLeDiff, Int.reduceLE, Int.reduceLT, Nat.reduceEqDiff, Nat.reduceSub, SB, SV.known, packR, ne_eq, reduceCtorEq, Nat.reduceEqDiff, ↓reduceIte, if_true, if_false, eq_self, Nat.reduceAdd, Nat.reduceMul, Nat.reduceSub, forall_const, oneCellS, litOne, flat1, Kd.isSca, flat, TYB]
  refine loop_intro (fun s : Nat × Nat × Nat × List Int => [(4, .int s.1), (3, .slice 1 0 s.2.1 s.2.2.1), (1, .ptr 0 0)]) (fun s => [(1, .ints (RL t s.1 ++ s.2.2.2) 49), (0, .ints t 22)]) 2
    (fun s => s.1 ≤ layN t ∧ (RL t s.1).length = s.2.1 * 2 ∧ s.2.1 ≤ s.1 ∧ s.2.2.2.length + s.2.1 * 2 = s.2.2.1 * 2) (fun s => layN t - s.1) ?_ ?_
  · refine ⟨(0, 0, 0, []), ?_, Sub.mk_id ?_ ?_ ?_ ?_ ?_⟩
    all_goals (try (simp only [RL_zero, List.append_nil, LB, subS, subH, wfS, wfH, SV.ren, renL, SObj.ren, SV.wf, SObj.wf, wfL, SV.known, Nat.reduceEqDiff, ↓reduceIte, if_true, if_false, eq_self, Nat.reduceAdd, Nat.reduceLT, Nat.reduceLeDiff, implies_true, reduceCtorEq, forall_const]; done))
    all_goals (try (simp only [RL_zero, List.append_nil, LB, subS, subH, wfS, wfH, SV.ren, renL, SObj.ren, SV.wf, SObj.wf, wfL, SV.known, Nat.reduceEqDiff, ↓reduceIte, if_true, if_false, eq_self, Nat.reduceAdd, Nat.reduceLT, Nat.reduceLeDiff, implies_true, reduceCtorEq, forall_const]; simp; done))
    all_goals (try (simp only [RL_zero, List.append_nil, LB, subS, subH, wfS, wfH, SV.ren, renL, SObj.ren, SV.wf, SObj.wf, wfL, SV.known, Nat.reduceEqDiff, ↓reduceIte, if_true, if_false, eq_self, Nat.reduceAdd, Nat.reduceLT, Nat.reduceLeDiff, implies_true, reduceCtorEq, forall_const]; (and_intros <;> (first | omega | rfl | (simp; done) | (simp; omega))); done))
    all_goals (try dsimp only)
    all_goals (and_intros <;> try (first | omega | (unfold In64; omega) | trivial | assumption))
    all_goals simp [RL_zero]
  · rintro ⟨i, n, cap, junk⟩ ⟨hi, hL, hni, hj⟩
    simp only at hi hL hni hj
    have hlst := RL_last t ht i
    have tkL : (RL t i ++ junk).take (n * 2) = RL t i := List.take_left' hL
    have lenL : (RL t i ++ junk).length = cap * 2 := by rw [List.length_append]; omega
    have ei : ((i : Int) - 1).toNat = i - 1 := by omega
    have e0 : ((n : Int) - 1).toNat * 2 = n * 2 - 2 := by omega
    by_cases hlt : i < layN t
    · have es := RL_succ t i (by omega)
      rcases Nat.eq_zero_or_pos i with h0 | h0
      · subst h0
        have en : n = 0 := by omega
        subst en
        rw [RL_zero] at es
        simp -implicitDefEqProofs only [lk_normal, l2Many_F, ht, tk, hp, tkL, lenL, ei, e0, ZB, Int.reduceToNat, Nat.reduceLT, Nat.reduceLeDiff, Int.reduceLE, Int.reduceLT, Nat.reduceEqDiff, Nat.reduceSub, SB, SV.known, packR, ne_eq, reduceCtorEq, Nat.reduceEqDiff, ↓reduceIte, if_true, if_false, eq_self, Nat.reduceAdd, Nat.reduceMul, Nat.reduceSub, forall_const, oneCellS, litOne, flat1, Kd.isSca, flat, TYB]
        refine ⟨fun _ => ?_, fun hx => absurd (by omega) hx⟩
        (try (and_intros <;> try (first | omega | (unfold In64; omega) | trivial | assumption)))
        intro junk' cap' hj'
        (try (and_intros <;> try (first | omega | (unfold In64; omega) | trivial | assumption)))
        have es1 : RL t 1 = [t.getD 0 0, 1] := RL_one t (by omega)
        refine ⟨(1, 1, cap', junk'), ?_, ?_, Sub.mk_to 1 3 ?_ ?_ ?_ ?_ ?_ ?_ ?_⟩
        all_goals (try (simp only [es1, RL_zero, LB, subS, subH, wfS, wfH, SV.ren, renL, SObj.ren, SV.wf, SObj.wf, wfL, SV.known, Nat.reduceEqDiff, ↓reduceIte, if_true, if_false, eq_self, Nat.reduceAdd, Nat.reduceLT, Nat.reduceLeDiff, implies_true, reduceCtorEq, forall_const]; done))
        all_goals (try (simp only [es1, RL_zero, LB, subS, subH, wfS, wfH, SV.ren, renL, SObj.ren, SV.wf, SObj.wf, wfL, SV.known, Nat.reduceEqDiff, ↓reduceIte, if_true, if_false, eq_self, Nat.reduceAdd, Nat.reduceLT, Nat.reduceLeDiff, implies_true, reduceCtorEq, forall_const]; simp; done))
        all_goals (try (simp only [es1, RL_zero, LB, subS, subH, wfS, wfH, SV.ren, renL, SObj.ren, SV.wf, SObj.wf, wfL, SV.known, Nat.reduceEqDiff, ↓reduceIte, if_true, if_false, eq_self, Nat.reduceAdd, Nat.reduceLT, Nat.reduceLeDiff, implies_true, reduceCtorEq, forall_const]; (and_intros <;> (first | omega | rfl | (simp; done) | (simp; omega))); done))
        all_goals (try dsimp only)
        all_goals (and_intros <;> try (first | omega | (unfold In64; omega) | trivial | assumption))
        all_goals (try (simp [es1, RL_zero]; done))
        all_goals (simp only [es1, RL_zero, LB, subS, subH, wfS, wfH, SV.ren, renL, SObj.ren, SV.wf, SObj.wf, wfL, SV.known, Nat.reduceEqDiff, ↓reduceIte, if_true, if_false, eq_self, Nat.reduceAdd, Nat.reduceLT, Nat.reduceLeDiff, implies_true, reduceCtorEq, forall_const]; simp)
      · obtain ⟨r, n', g1, g2, g3, g4, g5, g6⟩ := hlst h0 (by omega)
        have en : n' = n := by omega
        subst en
        have e1 : n' * 2 - 2 + 1 = n' * 2 - 1 := by omega
        have gd1 := getD_app (RL t i) junk (n' * 2 - 1) (by omega)
        have hs := fun x => set_app (RL t i) junk (n' * 2 - 1) x (by omega)
        simp -implicitDefEqProofs only [lk_normal, l2Many_F, ht, tk, hp, tkL, lenL, ei, e0, e1, gd1, hs, ZB, Int.reduceToNat, Nat.reduceLT, Nat.reduceLeDiff, Int.reduceLE, Int.reduceLT, Nat.reduceEqDiff, Nat.reduceSub, SB, SV.known, packR, ne_eq, reduceCtorEq, Nat.reduceEqDiff, ↓reduceIte, if_true, if_false, eq_self, Nat.reduceAdd, Nat.reduceMul, Nat.reduceSub, forall_const, oneCellS, litOne, flat1, Kd.isSca, flat, TYB]
        refine ⟨fun _ => ⟨fun _ => ?_, fun hx => absurd (by omega) hx⟩, fun hx => absurd (by omega) hx⟩
        (try (and_intros <;> try (first | omega | (unfold In64; omega) | trivial | assumption)))
        · intro he
          rw [stepR_eq g1 g2 (by rw [g3, he])] at es
          (try (and_intros <;> try (first | omega | (unfold In64; omega) | trivial | assumption)))
          refine ⟨(i + 1, n', cap, junk), ?_, ?_, Sub.mk_id ?_ ?_ ?_ ?_ ?_⟩
          all_goals (try (simp only [es, LB, subS, subH, wfS, wfH, SV.ren, renL, SObj.ren, SV.wf, SObj.wf, wfL, SV.known, Nat.reduceEqDiff, ↓reduceIte, if_true, if_false, eq_self, Nat.reduceAdd, Nat.reduceLT, Nat.reduceLeDiff, implies_true, reduceCtorEq, forall_const]; done))
          all_goals (try (simp only [es, LB, subS, subH, wfS, wfH, SV.ren, renL, SObj.ren, SV.wf, SObj.wf, wfL, SV.known, Nat.reduceEqDiff, ↓reduceIte, if_true, if_false, eq_self, Nat.reduceAdd, Nat.reduceLT, Nat.reduceLeDiff, implies_true, reduceCtorEq, forall_const]; simp; done))
          all_goals (try (simp only [es, LB, subS, subH, wfS, wfH, SV.ren, renL, SObj.ren, SV.wf, SObj.wf, wfL, SV.known, Nat.reduceEqDiff, ↓reduceIte, if_true, if_false, eq_self, Nat.reduceAdd, Nat.reduceLT, Nat.reduceLeDiff, implies_true, reduceCtorEq, forall_const]; (and_intros <;> (first | omega | rfl | (simp; done) | (simp; omega))); done))
          all_goals (try dsimp only)
          all_goals (and_intros <;> try (first | omega | (unfold In64; omega) | trivial | assumption))
          all_goals (rw [es]; simp; omega)
        · intro he
          rw [stepR_ne g1 (by rw [g3]; exact fun hx => he hx.symm)] at es
          (try (and_intros <;> try (first | omega | (unfold In64; omega) | trivial | assumption)))
          intro junk' cap' hj'
          (try (and_intros <;> try (first | omega | (unfold In64; omega) | trivial | assumption)))
          refine ⟨(i + 1, n' + 1, cap', junk'), ?_, ?_, Sub.mk_to 1 3 ?_ ?_ ?_ ?_ ?_ ?_ ?_⟩
          all_goals (try (simp only [es, LB, subS, subH, wfS, wfH, SV.ren, renL, SObj.ren, SV.wf, SObj.wf, wfL, SV.known, Nat.reduceEqDiff, ↓reduceIte, if_true, if_false, eq_self, Nat.reduceAdd, Nat.reduceLT, Nat.reduceLeDiff, implies_true, reduceCtorEq, forall_const]; done))
          all_goals (try (simp only [es, LB, subS, subH, wfS, wfH, SV.ren, renL, SObj.ren, SV.wf, SObj.wf, wfL, SV.known, Nat.reduceEqDiff, ↓reduceIte, if_true, if_false, eq_self, Nat.reduceAdd, Nat.reduceLT, Nat.reduceLeDiff, implies_true, reduceCtorEq, forall_const]; simp; done))
          all_goals (try (simp only [es, LB, subS, subH, wfS, wfH, SV.ren, renL, SObj.ren, SV.wf, SObj.wf, wfL, SV.known, Nat.reduceEqDiff, ↓reduceIte, if_true, if_false, eq_self, Nat.reduceAdd, Nat.reduceLT, Nat.reduceLeDiff, implies_true, reduceCtorEq, forall_const]; (and_intros <;> (first | omega | rfl | (simp; done) | (simp; omega))); done))
          all_goals (try dsimp only)
          all_goals (and_intros <;> try (first | omega | (unfold In64; omega) | trivial | assumption))
          all_goals (rw [es, List.length_append, g1]; simp; omega)
    · have hii : i = layN t := by omega
      have hr : runsL t = RL t i := by rw [hii]; rfl
      simp -implicitDefEqProofs only [lk_normal, l2Many_F, ht, tk, hp, tkL, lenL, ei, e0, ZB, Int.reduceToNat, Nat.reduceLT, Nat.reduceLeDiff, Int.reduceLE, Int.reduceLT, Nat.reduceEqDiff, Nat.reduceSub, SB, SV.known, packR, ne_eq, reduceCtorEq, Nat.reduceEqDiff, ↓reduceIte, if_true, if_false, eq_self, Nat.reduceAdd, Nat.reduceMul, Nat.reduceSub, forall_const, oneCellS, litOne, flat1, Kd.isSca, flat, TYB]
      refine ⟨fun hx => absurd hx (by omega), fun _ => ?_⟩
      refine .inr ⟨1, cap, junk, ?_, ?_, by omega, ?_, by simp⟩
      · rw [hr, hL]; simp [Wrap.ap]
      · rw [hr]; simp [hget_cons]
      · rw [hr]; omega
--@tbl l2Runs = spec.l2Runs
def l2Runs_F : List SV → Heap → Nat → Nat → K1 → Prop
  | [.arr t], H, n, _, κ => (t.length = 4 ∧ tubeB t = true) ∧ freshK .one (runsL t) ((runsL t).length / 2) 2 49 false H n κ
  | _, _, _, _, _ => False
theorem l2Runs_T : ∀ args H n m κ, l2Runs_F args H n m κ → GenOK Try.prog 67 args H n m κ := by
  intro args H n m κ h
  unfold l2Runs_F at h
  split at h
  · exact gen_of_fresh (l2Runs_ok _ h.1.1 h.1.2) (fun k o hk => by cases hk) h.2
  · exact h.elim
/-! The model's boundaries. -/
theorem runs_bottom (t : List Int) (ht : t.length = 4) (hb : tubeB t = true) : (0 < layN t ↔ 0 < crN t) ∧ (t.getD 0 0 = 0 ↔ layN t = 0) := by
  have hle := lay_le t ht
  constructor
  · constructor
    · intro h
      obtain ⟨n, h1, h2, h3⟩ := runsL_even t ht
      have := h3 h
      unfold crN
      omega
    · intro h
      rcases Nat.eq_zero_or_pos (layN t) with h0 | h0
      · have : crN t = 0 := by simp [crN, runsL, h0]
        omega
      · exact h0
  · obtain ⟨a, b, c, d, rfl⟩ : ∃ a b c d, t = [a, b, c, d] := by
      match t, ht with
      | [a, b, c, d], _ => exact ⟨a, b, c, d, rfl⟩
    by_cases ha : a = 0
    · subst ha; simp [layN, isZ0, List.findIdx?_cons]
    · simp [layN, isZ0, List.findIdx?_cons, ha, Ne.symm ha]
end Go.Proofs.Ytaopbefklkbmeaa
set_option maxRecDepth 100000
set_option linter.unusedSimpArgs false
set_option linter.unusedVariables false
namespace Go.Proofs.Ytaopbefklkbmeaa
open Go Go.RowKit
def idleF (R p : List Int) : Bool := decide ((runsL (tubeAt R (p.getD 0 0).toNat)).length / 2 = 1) && decide (layN (tubeAt R (p.getD 1 0).toNat) = 0)
def okP (p : List Int) : Prop := p.length = 2 ∧ (0 ≤ p.getD 0 0 ∧ p.getD 0 0 ≤ 5) ∧ (0 ≤ p.getD 1 0 ∧ p.getD 1 0 ≤ 5)
theorem okP_take {p : List Int} (h : okP p) : p.take 2 = p := List.take_of_length_le (by have := h.1; omega)
--@tbl isIdle = impl.isIdle
theorem isIdle_ok (R p : List Int) (hR : R.length = 24) (hp : okP p) : PureH Try.prog 59 [.arr R, .arr p] [] (.bool (idleF R p)) := by
  have tkR : R.take 24 = R := List.take_of_length_le (by omega)
  have tkp := okP_take hp
  obtain ⟨pl, b0, b1⟩ := hp
  have e0 : List.take 4 (List.drop ((p.getD 0 0).toNat * 4) R) = tubeAt R (p.getD 0 0).toNat := rfl
  have e1 : List.take 4 (List.drop ((p.getD 1 0).toNat * 4) R) = tubeAt R (p.getD 1 0).toNat := rfl
  have l0 := tubeAt_len hR (i := (p.getD 0 0).toNat) (by omega)
  have l1 := tubeAt_len hR (i := (p.getD 1 0).toNat) (by omega)
  obtain ⟨n, hn, hn4, _⟩ := runsL_even _ l0
  have hn2 : (runsL (tubeAt R (p.getD 0 0).toNat)).length / 2 = n := by omega
  unfold idleF
  rw [hn2]
  refine pure_of_vc (X := ⟨Try.prog, tys, [(61, layers_F)], [(55, runs_F)], true, true, 0, [], []⟩) fn_59 ⟨tys_ok, (.cons layers_T .nil), (.cons runs_T .nil), mixed⟩ (n0 := 0) (Nat.le_of_ble_eq_true rfl) (by simp [wfL, SV.wf]) (wfH_spec (by simp [wfH, SObj.wf, wfL, SV.wf])) (Nat.le_refl _) (fun _ => by simp [SV.wf, wfL]) ?_
  simp -implicitDefEqProofs only [Try.f59, Option.getD_some, argS, layers_F, runs_F, hR, tkR, tkp, pl, e0, e1, l0, l1, hn2, freshK, Wrap.ap, ZB, Int.reduceToNat, Nat.reduceLT, Nat.reduceLeDiff, Int.reduceLE, Int.reduceLT, Nat.reduceEqDiff, Nat.reduceSub, SB, SV.known, packR, ne_eq, reduceCtorEq, Nat.reduceEqDiff, ↓reduceIte, if_true, if_false, eq_self, Nat.reduceAdd, Nat.reduceMul, Nat.reduceSub, forall_const, oneCellS, litOne, flat1, Kd.isSca, flat, TYB]
  refine ⟨by omega, by omega, by omega, fun h0 => ?_, fun h0 cap junk hj => ?_⟩
  · have h00 : n = 0 := by rw [h0] at hn; simp at hn; omega
    subst h00
    exact ⟨fun h => by omega, fun _ => by simp⟩
  · refine ⟨fun h => ⟨by omega, by omega, by omega, ?_⟩, fun h => ?_⟩
    · have : n = 1 := by omega
      subst this
      simp
    · have : ¬ n = 1 := by omega
      simp [this]
def isIdle_F : List SV → Heap → Option (Prop × SV)
  | [.arr R, .arr p], _ => some (R.length = 24 ∧ okP p, .bool (idleF R p))
  | _, _ => none
theorem isIdle_T : ∀ args H p v, isIdle_F args H = some (p, v) → p → PureH Try.prog 59 args H v := by
  intro args H p v h hp
  unfold isIdle_F at h
  split at h
  · cases h; exact (isIdle_ok _ _ hp.1 hp.2).any _
  · cases h
/-! DeleteFunc with a closure over one rack. -/
--@tbl delR = slices.DeleteFunc[[][2]int,[2]int]
def delR_F (g : Nat) (pr : List Int → List Int → Bool) (Q : List Int → List Int → Prop) : List SV → Heap → Nat → Nat → K1 → Prop
  | [.slice b 0 len cap, .fn f [.ptr k 0]], H, n, m, κ => match hget H b, hget H k with
    | some (.ints L e), some (.ints R _) => f = g ∧ R.length = 24 ∧ L.length = cap * 2 ∧ len ≤ cap ∧ len ≤ 4611686018427387903 ∧ b ≠ k ∧ m ≤ b ∧ (∀ i, i < len → Q R ((L.drop (i * 2)).take 2)) ∧
        κ (.slice b 0 ((kept (fun x => !pr R x) L len).length / 2) cap) ((b, .ints (kept (fun x => !pr R x) L len ++ List.replicate (len * 2 - (kept (fun x => !pr R x) L len).length) 0 ++ L.drop (len * 2)) e) :: H) n
    | _, _ => False
  | [.nils, .fn _ [.ptr k 0]], H, n, _, κ => match hget H k with
    | some (.ints _ _) => κ .nils H n
    | _ => False
  | _, _, _, _, _ => False
theorem delR_T (g : Nat) (pr : List Int → List Int → Bool) (Q : List Int → List Int → Prop) (hg : g ≠ 56) (hc : ∀ (R : List Int) (e : Nat) (p : List Int), R.length = 24 → Q R p → PureH Try.prog g [.arr p, .ptr 0 0] [(0, .ints R e)] (.bool (pr R p))) :
    ∀ args H n m κ, delR_F g pr Q args H n m κ → GenOK Try.prog 27 args H n m κ := by
  intro args H n m κ h
  unfold delR_F at h
  split at h
  · rename_i b len cap f k
    split at h
    · rename_i L e R e2 h1 h2
      obtain ⟨rfl, hR, hL, hlc, hm, hbk, hmb, hQ, h⟩ := h
      have hu := deleteFunc_ok f hg [.ptr 0 0] [(0, .ints R e2)] (pr R) 1 L e len cap hL hlc hm (Q R) hQ (fun x hx => hc R e2 x hR hx) (by simp [wfL, SV.wf]) (wfH_spec (by simp [wfH, SObj.wf]))
      have := gen_of_upd (H := H) (n := n) (m := m) (κ := κ) hu (fun j => if j = 1 then b else k) (fun j o1 hj => by
        simp only [hget_cons] at hj
        split at hj
        · rename_i hj1; cases hj; rw [if_pos hj1]; exact h1
        · rename_i hj1
          split at hj
          · cases hj; rw [if_neg hj1]; exact h2
          · cases hj) (fun j1 o1 j2 o2 g1 g2 he => by
        simp only [hget_cons] at g1 g2
        by_cases q1 : j1 = 1
        · by_cases q2 : j2 = 1
          · omega
          · simp only [q1, q2, if_true, if_false] at he; omega
        · by_cases q2 : j2 = 1
          · simp only [q1, q2, if_true, if_false] at he; omega
          · rw [if_neg q1] at g1
            rw [if_neg q2] at g2
            split at g1
            · split at g2
              · omega
              · cases g2
            · cases g1) (by simpa using hmb) rfl (fun n hn => by simpa [SV.wf, SV.ren] using hn) (by simpa [SV.ren] using h)
      simpa [renL, SV.ren] using this
    · exact h.elim
  · rename_i f k
    split at h
    · rename_i R e2 h2
      refine ⟨(deleteFunc_nil f [.ptr k 0] [] (k + 1) (by simp [wfL, SV.wf]) (hwf_nil _)).ent, fun B M w hH hwH hwa hown hM => ?_⟩
      have hp := deleteFunc_nil f [.ptr k 0] [] (k + 1) (by simp [wfL, SV.wf]) (hwf_nil _)
      refine (hp.call B w (HR.nil B w)).mono fun e w' hh => ?_
      exact ⟨.nils, H, n, B, hh.1, h, Nat.le_refl _, trivial, hwH, fun _ _ => rfl, hH.of_below hh.2, hown, Kept.of_below hh.2⟩
    · exact h.elim
  · exact h.elim
--@tbl useful = impl.useful
theorem useful1_ok (R : List Int) (e : Nat) (p : List Int) (hR : R.length = 24) (hp : okP p) : PureH Try.prog 58 [.arr p, .ptr 0 0] [(0, .ints R e)] (.bool (idleF R p)) := by
  have tkR : R.take 24 = R := List.take_of_length_le (by omega)
  refine pure_of_vc (X := ⟨Try.prog, tys, [(59, isIdle_F)], [], true, true, 1, [], []⟩) fn_58 ⟨tys_ok, (.cons isIdle_T .nil), .nil, mixed⟩ (n0 := 1) (Nat.le_of_ble_eq_true rfl) (by simp [wfL, SV.wf]) (wfH_spec (by simp [wfH, SObj.wf, wfL, SV.wf])) (Nat.le_refl _) (fun _ => by simp [SV.wf, wfL]) ?_
  simp -implicitDefEqProofs only [Try.f58, Option.getD_some, argS, isIdle_F, hR, tkR, ZB, Int.reduceToNat, Nat.reduceLT, Nat.reduceLeDiff, Int.reduceLE, Int.reduceLT, Nat.reduceEqDiff, Nat.reduceSub, SB, SV.known, packR, ne_eq, reduceCtorEq, Nat.reduceEqDiff, ↓reduceIte, if_true, if_false, eq_self, Nat.reduceAdd, Nat.reduceMul, Nat.reduceSub, forall_const, oneCellS, litOne, flat1, Kd.isSca, flat, TYB]
  have tkp := okP_take hp
  rw [tkp]
  exact ⟨by have := hp.1; omega, hp, rfl⟩
def uDel_F := delR_F 58 idleF (fun _ p => okP p)
--@tbl uDel = slices.DeleteFunc[[][2]int,[2]int]
theorem uDel_T : ∀ args H n m κ, uDel_F args H n m κ → GenOK Try.prog 27 args H n m κ := delR_T _ _ _ (by decide) useful1_ok
def ulF (R : List Int) : List Int := kept (fun p => !idleF R p) (PL R 36) ((PL R 36).length / 2)
theorem PL_okP (R : List Int) (i : Nat) (junk : List Int) (h : i * 2 + 2 ≤ (PL R 36).length) : okP (List.take 2 (List.drop (i * 2) (PL R 36 ++ junk))) := by
  have hbd : Bd 0 5 (PL R 36) := PL_bd R 36 (by omega)
  rw [take2_drop _ _ (by rw [List.length_append]; omega), getD_app _ _ _ (by omega), getD_app _ _ _ (by omega)]
  exact ⟨rfl, hbd.getD (by omega), hbd.getD (by omega)⟩
theorem useful_ok (R : List Int) (hR : R.length = 24) : FreshP Try.prog 28 [.arr R] [] (ulF R) ((ulF R).length / 2) 2 49 (decide (PL R 36 = [])) .one := by
  have tkR : R.take 24 = R := List.take_of_length_le (by omega)
  refine fresh_of_vc (X := ⟨Try.prog, tys, [], [(57, pours_F), (27, uDel_F)], true, true, 0, [], []⟩) fn_28 ⟨tys_ok, .nil, (.cons pours_T (.cons uDel_T .nil)), mixed⟩ (n0 := 0) rfl (Nat.le_of_ble_eq_true rfl) (by simp [wfL, SV.wf]) (wfH_spec (by simp [wfH, SObj.wf, wfL, SV.wf])) (Nat.le_refl _) ?_
  simp -implicitDefEqProofs only [Try.f28, Option.getD_some, argS, pours_F, uDel_F, hR, tkR, freshK, Wrap.ap, uDel_F, delR_F, ZB, Int.reduceToNat, Nat.reduceLT, Nat.reduceLeDiff, Int.reduceLE, Int.reduceLT, Nat.reduceEqDiff, Nat.reduceSub, SB, SV.known, packR, ne_eq, reduceCtorEq, Nat.reduceEqDiff, ↓reduceIte, if_true, if_false, eq_self, Nat.reduceAdd, Nat.reduceMul, Nat.reduceSub, forall_const, oneCellS, litOne, flat1, Kd.isSca, flat, TYB]
  obtain ⟨m, hm, hm36⟩ := PL_even R 36
  have e2 : (PL R 36).length / 2 = m := by omega
  have uf : ulF R = kept (fun p => !idleF R p) (PL R 36) m := by unfold ulF; rw [e2]
  refine ⟨fun h0 => ?_, fun h0 cap junk hj => ?_⟩
  · refine .inl ⟨by simp [h0], ?_, rfl⟩
    rw [uf, show m = 0 by rw [h0] at hm; simp at hm; omega]; rfl
  · have ka := kept_app (fun p => !idleF R p) (PL R 36) junk m (by omega)
    obtain ⟨k, hk, hkm⟩ := kept_even (fun p => !idleF R p) (PL R 36) m (by omega)
    rw [e2, ka]
    refine ⟨by rw [List.length_append]; omega, by omega, by omega, fun i hi => ?_, .inr ⟨1, cap, List.replicate (m * 2 - (kept (fun p => !idleF R p) (PL R 36) m).length) 0 ++ List.drop (m * 2) (PL R 36 ++ junk), ?_, ?_, by omega, ?_, by simp [h0]⟩⟩
    · exact PL_okP R i junk (by omega)
    · rw [uf]; rfl
    · rw [uf, hget_cons, if_pos rfl, List.append_assoc]
    · rw [uf, List.length_append, List.length_replicate, List.length_drop, List.length_append]
      omega
def useful_F : List SV → Heap → Nat → Nat → K1 → Prop
  | [.arr R], H, n, _, κ => R.length = 24 ∧ freshK .one (ulF R) ((ulF R).length / 2) 2 49 (decide (PL R 36 = [])) H n κ
  | _, _, _, _, _ => False
theorem useful_T : ∀ args H n m κ, useful_F args H n m κ → GenOK Try.prog 28 args H n m κ := by
  intro args H n m κ h
  unfold useful_F at h
  split at h
  · exact gen_of_fresh (useful_ok _ h.1) (fun k o hk => by cases hk) h.2
  · exact h.elim
/-! The model's. -/
--@tbl l2Idle = spec.l2Idle
theorem l2Idle_ok (R : List Int) (i j : Int) (hR : R.length = 24) (hr : rackB R = true) (hi : 0 ≤ i ∧ i ≤ 5) (hj : 0 ≤ j ∧ j ≤ 5) : PureH Try.prog 41 [.arr R, .int i, .int j] [] (.bool (idleF R [i, j])) := by
  have tkR : R.take 24 = R := List.take_of_length_le (by omega)
  have e0 : List.take 4 (List.drop (i.toNat * 4) R) = tubeAt R i.toNat := rfl
  have e1 : List.take 4 (List.drop (j.toNat * 4) R) = tubeAt R j.toNat := rfl
  have l0 := tubeAt_len hR (i := i.toNat) (by omega)
  have l1 := tubeAt_len hR (i := j.toNat) (by omega)
  have b0 := tubeAt_ok hr (i := i.toNat) (by omega)
  have b1 := tubeAt_ok hr (i := j.toNat) (by omega)
  have pp := posC_lay _ l1 b1
  obtain ⟨n, hn, hn4, _⟩ := runsL_even _ l0
  have hn2 : (runsL (tubeAt R i.toNat)).length / 2 = n := by omega
  unfold idleF
  simp only [List.getD_cons_zero, List.getD_cons_succ]
  rw [hn2]
  refine pure_of_vc (X := ⟨Try.prog, tys, [(45, l2Many_F)], [(67, l2Runs_F)], true, true, 0, [], []⟩) fn_41 ⟨tys_ok, (.cons l2Many_T .nil), (.cons l2Runs_T .nil), mixed⟩ (n0 := 0) (Nat.le_of_ble_eq_true rfl) (by simp [wfL, SV.wf]) (wfH_spec (by simp [wfH, SObj.wf, wfL, SV.wf])) (Nat.le_refl _) (fun _ => by simp [SV.wf, wfL]) ?_
  simp -implicitDefEqProofs only [Try.f41, Option.getD_some, argS, l2Many_F, l2Runs_F, hR, tkR, e0, e1, l0, l1, b0, b1, hn2, pp, freshK, Wrap.ap, ZB, Int.reduceToNat, Nat.reduceLT, Nat.reduceLeDiff, Int.reduceLE, Int.reduceLT, Nat.reduceEqDiff, Nat.reduceSub, SB, SV.known, packR, ne_eq, reduceCtorEq, Nat.reduceEqDiff, ↓reduceIte, if_true, if_false, eq_self, Nat.reduceAdd, Nat.reduceMul, Nat.reduceSub, forall_const, oneCellS, litOne, flat1, Kd.isSca, flat, TYB]
  refine ⟨by omega, by omega, by omega, fun cap junk hj' => ⟨fun h => ⟨by omega, by omega, by omega, ?_⟩, fun h => ?_⟩⟩
  · have : n = 1 := by omega
    subst this
    simp
  · have : ¬ n = 1 := by omega
    simp [this]
def l2Idle_F : List SV → Heap → Option (Prop × SV)
  | [.arr R, .int i, .int j], _ => some (R.length = 24 ∧ rackB R = true ∧ (0 ≤ i ∧ i ≤ 5) ∧ (0 ≤ j ∧ j ≤ 5), .bool (idleF R [i, j]))
  | _, _ => none
theorem l2Idle_T : ∀ args H p v, l2Idle_F args H = some (p, v) → p → PureH Try.prog 41 args H v := by
  intro args H p v h hp
  unfold l2Idle_F at h
  split at h
  · cases h; exact (l2Idle_ok _ _ _ hp.1 hp.2.1 hp.2.2.1 hp.2.2.2).any _
  · cases h
--@tbl l2Useful = spec.l2Useful
theorem l2Useful_ok (R : List Int) (hR : R.length = 24) (hr : rackB R = true) : FreshP Try.prog 15 [.arr R] [] (ulF R) ((ulF R).length / 2) 2 49 false .one := by
  have tkR : R.take 24 = R := List.take_of_length_le (by omega)
  obtain ⟨m, hm, hm36⟩ := PL_even R 36
  refine fresh_of_vc (X := ⟨Try.prog, tys, [(41, l2Idle_F)], [(40, l2Pours_F)], true, true, 0, [], []⟩) fn_15 ⟨tys_ok, (.cons l2Idle_T .nil), (.cons l2Pours_T .nil), mixed⟩ (n0 := 0) rfl (Nat.le_of_ble_eq_true rfl) (by simp [wfL, SV.wf]) (wfH_spec (by simp [wfH, SObj.wf, wfL, SV.wf])) (Nat.le_refl _) ?_
  simp -implicitDefEqProofs only [Try.f15, Option.getD_some, argS, l2Idle_F, l2Pours_F, hR, tkR, hr, freshK, Wrap.ap, ZB, Int.reduceToNat, Nat.reduceLT, Nat.reduceLeDiff, Int.reduceLE, Int.reduceLT, Nat.reduceEqDiff, Nat.reduceSub, SB, SV.known, packR, ne_eq, reduceCtorEq, Nat.reduceEqDiff, ↓reduceIte, if_true, if_false, eq_self, Nat.reduceAdd, Nat.reduceMul, Nat.reduceSub, forall_const, oneCellS, litOne, flat1, Kd.isSca, flat, TYB]
  have hbd : Bd 0 5 (PL R 36) := PL_bd R 36 (by omega)
  have e2 : (PL R 36).length / 2 = m := by omega
  have uf : ulF R = kept (fun p => !idleF R p) (PL R 36) m := by unfold ulF; rw [e2]
  rw [uf, e2]
  generalize PL R 36 = P at *
  intro cap junk hj
  refine loop_intro (fun s : Nat × Nat × Nat × List Int => [(5, .int s.1), (4, .slice 2 0 m cap), (3, .slice 1 0 s.2.1 s.2.2.1), (1, .ptr 0 0)]) (fun s => [(1, .ints (kept (fun p => !idleF R p) P s.1 ++ s.2.2.2) 49), (2, .ints (P ++ junk) 49), (0, .ints R 29)]) 3
    (fun s => s.1 ≤ m ∧ (kept (fun p => !idleF R p) P s.1).length = s.2.1 * 2 ∧ s.2.1 ≤ s.1 ∧ s.2.2.2.length + s.2.1 * 2 = s.2.2.1 * 2) (fun s => m - s.1) ?_ ?_
  · refine ⟨(0, 0, 0, []), ?_, Sub.mk_id ?_ ?_ ?_ ?_ ?_⟩
    all_goals (try (simp only [kept_zero, List.append_nil, LB, subS, subH, wfS, wfH, SV.ren, renL, SObj.ren, SV.wf, SObj.wf, wfL, SV.known, Nat.reduceEqDiff, ↓reduceIte, if_true, if_false, eq_self, Nat.reduceAdd, Nat.reduceLT, Nat.reduceLeDiff, implies_true, reduceCtorEq, forall_const]; done))
    all_goals (try (simp only [kept_zero, List.append_nil, LB, subS, subH, wfS, wfH, SV.ren, renL, SObj.ren, SV.wf, SObj.wf, wfL, SV.known, Nat.reduceEqDiff, ↓reduceIte, if_true, if_false, eq_self, Nat.reduceAdd, Nat.reduceLT, Nat.reduceLeDiff, implies_true, reduceCtorEq, forall_const]; simp; done))
    all_goals (try (simp only [kept_zero, List.append_nil, LB, subS, subH, wfS, wfH, SV.ren, renL, SObj.ren, SV.wf, SObj.wf, wfL, SV.known, Nat.reduceEqDiff, ↓reduceIte, if_true, if_false, eq_self, Nat.reduceAdd, Nat.reduceLT, Nat.reduceLeDiff, implies_true, reduceCtorEq, forall_const]; (and_intros <;> (first | omega | rfl | (simp; done) | (simp; omega))); done))
    all_goals (try dsimp only)
    all_goals (and_intros <;> try (first | omega | (unfold In64; omega) | trivial | assumption))
    all_goals simp [kept_zero]
  · rintro ⟨i, n, capo, jo⟩ ⟨hi, hL, hni, hjo⟩
    simp only at hi hL hni hjo
    have lenL : (kept (fun p => !idleF R p) P i ++ jo).length = capo * 2 := by rw [List.length_append]; omega
    have tkL : (kept (fun p => !idleF R p) P i ++ jo).take (n * 2) = kept (fun p => !idleF R p) P i := List.take_left' hL
    have lenP : (P ++ junk).length = cap * 2 := by rw [List.length_append]; omega
    by_cases hlt : i < m
    · have hil : (i : Int) < m := by omega
      have g0 := getD_app P junk (i * 2) (by omega)
      have g1 := getD_app P junk (i * 2 + 1) (by omega)
      have bA : 0 ≤ P.getD (i * 2) 0 ∧ P.getD (i * 2) 0 ≤ 5 := hbd.getD (by omega)
      have bB : 0 ≤ P.getD (i * 2 + 1) 0 ∧ P.getD (i * 2 + 1) 0 ≤ 5 := hbd.getD (by omega)
      have eP : List.take 2 (List.drop (i * 2) (P ++ junk)) = [P.getD (i * 2) 0, P.getD (i * 2 + 1) 0] := by
        rw [take2_drop _ _ (by rw [List.length_append]; omega), g0, g1]
      have eQ : List.take 2 (List.drop (i * 2) P) = [P.getD (i * 2) 0, P.getD (i * 2 + 1) 0] := take2_drop _ _ (by omega)
      have es := kept_succ (fun p => !idleF R p) P i
      rw [eQ] at es
      cases hc : idleF R [P.getD (i * 2) 0, P.getD (i * 2 + 1) 0] with
      | true =>
        rw [hc] at es
        simp only [Bool.not_true, Bool.false_eq_true, if_false, List.append_nil] at es
        simp -implicitDefEqProofs only [lk_normal, l2Idle_F, hil, hR, tkR, hr, g0, g1, eP, hc, lenP, lenL, tkL, ZB, Int.reduceToNat, Nat.reduceLT, Nat.reduceLeDiff, Int.reduceLE, Int.reduceLT, Nat.reduceEqDiff, Nat.reduceSub, SB, SV.known, packR, ne_eq, reduceCtorEq, Nat.reduceEqDiff, ↓reduceIte, if_true, if_false, eq_self, Nat.reduceAdd, Nat.reduceMul, Nat.reduceSub, forall_const, oneCellS, litOne, flat1, Kd.isSca, flat, TYB]
        (try (and_intros <;> try (first | omega | (unfold In64; omega) | trivial | assumption)))
        refine ⟨(i + 1, n, capo, jo), ?_, ?_, Sub.mk_id ?_ ?_ ?_ ?_ ?_⟩
        all_goals (try (simp only [es, LB, subS, subH, wfS, wfH, SV.ren, renL, SObj.ren, SV.wf, SObj.wf, wfL, SV.known, Nat.reduceEqDiff, ↓reduceIte, if_true, if_false, eq_self, Nat.reduceAdd, Nat.reduceLT, Nat.reduceLeDiff, implies_true, reduceCtorEq, forall_const]; done))
        all_goals (try (simp only [es, LB, subS, subH, wfS, wfH, SV.ren, renL, SObj.ren, SV.wf, SObj.wf, wfL, SV.known, Nat.reduceEqDiff, ↓reduceIte, if_true, if_false, eq_self, Nat.reduceAdd, Nat.reduceLT, Nat.reduceLeDiff, implies_true, reduceCtorEq, forall_const]; simp; done))
        all_goals (try (simp only [es, LB, subS, subH, wfS, wfH, SV.ren, renL, SObj.ren, SV.wf, SObj.wf, wfL, SV.known, Nat.reduceEqDiff, ↓reduceIte, if_true, if_false, eq_self, Nat.reduceAdd, Nat.reduceLT, Nat.reduceLeDiff, implies_true, reduceCtorEq, forall_const]; (and_intros <;> (first | omega | rfl | (simp; done) | (simp; omega))); done))
        all_goals (try dsimp only)
        all_goals (and_intros <;> try (first | omega | (unfold In64; omega) | trivial | assumption))
        all_goals (try (rw [es]; exact hL))
      | false =>
        rw [hc] at es
        simp only [Bool.not_false, if_true] at es
        simp -implicitDefEqProofs only [lk_normal, l2Idle_F, hil, hR, tkR, hr, g0, g1, eP, hc, lenP, lenL, tkL, ZB, Int.reduceToNat, Nat.reduceLT, Nat.reduceLeDiff, Int.reduceLE, Int.reduceLT, Nat.reduceEqDiff, Nat.reduceSub, SB, SV.known, packR, ne_eq, reduceCtorEq, Nat.reduceEqDiff, ↓reduceIte, if_true, if_false, eq_self, Nat.reduceAdd, Nat.reduceMul, Nat.reduceSub, forall_const, oneCellS, litOne, flat1, Kd.isSca, flat, TYB]
        (try (and_intros <;> try (first | omega | (unfold In64; omega) | trivial | assumption)))
        intro junk' cap' hj'
        (try (and_intros <;> try (first | omega | (unfold In64; omega) | trivial | assumption)))
        refine ⟨(i + 1, n + 1, cap', junk'), ?_, ?_, Sub.mk_to 1 4 ?_ ?_ ?_ ?_ ?_ ?_ ?_⟩
        all_goals (try (simp only [es, LB, subS, subH, wfS, wfH, SV.ren, renL, SObj.ren, SV.wf, SObj.wf, wfL, SV.known, Nat.reduceEqDiff, ↓reduceIte, if_true, if_false, eq_self, Nat.reduceAdd, Nat.reduceLT, Nat.reduceLeDiff, implies_true, reduceCtorEq, forall_const]; done))
        all_goals (try (simp only [es, LB, subS, subH, wfS, wfH, SV.ren, renL, SObj.ren, SV.wf, SObj.wf, wfL, SV.known, Nat.reduceEqDiff, ↓reduceIte, if_true, if_false, eq_self, Nat.reduceAdd, Nat.reduceLT, Nat.reduceLeDiff, implies_true, reduceCtorEq, forall_const]; simp; done))
        all_goals (try (simp only [es, LB, subS, subH, wfS, wfH, SV.ren, renL, SObj.ren, SV.wf, SObj.wf, wfL, SV.known, Nat.reduceEqDiff, ↓reduceIte, if_true, if_false, eq_self, Nat.reduceAdd, Nat.reduceLT, Nat.reduceLeDiff, implies_true, reduceCtorEq, forall_const]; (and_intros <;> (first | omega | rfl | (simp; done) | (simp; omega))); done))
        all_goals (try dsimp only)
        all_goals (and_intros <;> try (first | omega | (unfold In64; omega) | trivial | assumption))
        all_goals (try (rw [es, List.length_append, hL]; simp; omega))
    · have hil : ¬ (i : Int) < m := by omega
      obtain rfl : i = m := by omega
      simp -implicitDefEqProofs only [lk_normal, l2Idle_F, hil, hR, tkR, hr, lenP, lenL, tkL, ZB, Int.reduceToNat, Nat.reduceLT, Nat.reduceLeDiff, Int.reduceLE, Int.reduceLT, Nat.reduceEqDiff, Nat.reduceSub, SB, SV.known, packR, ne_eq, reduceCtorEq, Nat.reduceEqDiff, ↓reduceIte, if_true, if_false, eq_self, Nat.reduceAdd, Nat.reduceMul, Nat.reduceSub, forall_const, oneCellS, litOne, flat1, Kd.isSca, flat, TYB]
      refine .inr ⟨1, capo, jo, ?_, ?_, by omega, ?_, by simp⟩
      · rw [hL]; simp [Wrap.ap]
      · simp [hget_cons]
      · omega
def l2Useful_F : List SV → Heap → Nat → Nat → K1 → Prop
  | [.arr R], H, n, _, κ => (R.length = 24 ∧ rackB R = true) ∧ freshK .one (ulF R) ((ulF R).length / 2) 2 49 false H n κ
  | _, _, _, _, _ => False
theorem l2Useful_T : ∀ args H n m κ, l2Useful_F args H n m κ → GenOK Try.prog 15 args H n m κ := by
  intro args H n m κ h
  unfold l2Useful_F at h
  split at h
  · exact gen_of_fresh (l2Useful_ok _ h.1.1 h.1.2) (fun k o hk => by cases hk) h.2
  · exact h.elim
theorem ulF_even (R : List Int) : ∃ k, (ulF R).length = k * 2 ∧ k ≤ 36 := by
  obtain ⟨m, hm, hm36⟩ := PL_even R 36
  obtain ⟨k, hk, hkm⟩ := kept_even (fun p => !idleF R p) (PL R 36) m (by omega)
  have e2 : (PL R 36).length / 2 = m := by omega
  exact ⟨k, by unfold ulF; rw [e2]; exact hk, by omega⟩
end Go.Proofs.Ytaopbefklkbmeaa
set_option maxRecDepth 100000
set_option linter.unusedSimpArgs false
set_option linter.unusedVariables false
namespace Go.Proofs.Ytaopbefklkbmeaa
open Go Go.RowKit
def prG (c : Nat → Nat → Bool) (k : Nat) : List Int := if c (k / 6) (k % 6) = true then [((k / 6 : Nat) : Int), ((k % 6 : Nat) : Int)] else []
def GL (c : Nat → Nat → Bool) (m : Nat) : List Int := (List.range m).flatMap (prG c)
theorem GL_zero (c : Nat → Nat → Bool) : GL c 0 = [] := rfl
theorem GL_succ (c : Nat → Nat → Bool) (m : Nat) : GL c (m + 1) = GL c m ++ prG c m := by simp [GL, List.range_succ]
theorem GL_even (c : Nat → Nat → Bool) : ∀ m, ∃ n, (GL c m).length = n * 2 ∧ n ≤ m
  | 0 => ⟨0, rfl, by omega⟩
  | m + 1 => by
    obtain ⟨n, h1, h2⟩ := GL_even c m
    rw [GL_succ, List.length_append, h1]
    unfold prG
    split
    · exact ⟨n + 1, by simp; omega, by omega⟩
    · exact ⟨n, by simp, by omega⟩
theorem PL_GL (R : List Int) (m : Nat) : PL R m = GL (fun i j => canF R i j) m := rfl
/-- Pairs that are kept out of pairs by a condition: pairs by both. -/
theorem kept_GL (c d : Nat → Nat → Bool) (np : List Int → Bool) (h : ∀ i j, i < 6 → j < 6 → c i j = true → np [(i : Int), (j : Int)] = d i j) (hd : ∀ i j, i < 6 → j < 6 → d i j = true → c i j = true) :
    ∀ m, m ≤ 36 → ∃ n, (GL c m).length = n * 2 ∧ kept np (GL c m) n = GL d m
  | 0, _ => ⟨0, rfl, rfl⟩
  | m + 1, hm => by
    obtain ⟨n, h1, h2⟩ := kept_GL c d np h hd m (by omega)
    have a1 : m / 6 < 6 := by omega
    have a2 : m % 6 < 6 := by omega
    rw [GL_succ c, GL_succ d]
    unfold prG
    cases hc : c (m / 6) (m % 6) with
    | false =>
      have : d (m / 6) (m % 6) = false := by
        cases hdd : d (m / 6) (m % 6) with
        | false => rfl
        | true => rw [hd _ _ a1 a2 hdd] at hc; cases hc
      rw [this]
      exact ⟨n, by simpa using h1, by simpa using h2⟩
    | true =>
      refine ⟨n + 1, by simp [h1]; omega, ?_⟩
      have e0 : (((GL c m ++ [((m / 6 : Nat) : Int), ((m % 6 : Nat) : Int)]).drop (n * 2)).take 2) = [((m / 6 : Nat) : Int), ((m % 6 : Nat) : Int)] := by rw [List.drop_left' h1]; rfl
      simp only [if_true]
      rw [kept_succ, kept_app _ _ _ _ (by omega), h2, e0, h _ _ a1 a2 hc]
/-- A slice that grows: nothing yet, or block b. -/
def outVn (b i len cap : Nat) : SV := match i with
  | 0 => .nils
  | _ + 1 => .slice b 0 len cap
def outHn (b i : Nat) (L : List Int) (e : Nat) (base : Heap) : Heap := match i with
  | 0 => base
  | _ + 1 => (b, .ints L e) :: base
theorem outVn_zero (b len cap : Nat) : outVn b 0 len cap = .nils := rfl
theorem outVn_succ (b i len cap : Nat) : outVn b (i + 1) len cap = .slice b 0 len cap := rfl
theorem outHn_zero (b : Nat) (L : List Int) (e : Nat) (base : Heap) : outHn b 0 L e base = base := rfl
theorem outHn_succ (b i : Nat) (L : List Int) (e : Nat) (base : Heap) : outHn b (i + 1) L e base = (b, .ints L e) :: base := rfl
theorem hget_outHn (b n : Nat) (L : List Int) (e : Nat) (base : Heap) (k : Nat) : hget (outHn b n L e base) k = if k = b then (if n = 0 then hget base k else some (.ints L e)) else hget base k := by
  cases n with
  | zero => rw [outHn_zero]; simp
  | succ n => rw [outHn_succ, hget_cons]; simp
theorem known_outVn (b n l c : Nat) : (outVn b n l c).known = true := by cases n <;> rfl
theorem GL_pair (c : Nat → Nat → Bool) : ∀ m, m ≤ 36 → ∀ i, i * 2 + 2 ≤ (GL c m).length → ∃ a b : Nat, a < 6 ∧ b < 6 ∧ c a b = true ∧ ((GL c m).drop (i * 2)).take 2 = [(a : Int), (b : Int)]
  | 0, _, i, h => by simp [GL_zero] at h
  | m + 1, hm, i, h => by
    obtain ⟨n, hn, _⟩ := GL_even c m
    rw [GL_succ, List.length_append, hn] at h
    by_cases hi : i * 2 + 2 ≤ n * 2
    · obtain ⟨a, b, h1, h2, h3, h4⟩ := GL_pair c m (by omega) i (by omega)
      refine ⟨a, b, h1, h2, h3, ?_⟩
      rw [GL_succ, List.drop_append_of_le_length (by omega), List.take_append_of_le_length (by rw [List.length_drop]; omega)]
      exact h4
    · unfold prG at h
      split at h
      · rename_i hc
        simp at h
        have : i = n := by omega
        subst this
        refine ⟨m / 6, m % 6, by omega, by omega, hc, ?_⟩
        rw [GL_succ, List.drop_left' hn]
        unfold prG
        rw [if_pos hc]; rfl
      · simp at h; omega
end Go.Proofs.Ytaopbefklkbmeaa
set_option maxRecDepth 100000
set_option linter.unusedSimpArgs false
set_option linter.unusedVariables false
namespace Go.Proofs.Ytaopbefklkbmeaa
open Go Go.RowKit
/-! Lists of racks. -/
def all24 (Q : List (List Int)) : Prop := ∀ x ∈ Q, x.length = 24
theorem flat_len : ∀ {Q : List (List Int)}, all24 Q → Q.flatten.length = Q.length * 24
  | [], _ => rfl
  | x :: Q, h => by
    rw [List.flatten_cons, List.length_append, flat_len fun y hy => h y (List.mem_cons_of_mem _ hy), h x (List.mem_cons_self ..), List.length_cons]; omega
theorem flat_get : ∀ {Q : List (List Int)}, all24 Q → ∀ {i : Nat}, i < Q.length → ∀ J, ((Q.flatten ++ J).drop (i * 24)).take 24 = Q.getD i []
  | [], _, i, hi, _ => by simp at hi
  | x :: Q, h, i, hi, J => by
    have hx := h x (List.mem_cons_self ..)
    rw [List.flatten_cons, List.append_assoc]
    cases i with
    | zero => rw [Nat.zero_mul, List.drop_zero, List.take_left' hx]; rfl
    | succ i =>
      rw [show (i + 1) * 24 = 24 + i * 24 by omega, ← List.drop_drop, List.drop_left' hx, flat_get (fun y hy => h y (List.mem_cons_of_mem _ hy)) (by simpa using hi) J]
      rfl
theorem getD_mem {Q : List (List Int)} {i : Nat} (hi : i < Q.length) : Q.getD i [] ∈ Q := by
  rw [List.getD_eq_getElem?_getD, List.getElem?_eq_getElem hi]; exact List.getElem_mem hi
theorem take_succ_getD {α : Type} (Q : List (List α)) (i : Nat) (hi : i < Q.length) : Q.take (i + 1) = Q.take i ++ [Q.getD i []] := by
  rw [List.take_succ_eq_append_getElem hi, List.getD_eq_getElem?_getD, List.getElem?_eq_getElem hi]; rfl
/-! Maps that know racks. -/
/-! What is new. -/
def nwS (K O : List (List Int)) (x : List Int) : List (List Int) := if x ∈ K ++ O then O else O ++ [x]
def nwF (K xs : List (List Int)) : List (List Int) := xs.foldl (nwS K) []
theorem nwF_nil (K : List (List Int)) : nwF K [] = [] := rfl
theorem nwF_snoc (K xs : List (List Int)) (x : List Int) : nwF K (xs ++ [x]) = nwS K (nwF K xs) x := by simp [nwF, List.foldl_append]
theorem nwF_old {K xs : List (List Int)} {x : List Int} (h : x ∈ K ++ nwF K xs) : nwF K (xs ++ [x]) = nwF K xs := by rw [nwF_snoc, nwS, if_pos h]
theorem nwF_new {K xs : List (List Int)} {x : List Int} (h : x ∉ K ++ nwF K xs) : nwF K (xs ++ [x]) = nwF K xs ++ [x] := by rw [nwF_snoc, nwS, if_neg h]
theorem snoc_ind {α : Type} {P : List α → Prop} (h0 : P []) (h1 : ∀ l x, P l → P (l ++ [x])) (l : List α) : P l := by
  have : P l.reverse.reverse := by
    generalize l.reverse = r
    induction r with
    | nil => exact h0
    | cons x r ih => rw [List.reverse_cons]; exact h1 _ _ ih
  rwa [List.reverse_reverse] at this
theorem nwF_sub (K xs : List (List Int)) : ∀ y ∈ nwF K xs, y ∈ xs ∧ y ∉ K := by
  refine snoc_ind (P := fun xs => ∀ y ∈ nwF K xs, y ∈ xs ∧ y ∉ K) (by simp [nwF]) (fun l x ih y hy => ?_) xs
  by_cases h : x ∈ K ++ nwF K l
  · rw [nwF_old h] at hy
    exact ⟨List.mem_append_left _ (ih y hy).1, (ih y hy).2⟩
  · rw [nwF_new h] at hy
    rcases List.mem_append.1 hy with hy | hy
    · exact ⟨List.mem_append_left _ (ih y hy).1, (ih y hy).2⟩
    · simp at hy; subst hy
      exact ⟨by simp, fun hK => h (List.mem_append_left _ hK)⟩
theorem nwF_all (K xs : List (List Int)) : ∀ y ∈ xs, y ∈ K ++ nwF K xs := by
  refine snoc_ind (P := fun xs => ∀ y ∈ xs, y ∈ K ++ nwF K xs) (by simp) (fun l x ih y hy => ?_) xs
  by_cases h : x ∈ K ++ nwF K l
  · rw [nwF_old h]
    rcases List.mem_append.1 hy with hy | hy
    · exact ih y hy
    · simp at hy; subst hy; exact h
  · rw [nwF_new h, ← List.append_assoc]
    rcases List.mem_append.1 hy with hy | hy
    · exact List.mem_append_left _ (ih y hy)
    · exact List.mem_append_right _ hy
theorem nwF_len (K xs : List (List Int)) : (nwF K xs).length ≤ xs.length := by
  refine snoc_ind (P := fun xs => (nwF K xs).length ≤ xs.length) (by simp [nwF]) (fun l x ih => ?_) xs
  rw [nwF_snoc, nwS]
  split <;> simp <;> omega
end Go.Proofs.Ytaopbefklkbmeaa
set_option maxRecDepth 100000
set_option linter.unusedSimpArgs false
set_option linter.unusedVariables false
namespace Go.Proofs.Ytaopbefklkbmeaa
open Go Go.RowKit
--@tbl eqS2 = laws.eqIntA2S
/-! Marks. -/
end Go.Proofs.Ytaopbefklkbmeaa
set_option maxRecDepth 100000
set_option linter.unusedSimpArgs false
set_option linter.unusedVariables false
namespace Go.Proofs.Ytaopbefklkbmeaa
open Go Go.RowKit
def diX (R : List Int) (q : Nat) : List Int := frm (pourF R ((ulF R).getD (q * 2) 0).toNat ((ulF R).getD (q * 2 + 1) 0).toNat)
theorem kept_bd {np : List Int → Bool} {L : List Int} {a b : Int} (h : Bd a b L) : ∀ k, Bd a b (kept np L k)
  | 0 => fun x hx => by simp [kept_zero] at hx
  | k + 1 => fun x hx => by
    rw [kept_succ] at hx
    rcases List.mem_append.1 hx with hx | hx
    · exact kept_bd h k x hx
    · split at hx
      · exact (h.drop _).take _ x hx
      · simp at hx
theorem ul_bd {R : List Int} {q : Nat} (h : q * 2 + 2 ≤ (ulF R).length) : (0 ≤ (ulF R).getD (q * 2) 0 ∧ (ulF R).getD (q * 2) 0 ≤ 5) ∧ (0 ≤ (ulF R).getD (q * 2 + 1) 0 ∧ (ulF R).getD (q * 2 + 1) 0 ≤ 5) := by
  have hbd : Bd 0 5 (ulF R) := kept_bd (PL_bd R 36 (by omega)) _
  exact ⟨hbd.getD (by omega), hbd.getD (by omega)⟩
theorem diX_len {R : List Int} (hR : R.length = 24) (q : Nat) : (diX R q).length = 24 := frm_len (pourF_len hR _ _)
end Go.Proofs.Ytaopbefklkbmeaa
