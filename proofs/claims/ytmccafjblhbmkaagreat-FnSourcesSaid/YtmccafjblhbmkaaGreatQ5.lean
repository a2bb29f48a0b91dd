/- Texts of this claim, joined (Form, Upd, Gen, SrtF, D, E, O, Del, P, G, Pour, H, Q, Val, Bnd, Use, GL, Map, SrtR, Back). -/
import Derived.Test.YtmccafjblhbmkaaGreatQ1
import Derived.Test.YtmccafjblhbmkaaGreatQ2
import Derived.Test.YtmccafjblhbmkaaGreatQ3
import Derived.Test.YtmccafjblhbmkaaGreatQ4
set_option maxRecDepth 100000
set_option linter.unusedSimpArgs false
set_option linter.unusedVariables false
namespace Go.Proofs.YtmccafjblhbmkaaGreat
open Go Go.RowKit
--@tbl l3Below = spec.l3Below
theorem l3Below_ok (x y : List Int) (hx : x.length = 4) (hy : y.length = 4) : PureH Tryz.prog 121 [.arr x, .arr y] [] (.bool (decide (lexC x y < 0))) := by
  have tx : x.take 4 = x := List.take_of_length_le (by omega)
  have ty : y.take 4 = y := List.take_of_length_le (by omega)
  refine pure_of_vc (X := ⟨Tryz.prog, tys, [], [], true, true, 0, [], []⟩) fn_121 ⟨tys_ok, .nil, .nil, mixed⟩ (n0 := 0) (Nat.le_of_ble_eq_true rfl) (by simp [wfL, SV.wf]) (wfH_spec (by simp [wfH, SObj.wf])) (Nat.le_refl _) (fun _ => by simp [SV.wf, wfL]) ?_
  simp -implicitDefEqProofs only [Tryz.f121, Option.getD_some, argS, hx, hy, tx, ty, ZB, Int.reduceToNat, Nat.reduceLT, Nat.reduceLeDiff, Int.reduceLE, Int.reduceLT, Nat.reduceEqDiff, Nat.reduceSub, SB, SV.known, packR, ne_eq, reduceCtorEq, Nat.reduceEqDiff, ↓reduceIte, if_true, if_false, eq_self, Nat.reduceAdd, Nat.reduceMul, Nat.reduceSub, forall_const, oneCellS, litOne, flat1, Kd.isSca, flat, TYB]
  refine loop_intro (fun i : Nat => [(5, .int i), (3, .ptr 1 0), (2, .ptr 0 0)]) (fun _ => [(1, .ints y 24), (0, .ints x 24)]) 2 (fun i => i ≤ 4 ∧ lexC x y = lexC (x.drop i) (y.drop i)) (fun i => 4 - i) ?_ ?_
  · refine ⟨0, ⟨by omega, rfl⟩, Sub.mk_id ?_ ?_ ?_ ?_ ?_⟩
    all_goals ((try simp only [LB, subS, subH, wfS, wfH, SV.ren, renL, SObj.ren, SV.wf, SObj.wf, wfL, SV.known, Nat.reduceEqDiff, ↓reduceIte, if_true, if_false, eq_self, Nat.reduceAdd, Nat.reduceLT, Nat.reduceLeDiff, implies_true, reduceCtorEq, forall_const]) <;> simp)
  · rintro i ⟨hi, he⟩
    by_cases hlt : i < 4
    · have hil : (i : Int) < 4 := by omega
      have hix : i < x.length := by omega
      have hiy : i < y.length := by omega
      have st := lexC_step x y 4 i hlt (by omega) (by omega)
      rw [tx, ty, ← he] at st
      unfold icmp at st
      by_cases hc : x.getD i 0 = y.getD i 0
      · simp only [hc, Int.lt_irrefl, if_false, if_true] at st
        simp -implicitDefEqProofs only [lk_normal, hil, hix, hiy, hx, hy, hlt, hc, ZB, Int.reduceToNat, Nat.reduceLT, Nat.reduceLeDiff, Int.reduceLE, Int.reduceLT, Nat.reduceEqDiff, Nat.reduceSub, SB, SV.known, packR, ne_eq, reduceCtorEq, Nat.reduceEqDiff, ↓reduceIte, if_true, if_false, eq_self, Nat.reduceAdd, Nat.reduceMul, Nat.reduceSub, forall_const, oneCellS, litOne, flat1, Kd.isSca, flat, TYB]
        refine ⟨by omega, by omega, by unfold In64; omega, i + 1, ⟨by omega, st⟩, by omega, Sub.mk_id ?_ ?_ ?_ ?_ ?_⟩
        all_goals ((try simp only [LB, subS, subH, wfS, wfH, SV.ren, renL, SObj.ren, SV.wf, SObj.wf, wfL, SV.known, Nat.reduceEqDiff, ↓reduceIte, if_true, if_false, eq_self, Nat.reduceAdd, Nat.reduceLT, Nat.reduceLeDiff, implies_true, reduceCtorEq, forall_const]) <;> simp)
      · simp -implicitDefEqProofs only [lk_normal, hil, hix, hiy, hx, hy, hlt, hc, ZB, Int.reduceToNat, Nat.reduceLT, Nat.reduceLeDiff, Int.reduceLE, Int.reduceLT, Nat.reduceEqDiff, Nat.reduceSub, SB, SV.known, packR, ne_eq, reduceCtorEq, Nat.reduceEqDiff, ↓reduceIte, if_true, if_false, eq_self, Nat.reduceAdd, Nat.reduceMul, Nat.reduceSub, forall_const, oneCellS, litOne, flat1, Kd.isSca, flat, TYB]
        refine ⟨by omega, by omega, by omega, by omega, ?_⟩
        congr 1
        apply propext
        rw [st]
        repeat' split
        all_goals omega
    · have hil : ¬ (i : Int) < 4 := by omega
      obtain rfl : i = 4 := by omega
      have e0 : lexC x y = 0 := by
        rw [he, List.drop_eq_nil_of_le (by omega)]; rfl
      simp -implicitDefEqProofs only [lk_normal, hil, e0, Int.lt_irrefl, ZB, Int.reduceToNat, Nat.reduceLT, Nat.reduceLeDiff, Int.reduceLE, Int.reduceLT, Nat.reduceEqDiff, Nat.reduceSub, SB, SV.known, packR, ne_eq, reduceCtorEq, Nat.reduceEqDiff, ↓reduceIte, if_true, if_false, eq_self, Nat.reduceAdd, Nat.reduceMul, Nat.reduceSub, forall_const, oneCellS, litOne, flat1, Kd.isSca, flat, TYB]
def l3Below_F : List SV → Heap → Option (Prop × SV)
  | [.arr x, .arr y], _ => some (x.length = 4 ∧ y.length = 4, .bool (decide (lexC x y < 0)))
  | _, _ => none
theorem l3Below_T : ∀ args H p v, l3Below_F args H = some (p, v) → p → PureH Tryz.prog 121 args H v := by
  intro args H p v h hp
  unfold l3Below_F at h
  split at h
  · cases h; exact (l3Below_ok _ _ hp.1 hp.2).any _
  · cases h
/-! Sorted tubes. -/
def insT (x : List Int) : List (List Int) → List (List Int)
  | [] => [x]
  | y :: l => if lexL x y = true then x :: y :: l else y :: insT x l
def srtT : List (List Int) → List (List Int)
  | [] => []
  | x :: l => insT x (srtT l)
theorem insT_perm (x : List Int) : ∀ l, (insT x l).Perm (x :: l)
  | [] => List.Perm.refl _
  | y :: l => by
    unfold insT
    split
    · exact List.Perm.refl _
    · exact (List.Perm.cons y (insT_perm x l)).trans (List.Perm.swap x y l)
theorem srtT_perm : ∀ l, (srtT l).Perm l
  | [] => List.Perm.refl _
  | x :: l => (insT_perm x (srtT l)).trans (List.Perm.cons x (srtT_perm l))
theorem insT_pw {w : Nat} {x : List Int} (hx : x.length = w) : ∀ {l : List (List Int)}, (∀ y ∈ l, y.length = w) → l.Pairwise (fun a b => lexL a b = true) → (insT x l).Pairwise (fun a b => lexL a b = true)
  | [], _, _ => by simp [insT]
  | y :: l, h, hp => by
    have hy := h y (List.mem_cons_self ..)
    rw [List.pairwise_cons] at hp
    unfold insT
    split
    · rename_i hxy
      rw [List.pairwise_cons]
      refine ⟨fun z hz => ?_, List.pairwise_cons.2 hp⟩
      rcases List.mem_cons.1 hz with rfl | hz
      · exact hxy
      · exact lexL_trans (by rw [hx, hy]) (by rw [hy, h z (List.mem_cons_of_mem _ hz)]) hxy (hp.1 z hz)
    · rename_i hxy
      have hyx := (lexL_total x y (by rw [hx, hy])).resolve_left hxy
      rw [List.pairwise_cons]
      refine ⟨fun z hz => ?_, insT_pw hx (fun z hz => h z (List.mem_cons_of_mem _ hz)) hp.2⟩
      rcases List.mem_cons.1 ((insT_perm x l).mem_iff.1 hz) with rfl | hz
      · exact hyx
      · exact hp.1 z hz
theorem srtT_pw {w : Nat} : ∀ {l : List (List Int)}, (∀ y ∈ l, y.length = w) → (srtT l).Pairwise (fun a b => lexL a b = true)
  | [], _ => List.Pairwise.nil
  | x :: l, h => insT_pw (h x (List.mem_cons_self ..)) (fun y hy => h y (List.mem_cons_of_mem _ ((srtT_perm l).mem_iff.1 hy))) (srtT_pw fun y hy => h y (List.mem_cons_of_mem _ hy))
def tubs (R : List Int) : List (List Int) := (List.range 6).map (tubeAt R)
theorem tubs_len {R : List Int} (hR : R.length = 24) : ∀ y ∈ tubs R, y.length = 4 := fun y hy => by
  obtain ⟨i, hi, rfl⟩ := List.mem_map.1 hy
  exact tubeAt_len hR (List.mem_range.1 hi)
theorem tubs_flat {R : List Int} (hR : R.length = 24) : (tubs R).flatten = R := by
  have h : ∀ m, m ≤ 6 → ((List.range m).map (tubeAt R)).flatten = R.take (m * 4) := fun m => by
    induction m with
    | zero => intro _; simp
    | succ m ih =>
      intro hm
      rw [List.range_succ, List.map_append, List.flatten_append, ih (by omega), show (m + 1) * 4 = m * 4 + 4 by omega, List.take_add]
      simp [tubeAt]
  have := h 6 (by omega)
  unfold tubs
  rw [this, List.take_of_length_le (by omega)]
def frm (R : List Int) : List Int := (srtT (tubs R)).flatten
/-- Another order of the tubes, sorted: the form. -/
theorem frm_of {R R' : List Int} (hR : R.length = 24) (hR' : R'.length = 24) (hp : (tubs R').Perm (tubs R)) (hs : (tubs R').Pairwise (fun a b => lexL a b = true)) : R' = frm R := by
  unfold frm
  rw [← lexL_one (tubs_len hR') (hp.trans (srtT_perm _).symm) hs (srtT_pw (tubs_len hR)), tubs_flat hR']
theorem frm_len {R : List Int} (hR : R.length = 24) : (frm R).length = 24 := by
  unfold frm
  have h1 : ∀ l : List (List Int), (∀ y ∈ l, y.length = 4) → l.flatten.length = l.length * 4 := fun l => by
    induction l with
    | nil => intro _; rfl
    | cons x l ih => intro h; rw [List.flatten_cons, List.length_append, ih (fun y hy => h y (List.mem_cons_of_mem _ hy)), h x (List.mem_cons_self ..), List.length_cons]; omega
  rw [h1 _ fun y hy => tubs_len hR y ((srtT_perm _).mem_iff.1 hy), (srtT_perm _).length_eq]
  simp [tubs]
/-! Exchanges of tubes. -/
def putT (R : List Int) (k : Nat) (v : List Int) : List Int := R.take (k * 4) ++ v ++ R.drop (k * 4 + 4)
theorem putT_len {R v : List Int} {k : Nat} (hR : R.length = 24) (hv : v.length = 4) (hk : k < 6) : (putT R k v).length = 24 := by
  unfold putT
  rw [List.length_append, List.length_append, List.length_take, List.length_drop]; omega
theorem tubeAt_put {R v : List Int} {k q : Nat} (hR : R.length = 24) (hv : v.length = 4) (hk : k < 6) (hq : q < 6) : tubeAt (putT R k v) q = if q = k then v else tubeAt R q := by
  have l1 : (R.take (k * 4)).length = k * 4 := by rw [List.length_take]; omega
  unfold tubeAt putT
  by_cases h : q = k
  · subst h
    rw [if_pos rfl, List.append_assoc, List.drop_left' l1, List.take_left' hv]
  · rw [if_neg h]
    by_cases hlt : q < k
    · rw [List.append_assoc, List.drop_append_of_le_length (by omega), List.take_append_of_le_length (by rw [List.length_drop]; omega), List.drop_take, List.take_take, Nat.min_eq_left (by omega)]
    · obtain ⟨d, rfl⟩ : ∃ d, q = k + 1 + d := ⟨q - (k + 1), by omega⟩
      rw [show (k + 1 + d) * 4 = (k * 4 + 4) + d * 4 by omega, ← List.drop_drop, List.drop_left' (by rw [List.length_append, l1, hv]), List.drop_drop]
def swT (R : List Int) (k : Nat) : List Int := putT (putT R k (tubeAt R (k + 1))) (k + 1) (tubeAt R k)
theorem swT_len {R : List Int} {k : Nat} (hR : R.length = 24) (hk : k < 5) : (swT R k).length = 24 :=
  putT_len (putT_len hR (tubeAt_len hR (by omega)) (by omega)) (tubeAt_len hR (by omega)) (by omega)
theorem tubeAt_sw {R : List Int} {k q : Nat} (hR : R.length = 24) (hk : k < 5) (hq : q < 6) : tubeAt (swT R k) q = if q = k then tubeAt R (k + 1) else if q = k + 1 then tubeAt R k else tubeAt R q := by
  unfold swT
  rw [tubeAt_put (putT_len hR (tubeAt_len hR (by omega)) (by omega)) (tubeAt_len hR (by omega)) (by omega) hq, tubeAt_put hR (tubeAt_len hR (by omega)) (by omega) hq]
  by_cases h1 : q = k + 1
  · rw [if_pos h1, if_neg (by omega), if_pos h1]
  · rw [if_neg h1, if_neg h1]
theorem tubs_sw {R : List Int} {k : Nat} (hR : R.length = 24) (hk : k < 5) : (tubs (swT R k)).Perm (tubs R) := by
  have e : tubs (swT R k) = (List.range 6).map fun q => if q = k then tubeAt R (k + 1) else if q = k + 1 then tubeAt R k else tubeAt R q :=
    List.map_congr_left fun q hq => tubeAt_sw hR hk (List.mem_range.1 hq)
  rw [e]
  have r6 : List.range 6 = [0, 1, 2, 3, 4, 5] := rfl
  unfold tubs
  rw [r6]
  obtain rfl | rfl | rfl | rfl | rfl : k = 0 ∨ k = 1 ∨ k = 2 ∨ k = 3 ∨ k = 4 := by omega
  · exact List.Perm.swap ..
  · exact (List.Perm.swap ..).cons _
  · exact ((List.Perm.swap ..).cons _).cons _
  · exact (((List.Perm.swap ..).cons _).cons _).cons _
  · exact ((((List.Perm.swap ..).cons _).cons _).cons _).cons _
/-- What a bubble sort keeps, in round i at place k. -/
structure Bub (R0 R : List Int) (i k : Nat) : Prop where
  len : R.length = 24
  perm : (tubs R).Perm (tubs R0)
  tail : ∀ p q, p < q → q ≤ 5 → 6 - i ≤ q → lexL (tubeAt R p) (tubeAt R q) = true
  top : ∀ p, p < k → lexL (tubeAt R p) (tubeAt R k) = true
  fin : 5 - i ≤ k → ∀ p, p < 5 - i → lexL (tubeAt R p) (tubeAt R (5 - i)) = true
theorem Bub.start {R : List Int} (hR : R.length = 24) : Bub R R 0 0 := ⟨hR, List.Perm.refl _, fun p q h1 h2 h3 => by omega, fun p h => by omega, fun h => by omega⟩
theorem Bub.round {R0 R : List Int} {i : Nat} (h : Bub R0 R i 5) (hi : i < 6) : Bub R0 R (i + 1) 0 := by
  refine ⟨h.len, h.perm, fun p q h1 h2 h3 => ?_, fun p hp => by omega, fun h0 p hp => by omega⟩
  by_cases hq : 6 - i ≤ q
  · exact h.tail p q h1 h2 hq
  · obtain rfl : q = 5 - i := by omega
    exact h.fin (by omega) p h1
theorem Bub.keep {R0 R : List Int} {i k : Nat} (h : Bub R0 R i k) (hk : k < 5) (hc : ¬ lexC (tubeAt R (k + 1)) (tubeAt R k) < 0) : Bub R0 R i (k + 1) := by
  have hl : lexL (tubeAt R k) (tubeAt R (k + 1)) = true := by simp only [lexL, Bool.not_eq_true', decide_eq_false_iff_not]; exact hc
  have l4 := fun q (hq : q < 6) => tubeAt_len h.len hq
  have htop : ∀ p, p < k + 1 → lexL (tubeAt R p) (tubeAt R (k + 1)) = true := fun p hp => by
    by_cases hpk : p = k
    · subst hpk; exact hl
    · exact lexL_trans (by rw [l4 p (by omega), l4 k (by omega)]) (by rw [l4 k (by omega), l4 (k + 1) (by omega)]) (h.top p (by omega)) hl
  refine ⟨h.len, h.perm, h.tail, htop, fun h1 p hp => ?_⟩
  by_cases h2 : 5 - i ≤ k
  · exact h.fin h2 p hp
  · obtain h3 : 5 - i = k + 1 := by omega
    rw [h3]
    exact htop p (by omega)
theorem Bub.swap {R0 R : List Int} {i k : Nat} (h : Bub R0 R i k) (hk : k < 5) (hc : lexC (tubeAt R (k + 1)) (tubeAt R k) < 0) : Bub R0 (swT R k) i (k + 1) := by
  have l4 := fun q (hq : q < 6) => tubeAt_len h.len hq
  have hl : lexL (tubeAt R (k + 1)) (tubeAt R k) = true := by
    simp only [lexL, Bool.not_eq_true', decide_eq_false_iff_not]
    intro h2
    have := lexC_trans (by rw [l4 k (by omega), l4 (k + 1) (by omega)]) (by rw [l4 k (by omega), l4 (k + 1) (by omega)]) h2 hc
    rw [lexC_refl] at this; omega
  have hnot : k + 1 < 6 - i := by
    rcases Nat.lt_or_ge (k + 1) (6 - i) with h1 | h1
    · exact h1
    · have := h.tail k (k + 1) (by omega) (by omega) h1
      simp only [lexL, Bool.not_eq_true', decide_eq_false_iff_not] at this
      exact absurd hc this
  have ts := fun q (hq : q < 6) => tubeAt_sw (k := k) h.len hk hq
  have htop : ∀ p, p < k + 1 → lexL (tubeAt (swT R k) p) (tubeAt (swT R k) (k + 1)) = true := fun p hp => by
    rw [ts p (by omega), ts (k + 1) (by omega), if_neg (by omega : ¬ k + 1 = k), if_pos (rfl : k + 1 = k + 1)]
    by_cases hpk : p = k
    · rw [if_pos hpk]; exact hl
    · rw [if_neg hpk, if_neg (by omega)]; exact h.top p (by omega)
  refine ⟨swT_len h.len hk, (tubs_sw h.len hk).trans h.perm, fun p q h1 h2 h3 => ?_, htop, fun h1 p hp => ?_⟩
  · rw [ts p (by omega), ts q (by omega), if_neg (by omega : ¬ q = k), if_neg (by omega : ¬ q = k + 1)]
    by_cases hp1 : p = k
    · rw [if_pos hp1]; exact h.tail (k + 1) q (by omega) h2 h3
    · rw [if_neg hp1]
      by_cases hp2 : p = k + 1
      · rw [if_pos hp2]; exact h.tail k q (by omega) h2 h3
      · rw [if_neg hp2]; exact h.tail p q h1 h2 h3
  · obtain h4 : 5 - i = k + 1 := by omega
    rw [h4]
    exact htop p (by omega)
theorem Bub.done {R0 R : List Int} {k : Nat} (hR : R0.length = 24) (h : Bub R0 R 6 k) : R = frm R0 := by
  refine frm_of hR h.len h.perm ?_
  unfold tubs
  rw [List.pairwise_map]
  have : (List.range 6).Pairwise (fun a b => a < b ∧ b < 6) := by decide
  exact this.imp fun {a b} hab => h.tail a b hab.1 (by omega) (by omega)
theorem l3Form_ok (R : List Int) (hR : R.length = 24) : PureH Tryz.prog 65 [.arr R] [] (.arr (frm R)) := by
  have tkR : R.take 24 = R := List.take_of_length_le (by omega)
  refine pure_of_vc (X := ⟨Tryz.prog, tys, [(121, l3Below_F)], [], true, true, 0, [], [(8, .tree (.one 0 (.one 1 (.one 2 (.one 3 (.one 4 (.one 5 (.one 6 (.one 7 (.alt 8 (.alt 9 (.one 10 (.one 11 (.one 12 .done))) (.alt 10 (.one 9 (.one 11 (.one 12 .done))) .stop)) (.alt 9 (.alt 8 (.one 10 (.one 11 (.one 12 .done))) (.alt 10 (.alt 8 (.one 11 (.one 12 .done)) (.alt 11 (.one 8 (.one 12 .done)) .stop)) .stop)) (.alt 10 (.alt 8 (.one 9 (.one 11 (.one 12 .done))) (.alt 9 (.alt 8 (.one 11 (.one 12 .done)) (.alt 11 (.one 8 (.one 12 .done)) .stop)) .stop)) .stop))))))))))))]⟩) fn_65 ⟨tys_ok, (.cons l3Below_T .nil), .nil, mixed⟩ (n0 := 0) (Nat.le_of_ble_eq_true rfl) (by simp [wfL, SV.wf]) (wfH_spec (by simp [wfH, SObj.wf])) (Nat.le_refl _) (fun _ => by simp [SV.wf, wfL]) ?_
  simp -implicitDefEqProofs only [Tryz.f65, Option.getD_some, argS, l3Below_F, hR, tkR, ZB, Int.reduceToNat, Nat.reduceLT, Nat.reduceLeDiff, Int.reduceLE, Int.reduceLT, Nat.reduceEqDiff, Nat.reduceSub, SB, SV.known, packR, ne_eq, reduceCtorEq, Nat.reduceEqDiff, ↓reduceIte, if_true, if_false, eq_self, Nat.reduceAdd, Nat.reduceMul, Nat.reduceSub, forall_const, oneCellS, litOne, flat1, Kd.isSca, flat, TYB]
  refine loop_intro (fun s : Nat × List Int => [(3, .int s.1), (2, .ptr 1 0), (1, .ptr 0 0)]) (fun s => [(1, .ints (List.replicate 24 0) 27), (0, .ints s.2 27)]) 2 (fun s => s.1 ≤ 6 ∧ Bub R s.2 s.1 0) (fun s => 6 - s.1) ?_ ?_
  · refine ⟨(0, R), ⟨by simp, Bub.start hR⟩, Sub.mk_id ?_ ?_ ?_ ?_ ?_⟩
    all_goals ((try simp only [LB, subS, subH, wfS, wfH, SV.ren, renL, SObj.ren, SV.wf, SObj.wf, wfL, SV.known, Nat.reduceEqDiff, ↓reduceIte, if_true, if_false, eq_self, Nat.reduceAdd, Nat.reduceLT, Nat.reduceLeDiff, implies_true, reduceCtorEq, forall_const]) <;> simp)
  · rintro ⟨i, Q⟩ ⟨hi, hb⟩
    simp only at hi hb
    by_cases hlt : i < 6
    · have hil : (i : Int) < 6 := by omega
      simp -implicitDefEqProofs only [lk_normal, hil, ZB, Int.reduceToNat, Nat.reduceLT, Nat.reduceLeDiff, Int.reduceLE, Int.reduceLT, Nat.reduceEqDiff, Nat.reduceSub, SB, SV.known, packR, ne_eq, reduceCtorEq, Nat.reduceEqDiff, ↓reduceIte, if_true, if_false, eq_self, Nat.reduceAdd, Nat.reduceMul, Nat.reduceSub, forall_const, oneCellS, litOne, flat1, Kd.isSca, flat, TYB]
      refine loop_intro (fun s : Nat × List Int => [(4, .int s.1), (3, .int i), (2, .ptr 1 0), (1, .ptr 0 0)]) (fun s => [(1, .ints (List.replicate 24 0) 27), (0, .ints s.2 27)]) 2 (fun s => s.1 ≤ 5 ∧ Bub R s.2 i s.1) (fun s => 5 - s.1) ?_ ?_
      · refine ⟨(0, Q), ⟨by simp, hb⟩, Sub.mk_id ?_ ?_ ?_ ?_ ?_⟩
        all_goals ((try simp only [LB, subS, subH, wfS, wfH, SV.ren, renL, SObj.ren, SV.wf, SObj.wf, wfL, SV.known, Nat.reduceEqDiff, ↓reduceIte, if_true, if_false, eq_self, Nat.reduceAdd, Nat.reduceLT, Nat.reduceLeDiff, implies_true, reduceCtorEq, forall_const]) <;> simp)
      · rintro ⟨k, Q⟩ ⟨hk, hb⟩
        simp only at hk hb
        have hQ := hb.len
        by_cases hk5 : k < 5
        · have hkl : (k : Int) + 1 < 6 := by omega
          have tk1 : ((k : Int) + 1).toNat = k + 1 := by omega
          have e1 : List.take 4 (List.drop (k * 4) Q) = tubeAt Q k := rfl
          have e2 : List.take 4 (List.drop ((k + 1) * 4) Q) = tubeAt Q (k + 1) := rfl
          have l1 := tubeAt_len hQ (show k < 6 by omega)
          have l2 := tubeAt_len hQ (show k + 1 < 6 by omega)
          by_cases hc : lexC (tubeAt Q (k + 1)) (tubeAt Q k) < 0
          · simp -implicitDefEqProofs only [lk_normal, l3Below_F, hkl, tk1, e1, e2, l1, l2, hQ, hc, ZB, Int.reduceToNat, Nat.reduceLT, Nat.reduceLeDiff, Int.reduceLE, Int.reduceLT, Nat.reduceEqDiff, Nat.reduceSub, SB, SV.known, packR, ne_eq, reduceCtorEq, Nat.reduceEqDiff, ↓reduceIte, if_true, if_false, eq_self, Nat.reduceAdd, Nat.reduceMul, Nat.reduceSub, forall_const, oneCellS, litOne, flat1, Kd.isSca, flat, TYB]
            refine ⟨by unfold In64; omega, by unfold In64; omega, by omega, by omega, by omega, by omega, by omega, ?_⟩
            refine ⟨Unit, fun _ => [(4, .int k), (3, .int i), (2, .ptr 1 0), (1, .ptr 0 0), (5, .ptr 2 0), (6, .ptr 3 0)], fun _ => [(2, .ints (tubeAt Q k) 24), (3, .ints (tubeAt Q (k + 1)) 24), (1, .ints (List.replicate 24 0) 27), (0, .ints Q 27)], fun _ => 4, ?_, fun _ => ?_⟩
            · have i1 : In64 ((k : Int) + 1) := by unfold In64; omega
              have i2 : 0 ≤ (k : Int) := by omega
              have i3 : (k : Int) < 6 := by omega
              have i4 : 0 ≤ (k : Int) + 1 := by omega
              have i5 : k * 4 ≤ 20 := by omega
              have i6 : (k + 1) * 4 ≤ 20 := by omega
              simp -implicitDefEqProofs only [hkl, tk1, e1, e2, l1, l2, hQ, i1, i2, i3, i4, i5, i6, ZB, Int.reduceToNat, Nat.reduceLT, Nat.reduceLeDiff, Int.reduceLE, Int.reduceLT, Nat.reduceEqDiff, Nat.reduceSub, SB, SV.known, packR, ne_eq, reduceCtorEq, Nat.reduceEqDiff, ↓reduceIte, if_true, if_false, eq_self, Nat.reduceAdd, Nat.reduceMul, Nat.reduceSub, forall_const, oneCellS, litOne, flat1, Kd.isSca, flat, TYB]
              repeat' apply And.intro
              all_goals (first
                | (refine ⟨(), Sub.mk_id ?_ ?_ ?_ ?_ ?_⟩ <;> ((try simp only [LB, subS, subH, wfS, wfH, SV.ren, renL, SObj.ren, SV.wf, SObj.wf, wfL, SV.known, Nat.reduceEqDiff, ↓reduceIte, if_true, if_false, eq_self, Nat.reduceAdd, Nat.reduceLT, Nat.reduceLeDiff, implies_true, reduceCtorEq, forall_const]) <;> simp) <;> done)
                | (refine ⟨(), Sub.mk_to2 2 3 3 2 ?_ ?_ ?_ ?_ ?_ ?_ ?_ ?_⟩ <;> ((try simp only [LB, subS, subH, wfS, wfH, SV.ren, renL, SObj.ren, SV.wf, SObj.wf, wfL, SV.known, Nat.reduceEqDiff, ↓reduceIte, if_true, if_false, eq_self, Nat.reduceAdd, Nat.reduceLT, Nat.reduceLeDiff, implies_true, reduceCtorEq, forall_const]) <;> simp) <;> done))
            · have t1 : List.take 4 (tubeAt Q k) = tubeAt Q k := List.take_of_length_le (by omega)
              have t2 : List.take 4 (tubeAt Q (k + 1)) = tubeAt Q (k + 1) := List.take_of_length_le (by omega)
              have p1 : List.take (k * 4) Q ++ tubeAt Q (k + 1) ++ List.drop (k * 4 + 4) Q = putT Q k (tubeAt Q (k + 1)) := rfl
              have p2 : List.take ((k + 1) * 4) (putT Q k (tubeAt Q (k + 1))) ++ tubeAt Q k ++ List.drop ((k + 1) * 4 + 4) (putT Q k (tubeAt Q (k + 1))) = swT Q k := rfl
              have lp := putT_len hQ l2 (show k < 6 by omega)
              simp -implicitDefEqProofs only [lk_normal, hkl, tk1, e1, e2, l1, l2, hQ, t1, t2, p1, p2, lp, ZB, Int.reduceToNat, Nat.reduceLT, Nat.reduceLeDiff, Int.reduceLE, Int.reduceLT, Nat.reduceEqDiff, Nat.reduceSub, SB, SV.known, packR, ne_eq, reduceCtorEq, Nat.reduceEqDiff, ↓reduceIte, if_true, if_false, eq_self, Nat.reduceAdd, Nat.reduceMul, Nat.reduceSub, forall_const, oneCellS, litOne, flat1, Kd.isSca, flat, TYB]
              refine ⟨by omega, by omega, by omega, by unfold In64; omega, by omega, by omega, by unfold In64; omega, (k + 1, swT Q k), ⟨by simp only; omega, hb.swap hk5 hc⟩, by simp only; omega, Sub.mk_id ?_ ?_ ?_ ?_ ?_⟩
              all_goals ((try simp only [LB, subS, subH, wfS, wfH, SV.ren, renL, SObj.ren, SV.wf, SObj.wf, wfL, SV.known, Nat.reduceEqDiff, ↓reduceIte, if_true, if_false, eq_self, Nat.reduceAdd, Nat.reduceLT, Nat.reduceLeDiff, implies_true, reduceCtorEq, forall_const]) <;> simp)
          · simp -implicitDefEqProofs only [lk_normal, l3Below_F, hkl, tk1, e1, e2, l1, l2, hQ, hc, ZB, Int.reduceToNat, Nat.reduceLT, Nat.reduceLeDiff, Int.reduceLE, Int.reduceLT, Nat.reduceEqDiff, Nat.reduceSub, SB, SV.known, packR, ne_eq, reduceCtorEq, Nat.reduceEqDiff, ↓reduceIte, if_true, if_false, eq_self, Nat.reduceAdd, Nat.reduceMul, Nat.reduceSub, forall_const, oneCellS, litOne, flat1, Kd.isSca, flat, TYB]
            refine ⟨by unfold In64; omega, by unfold In64; omega, by omega, by omega, by omega, by omega, by omega, by unfold In64; omega, (k + 1, Q), ⟨by simp only; omega, hb.keep hk5 hc⟩, by simp only; omega, Sub.mk_id ?_ ?_ ?_ ?_ ?_⟩
            all_goals ((try simp only [LB, subS, subH, wfS, wfH, SV.ren, renL, SObj.ren, SV.wf, SObj.wf, wfL, SV.known, Nat.reduceEqDiff, ↓reduceIte, if_true, if_false, eq_self, Nat.reduceAdd, Nat.reduceLT, Nat.reduceLeDiff, implies_true, reduceCtorEq, forall_const]) <;> simp)
        · obtain rfl : k = 5 := by omega
          have hkl : ¬ (5 : Int) + 1 < 6 := by omega
          simp -implicitDefEqProofs only [lk_normal, hkl, ZB, Int.reduceToNat, Nat.reduceLT, Nat.reduceLeDiff, Int.reduceLE, Int.reduceLT, Nat.reduceEqDiff, Nat.reduceSub, SB, SV.known, packR, ne_eq, reduceCtorEq, Nat.reduceEqDiff, ↓reduceIte, if_true, if_false, eq_self, Nat.reduceAdd, Nat.reduceMul, Nat.reduceSub, forall_const, oneCellS, litOne, flat1, Kd.isSca, flat, TYB]
          refine ⟨by unfold In64; omega, by unfold In64; omega, (i + 1, Q), ⟨by simp only; omega, hb.round hlt⟩, by simp only; omega, Sub.mk_id ?_ ?_ ?_ ?_ ?_⟩
          all_goals ((try simp only [LB, subS, subH, wfS, wfH, SV.ren, renL, SObj.ren, SV.wf, SObj.wf, wfL, SV.known, Nat.reduceEqDiff, ↓reduceIte, if_true, if_false, eq_self, Nat.reduceAdd, Nat.reduceLT, Nat.reduceLeDiff, implies_true, reduceCtorEq, forall_const]) <;> simp)
    · have hil : ¬ (i : Int) < 6 := by omega
      obtain rfl : i = 6 := by omega
      have hd := hb.done hR
      have tkQ : List.take 24 Q = Q := List.take_of_length_le (by have := hb.len; omega)
      have hQ := hb.len
      simp -implicitDefEqProofs only [lk_normal, hil, hQ, tkQ, ZB, Int.reduceToNat, Nat.reduceLT, Nat.reduceLeDiff, Int.reduceLE, Int.reduceLT, Nat.reduceEqDiff, Nat.reduceSub, SB, SV.known, packR, ne_eq, reduceCtorEq, Nat.reduceEqDiff, ↓reduceIte, if_true, if_false, eq_self, Nat.reduceAdd, Nat.reduceMul, Nat.reduceSub, forall_const, oneCellS, litOne, flat1, Kd.isSca, flat, TYB]
      exact hd
--@tbl l3Form = spec.l3Form
def l3Form_F : List SV → Heap → Option (Prop × SV)
  | [.arr R], _ => some (R.length = 24, .arr (frm R))
  | _, _ => none
theorem l3Form_T : ∀ args H p v, l3Form_F args H = some (p, v) → p → PureH Tryz.prog 65 args H v := by
  intro args H p v h hp
  unfold l3Form_F at h
  split at h
  · cases h; exact (l3Form_ok _ hp).any _
  · cases h
end Go.Proofs.YtmccafjblhbmkaaGreat
set_option maxRecDepth 100000
set_option linter.unusedSimpArgs false
set_option linter.unusedVariables false
namespace Go.Proofs.YtmccafjblhbmkaaGreat
open Go Go.RowKit

structure UpdP (P : Program) (f : FuncId) (args : List SV) (b : Nat) (H0 : Heap) (o o' : SObj) (r : SV) : Prop where
  ent : Entd P f
  lo : o.live = true
  wo : ∀ n, o'.wf n
  call : ∀ B w, HR B ((b, o) :: H0) w → Calls P f (denL B args).toArray w fun e w' => e = .returned (r.den B) ∧ Kept (fun i => i = B b ∨ w.heap.size ≤ i) w w' ∧ w'.heap[B b]? = some (o'.den B)

theorem upd_of_vc {X : Cx} {f : FuncId} {fn : Func} {c : Code} (hf : FnOK X.P f fn c X.sx X.hr) (hX : CxOK X) {n0 b : Nat} {args : List SV} {H0 : Heap} {o o' : SObj} {r : SV} (hb : b < n0) (hN : args.length ≤ fn.ntmps) (hwa : wfL n0 args) (hwH : hwf n0 ((b, o) :: H0)) (hm : ∀ k o1, hget H0 k = some o1 → k < X.m) (hlo : o.live = true) (hlo' : o'.live = true) (hwo : ∀ n, o'.wf n) (hwr : r.wf n0)
    (h : codeVC X n0 c (argS 0 args) ((b, o) :: H0) n0 (retK X.τ fn.results.toList fun v H' _ => v = r ∧ hget H' b = some o')) (hfo' : o'.full = true := by rfl) : UpdP X.P f args b H0 o o' r := by
  refine ⟨hf.ent, hlo, hwo, fun B w hH => ?_⟩
  have hown : Own (fun i => i = B b ∨ w.heap.size ≤ i) X.m B ((b, o) :: H0) := by
    intro k o1 hl _ hmk
    rw [hget_cons] at hl
    split at hl
    · rename_i hkb; subst hkb; exact .inl rfl
    · have := hm k o1 hl; omega
  refine (run_of_vc hf hX hN hwa hwH (Nat.le_refl _) h B (fun i => i = B b ∨ w.heap.size ≤ i) w hH hown (fun _ h => .inr h)).mono fun e w' hh => ?_
  obtain ⟨v, H', n', B', rfl, ⟨rfl, h2⟩, g1, g2, g3, g4, g5, g6, g7⟩ := hh
  refine ⟨?_, g5, ?_⟩
  · rw [SV.den_congr (n := n0) g6 v hwr]
  · have := SObj.den_of_sat hfo' (g3.at_ b o' h2 hlo')
    rw [g6 b hb] at this
    rw [this, SObj.den_congr (n := 0) (fun k hk => by omega) o' (hwo 0)]

theorem gen_of_upd {P : Program} {f : FuncId} {args : List SV} {b : Nat} {H0 H : Heap} {o o' : SObj} {r : SV} {n m : Nat} {κ : K1} (h : UpdP P f args b H0 o o' r) (ρ : Nat → Nat) (hs : ∀ k o1, hget ((b, o) :: H0) k = some o1 → hget H (ρ k) = some (o1.ren ρ))
    (hi : ∀ k o1 j o2, hget ((b, o) :: H0) k = some o1 → hget ((b, o) :: H0) j = some o2 → ρ k = ρ j → k = j) (hm : m ≤ ρ b) (hlo' : o'.live = true) (hwr : ∀ n, ρ b < n → (r.ren ρ).wf n) (hk : κ (r.ren ρ) ((ρ b, o') :: H) n) (hfo' : o'.full = true := by rfl) : GenOK P f (renL ρ args) H n m κ := by
  refine ⟨h.ent, fun B M w hH hwH hwa hown hM => ?_⟩
  have hb0 : hget H (ρ b) = some (o.ren ρ) := hs b o (by rw [hget_cons, if_pos rfl])
  have hlive : (o.ren ρ).live = true := by rw [SObj.live_ren]; exact h.lo
  have hR : HR (fun k => B (ρ k)) ((b, o) :: H0) w := ⟨fun k o1 hl hk1 => by
    have := hH.at_ _ _ (hs k o1 hl) (by rw [SObj.live_ren]; exact hk1)
    rw [SObj.sat_ren] at this
    exact this, fun k j o1 o2 h1 h2 h3 h4 he => hi k o1 j o2 h1 h3 (hH.inj _ _ _ _ (hs k o1 h1) (by rw [SObj.live_ren]; exact h2) (hs j o2 h3) (by rw [SObj.live_ren]; exact h4) he)⟩
  rw [denL_ren]
  refine (h.call _ w hR).mono fun e w' hh => ?_
  obtain ⟨rfl, hkept, hblk⟩ := hh
  have hbn := (hwH (ρ b) _ hb0).1
  have hden : o'.den (fun k => B (ρ k)) = o'.den B := by
    rw [SObj.den_congr (n := 0) (B := B) (B' := fun k => B (ρ k)) (fun k hk => by omega) o' (h.wo 0)]
  have off : ∀ k o1, hget H k = some o1 → o1.live = true → k ≠ ρ b → o1.sat B w' (B k) := fun k o1 hl hk1 hne => by
    have hlt := hH.lt hl hk1
    exact SObj.sat_heap (hkept.block (B k) hlt (fun hc => by
      rcases hc with hc | hc
      · exact hne (hH.inj k (ρ b) _ _ hl hk1 hb0 hlive hc)
      · omega)) (hH.at_ k o1 hl hk1)
  refine ⟨r.ren ρ, (ρ b, o') :: H, n, B, by rw [SV.den_ren], hk, Nat.le_refl _, hwr n hbn, hwf_cons hwH hbn (h.wo n), fun _ _ => rfl, ⟨fun k o1 hl hk1 => ?_, fun k j o1 o2 h1 h2 h3 h4 he => ?_⟩, ?_, ?_⟩
  · rw [hget_cons] at hl
    split at hl
    · rename_i hkb
      subst hkb
      cases hl
      exact SObj.sat_of_den hfo' (by rw [hblk, hden])
    · rename_i hkb
      exact off k o1 hl hk1 hkb
  · rw [hget_cons] at h1 h3
    have up : ∀ k o1, (if k = ρ b then some o' else hget H k) = some o1 → o1.live = true → ∃ o2, hget H k = some o2 ∧ o2.live = true := fun k o1 hl hk1 => by
      split at hl
      · rename_i hkb; rw [hkb]; exact ⟨_, hb0, hlive⟩
      · exact ⟨o1, hl, hk1⟩
    obtain ⟨p1, q1, r1⟩ := up k o1 h1 h2
    obtain ⟨p2, q2, r2⟩ := up j o2 h3 h4
    exact hH.inj k j p1 p2 q1 r1 q2 r2 he
  · intro k o1 hl hk1 hmk
    rw [hget_cons] at hl
    split at hl
    · rename_i hkb; rw [hkb]; exact hown (ρ b) _ hb0 hlive hm
    · exact hown k o1 hl hk1 hmk
  · refine ⟨hkept.os, hkept.tape, hkept.output, hkept.size, fun i hi1 hi2 => hkept.block i hi1 fun hc => ?_, hkept.drawn⟩
    rcases hc with hc | hc
    · rw [hc] at hi2; exact hi2 (hown (ρ b) _ hb0 hlive hm)
    · omega

/-- A heap that holds another one. -/
def Ext (Hc H : Heap) : Prop := ∀ k o, hget Hc k = some o → hget H k = some o
theorem Ext.refl (H : Heap) : Ext H H := fun _ _ h => h
theorem Ext.cons {Hc H : Heap} {b : Nat} {o : SObj} {n : Nat} (hw : hwf n Hc) (hb : n ≤ b) (h : Ext Hc H) : Ext Hc ((b, o) :: H) := fun k o1 hk => by
  have := (hw k o1 hk).1
  rw [hget_cons, if_neg (by omega)]
  exact h k o1 hk
theorem hget_app (l Hc : Heap) (k : Nat) : hget (l ++ Hc) k = (hget l k).or (hget Hc k) := by
  induction l with
  | nil => simp [hget]
  | cons q l ih =>
    obtain ⟨b, o⟩ := q
    rw [List.cons_append, hget_cons, hget_cons, ih]
    split <;> rfl
theorem Sub.mk_ext {p m : Nat} {S S' : Env} {H l Hc : Heap} {n' : Nat} (h1 : subS (fun k => k) S S') (h2 : subH (fun k => k) m H l) (h3 : wfS n' S') (h4 : wfH n' l) (h5 : p ≤ n') (hE : Ext Hc H) (hw : hwf n' Hc) : Sub p m S H S' (l ++ Hc) n' := by
  refine ⟨fun k => k, h1, fun k o hk => ?_, h3, fun k o hk => ?_, fun _ _ _ _ h => h, fun _ _ => rfl, h5⟩
  · rw [hget_app] at hk
    cases hl : hget l k with
    | none =>
      rw [hl] at hk
      simp at hk
      exact ⟨by rw [SObj.ren_id]; exact hE k o hk, fun h => h, by
        have := mem_keys hk
        simp only [List.map_append, List.mem_append]
        exact .inr this⟩
    | some o1 =>
      rw [hl] at hk
      simp at hk
      subst hk
      obtain ⟨g1, g2, g3⟩ := subH_spec h2 k o1 hl
      exact ⟨g1, g2, by simp only [List.map_append, List.mem_append]; exact .inl g3⟩
  · rw [hget_app] at hk
    cases hl : hget l k with
    | none => rw [hl] at hk; simp at hk; exact hw k o hk
    | some o1 => rw [hl] at hk; simp at hk; subst hk; exact wfH_spec h4 k o1 hl
end Go.Proofs.YtmccafjblhbmkaaGreat
set_option maxRecDepth 100000
set_option linter.unusedSimpArgs false
set_option linter.unusedVariables false
namespace Go.Proofs.YtmccafjblhbmkaaGreat
open Go Go.RowKit

mutual
theorem SV.wf_ren {n N : Nat} {ρ : Nat → Nat} (h : ∀ k, k < n → ρ k < N) : ∀ v : SV, v.wf n → (v.ren ρ).wf N
  | .non, _ => trivial
  | .und, _ => trivial
  | .int _, _ => trivial
  | .bool _, _ => trivial
  | .arr _, _ => trivial
  | .barr _, _ => trivial
  | .lit _, _ => trivial
  | .nils, _ => trivial
  | .ptr b o, hw => by simp only [SV.ren, SV.wf] at *; exact h b hw
  | .slice b o l c, hw => by simp only [SV.ren, SV.wf] at *; exact h b hw
  | .mp b, hw => by simp only [SV.ren, SV.wf] at *; exact h b hw
  | .fn f caps, hw => by simp only [SV.ren, SV.wf] at *; exact wfL_ren h caps hw
  | .tup l, hw => by simp only [SV.ren, SV.wf] at *; exact wfL_ren h l hw
  | .stc l, hw => by simp only [SV.ren, SV.wf] at *; exact wfL_ren h l hw
theorem wfL_ren {n N : Nat} {ρ : Nat → Nat} (h : ∀ k, k < n → ρ k < N) : ∀ l : List SV, wfL n l → wfL N (renL ρ l)
  | [], _ => trivial
  | v :: r, hw => by simp only [renL, wfL] at *; exact ⟨SV.wf_ren h v hw.1, wfL_ren h r hw.2⟩
end
theorem SObj.wf_ren {n N : Nat} {ρ : Nat → Nat} (h : ∀ k, k < n → ρ k < N) (o : SObj) (hw : o.wf n) : (o.ren ρ).wf N := by
  cases o <;> simp only [SObj.ren, SObj.wf] at *
  exact wfL_ren h _ hw
/-- Names of a call's blocks among the caller's. -/
def ext (ρ : Nat → Nat) (n0 n : Nat) : Nat → Nat := fun k => if k < n0 then ρ k else n + (k - n0)
theorem ext_lt {ρ : Nat → Nat} {n0 n k : Nat} (h : k < n0) : ext ρ n0 n k = ρ k := if_pos h
theorem ext_ge {ρ : Nat → Nat} {n0 n k : Nat} (h : n0 ≤ k) : ext ρ n0 n k = n + (k - n0) := if_neg (by omega)
def renH (ρ : Nat → Nat) (H : Heap) : Heap := H.map fun q => (ρ q.1, q.2.ren ρ)
theorem renH_get {ρ : Nat → Nat} (hi : ∀ a b, ρ a = ρ b → a = b) (H : Heap) (k : Nat) : hget (renH ρ H) (ρ k) = (hget H k).map (SObj.ren ρ) := by
  induction H with
  | nil => rfl
  | cons q H ih =>
    obtain ⟨b, o⟩ := q
    show hget ((ρ b, o.ren ρ) :: renH ρ H) (ρ k) = _
    rw [hget_cons, hget_cons, ih]
    by_cases h : k = b
    · subst h; rw [if_pos rfl, if_pos rfl]; rfl
    · rw [if_neg (fun h2 => h (hi _ _ h2)), if_neg h]
theorem renH_key {ρ : Nat → Nat} (H : Heap) {j : Nat} {o : SObj} (h : hget (renH ρ H) j = some o) : ∃ k, j = ρ k := by
  induction H with
  | nil => cases h
  | cons q H ih =>
    obtain ⟨b, o1⟩ := q
    have h' : hget ((ρ b, o1.ren ρ) :: renH ρ H) j = some o := h
    rw [hget_cons] at h'
    split at h'
    · exact ⟨b, by assumption⟩
    · exact ih h'
/-- What a walk comes to: a value and blocks under names of its own. -/
def finK (p m : Nat) (ψ : SV → Heap → Nat → Prop) : K1 := fun v H' _ => ∃ v' H'' n'', Sub p m [(0, v)] H' [(0, v')] H'' n'' ∧ ψ v' H'' n''

theorem gen_of_vc {X : Cx} {f : FuncId} {fn : Func} {c : Code} (hf : FnOK X.P f fn c X.sx X.hr) (hX : CxOK X) {n0 : Nat} {args : List SV} {H0 : Heap} {ψ : SV → Heap → Nat → Prop} (hN : args.length ≤ fn.ntmps) (hwa : wfL n0 args) (hwH : hwf n0 H0) (hm0 : X.m ≤ n0)
    (h : codeVC X n0 c (argS 0 args) H0 n0 (retK X.τ fn.results.toList (finK n0 X.m ψ)))
    (ρ : Nat → Nat) {H : Heap} {n m : Nat} {κ : K1} (hdom : ∀ k, k < n0 → ∃ o, hget H0 k = some o) (hi : ∀ a b, a < n0 → b < n0 → ρ a = ρ b → a = b)
    (hs : ∀ k o, hget H0 k = some o → hget H (ρ k) = some (o.ren ρ)) (hm : ∀ k o, hget H0 k = some o → X.m ≤ k → m ≤ ρ k)
    (hq : ∀ v H' n', ψ v H' n' → (∀ k o, hget H0 k = some o → o.live = true → X.m ≤ k → (hget H' k).isSome = true) ∧ (∀ k o, hget H' k = some o → o.live = true → k < X.m → ∃ o0, hget H0 k = some o0 ∧ o0.live = true))
    (hk : ∀ v H' n', ψ v H' n' → n0 ≤ n' → κ (v.ren (ext ρ n0 n)) (renH (ext ρ n0 n) H' ++ H) (n + (n' - n0))) : GenOK X.P f (renL ρ args) H n m κ := by
  refine ⟨hf.ent, fun B M w hH hwHH hwa' hown hM => ?_⟩
  have hρ : ∀ k, k < n0 → ρ k < n := fun k hk0 => by
    obtain ⟨o, ho⟩ := hdom k hk0
    exact (hwHH _ _ (hs k o ho)).1
  have hR : HR (fun k => B (ρ k)) H0 w := ⟨fun k o hl hk1 => by
    have := hH.at_ _ _ (hs k o hl) (by rw [SObj.live_ren]; exact hk1)
    rw [SObj.sat_ren] at this
    exact this, fun k j o1 o2 h1 h2 h3 h4 he => hi k j (hwH k o1 h1).1 (hwH j o2 h3).1 (hH.inj _ _ _ _ (hs k o1 h1) (by rw [SObj.live_ren]; exact h2) (hs j o2 h3) (by rw [SObj.live_ren]; exact h4) he)⟩
  rw [denL_ren]
  let M0 : Nat → Prop := fun i => (∃ k o, hget H0 k = some o ∧ o.live = true ∧ X.m ≤ k ∧ i = B (ρ k)) ∨ w.heap.size ≤ i
  have hM0 : ∀ i, M0 i → M i := fun i hi0 => by
    rcases hi0 with ⟨k, o, h1, h2, h3, rfl⟩ | h1
    · exact hown _ _ (hs k o h1) (by rw [SObj.live_ren]; exact h2) (hm k o h1 h3)
    · exact hM i h1
  have hown0 : Own M0 X.m (fun k => B (ρ k)) H0 := fun k o h1 h2 h3 => .inl ⟨k, o, h1, h2, h3, rfl⟩
  refine (run_of_vc hf hX hN hwa hwH (Nat.le_refl _) h (fun k => B (ρ k)) M0 w hR hown0 (fun _ h => .inr h)).mono fun e w' hh => ?_
  obtain ⟨v1, H1, n1, B1, rfl, ⟨v, H', n', hsub, hψ⟩, g1, g2, g3, g4, g5, g6, g7⟩ := hh
  -- the last renaming
  obtain ⟨σ, s1, s2, s3, s4, s5, s6, s7⟩ := hsub
  have sv := subS_spec s1 0 v rfl
  have e1 : v1 = v.ren σ := sv.1
  have vw : v.wf n' := s3.1
  let B2 : Nat → Nat := fun k => B1 (σ k)
  have hB2 : ∀ k, k < n0 → B2 k = B (ρ k) := fun k hk1 => by
    show B1 (σ k) = _
    rw [s6 k hk1, g6 k hk1]
  have hR2 : HR B2 H' w' := ⟨fun k o hl hk1 => by
    obtain ⟨a1, _, _⟩ := s2 k o hl
    have := g3.at_ _ _ a1 (by rw [SObj.live_ren]; exact hk1)
    rw [SObj.sat_ren] at this
    exact this, fun k j o o' a1 a2 a3 a4 he => by
    obtain ⟨b1, _, b3⟩ := s2 k o a1
    obtain ⟨c1, _, c3⟩ := s2 j o' a3
    exact s5 k b3 j c3 (g3.inj _ _ _ _ b1 (by rw [SObj.live_ren]; exact a2) c1 (by rw [SObj.live_ren]; exact a4) he)⟩
  have hO2 : Own M0 X.m B2 H' := fun k o hl hk1 hmk => by
    obtain ⟨a1, a2, _⟩ := s2 k o hl
    exact g4 _ _ a1 (by rw [SObj.live_ren]; exact hk1) (a2 hmk)
  obtain ⟨q1, q2⟩ := hq v H' n' hψ
  have hκ := hk v H' n' hψ s7
  -- names among the caller's
  let E := ext ρ n0 n
  let B3 : Nat → Nat := fun j => if j < n then B j else B2 (n0 + (j - n))
  have hE : ∀ k, k < n' → E k < n + (n' - n0) := fun k hk1 => by
    show ext ρ n0 n k < _
    by_cases hlt : k < n0
    · rw [ext_lt hlt]; have := hρ k hlt; omega
    · rw [ext_ge (by omega)]; omega
  have hEi : ∀ a b, E a = E b → a = b := fun a b he => by
    have he' : ext ρ n0 n a = ext ρ n0 n b := he
    by_cases ha : a < n0
    · have := hρ a ha
      by_cases hb : b < n0
      · rw [ext_lt ha, ext_lt hb] at he'; exact hi a b ha hb he'
      · rw [ext_lt ha, ext_ge (by omega)] at he'; omega
    · by_cases hb : b < n0
      · have := hρ b hb
        rw [ext_ge (by omega), ext_lt hb] at he'; omega
      · rw [ext_ge (by omega), ext_ge (by omega)] at he'; omega
  have hB3 : ∀ k, B3 (E k) = B2 k := fun k => by
    show (if ext ρ n0 n k < n then B (ext ρ n0 n k) else B2 (n0 + (ext ρ n0 n k - n))) = _
    by_cases hlt : k < n0
    · rw [ext_lt hlt, if_pos (hρ k hlt), hB2 k hlt]
    · rw [ext_ge (by omega), if_neg (by omega), show n0 + (n + (k - n0) - n) = k by omega]
  have hB3l : ∀ j, j < n → B3 j = B j := fun j hj => if_pos hj
  -- a look-up in the new heap
  have look : ∀ j o, hget (renH E H' ++ H) j = some o → (∃ k o', j = E k ∧ hget H' k = some o' ∧ o = o'.ren E) ∨ (hget H j = some o ∧ ∀ k, j = E k → hget H' k = none) := fun j o hl => by
    rw [hget_app] at hl
    cases hr : hget (renH E H') j with
    | some o1 =>
      rw [hr] at hl
      simp at hl
      subst hl
      obtain ⟨k, rfl⟩ := renH_key H' hr
      rw [renH_get hEi] at hr
      cases hk1 : hget H' k with
      | none => rw [hk1] at hr; cases hr
      | some o' => rw [hk1] at hr; simp at hr; exact .inl ⟨k, o', rfl, hk1, hr.symm⟩
    | none =>
      rw [hr] at hl
      simp at hl
      refine .inr ⟨hl, fun k hjk => ?_⟩
      subst hjk
      rw [renH_get hEi] at hr
      cases hk1 : hget H' k with
      | none => rfl
      | some o' => rw [hk1] at hr; cases hr
  -- blocks of the caller's that the call did not write
  have same : ∀ j o, hget H j = some o → o.live = true → (∀ k, j = E k → hget H' k = none) → ¬ M0 (B j) := fun j o hl hk1 hno hc => by
    rcases hc with ⟨k, o1, a1, a2, a3, a4⟩ | hc
    · have hj := hH.inj j (ρ k) _ _ hl hk1 (hs k o1 a1) (by rw [SObj.live_ren]; exact a2) a4
      have hkn := (hwH k o1 a1).1
      have hn := hno k (by rw [hj]; exact (ext_lt hkn).symm)
      have := q1 k o1 a1 a2 a3
      rw [hn] at this; cases this
    · have := hH.lt hl hk1
      omega
  have ren3 : ∀ (o : SObj) (id : Nat), o.wf n' → o.sat B2 w' id → (o.ren E).sat B3 w' id := fun o id hw1 hs1 => by
    rw [SObj.sat_ren]
    exact SObj.sat_congr (fun k _ => hB3 k) o hw1 hs1
  refine ⟨v.ren E, renH E H' ++ H, n + (n' - n0), B3, ?_, hκ, by omega, SV.wf_ren hE v vw, ?_, fun k hk1 => hB3l k hk1, ⟨fun j o hl hk1 => ?_, fun j1 j2 o1 o2 a1 a2 a3 a4 he => ?_⟩, ?_, ?_⟩
  · congr 1
    rw [SV.den_ren, e1, SV.den_ren]
    exact (SV.den_congr (n := n') (fun k _ => hB3 k) v vw).symm
  · intro j o hl
    rcases look j o hl with ⟨k, o', rfl, a1, rfl⟩ | ⟨a1, _⟩
    · have := s4 k o' a1
      exact ⟨hE k this.1, SObj.wf_ren hE o' this.2⟩
    · have := hwHH j o a1
      exact ⟨by omega, SObj.wf_mono (by omega) _ this.2⟩
  · rcases look j o hl with ⟨k, o', rfl, a1, rfl⟩ | ⟨a1, hno⟩
    · rw [SObj.live_ren] at hk1
      rw [hB3]
      exact ren3 o' _ (s4 k o' a1).2 (hR2.at_ k o' a1 hk1)
    · have hjn := (hwHH j o a1).1
      rw [hB3l j hjn]
      refine SObj.sat_congr (fun k hk2 => hB3l k hk2) o (hwHH j o a1).2 ?_
      exact SObj.sat_heap (g5.block (B j) (hH.lt a1 hk1) (same j o a1 hk1 hno)) (hH.at_ j o a1 hk1)
  · have cross : ∀ k o' j o, hget H' k = some o' → o'.live = true → hget H j = some o → o.live = true → (∀ k, j = E k → hget H' k = none) → B2 k ≠ B j := fun k o' j o b1 b2 b3 b4 hno hc => by
      by_cases hkm : k < X.m
      · obtain ⟨o0, c1, c2⟩ := q2 k o' b1 b2 hkm
        have hkn : k < n0 := by omega
        rw [hB2 k hkn] at hc
        have hj := hH.inj _ _ _ _ (hs k o0 c1) (by rw [SObj.live_ren]; exact c2) b3 b4 hc
        have := hno k (by rw [← hj]; exact (ext_lt hkn).symm)
        rw [this] at b1; cases b1
      · have := hO2 k o' b1 b2 (by omega)
        rw [hc] at this
        exact same j o b3 b4 hno this
    rcases look j1 o1 a1 with ⟨k1, p1, rfl, b1, rfl⟩ | ⟨b1, n1'⟩ <;> rcases look j2 o2 a3 with ⟨k2, p2, rfl, c1, rfl⟩ | ⟨c1, n2'⟩
    · rw [SObj.live_ren] at a2 a4
      rw [hB3, hB3] at he
      rw [hR2.inj k1 k2 _ _ b1 a2 c1 a4 he]
    · rw [SObj.live_ren] at a2
      rw [hB3, hB3l j2 (hwHH j2 o2 c1).1] at he
      exact absurd he (cross k1 p1 j2 o2 b1 a2 c1 a4 n2')
    · rw [SObj.live_ren] at a4
      rw [hB3, hB3l j1 (hwHH j1 o1 b1).1] at he
      exact absurd he.symm (cross k2 p2 j1 o1 c1 a4 b1 a2 n1')
    · rw [hB3l j1 (hwHH j1 o1 b1).1, hB3l j2 (hwHH j2 o2 c1).1] at he
      exact hH.inj j1 j2 _ _ b1 a2 c1 a4 he
  · intro j o hl hk1 hmj
    rcases look j o hl with ⟨k, o', rfl, a1, rfl⟩ | ⟨a1, _⟩
    · rw [SObj.live_ren] at hk1
      rw [hB3]
      by_cases hkm : k < X.m
      · obtain ⟨o0, c1, c2⟩ := q2 k o' a1 hk1 hkm
        have hkn : k < n0 := by omega
        rw [hB2 k hkn]
        have hmj' : m ≤ ext ρ n0 n k := hmj
        rw [ext_lt hkn] at hmj'
        exact hown _ _ (hs k o0 c1) (by rw [SObj.live_ren]; exact c2) hmj'
      · exact hM0 _ (hO2 k o' a1 hk1 (by omega))
    · rw [hB3l j (hwHH j o a1).1]
      exact hown j o a1 hk1 hmj
  · exact ⟨g5.os, g5.tape, g5.output, g5.size, fun i hi1 hi2 => g5.block i hi1 fun hc => hi2 (hM0 i hc), g5.drawn⟩
end Go.Proofs.YtmccafjblhbmkaaGreat
set_option maxRecDepth 100000
set_option linter.unusedSimpArgs false
set_option linter.unusedVariables false
namespace Go.Proofs.YtmccafjblhbmkaaGreat
open Go Go.RowKit
abbrev Ro (k : Nat) := {x : List Int // x.length = k}
instance (k : Nat) : Inhabited (Ro k) := ⟨⟨List.replicate k 0, by simp⟩⟩
def encR {k : Nat} (x : Ro k) : List Value := x.1.map (Value.int .i64)
theorem encR_len {k : Nat} (x : Ro k) : (encR x).length = k := by unfold encR; rw [List.length_map]; exact x.2
theorem flat_lenW {w : Nat} : ∀ {Q : List (List Int)}, (∀ x ∈ Q, x.length = w) → Q.flatten.length = Q.length * w
  | [], _ => by simp
  | x :: Q, h => by
    rw [List.flatten_cons, List.length_append, flat_lenW fun y hy => h y (List.mem_cons_of_mem _ hy), h x (List.mem_cons_self ..), List.length_cons, Nat.add_mul]; omega
theorem flat_at {w : Nat} : ∀ {Q : List (List Int)}, (∀ x ∈ Q, x.length = w) → ∀ {i j : Nat}, i < Q.length → j < w → Q.flatten.getD (i * w + j) 0 = (Q.getD i []).getD j 0
  | [], _, i, _, hi, _ => by simp at hi
  | x :: Q, h, i, j, hi, hj => by
    have hx := h x (List.mem_cons_self ..)
    rw [List.flatten_cons]
    cases i with
    | zero =>
      rw [Nat.zero_mul, Nat.zero_add, getD_app _ _ _ (by omega)]; rfl
    | succ i =>
      have e : (i + 1) * w + j = x.length + (i * w + j) := by rw [hx, Nat.add_mul]; omega
      rw [e, List.getD_eq_getElem?_getD, List.getElem?_append_right (by omega), Nat.add_sub_cancel_left, ← List.getD_eq_getElem?_getD, flat_at (fun y hy => h y (List.mem_cons_of_mem _ hy)) (by simpa using hi) hj]
      rfl
def roL {k : Nat} (d : Array (Ro k)) : List (List Int) := d.toList.map (·.1)
theorem roL_len {k : Nat} (d : Array (Ro k)) : ∀ x ∈ roL d, x.length = k := fun x hx => by
  obtain ⟨y, _, rfl⟩ := List.mem_map.1 hx
  exact y.2
theorem flatK_ro {k : Nat} (hk : 0 < k) (d : Array (Ro k)) : Sort.flatK encR k d = ints (roL d).flatten := by
  have hl : (roL d).flatten.length = d.size * k := by rw [flat_lenW (roL_len d)]; simp [roL]
  have hsz : (ints (roL d).flatten).size = d.size * k := by unfold ints; rw [List.size_toArray, List.length_map, hl]
  refine Sort.ext_get! (by rw [hsz, Sort.size_flatK]) fun t ht => ?_
  have ht' : t < d.size * k := by simpa using ht
  rw [Sort.get_flatK _ _ _ _ ht']
  have hq : t / k < d.size := Nat.div_lt_of_lt_mul (by rw [Nat.mul_comm]; exact ht')
  have hr : t % k < k := Nat.mod_lt _ hk
  have e := flat_at (roL_len d) (i := t / k) (j := t % k) (by simpa [roL] using hq) hr
  have et : t / k * k + t % k = t := by rw [Nat.mul_comm]; exact Nat.div_add_mod t k
  rw [et] at e
  have e2 : (roL d).getD (t / k) [] = (d[t / k]!).1 := by
    rw [List.getD_eq_getElem?_getD, List.getElem?_eq_getElem (by simpa [roL] using hq)]
    simp [roL, hq]
  rw [e2] at e
  have hx := (d[t / k]!).2
  rw [getElem!_pos (encR d[t / k]!) (t % k) (by rw [encR_len]; exact hr), getElem!_pos (ints (roL d).flatten) t (by rw [hsz]; exact ht')]
  simp only [encR, ints, List.getElem_map, List.getElem_toArray]
  congr 1
  rw [List.getD_eq_getElem?_getD, List.getElem?_eq_getElem (by omega), List.getD_eq_getElem?_getD, List.getElem?_eq_getElem (by omega)] at e
  simpa using e.symm
theorem grow_of_bel {w w' : World} (h : Bel w.heap.size w w') : ∃ q os', w' = Sort.grow (w.drewN q) os' := by
  refine ⟨w'.drawn - w.drawn, w'.heap.extract w.heap.size w'.heap.size, ?_⟩
  have h1 := h.os; have h2 := h.tape; have h3 := h.output; have h4 := h.size; have h5 := h.block; have h6 := h.drawn
  have hh : w'.heap = w.heap ++ w'.heap.extract w.heap.size w'.heap.size := by
    apply Array.ext_getElem?
    intro i
    rw [Array.getElem?_append]
    split
    · exact h5 i (by assumption)
    · rw [Array.getElem?_extract]
      split
      · rw [show w.heap.size + (i - w.heap.size) = i by omega]
      · rw [Array.getElem?_eq_none (by omega)]
  cases w' with
  | mk hp tp dr os out =>
    cases w with
    | mk hp0 tp0 dr0 os0 out0 =>
      simp only at h1 h2 h3 h4 h5 h6 hh
      subst h1 h2 h3
      simp only [Sort.grow, World.drewN, World.mk.injEq]
      refine ⟨hh, trivial, by omega, trivial, trivial⟩
theorem swo_ro (k : Nat) : Sort.SWO (ltOf fun x y : Ro k => lexC x.1 y.1) where
  irrefl x := by simp [ltOf, lexC_refl]
  trans x y z h1 h2 := by
    simp only [ltOf, decide_eq_true_eq] at *
    exact lexC_trans (by rw [x.2, y.2]) (by rw [y.2, z.2]) h1 h2
  ntrans x y z h1 h2 := by
    simp only [ltOf, decide_eq_false_iff_not] at *
    have := lexL_trans (x := z.1) (y := y.1) (z := x.1) (by rw [z.2, y.2]) (by rw [y.2, x.2]) (by simp [lexL]; omega) (by simp [lexL]; omega)
    simp only [lexL, Bool.not_eq_true', decide_eq_false_iff_not] at this
    exact this
theorem cmp_lays {g k : Nat} {blk off size : Nat} {w : World} (hc : ∀ x y : List Int, x.length = k → y.length = k → PureH Tryz.prog g [.arr x, .arr y] [] (.int (lexC x y))) : CmpLays Tryz.prog g #[] encR k (fun x y : Ro k => lexC x.1 y.1) blk off size w := by
  intro m os dk _ x y
  have := (hc x.1 y.1 x.2 y.2).call (fun _ => 0) (sortWorldK encR k w blk off m dk os) (HR.nil _ _)
  refine this.mono fun e w' hh => ⟨hh.1, grow_of_bel hh.2⟩
theorem ints_get (L : List Int) (t : Nat) : (ints L)[t]? = L[t]?.map (Value.int .i64) := by simp [ints]
theorem ints_get! (L : List Int) (t : Nat) (h : t < L.length) : (ints L)[t]! = .int .i64 L[t] := by simp [ints, h]
/-- A row of cells inside a block of numbers. -/
theorem holds_mid {w : World} {blk e off : Nat} {A F Z : List Int} (hb : w.heap[blk]? = some (.cells (ints (A ++ F ++ Z)) e (0, 0))) (ho : A.length = off) : Sort.Holds id w blk off (ints F) := fun j hj => by
  have hj' : j < F.length := by simpa [ints] using hj
  refine ⟨?_, ?_⟩
  · simp only [World.cell?, hb]
    subst ho
    have h1 : (A ++ F ++ Z)[A.length + j]? = F[j]? := by
      rw [List.append_assoc, List.getElem?_append_right (by omega), Nat.add_sub_cancel_left, List.getElem?_append_left hj']
    show (ints (A ++ F ++ Z))[A.length + j]? = some (ints F)[j]!
    rw [ints_get, h1, ints_get! F j hj', List.getElem?_eq_getElem hj']; rfl
  · simp [World.frozen?, hb]
theorem put_mid {A F F' Z : List Int} {off : Nat} (ho : A.length = off) (hF : F'.length = F.length) : Sort.putCells id off (ints F') (ints (A ++ F ++ Z)) = ints (A ++ F' ++ Z) := by
  subst ho
  apply Array.ext_getElem?
  intro t
  simp only [Sort.putCells, Array.getElem?_mapIdx]
  have sz : (ints F').size = F'.length := by simp [ints]
  rw [ints_get, ints_get]
  by_cases h1 : t < A.length
  · rw [List.append_assoc, List.getElem?_append_left h1, List.append_assoc, List.getElem?_append_left h1]
    cases A[t]? with
    | none => rfl
    | some v => simp only [Option.map_some]; rw [if_neg (fun h => by rw [sz] at h; omega)]
  · rw [List.append_assoc, List.getElem?_append_right (show A.length ≤ t by omega), List.append_assoc, List.getElem?_append_right (show A.length ≤ t by omega)]
    by_cases h2 : t - A.length < F'.length
    · rw [List.getElem?_append_left (show t - A.length < F.length by omega), List.getElem?_append_left h2, List.getElem?_eq_getElem (by omega), List.getElem?_eq_getElem h2]
      simp only [Option.map_some]
      rw [if_pos (⟨by omega, by rw [sz]; omega⟩ : A.length ≤ t ∧ t < A.length + (ints F').size), ints_get! F' _ h2]; rfl
    · rw [List.getElem?_append_right (show F.length ≤ t - A.length by omega), List.getElem?_append_right (show F'.length ≤ t - A.length by omega), hF]
      cases Z[t - A.length - F.length]? with
      | none => rfl
      | some v => simp only [Option.map_some]; rw [if_neg (fun h => by rw [sz] at h; omega)]
theorem ro_sorted {k : Nat} {d d' : Array (Ro k)} (hp : Sort.PermIn 0 d.size d d') (hs : Sort.SortedIn (ltOf fun x y : Ro k => lexC x.1 y.1) 0 d.size d') : roL d' = srtT (roL d) := by
  have hsz := hp.1
  refine lexL_one (roL_len d') ?_ ?_ (srtT_pw (roL_len d))
  · have h3 := hp.2.2
    have e1 : d'.extract 0 d.size = d' := by rw [← hsz]; simp
    have e2 : d.extract 0 d.size = d := by simp
    rw [e1, e2] at h3
    exact (h3.map _).trans (srtT_perm _).symm
  · unfold roL
    rw [List.pairwise_map, List.pairwise_iff_getElem]
    intro i j hi hj hij
    have := hs i j (Nat.zero_le _) hij (by simpa [hsz] using hj)
    simp only [ltOf, decide_eq_false_iff_not] at this
    simp only [lexL, Bool.not_eq_true', decide_eq_false_iff_not]
    have gi : d'[i]! = d'.toList[i] := by rw [getElem!_pos _ _ (by simpa using hi)]; simp
    have gj : d'[j]! = d'.toList[j] := by rw [getElem!_pos _ _ (by simpa using hj)]; simp
    rw [← gi, ← gj]
    exact this
def mkRo {k : Nat} : (Q : List (List Int)) → (∀ x ∈ Q, x.length = k) → List (Ro k)
  | [], _ => []
  | x :: Q, h => ⟨x, h x (List.mem_cons_self ..)⟩ :: mkRo Q fun y hy => h y (List.mem_cons_of_mem _ hy)
theorem mkRo_map {k : Nat} : ∀ (Q : List (List Int)) (h : ∀ x ∈ Q, x.length = k), (mkRo Q h).map (·.1) = Q
  | [], _ => rfl
  | x :: Q, h => by simp [mkRo, mkRo_map Q]
/-- slices.SortFunc over lists of k numbers each, compared in the order of lists. -/
theorem sortF_ok {ρ : Go.Shelf.Ren} (L : SlLaysF0.n6 Tryz.prog ρ) (k : Nat) (hk : 0 < k) (aE : ∀ w, (isAgg (ρ.t 24)).run Tryz.prog w = .ok true w) (zE : ∀ w, (Go.sizeOf (ρ.t 24)).run Tryz.prog w = .ok k w) (g : Nat) (eg : Entd Tryz.prog g) (es : Entd Tryz.prog (ρ.f 6))
    (hc : ∀ x y : List Int, x.length = k → y.length = k → PureH Tryz.prog g [.arr x, .arr y] [] (.int (lexC x y))) (A Z : List Int) (Q : List (List Int)) (hQ : ∀ x ∈ Q, x.length = k) (e cap off n : Nat) (hA : A.length = off) (hn : Q.length = n) (hb : n < 4611686018427387904) :
    UpdP Tryz.prog (ρ.f 6) [.slice 0 off n cap, .fn g []] 0 [] (.ints (A ++ Q.flatten ++ Z) e) (.ints (A ++ (srtT Q).flatten ++ Z) e) (.tup []) := by
  refine ⟨es, rfl, fun _ => trivial, fun B w hH => ?_⟩
  have hblk : w.heap[B 0]? = some (.cells (ints (A ++ Q.flatten ++ Z)) e (0, 0)) := hH.at_ 0 _ rfl rfl
  have hlt : B 0 < w.heap.size := by
    rcases Nat.lt_or_ge (B 0) w.heap.size with h | h
    · exact h
    · rw [Array.getElem?_eq_none h] at hblk; cases hblk
  let d : Array (Ro k) := (mkRo Q hQ).toArray
  have dQ : roL d = Q := by show (mkRo Q hQ).map (·.1) = Q; exact mkRo_map Q hQ
  have dn : d.size = n := by
    have := congrArg List.length dQ
    simp [roL] at this
    omega
  have hH2 : Sort.HoldsK encR k w (B 0) off d := by
    unfold Sort.HoldsK
    rw [flatK_ro hk, dQ]
    exact holds_mid hblk hA
  have hcon := AnyQ.slices_SortFunc L k aE zE encR encR_len (fun x v hv => by
    obtain ⟨z, _, rfl⟩ := List.mem_map.1 hv
    rfl) (fun x y : Ro k => lexC x.1 y.1) (swo_ro k) g #[] (B 0) off cap d w eg (cmp_lays hc) hH2 hlt (by omega)
  rw [dn] at hcon
  refine hcon.mono fun r w' hh => ?_
  obtain ⟨rfl, d', m, os, hp, hs, rfl⟩ := hh
  have hs' := ro_sorted (d := d) (d' := d') (by rw [dn]; exact hp) (by rw [dn]; exact hs)
  rw [dQ] at hs'
  have hl : (srtT Q).flatten.length = Q.flatten.length := by
    rw [flat_lenW hQ, flat_lenW fun x hx => hQ x ((srtT_perm Q).mem_iff.1 hx), (srtT_perm Q).length_eq]
  have hblk' : (sortWorldK encR k w (B 0) off m d' os).heap[B 0]? = some (.cells (ints (A ++ (srtT Q).flatten ++ Z)) e (0, 0)) := by
    unfold sortWorldK Sort.grow Sort.putRowK Sort.putRow Sort.mapBlock Sort.ahead
    simp only []
    rw [Array.getElem?_append_left (by simpa using hlt), Array.getElem?_modify, if_pos rfl, hblk]
    simp only [Option.map_some, Sort.onCells]
    rw [flatK_ro hk, hs', put_mid hA hl]
  refine ⟨rfl, ⟨rfl, rfl, rfl, ?_, fun i hi hM => ?_, ?_⟩, hblk'⟩
  · exact size_sortWorldK_c encR k w (B 0) off m d' os
  · have hne : B 0 ≠ i := fun h => hM (.inl h.symm)
    unfold sortWorldK Sort.grow Sort.putRowK Sort.putRow Sort.mapBlock Sort.ahead
    simp only []
    rw [Array.getElem?_append_left (by simpa using hi), Array.getElem?_modify, if_neg hne]
  · exact Nat.le_add_right _ _
/-! At tubes. -/
theorem sortT_ok (A Z : List Int) (Q : List (List Int)) (hQ : ∀ x ∈ Q, x.length = 4) (e cap off n : Nat) (hA : A.length = off) (hn : Q.length = n) (hb : n < 4611686018427387904) :
    UpdP Tryz.prog 119 [.slice 0 off n cap, .fn 120 []] 0 [] (.ints (A ++ Q.flatten ++ Z) e) (.ints (A ++ (srtT Q).flatten ++ Z) e) (.tup []) :=
  sortF_ok laySortT 4 (by omega) Tryz.isAgg24 Tryz.sizeOf24 120 fn_120.ent fn_119.ent cmpT_ok A Z Q hQ e cap off n hA hn hb
def sortT_F : List SV → Heap → Nat → Nat → K1 → Prop
  | [.slice b 0 n _, .fn g []], H, N, m, κ => match hget H b with
    | some (.ints L e) => g = 120 ∧ L.length = 24 ∧ n = 6 ∧ m ≤ b ∧ κ (.tup []) ((b, .ints (frm L) e) :: H) N
    | _ => False
  | _, _, _, _, _ => False
--@tbl sortT = slices.SortFunc[[][4]int,[4]int]
theorem sortT_T : ∀ args H n m κ, sortT_F args H n m κ → GenOK Tryz.prog 119 args H n m κ := by
  intro args H N m κ h
  unfold sortT_F at h
  split at h
  · rename_i b n cap g
    split at h
    · rename_i L e hb
      obtain ⟨rfl, hL, rfl, hm, h⟩ := h
      have hu := sortT_ok [] [] (tubs L) (tubs_len hL) e cap 0 6 rfl (by simp [tubs]) (by omega)
      rw [List.nil_append, List.append_nil, List.nil_append, List.append_nil, tubs_flat hL] at hu
      have := gen_of_upd (H := H) (n := N) (m := m) (κ := κ) hu (fun _ => b) (fun j o1 hj => by
        rw [hget_cons] at hj
        split at hj
        · cases hj; exact hb
        · cases hj) (fun j1 o1 j2 o2 g1 g2 he => by
        rw [hget_cons] at g1 g2
        split at g1
        · split at g2
          · omega
          · cases g2
        · cases g1) (by simpa using hm) rfl (fun _ _ => trivial) (by simpa [SV.ren, renL, frm] using h)
      simpa [renL, SV.ren] using this
    · exact h.elim
  · exact h.elim
theorem formOf_ok (R : List Int) (hR : R.length = 24) : PureH Tryz.prog 63 [.arr R] [] (.arr (frm R)) := by
  have tkR : R.take 24 = R := List.take_of_length_le (by omega)
  have hl := frm_len hR
  have tkf : (frm R).take 24 = frm R := List.take_of_length_le (by omega)
  refine pure_of_vc (X := ⟨Tryz.prog, tys, [], [(119, sortT_F)], true, true, 0, [], []⟩) fn_63 ⟨tys_ok, .nil, (.cons sortT_T .nil), mixed⟩ (n0 := 0) (Nat.le_of_ble_eq_true rfl) (by simp [wfL, SV.wf]) (wfH_spec (by simp [wfH, SObj.wf])) (Nat.le_refl _) (fun _ => by simp [SV.wf, wfL]) ?_
  simp -implicitDefEqProofs only [Tryz.f63, Option.getD_some, argS, sortT_F, hR, tkR, hl, tkf, ZB, Int.reduceToNat, Nat.reduceLT, Nat.reduceLeDiff, Int.reduceLE, Int.reduceLT, Nat.reduceEqDiff, Nat.reduceSub, SB, SV.known, packR, ne_eq, reduceCtorEq, Nat.reduceEqDiff, ↓reduceIte, if_true, if_false, eq_self, Nat.reduceAdd, Nat.reduceMul, Nat.reduceSub, forall_const, oneCellS, litOne, flat1, Kd.isSca, flat, TYB]
--@tbl formOf = impl.formOf
def formOf_F : List SV → Heap → Option (Prop × SV)
  | [.arr R], _ => some (R.length = 24, .arr (frm R))
  | _, _ => none
theorem formOf_T : ∀ args H p v, formOf_F args H = some (p, v) → p → PureH Tryz.prog 63 args H v := by
  intro args H p v h hp
  unfold formOf_F at h
  split at h
  · cases h; exact (formOf_ok _ hp).any _
  · cases h
/-! At racks. -/
end Go.Proofs.YtmccafjblhbmkaaGreat
set_option maxRecDepth 100000
set_option linter.unusedSimpArgs false
set_option linter.unusedVariables false
namespace Go.Proofs.YtmccafjblhbmkaaGreat
open Go Go.RowKit

end Go.Proofs.YtmccafjblhbmkaaGreat
set_option maxRecDepth 100000
set_option linter.unusedSimpArgs false
set_option linter.unusedVariables false
namespace Go.Proofs.YtmccafjblhbmkaaGreat
open Go Go.RowKit
def plF (i : Int) : Bool := decide (0 ≤ i ∧ i ≤ 5)
theorem isPlace_ok (i : Int) : PureH Tryz.prog 131 [.int i] [] (.bool (plF i)) := by
  refine pure_of_vc (X := ⟨Tryz.prog, tys, [(69, within_F)], [], true, true, 0, [], []⟩) fn_131 ⟨tys_ok, (.cons within_T .nil), .nil, mixed⟩ (n0 := 0) (Nat.le_of_ble_eq_true rfl) (by simp [wfL, SV.wf]) (wfH_spec (by simp [wfH, SObj.wf])) (Nat.le_refl _) (fun _ => by simp [SV.wf, wfL]) ?_
  simp -implicitDefEqProofs only [Tryz.f131, Option.getD_some, argS, within_F, SB, SV.known, packR, ne_eq, reduceCtorEq, Nat.reduceEqDiff, ↓reduceIte, if_true, if_false, eq_self, Nat.reduceAdd, Nat.reduceMul, Nat.reduceSub, forall_const, oneCellS, litOne, flat1, Kd.isSca, flat, TYB]
  trivial
def isPlace_F : List SV → Heap → Option (Prop × SV)
  | [.int i], _ => some (True, .bool (plF i))
  | _, _ => none
theorem isPlace_T : ∀ args H p v, isPlace_F args H = some (p, v) → p → PureH Tryz.prog 131 args H v := by
  intro args H p v h hp
  unfold isPlace_F at h
  split at h
  · cases h; exact (isPlace_ok _).any _
  · cases h
theorem l2Place_ok (i : Int) : PureH Tryz.prog 109 [.int i] [] (.bool (plF i)) := by
  refine pure_of_vc (X := ⟨Tryz.prog, tys, [(72, l1In_F)], [], true, true, 0, [], []⟩) fn_109 ⟨tys_ok, (.cons l1In_T .nil), .nil, mixed⟩ (n0 := 0) (Nat.le_of_ble_eq_true rfl) (by simp [wfL, SV.wf]) (wfH_spec (by simp [wfH, SObj.wf])) (Nat.le_refl _) (fun _ => by simp [SV.wf, wfL]) ?_
  simp -implicitDefEqProofs only [Tryz.f109, Option.getD_some, argS, l1In_F, SB, SV.known, packR, ne_eq, reduceCtorEq, Nat.reduceEqDiff, ↓reduceIte, if_true, if_false, eq_self, Nat.reduceAdd, Nat.reduceMul, Nat.reduceSub, forall_const, oneCellS, litOne, flat1, Kd.isSca, flat, TYB]
  trivial
def l2Place_F : List SV → Heap → Option (Prop × SV)
  | [.int i], _ => some (True, .bool (plF i))
  | _, _ => none
theorem l2Place_T : ∀ args H p v, l2Place_F args H = some (p, v) → p → PureH Tryz.prog 109 args H v := by
  intro args H p v h hp
  unfold l2Place_F at h
  split at h
  · cases h; exact (l2Place_ok _).any _
  · cases h
end Go.Proofs.YtmccafjblhbmkaaGreat
set_option maxRecDepth 100000
set_option linter.unusedSimpArgs false
set_option linter.unusedVariables false
namespace Go.Proofs.YtmccafjblhbmkaaGreat
open Go Go.RowKit
theorem PL_even (R : List Int) : ∀ m, ∃ n, (PL R m).length = n * 2 ∧ n ≤ m
  | 0 => ⟨0, rfl, by omega⟩
  | m + 1 => by
    obtain ⟨n, h1, h2⟩ := PL_even R m
    rw [PL_succ, List.length_append, h1]
    unfold prK
    split
    · exact ⟨n + 1, by simp; omega, by omega⟩
    · exact ⟨n, by simp, by omega⟩
def pours_F : List SV → Heap → Nat → Nat → K1 → Prop
  | [.arr R], H, n, _, κ => R.length = 24 ∧ freshK .one (PL R 36) ((PL R 36).length / 2) 2 65 true H n κ
  | _, _, _, _, _ => False
theorem pours_T : ∀ args H n m κ, pours_F args H n m κ → GenOK Tryz.prog 102 args H n m κ := by
  intro args H n m κ h
  unfold pours_F at h
  split at h
  · exact gen_of_fresh (pours_ok _ h.1) (fun k o hk => by cases hk) h.2
  · exact h.elim
def l2Pours_F : List SV → Heap → Nat → Nat → K1 → Prop
  | [.arr R], H, n, _, κ => (R.length = 24 ∧ rackB R = true) ∧ freshK .one (PL R 36) ((PL R 36).length / 2) 2 65 false H n κ
  | _, _, _, _, _ => False
theorem l2Pours_T : ∀ args H n m κ, l2Pours_F args H n m κ → GenOK Tryz.prog 97 args H n m κ := by
  intro args H n m κ h
  unfold l2Pours_F at h
  split at h
  · exact gen_of_fresh (l2Pours_ok _ h.1.1 h.1.2) (fun k o hk => by cases hk) h.2
  · exact h.elim
theorem take2_drop (L : List Int) (o : Nat) (h : o + 2 ≤ L.length) : (L.drop o).take 2 = [L.getD o 0, L.getD (o + 1) 0] := by
  rw [List.drop_eq_getElem_cons (show o < L.length by omega), List.drop_eq_getElem_cons (show o + 1 < L.length by omega)]
  simp only [List.getD, List.getElem?_eq_getElem (show o < L.length by omega), List.getElem?_eq_getElem (show o + 1 < L.length by omega), Option.getD_some, List.take_succ_cons, List.take_zero]
--@tbl MostPoured = impl.MostPoured
--@tbl sMostPoured = spec.MostPoured
end Go.Proofs.YtmccafjblhbmkaaGreat
set_option maxRecDepth 100000
set_option linter.unusedSimpArgs false
set_option linter.unusedVariables false
namespace Go.Proofs.YtmccafjblhbmkaaGreat
open Go Go.RowKit
def chk (L : List Int) (off len : Nat) : List (List Int) := (List.range len).map fun i => (L.drop (off + i * 2)).take 2
/-- What is kept. -/
def kept (np : List Int → Bool) (L : List Int) (k : Nat) : List Int := ((chk L 0 k).filter np).flatten
theorem idxG_none' {α : Type} {pr : α → Bool} {l : List α} (d : α) (h : idxG pr l < 0) : idxG pr l = -1 ∧ ∀ k, k < l.length → pr (l.getD k d) = false := by
  unfold idxG at h ⊢
  cases hf : l.findIdx? pr with
  | none =>
    refine ⟨rfl, fun k hk => ?_⟩
    have := (List.findIdx?_eq_none_iff).1 hf l[k] (List.getElem_mem hk)
    simpa [List.getD, List.getElem?_eq_getElem hk] using this
  | some k => rw [hf] at h; simp at h; omega
theorem idxG_some' {α : Type} {pr : α → Bool} {l : List α} (d : α) (h : ¬ idxG pr l < 0) : ∃ i : Nat, idxG pr l = (i : Int) ∧ i < l.length ∧ pr (l.getD i d) = true ∧ ∀ k : Nat, k < i → pr (l.getD k d) = false := by
  unfold idxG at h ⊢
  cases hf : l.findIdx? pr with
  | none => rw [hf] at h; simp at h
  | some k =>
    obtain ⟨hk, hp, hn⟩ := List.findIdx?_eq_some_iff_getElem.1 hf
    refine ⟨k, rfl, hk, by simpa [List.getD, List.getElem?_eq_getElem hk] using hp, fun j hj => ?_⟩
    have := hn j hj
    simpa [List.getD, List.getElem?_eq_getElem (show j < l.length by omega)] using this
end Go.Proofs.YtmccafjblhbmkaaGreat
set_option maxRecDepth 100000
set_option linter.unusedSimpArgs false
set_option linter.unusedVariables false
namespace Go.Proofs.YtmccafjblhbmkaaGreat
open Go Go.RowKit
--@tbl isAt = impl.isAt
--@tbl areAll_place = impl.areAll[int]
def areAll_place_F := areAllI_F [(131, plF)]
theorem areAll_place_T : ∀ args H p v, areAll_place_F args H = some (p, v) → p → PureH Tryz.prog 103 args H v :=
  areAllI_T (by intro q hq; simp at hq; rcases hq with rfl; exact isPlace_ok)
/-- isAt looks at the places behind a slice. -/
theorem isAt_ok (R L : List Int) (e off len cap : Nat) (hR : R.length = 24) (hl : off + len ≤ L.length) (hm : len ≤ 9223372036854775806) : PureH Tryz.prog 83 [.arr R, .slice 0 off len cap] [(0, .ints L e)] (.bool (rackB R && ((L.drop off).take len).all plF)) := by
  have tkR : R.take 24 = R := List.take_of_length_le (by omega)
  cases hr : rackB R
  · refine pure_of_vc (X := ⟨Tryz.prog, tys, [(62, IsRack_F), (103, areAll_place_F)], [], true, true, 1, [], []⟩) fn_83 ⟨tys_ok, (.cons IsRack_T (.cons areAll_place_T .nil)), .nil, mixed⟩ (n0 := 1) (Nat.le_of_ble_eq_true rfl) (by simp [wfL, SV.wf]) (wfH_spec (by simp [wfH, SObj.wf])) (Nat.le_refl _) (fun _ => by simp [SV.wf, wfL]) ?_
    simp -implicitDefEqProofs only [Tryz.f83, Option.getD_some, argS, IsRack_F, areAll_place_F, hR, tkR, hr, areAllI_F, ZB, Int.reduceToNat, Nat.reduceLT, Nat.reduceLeDiff, Int.reduceLE, Int.reduceLT, Nat.reduceEqDiff, Nat.reduceSub, SB, SV.known, packR, ne_eq, reduceCtorEq, Nat.reduceEqDiff, ↓reduceIte, if_true, if_false, eq_self, Nat.reduceAdd, Nat.reduceMul, Nat.reduceSub, forall_const, oneCellS, litOne, flat1, Kd.isSca, flat, TYB]
  · refine pure_of_vc (X := ⟨Tryz.prog, tys, [(62, IsRack_F), (103, areAll_place_F)], [], true, true, 1, [], []⟩) fn_83 ⟨tys_ok, (.cons IsRack_T (.cons areAll_place_T .nil)), .nil, mixed⟩ (n0 := 1) (Nat.le_of_ble_eq_true rfl) (by simp [wfL, SV.wf]) (wfH_spec (by simp [wfH, SObj.wf])) (Nat.le_refl _) (fun _ => by simp [SV.wf, wfL]) ?_
    simp -implicitDefEqProofs only [Tryz.f83, Option.getD_some, argS, IsRack_F, areAll_place_F, hR, tkR, hr, areAllI_F, ZB, Int.reduceToNat, Nat.reduceLT, Nat.reduceLeDiff, Int.reduceLE, Int.reduceLT, Nat.reduceEqDiff, Nat.reduceSub, SB, SV.known, packR, ne_eq, reduceCtorEq, Nat.reduceEqDiff, ↓reduceIte, if_true, if_false, eq_self, Nat.reduceAdd, Nat.reduceMul, Nat.reduceSub, forall_const, oneCellS, litOne, flat1, Kd.isSca, flat, TYB]
    exact ⟨hl, hm⟩
def isAt_F : List SV → Heap → Option (Prop × SV)
  | [.arr R, .slice b off len _], H => match hget H b with
    | some (.ints L _) => some (R.length = 24 ∧ off + len ≤ L.length ∧ len ≤ 9223372036854775806, .bool (rackB R && ((L.drop off).take len).all plF))
    | _ => none
  | _, _ => none
theorem isAt_T : ∀ args H p v, isAt_F args H = some (p, v) → p → PureH Tryz.prog 83 args H v := by
  intro args H p v h hp
  unfold isAt_F at h
  split at h
  · rename_i R b off len cap
    split at h
    · rename_i L e hb
      cases h
      exact one_block (isAt_ok R L e off len cap hp.1 hp.2.1 hp.2.2) hb rfl (fun _ => trivial)
    · cases h
  · cases h
end Go.Proofs.YtmccafjblhbmkaaGreat
set_option maxRecDepth 100000
set_option linter.unusedSimpArgs false
set_option linter.unusedVariables false
namespace Go.Proofs.YtmccafjblhbmkaaGreat
open Go Go.RowKit
theorem pl_bd {i : Int} (h : plF i = true) : 0 ≤ i ∧ i ≤ 5 := by simpa [plF] using h
end Go.Proofs.YtmccafjblhbmkaaGreat
set_option maxRecDepth 100000
set_option linter.unusedSimpArgs false
set_option linter.unusedVariables false
namespace Go.Proofs.YtmccafjblhbmkaaGreat
open Go Go.RowKit
def pourB (R : List Int) (i j : Int) : Bool := rackB R && plF i && plF j && canF R i j
def pourT (R : List Int) (i j : Int) : List Int := if pourB R i j = true then pourF R i.toNat j.toNat else List.replicate 24 0
def pourM (R : List Int) (i j : Int) : Int := if pourB R i j = true then pmN R i.toNat j.toNat else 0
theorem pourF_len {R : List Int} (hR : R.length = 24) (a b : Nat) : (pourF R a b).length = 24 := by unfold pourF; rw [pmR_len, hR]
theorem Pour_ok (R : List Int) (i j : Int) (hR : R.length = 24) : PureH Tryz.prog 40 [.arr R, .int i, .int j] [] (.tup [.arr (pourT R i j), .int (pourM R i j), .bool (pourB R i j)]) := by
  have tkR : R.take 24 = R := List.take_of_length_le (by omega)
  have r2 : List.replicate 2 (0 : Int) = [0, 0] := rfl
  have r24 : List.take 24 (List.replicate 24 (0 : Int)) = List.replicate 24 0 := rfl
  unfold pourT pourM pourB
  cases hr : rackB R <;> cases hi : plF i <;> cases hj : plF j
  case true.true.true =>
    have bi := pl_bd hi
    have bj := pl_bd hj
    have pl := pourF_len hR i.toNat j.toNat
    have tkP : (pourF R i.toNat j.toNat).take 24 = pourF R i.toNat j.toNat := List.take_of_length_le (by omega)
    cases hc : canF R i j
    all_goals
      refine pure_of_vc (X := ⟨Tryz.prog, tys, [(83, isAt_F), (100, canPour_F), (101, pour_F)], [], true, true, 0, [], []⟩) fn_40 ⟨tys_ok, (.cons isAt_T (.cons canPour_T (.cons pour_T .nil))), .nil, mixed⟩ (n0 := 0) (Nat.le_of_ble_eq_true rfl) (by simp [wfL, SV.wf]) (wfH_spec (by simp [wfH, SObj.wf])) (Nat.le_refl _) (fun _ => by simp [SV.wf, wfL]) ?_
      simp -implicitDefEqProofs only [Tryz.f40, Option.getD_some, argS, isAt_F, canPour_F, pour_F, hR, tkR, hr, hi, hj, hc, pl, tkP, r24, r2, List.set_cons_zero, List.set_cons_succ, List.drop_zero, List.all_cons, List.all_nil, ZB, Int.reduceToNat, Nat.reduceLT, Nat.reduceLeDiff, Int.reduceLE, Int.reduceLT, Nat.reduceEqDiff, Nat.reduceSub, SB, SV.known, packR, ne_eq, reduceCtorEq, Nat.reduceEqDiff, ↓reduceIte, if_true, if_false, eq_self, Nat.reduceAdd, Nat.reduceMul, Nat.reduceSub, forall_const, oneCellS, litOne, flat1, Kd.isSca, flat, TYB]
    all_goals
      (try (and_intros <;> try (first | omega | (unfold In64; omega) | trivial | assumption)))
  all_goals
    refine pure_of_vc (X := ⟨Tryz.prog, tys, [(83, isAt_F), (100, canPour_F), (101, pour_F)], [], true, true, 0, [], []⟩) fn_40 ⟨tys_ok, (.cons isAt_T (.cons canPour_T (.cons pour_T .nil))), .nil, mixed⟩ (n0 := 0) (Nat.le_of_ble_eq_true rfl) (by simp [wfL, SV.wf]) (wfH_spec (by simp [wfH, SObj.wf])) (Nat.le_refl _) (fun _ => by simp [SV.wf, wfL]) ?_
    simp -implicitDefEqProofs only [Tryz.f40, Option.getD_some, argS, isAt_F, canPour_F, pour_F, hR, tkR, hr, hi, hj, r24, r2, List.set_cons_zero, List.set_cons_succ, List.drop_zero, List.all_cons, List.all_nil, ZB, Int.reduceToNat, Nat.reduceLT, Nat.reduceLeDiff, Int.reduceLE, Int.reduceLT, Nat.reduceEqDiff, Nat.reduceSub, SB, SV.known, packR, ne_eq, reduceCtorEq, Nat.reduceEqDiff, ↓reduceIte, if_true, if_false, eq_self, Nat.reduceAdd, Nat.reduceMul, Nat.reduceSub, forall_const, oneCellS, litOne, flat1, Kd.isSca, flat, TYB]
def Pour_F : List SV → Heap → Option (Prop × SV)
  | [.arr R, .int i, .int j], _ => some (R.length = 24, .tup [.arr (pourT R i j), .int (pourM R i j), .bool (pourB R i j)])
  | _, _ => none
theorem Pour_T : ∀ args H p v, Pour_F args H = some (p, v) → p → PureH Tryz.prog 40 args H v := by
  intro args H p v h hp
  unfold Pour_F at h
  split at h
  · cases h; exact (Pour_ok _ _ _ hp).any _
  · cases h
end Go.Proofs.YtmccafjblhbmkaaGreat
set_option maxRecDepth 100000
set_option linter.unusedSimpArgs false
set_option linter.unusedVariables false
namespace Go.Proofs.YtmccafjblhbmkaaGreat
open Go Go.RowKit
def besF (l : List Int) : Int := (l.map fun n => max (n - 1) 0).sum
end Go.Proofs.YtmccafjblhbmkaaGreat
set_option maxRecDepth 100000
set_option linter.unusedSimpArgs false
set_option linter.unusedVariables false
namespace Go.Proofs.YtmccafjblhbmkaaGreat
open Go Go.RowKit

--@tbl eqIntA3 = laws.eqIntA3
--@tbl eqIntA4 = laws.eqIntA4
--@tbl eqIntA5 = laws.eqIntA5
--@tbl eqIntA6 = laws.eqIntA6
--@tbl eqIntA4A6 = laws.eqIntA4A6
--@tbl eqRack = laws.eqRack
--@tbl eqView = laws.eqView
--@tbl toSource = laws.toSource
end Go.Proofs.YtmccafjblhbmkaaGreat
set_option maxRecDepth 100000
set_option linter.unusedSimpArgs false
set_option linter.unusedVariables false
namespace Go.Proofs.YtmccafjblhbmkaaGreat
open Go Go.RowKit
theorem tube_cells {t : List Int} (ht : t.length = 4) (hb : tubeB t = true) : (∀ b, b < layN t → 1 ≤ t.getD b 0 ∧ t.getD b 0 ≤ 5) ∧ (∀ b, layN t ≤ b → t.getD b 0 = 0) := by
  have hle := lay_le t ht
  unfold tubeB at hb
  simp only [Bool.and_eq_true] at hb
  constructor
  · intro b hbn
    have hlt : b < t.length := by omega
    have := List.all_eq_true.1 hb.1 (t.getD b 0) (by
      simp only [List.getD, List.getElem?_eq_getElem hlt, Option.getD_some]
      exact List.mem_take_iff_getElem.2 ⟨b, by omega, rfl⟩)
    simpa [coT] using this
  · intro b hbn
    rcases Nat.lt_or_ge b 4 with h4 | h4
    · have hlt : b < t.length := by omega
      have := List.all_eq_true.1 hb.2 (t.getD b 0) (by
        simp only [List.getD, List.getElem?_eq_getElem hlt, Option.getD_some]
        exact List.mem_drop_iff_getElem.2 ⟨b - layN t, by omega, by congr 1; omega⟩)
      simpa [is0] using this
    · simp [List.getD, List.getElem?_eq_none (show t.length ≤ b by omega)]
theorem tube_of {t : List Int} (ht : t.length = 4) {n : Nat} (hn : n ≤ 4) (h1 : ∀ b, b < n → 1 ≤ t.getD b 0 ∧ t.getD b 0 ≤ 5) (h2 : ∀ b, n ≤ b → b < 4 → t.getD b 0 = 0) : tubeB t = true ∧ layN t = n := by
  have hl : layN t = n := by
    unfold layN
    rcases Nat.lt_or_ge n 4 with h4 | h4
    · have : t.findIdx? isZ0 = some n := by
        rw [List.findIdx?_eq_some_iff_getElem]
        refine ⟨by omega, ?_, fun j hj => ?_⟩
        · have := h2 n (by omega) h4
          simp only [List.getD, List.getElem?_eq_getElem (show n < t.length by omega), Option.getD_some] at this
          simp [isZ0, this]
        · have := h1 j hj
          simp only [List.getD, List.getElem?_eq_getElem (show j < t.length by omega), Option.getD_some] at this
          simp [isZ0]; omega
      rw [this]; rfl
    · have : t.findIdx? isZ0 = none := by
        rw [List.findIdx?_eq_none_iff]
        intro x hx
        obtain ⟨k, hk, rfl⟩ := List.getElem_of_mem hx
        have := h1 k (by omega)
        simp only [List.getD, List.getElem?_eq_getElem hk, Option.getD_some] at this
        simp [isZ0]; omega
      rw [this]
      simp; omega
  refine ⟨?_, hl⟩
  unfold tubeB
  rw [hl]
  simp only [Bool.and_eq_true]
  constructor
  · rw [List.all_eq_true]
    intro x hx
    obtain ⟨k, hk, rfl⟩ := List.mem_take_iff_getElem.1 hx
    have := h1 k (by omega)
    simp only [List.getD, List.getElem?_eq_getElem (show k < t.length by omega), Option.getD_some] at this
    simpa [coT] using this
  · rw [List.all_eq_true]
    intro x hx
    obtain ⟨k, hk, rfl⟩ := List.mem_drop_iff_getElem.1 hx
    have := h2 (n + k) (by omega) (by omega)
    simp only [List.getD, List.getElem?_eq_getElem (show n + k < t.length by omega), Option.getD_some] at this
    simpa [is0] using this
theorem rack_tubes {R : List Int} : rackB R = true ↔ ∀ i, i < 6 → tubeB (tubeAt R i) = true := by
  unfold rackB tubesOf tubeAt
  simp only [List.all_map, List.all_eq_true, List.mem_range, Function.comp, Nat.zero_add]
theorem tubeAt_getD (R : List Int) (i k : Nat) (h : k < 4) : (tubeAt R i).getD k 0 = R.getD (i * 4 + k) 0 := cut_getD R i k h
theorem tubeAt_ext {R R' : List Int} {i j : Nat} (h1 : (tubeAt R i).length = 4) (h2 : (tubeAt R' j).length = 4) (h : ∀ k, k < 4 → R.getD (i * 4 + k) 0 = R'.getD (j * 4 + k) 0) : tubeAt R i = tubeAt R' j := by
  apply List.ext_getElem (by omega)
  intro k hk1 hk2
  have e1 := tubeAt_getD R i k (by omega)
  have e2 := tubeAt_getD R' j k (by omega)
  have := h k (by omega)
  simp only [List.getD, List.getElem?_eq_getElem hk1, List.getElem?_eq_getElem hk2, Option.getD_some] at e1 e2 this
  rw [e1, e2]; exact this
theorem getD_set' (L : List Int) (a b : Nat) (x : Int) (h : a < L.length) : (L.set a x).getD b 0 = if a = b then x else L.getD b 0 := by
  simp only [List.getD, List.getElem?_set]
  split
  · simp [h]
  · rfl
/-- The cells of a rack behind some moved layers. -/
theorem pmR_cell {R : List Int} (hR : R.length = 24) {i j : Nat} (hi : i < 6) (hj : j < 6) (hij : i ≠ j) : ∀ m, m ≤ layN (tubeAt R i) → m + layN (tubeAt R j) ≤ 4 → ∀ a b, a < 6 → b < 4 →
    (pmR R i j m).getD (a * 4 + b) 0 = if a = i ∧ layN (tubeAt R i) - m ≤ b ∧ b < layN (tubeAt R i) then 0 else if a = j ∧ layN (tubeAt R j) ≤ b ∧ b < layN (tubeAt R j) + m then (topF (tubeAt R i)).1 else R.getD (a * 4 + b) 0
  | 0, _, _, a, b, _, _ => by
    simp only [pmR]
    rw [if_neg (by omega), if_neg (by omega)]
  | m + 1, hm, hm2, a, b, ha, hb => by
    have hli := lay_le _ (tubeAt_len hR hi)
    have hlj := lay_le _ (tubeAt_len hR hj)
    have ih := pmR_cell hR hi hj hij m (by omega) (by omega) a b ha hb
    simp only [pmR]
    rw [getD_set' _ _ _ _ (by rw [List.length_set, pmR_len]; omega), getD_set' _ _ _ _ (by rw [pmR_len]; omega), ih]
    by_cases h1 : j * 4 + (layN (tubeAt R j) + m) = a * 4 + b
    · have haj : a = j := by omega
      subst haj
      rw [if_pos h1, if_neg (by omega), if_pos (by omega)]
    · rw [if_neg h1]
      by_cases h2 : i * 4 + (layN (tubeAt R i) - 1 - m) = a * 4 + b
      · have hai : a = i := by omega
        subst hai
        rw [if_pos h2, if_pos (by omega)]
      · rw [if_neg h2]
        by_cases h3 : a = i ∧ layN (tubeAt R i) - m ≤ b ∧ b < layN (tubeAt R i)
        · rw [if_pos h3, if_pos (by omega)]
        · rw [if_neg h3]
          by_cases h4 : a = i ∧ layN (tubeAt R i) - (m + 1) ≤ b ∧ b < layN (tubeAt R i)
          · omega
          · rw [if_neg h4]
            by_cases h5 : a = j ∧ layN (tubeAt R j) ≤ b ∧ b < layN (tubeAt R j) + m
            · rw [if_pos h5, if_pos (by omega)]
            · rw [if_neg h5, if_neg (by omega)]
theorem top_co {t : List Int} (ht : t.length = 4) (hb : tubeB t = true) (h0 : 0 < layN t) : 1 ≤ (topF t).1 ∧ (topF t).1 ≤ 5 := by
  obtain ⟨r, h1, h2⟩ := topF_run t ht h0
  rw [h1]
  exact (tube_cells ht hb).1 _ (by omega)
theorem pm_facts {R : List Int} (hR : R.length = 24) (hr : rackB R = true) {i j : Nat} (hi : i < 6) (hj : j < 6) (hij : i ≠ j) {m : Nat} (hm : m ≤ layN (tubeAt R i)) (hm2 : m + layN (tubeAt R j) ≤ 4) :
    (tubeB (tubeAt (pmR R i j m) i) = true ∧ layN (tubeAt (pmR R i j m) i) = layN (tubeAt R i) - m) ∧ (tubeB (tubeAt (pmR R i j m) j) = true ∧ layN (tubeAt (pmR R i j m) j) = layN (tubeAt R j) + m) ∧
    (∀ k, k < 6 → k ≠ i → k ≠ j → tubeAt (pmR R i j m) k = tubeAt R k) := by
  have hP : (pmR R i j m).length = 24 := by rw [pmR_len, hR]
  have hc := pmR_cell hR hi hj hij m hm hm2
  have hli := tubeAt_len hR hi
  have hlj := tubeAt_len hR hj
  have ci := tube_cells hli (tubeAt_ok hr hi)
  have cj := tube_cells hlj (tubeAt_ok hr hj)
  have li := lay_le _ hli
  refine ⟨tube_of (tubeAt_len hP hi) (by omega) (fun b hb => ?_) (fun b hb hb4 => ?_), tube_of (tubeAt_len hP hj) (by omega) (fun b hb => ?_) (fun b hb hb4 => ?_), fun k hk h1 h2 => ?_⟩
  · rw [tubeAt_getD _ _ _ (by omega), hc i b hi (by omega), if_neg (by omega), if_neg (by omega), ← tubeAt_getD _ _ _ (by omega)]
    exact ci.1 b (by omega)
  · rw [tubeAt_getD _ _ _ hb4, hc i b hi hb4]
    by_cases h3 : b < layN (tubeAt R i)
    · rw [if_pos ⟨rfl, hb, h3⟩]
    · rw [if_neg (by omega), if_neg (by omega), ← tubeAt_getD _ _ _ hb4]
      exact ci.2 b (by omega)
  · rw [tubeAt_getD _ _ _ (by omega), hc j b hj (by omega), if_neg (by omega)]
    by_cases h3 : layN (tubeAt R j) ≤ b
    · rw [if_pos (by omega)]
      exact top_co hli (tubeAt_ok hr hi) (by omega)
    · rw [if_neg (by omega), ← tubeAt_getD _ _ _ (by omega)]
      exact cj.1 b (by omega)
  · rw [tubeAt_getD _ _ _ hb4, hc j b hj hb4, if_neg (by omega), if_neg (by omega), ← tubeAt_getD _ _ _ hb4]
    exact cj.2 b (by omega)
  · refine tubeAt_ext (tubeAt_len hP hk) (tubeAt_len hR hk) fun b hb => ?_
    rw [hc k b hk hb, if_neg (by omega), if_neg (by omega)]
theorem pm_rack {R : List Int} (hR : R.length = 24) (hr : rackB R = true) {i j : Nat} (hi : i < 6) (hj : j < 6) (hij : i ≠ j) {m : Nat} (hm : m ≤ layN (tubeAt R i)) (hm2 : m + layN (tubeAt R j) ≤ 4) : rackB (pmR R i j m) = true := by
  obtain ⟨h1, h2, h3⟩ := pm_facts hR hr hi hj hij hm hm2
  rw [rack_tubes]
  intro k hk
  by_cases hki : k = i
  · rw [hki]; exact h1.1
  · by_cases hkj : k = j
    · rw [hkj]; exact h2.1
    · rw [h3 k hk hki hkj]; exact tubeAt_ok hr hk
theorem can_facts {R : List Int} {i j : Int} (hR : R.length = 24) (hr : rackB R = true) (hi : 0 ≤ i ∧ i ≤ 5) (hj : 0 ≤ j ∧ j ≤ 5) (h : canF R i j = true) : i ≠ j ∧ 0 < layN (tubeAt R i.toNat) ∧ layN (tubeAt R j.toNat) < 4 ∧ 0 < pmN R i.toNat j.toNat ∧
    (pmN R i.toNat j.toNat).toNat ≤ layN (tubeAt R i.toNat) ∧ (pmN R i.toNat j.toNat).toNat + layN (tubeAt R j.toNat) ≤ 4 ∧ pmN R i.toNat j.toNat ≤ 4 := by
  simp only [canF, Bool.and_eq_true, Bool.not_eq_true', decide_eq_false_iff_not, decide_eq_true_eq] at h
  have hli := tubeAt_len hR (i := i.toNat) (by omega)
  have hlj := tubeAt_len hR (i := j.toNat) (by omega)
  have tp := top_pos _ hli (tubeAt_ok hr (by omega))
  have tl := topF_le _ hli
  have h0 := tp.1.1 h.1.1.2
  have h2 := tp.2.2 h0
  have := lay_le _ hlj
  have := lay_le _ hli
  unfold pmN
  refine ⟨h.1.1.1, h0, by omega, by omega, by omega, by omega, by omega⟩
theorem pour_rack {R : List Int} {i j : Int} (hR : R.length = 24) (hr : rackB R = true) (hi : 0 ≤ i ∧ i ≤ 5) (hj : 0 ≤ j ∧ j ≤ 5) (h : canF R i j = true) : rackB (pourF R i.toNat j.toNat) = true := by
  obtain ⟨h1, h2, h3, h4, h5, h6, _⟩ := can_facts hR hr hi hj h
  exact pm_rack hR hr (by omega) (by omega) (by omega) h5 h6
end Go.Proofs.YtmccafjblhbmkaaGreat
set_option maxRecDepth 100000
set_option linter.unusedSimpArgs false
set_option linter.unusedVariables false
namespace Go.Proofs.YtmccafjblhbmkaaGreat
open Go Go.RowKit
def sumT (f : List Int → Int) (R : List Int) (k : Nat) : Int := ((List.range k).map fun i => f (tubeAt R i)).sum
def crN (t : List Int) : Int := ((runsL t).length / 2 : Nat)
def cbN (t : List Int) : Int := max (crN t - 1) 0
/-! Counts. -/
def incr (L : List Int) (j : Nat) : List Int := L.set j (L.getD j 0 + 1)
def cntL (l : List Int) : List Int := l.foldl (fun c x => incr c x.toNat) (List.replicate 6 0)
def botL (R : List Int) : List Int := (List.range 6).map fun i => R.getD (i * 4) 0
/-! The bound. -/
def bndF (R : List Int) : Int := sumT cbN R 6 + besF ((cntL (botL R)).drop 1)
/-! The model's boundaries. -/
end Go.Proofs.YtmccafjblhbmkaaGreat
set_option maxRecDepth 100000
set_option linter.unusedSimpArgs false
set_option linter.unusedVariables false
namespace Go.Proofs.YtmccafjblhbmkaaGreat
open Go Go.RowKit
def idleF (R p : List Int) : Bool := decide ((runsL (tubeAt R (p.getD 0 0).toNat)).length / 2 = 1) && decide (layN (tubeAt R (p.getD 1 0).toNat) = 0)
/-! DeleteFunc with a closure over one rack. -/
--@tbl delR = slices.DeleteFunc[[][2]int,[2]int]
def ulF (R : List Int) : List Int := kept (fun p => !idleF R p) (PL R 36) ((PL R 36).length / 2)
/-! The model's. -/
--@tbl l2Idle = spec.l2Idle
end Go.Proofs.YtmccafjblhbmkaaGreat
set_option maxRecDepth 100000
set_option linter.unusedSimpArgs false
set_option linter.unusedVariables false
namespace Go.Proofs.YtmccafjblhbmkaaGreat
open Go Go.RowKit
def prG (c : Nat → Nat → Bool) (k : Nat) : List Int := if c (k / 6) (k % 6) = true then [((k / 6 : Nat) : Int), ((k % 6 : Nat) : Int)] else []
def GL (c : Nat → Nat → Bool) (m : Nat) : List Int := (List.range m).flatMap (prG c)
theorem GL_zero (c : Nat → Nat → Bool) : GL c 0 = [] := rfl
theorem GL_succ (c : Nat → Nat → Bool) (m : Nat) : GL c (m + 1) = GL c m ++ prG c m := by simp [GL, List.range_succ]
theorem GL_even (c : Nat → Nat → Bool) : ∀ m, ∃ n, (GL c m).length = n * 2 ∧ n ≤ m
  | 0 => ⟨0, rfl, by omega⟩
  | m + 1 => by
    obtain ⟨n, h1, h2⟩ := GL_even c m
    rw [GL_succ, List.length_append, h1]
    unfold prG
    split
    · exact ⟨n + 1, by simp; omega, by omega⟩
    · exact ⟨n, by simp, by omega⟩
theorem PL_GL (R : List Int) (m : Nat) : PL R m = GL (fun i j => canF R i j) m := rfl
/-- A slice that grows: nothing yet, or block b. -/
def outVn (b i len cap : Nat) : SV := match i with
  | 0 => .nils
  | _ + 1 => .slice b 0 len cap
def outHn (b i : Nat) (L : List Int) (e : Nat) (base : Heap) : Heap := match i with
  | 0 => base
  | _ + 1 => (b, .ints L e) :: base
theorem outVn_zero (b len cap : Nat) : outVn b 0 len cap = .nils := rfl
theorem outVn_succ (b i len cap : Nat) : outVn b (i + 1) len cap = .slice b 0 len cap := rfl
theorem outHn_zero (b : Nat) (L : List Int) (e : Nat) (base : Heap) : outHn b 0 L e base = base := rfl
theorem outHn_succ (b i : Nat) (L : List Int) (e : Nat) (base : Heap) : outHn b (i + 1) L e base = (b, .ints L e) :: base := rfl
theorem GL_pair (c : Nat → Nat → Bool) : ∀ m, m ≤ 36 → ∀ i, i * 2 + 2 ≤ (GL c m).length → ∃ a b : Nat, a < 6 ∧ b < 6 ∧ c a b = true ∧ ((GL c m).drop (i * 2)).take 2 = [(a : Int), (b : Int)]
  | 0, _, i, h => by simp [GL_zero] at h
  | m + 1, hm, i, h => by
    obtain ⟨n, hn, _⟩ := GL_even c m
    rw [GL_succ, List.length_append, hn] at h
    by_cases hi : i * 2 + 2 ≤ n * 2
    · obtain ⟨a, b, h1, h2, h3, h4⟩ := GL_pair c m (by omega) i (by omega)
      refine ⟨a, b, h1, h2, h3, ?_⟩
      rw [GL_succ, List.drop_append_of_le_length (by omega), List.take_append_of_le_length (by rw [List.length_drop]; omega)]
      exact h4
    · unfold prG at h
      split at h
      · rename_i hc
        simp at h
        have : i = n := by omega
        subst this
        refine ⟨m / 6, m % 6, by omega, by omega, hc, ?_⟩
        rw [GL_succ, List.drop_left' hn]
        unfold prG
        rw [if_pos hc]; rfl
      · simp at h; omega
end Go.Proofs.YtmccafjblhbmkaaGreat
set_option maxRecDepth 100000
set_option linter.unusedSimpArgs false
set_option linter.unusedVariables false
namespace Go.Proofs.YtmccafjblhbmkaaGreat
open Go Go.RowKit
/-! Lists of racks. -/
def all24 (Q : List (List Int)) : Prop := ∀ x ∈ Q, x.length = 24
theorem flat_len : ∀ {Q : List (List Int)}, all24 Q → Q.flatten.length = Q.length * 24
  | [], _ => rfl
  | x :: Q, h => by
    rw [List.flatten_cons, List.length_append, flat_len fun y hy => h y (List.mem_cons_of_mem _ hy), h x (List.mem_cons_self ..), List.length_cons]; omega
theorem flat_get : ∀ {Q : List (List Int)}, all24 Q → ∀ {i : Nat}, i < Q.length → ∀ J, ((Q.flatten ++ J).drop (i * 24)).take 24 = Q.getD i []
  | [], _, i, hi, _ => by simp at hi
  | x :: Q, h, i, hi, J => by
    have hx := h x (List.mem_cons_self ..)
    rw [List.flatten_cons, List.append_assoc]
    cases i with
    | zero => rw [Nat.zero_mul, List.drop_zero, List.take_left' hx]; rfl
    | succ i =>
      rw [show (i + 1) * 24 = 24 + i * 24 by omega, ← List.drop_drop, List.drop_left' hx, flat_get (fun y hy => h y (List.mem_cons_of_mem _ hy)) (by simpa using hi) J]
      rfl
theorem getD_mem {Q : List (List Int)} {i : Nat} (hi : i < Q.length) : Q.getD i [] ∈ Q := by
  rw [List.getD_eq_getElem?_getD, List.getElem?_eq_getElem hi]; exact List.getElem_mem hi
theorem take_succ_getD {α : Type} (Q : List (List α)) (i : Nat) (hi : i < Q.length) : Q.take (i + 1) = Q.take i ++ [Q.getD i []] := by
  rw [List.take_succ_eq_append_getElem hi, List.getD_eq_getElem?_getD, List.getElem?_eq_getElem hi]; rfl
/-! Maps that know racks. -/
def mk1 (K : List (List Int)) : List (List Int × Int) := K.map fun k => (k, 1)
theorem mk1_len (K : List (List Int)) : (mk1 K).length = K.length := by simp [mk1]
theorem mk1_keys {K : List (List Int)} (h : all24 K) : keysOK (mk1 K) 24 := fun q hq => by
  obtain ⟨k, hk, rfl⟩ := List.mem_map.1 hq
  exact h k hk
theorem mset_mk1 {x : List Int} : ∀ {K : List (List Int)}, x ∉ K → mset (mk1 K) x 1 = mk1 (K ++ [x])
  | [], _ => rfl
  | k :: K, h => by
    have h1 : ¬ x = k := fun e => h (e ▸ List.mem_cons_self ..)
    have ih := mset_mk1 (K := K) fun hx => h (List.mem_cons_of_mem _ hx)
    show (if x = k then (k, 1) :: mk1 K else (k, 1) :: mset (mk1 K) x 1) = _
    rw [if_neg h1, ih]; rfl
/-! What is new. -/
def nwS (K O : List (List Int)) (x : List Int) : List (List Int) := if x ∈ K ++ O then O else O ++ [x]
def nwF (K xs : List (List Int)) : List (List Int) := xs.foldl (nwS K) []
theorem nwF_snoc (K xs : List (List Int)) (x : List Int) : nwF K (xs ++ [x]) = nwS K (nwF K xs) x := by simp [nwF, List.foldl_append]
theorem nwF_old {K xs : List (List Int)} {x : List Int} (h : x ∈ K ++ nwF K xs) : nwF K (xs ++ [x]) = nwF K xs := by rw [nwF_snoc, nwS, if_pos h]
theorem nwF_new {K xs : List (List Int)} {x : List Int} (h : x ∉ K ++ nwF K xs) : nwF K (xs ++ [x]) = nwF K xs ++ [x] := by rw [nwF_snoc, nwS, if_neg h]
theorem snoc_ind {α : Type} {P : List α → Prop} (h0 : P []) (h1 : ∀ l x, P l → P (l ++ [x])) (l : List α) : P l := by
  have : P l.reverse.reverse := by
    generalize l.reverse = r
    induction r with
    | nil => exact h0
    | cons x r ih => rw [List.reverse_cons]; exact h1 _ _ ih
  rwa [List.reverse_reverse] at this
theorem nwF_sub (K xs : List (List Int)) : ∀ y ∈ nwF K xs, y ∈ xs ∧ y ∉ K := by
  refine snoc_ind (P := fun xs => ∀ y ∈ nwF K xs, y ∈ xs ∧ y ∉ K) (by simp [nwF]) (fun l x ih y hy => ?_) xs
  by_cases h : x ∈ K ++ nwF K l
  · rw [nwF_old h] at hy
    exact ⟨List.mem_append_left _ (ih y hy).1, (ih y hy).2⟩
  · rw [nwF_new h] at hy
    rcases List.mem_append.1 hy with hy | hy
    · exact ⟨List.mem_append_left _ (ih y hy).1, (ih y hy).2⟩
    · simp at hy; subst hy
      exact ⟨by simp, fun hK => h (List.mem_append_left _ hK)⟩
theorem nwF_all (K xs : List (List Int)) : ∀ y ∈ xs, y ∈ K ++ nwF K xs := by
  refine snoc_ind (P := fun xs => ∀ y ∈ xs, y ∈ K ++ nwF K xs) (by simp) (fun l x ih y hy => ?_) xs
  by_cases h : x ∈ K ++ nwF K l
  · rw [nwF_old h]
    rcases List.mem_append.1 hy with hy | hy
    · exact ih y hy
    · simp at hy; subst hy; exact h
  · rw [nwF_new h, ← List.append_assoc]
    rcases List.mem_append.1 hy with hy | hy
    · exact List.mem_append_left _ (ih y hy)
    · exact List.mem_append_right _ hy
theorem mset_mk1_in {x : List Int} : ∀ {K : List (List Int)}, x ∈ K → mset (mk1 K) x 1 = mk1 K
  | [], h => by simp at h
  | k :: K, h => by
    show (if x = k then (k, 1) :: mk1 K else (k, 1) :: mset (mk1 K) x 1) = _
    by_cases h1 : x = k
    · rw [if_pos h1]; rfl
    · rw [if_neg h1, mset_mk1_in ((List.mem_cons.1 h).resolve_left h1)]; rfl
end Go.Proofs.YtmccafjblhbmkaaGreat
set_option maxRecDepth 100000
set_option linter.unusedSimpArgs false
set_option linter.unusedVariables false
namespace Go.Proofs.YtmccafjblhbmkaaGreat
open Go Go.RowKit
theorem lexC_app : ∀ {a b A B : List Int}, a.length = b.length → lexC (a ++ A) (b ++ B) = if lexC a b = 0 then lexC A B else lexC a b
  | [], [], A, B, _ => by simp [lexC]
  | [], _ :: _, _, _, h => by simp at h
  | _ :: _, [], _, _, h => by simp at h
  | x :: a, y :: b, A, B, h => by
    have ih := lexC_app (a := a) (b := b) (A := A) (B := B) (by simpa using h)
    show (if x < y then -1 else if y < x then 1 else lexC (a ++ A) (b ++ B)) = if (if x < y then -1 else if y < x then 1 else lexC a b) = 0 then lexC A B else (if x < y then -1 else if y < x then 1 else lexC a b)
    rw [ih]
    by_cases h1 : x < y
    · simp [h1]
    · by_cases h2 : y < x
      · simp [h1, h2]
      · simp [h1, h2]
theorem lexC_step4 (x y : List Int) (i : Nat) (hx : i * 4 + 4 ≤ x.length) (hy : i * 4 + 4 ≤ y.length) : lexC (x.drop (i * 4)) (y.drop (i * 4)) = if lexC (tubeAt x i) (tubeAt y i) = 0 then lexC (x.drop ((i + 1) * 4)) (y.drop ((i + 1) * 4)) else lexC (tubeAt x i) (tubeAt y i) := by
  have e : ∀ l : List Int, i * 4 + 4 ≤ l.length → l.drop (i * 4) = tubeAt l i ++ l.drop ((i + 1) * 4) := fun l hl => by
    unfold tubeAt
    rw [show (i + 1) * 4 = i * 4 + 4 by omega, ← List.drop_drop, List.take_append_drop]
  rw [e x hx, e y hy]
  exact lexC_app (by unfold tubeAt; rw [List.length_take, List.length_take, List.length_drop, List.length_drop]; omega)
theorem cmpRows_ok (x y : List Int) (e e' : Nat) (hx : x.length = 24) (hy : y.length = 24) : PureH Tryz.prog 160 [.slice 0 0 6 6, .slice 1 0 6 6, .fn 120 []] [(0, .ints x e), (1, .ints y e')] (.int (lexC x y)) := by
  refine pure_of_vc (X := ⟨Tryz.prog, tys, [(120, compareTubes_F)], [], true, true, 2, [], []⟩) fn_160 ⟨tys_ok, (.cons compareTubes_T .nil), .nil, mixed⟩ (n0 := 2) (Nat.le_of_ble_eq_true rfl) (by simp [wfL, SV.wf]) (wfH_spec (by simp [wfH, SObj.wf])) (Nat.le_refl _) (fun _ => by simp [SV.wf, wfL]) ?_
  simp -implicitDefEqProofs only [Tryz.f160, Option.getD_some, argS, compareTubes_F, hx, hy, ZB, Int.reduceToNat, Nat.reduceLT, Nat.reduceLeDiff, Int.reduceLE, Int.reduceLT, Nat.reduceEqDiff, Nat.reduceSub, SB, SV.known, packR, ne_eq, reduceCtorEq, Nat.reduceEqDiff, ↓reduceIte, if_true, if_false, eq_self, Nat.reduceAdd, Nat.reduceMul, Nat.reduceSub, forall_const, oneCellS, litOne, flat1, Kd.isSca, flat, TYB]
  refine loop_intro (fun i : Nat => [(13, .int i), (12, .int 6), (11, .slice 0 0 6 6), (0, .slice 0 0 6 6), (1, .slice 1 0 6 6), (2, .fn 120 [])]) (fun _ => [(0, .ints x e), (1, .ints y e')]) 2 (fun i => i ≤ 6 ∧ lexC x y = lexC (x.drop (i * 4)) (y.drop (i * 4))) (fun i => 6 - i) ?_ ?_
  · refine ⟨0, ⟨by omega, rfl⟩, Sub.mk_id ?_ ?_ ?_ ?_ ?_⟩
    all_goals ((try simp only [LB, subS, subH, wfS, wfH, SV.ren, renL, SObj.ren, SV.wf, SObj.wf, wfL, SV.known, Nat.reduceEqDiff, ↓reduceIte, if_true, if_false, eq_self, Nat.reduceAdd, Nat.reduceLT, Nat.reduceLeDiff, implies_true, reduceCtorEq, forall_const]) <;> simp)
  · rintro i ⟨hi, he⟩
    by_cases hlt : i < 6
    · have hil : (i : Int) < 6 := by omega
      have hnl : ¬ (i : Int) ≥ 6 := by omega
      have st := lexC_step4 x y i (by omega) (by omega)
      rw [← he] at st
      have e1 : List.take 4 (List.drop (i * 4) x) = tubeAt x i := rfl
      have e2 : List.take 4 (List.drop (i * 4) y) = tubeAt y i := rfl
      have l1 := tubeAt_len hx hlt
      have l2 := tubeAt_len hy hlt
      have t1 := List.take_of_length_le (Nat.le_of_eq l1)
      have t2 := List.take_of_length_le (Nat.le_of_eq l2)
      by_cases hc : lexC (tubeAt x i) (tubeAt y i) = 0
      · rw [if_pos hc] at st
        simp -implicitDefEqProofs only [lk_normal, compareTubes_F, hil, hnl, hx, hy, e1, e2, l1, l2, t1, t2, hc, ZB, Int.reduceToNat, Nat.reduceLT, Nat.reduceLeDiff, Int.reduceLE, Int.reduceLT, Nat.reduceEqDiff, Nat.reduceSub, SB, SV.known, packR, ne_eq, reduceCtorEq, Nat.reduceEqDiff, ↓reduceIte, if_true, if_false, eq_self, Nat.reduceAdd, Nat.reduceMul, Nat.reduceSub, forall_const, oneCellS, litOne, flat1, Kd.isSca, flat, TYB]
        refine ⟨by omega, by omega, by omega, by omega, by unfold In64; omega, i + 1, ⟨by omega, st⟩, by omega, Sub.mk_id ?_ ?_ ?_ ?_ ?_⟩
        all_goals ((try simp only [LB, subS, subH, wfS, wfH, SV.ren, renL, SObj.ren, SV.wf, SObj.wf, wfL, SV.known, Nat.reduceEqDiff, ↓reduceIte, if_true, if_false, eq_self, Nat.reduceAdd, Nat.reduceLT, Nat.reduceLeDiff, implies_true, reduceCtorEq, forall_const]) <;> simp)
      · rw [if_neg hc] at st
        simp -implicitDefEqProofs only [lk_normal, compareTubes_F, hil, hnl, hx, hy, e1, e2, l1, l2, t1, t2, hc, ZB, Int.reduceToNat, Nat.reduceLT, Nat.reduceLeDiff, Int.reduceLE, Int.reduceLT, Nat.reduceEqDiff, Nat.reduceSub, SB, SV.known, packR, ne_eq, reduceCtorEq, Nat.reduceEqDiff, ↓reduceIte, if_true, if_false, eq_self, Nat.reduceAdd, Nat.reduceMul, Nat.reduceSub, forall_const, oneCellS, litOne, flat1, Kd.isSca, flat, TYB]
        exact ⟨by omega, by omega, by omega, by omega, st.symm⟩
    · have hil : ¬ (i : Int) < 6 := by omega
      obtain rfl : i = 6 := by omega
      have e0 : lexC x y = 0 := by
        rw [he, List.drop_eq_nil_of_le (by omega)]; rfl
      simp -implicitDefEqProofs only [lk_normal, hil, e0, Int.lt_irrefl, ZB, Int.reduceToNat, Nat.reduceLT, Nat.reduceLeDiff, Int.reduceLE, Int.reduceLT, Nat.reduceEqDiff, Nat.reduceSub, SB, SV.known, packR, ne_eq, reduceCtorEq, Nat.reduceEqDiff, ↓reduceIte, if_true, if_false, eq_self, Nat.reduceAdd, Nat.reduceMul, Nat.reduceSub, forall_const, oneCellS, litOne, flat1, Kd.isSca, flat, TYB]
--@tbl cmpRows = slices.CompareFunc[[][4]int,[][4]int,[4]int,[4]int]
def cmpRows_F : List SV → Heap → Option (Prop × SV)
  | [.slice 0 0 6 6, .slice 1 0 6 6, .fn g []], H => match hget H 0, hget H 1 with
    | some (.ints x _), some (.ints y _) => some (g = 120 ∧ x.length = 24 ∧ y.length = 24, .int (lexC x y))
    | _, _ => none
  | _, _ => none
theorem cmpRows_T : ∀ args H p v, cmpRows_F args H = some (p, v) → p → PureH Tryz.prog 160 args H v := by
  intro args H p v h hp
  unfold cmpRows_F at h
  split at h
  · rename_i g
    split at h
    · rename_i x e y e' h1 h2
      cases h
      obtain ⟨rfl, g1, g2⟩ := hp
      refine (cmpRows_ok x y e e' g1 g2).weaken (fun k o hk => ?_) (fun _ => trivial)
      simp only [hget_cons] at hk
      split at hk
      · rename_i h0; cases hk; subst h0; exact h1
      · split at hk
        · rename_i h0; cases hk; subst h0; exact h2
        · cases hk
    · cases h
  · cases h
theorem cmpR_ok (x y : List Int) (hx : x.length = 24) (hy : y.length = 24) : PureH Tryz.prog 139 [.arr x, .arr y] [] (.int (lexC x y)) := by
  have tx : x.take 24 = x := List.take_of_length_le (by omega)
  have ty : y.take 24 = y := List.take_of_length_le (by omega)
  refine pure_of_vc (X := ⟨Tryz.prog, tys, [(160, cmpRows_F)], [], true, true, 0, [], []⟩) fn_139 ⟨tys_ok, (.cons cmpRows_T .nil), .nil, mixed⟩ (n0 := 0) (Nat.le_of_ble_eq_true rfl) (by simp [wfL, SV.wf]) (wfH_spec (by simp [wfH, SObj.wf])) (Nat.le_refl _) (fun _ => by simp [SV.wf, wfL]) ?_
  simp -implicitDefEqProofs only [Tryz.f139, Option.getD_some, argS, cmpRows_F, hx, hy, tx, ty, ZB, Int.reduceToNat, Nat.reduceLT, Nat.reduceLeDiff, Int.reduceLE, Int.reduceLT, Nat.reduceEqDiff, Nat.reduceSub, SB, SV.known, packR, ne_eq, reduceCtorEq, Nat.reduceEqDiff, ↓reduceIte, if_true, if_false, eq_self, Nat.reduceAdd, Nat.reduceMul, Nat.reduceSub, forall_const, oneCellS, litOne, flat1, Kd.isSca, flat, TYB]
theorem sortR_ok (A Z : List Int) (Q : List (List Int)) (hQ : ∀ x ∈ Q, x.length = 24) (e cap off n : Nat) (hA : A.length = off) (hn : Q.length = n) (hb : n < 4611686018427387904) :
    UpdP Tryz.prog 138 [.slice 0 off n cap, .fn 139 []] 0 [] (.ints (A ++ Q.flatten ++ Z) e) (.ints (A ++ (srtT Q).flatten ++ Z) e) (.tup []) :=
  sortF_ok laySortR 24 (by omega) Tryz.isAgg27 Tryz.sizeOf27 139 fn_139.ent fn_138.ent cmpR_ok A Z Q hQ e cap off n hA hn hb
/-! Sorted lists without equals. -/
def ddS (Q : List (List Int)) : Nat → List (List Int)
  | 0 => []
  | j + 1 => if 0 < j ∧ Q.getD j [] = Q.getD (j - 1) [] then ddS Q j else ddS Q j ++ [Q.getD j []]
theorem ddS_old {Q : List (List Int)} {j : Nat} (h : 0 < j) (h2 : Q.getD j [] = Q.getD (j - 1) []) : ddS Q (j + 1) = ddS Q j := if_pos ⟨h, h2⟩
theorem ddS_new {Q : List (List Int)} {j : Nat} (h : j = 0 ∨ Q.getD j [] ≠ Q.getD (j - 1) []) : ddS Q (j + 1) = ddS Q j ++ [Q.getD j []] := if_neg fun ⟨h1, h2⟩ => h.elim (fun h => by omega) fun h => h h2
theorem ddS_le (Q : List (List Int)) : ∀ j, (ddS Q j).length ≤ j
  | 0 => Nat.le_refl _
  | j + 1 => by
    have := ddS_le Q j
    unfold ddS
    split
    · omega
    · simp; omega
theorem ddS_24 {Q : List (List Int)} (h : all24 Q) : ∀ j, j ≤ Q.length → all24 (ddS Q j)
  | 0, _ => fun x hx => by simp [ddS] at hx
  | j + 1, hj => by
    have ih := ddS_24 h j (by omega)
    unfold ddS
    split
    · exact ih
    · intro x hx
      rcases List.mem_append.1 hx with hx | hx
      · exact ih x hx
      · simp only [List.mem_singleton] at hx; subst hx; exact h _ (getD_mem (by omega))
theorem ddS_one : ∀ {Q : List (List Int)}, 1 ≤ Q.length → ddS Q 1 = Q.take 1
  | [], h => by simp at h
  | x :: r, _ => rfl
/-- The racks while the list is compacted. -/
def cpG (Q : List (List Int)) (j : Nat) : List (List Int) := ddS Q j ++ Q.drop (ddS Q j).length
theorem cpG_24 {Q : List (List Int)} (h : all24 Q) {j : Nat} (hj : j ≤ Q.length) : all24 (cpG Q j) := fun x hx => by
  rcases List.mem_append.1 hx with hx | hx
  · exact ddS_24 h j hj x hx
  · exact h x (List.mem_of_mem_drop hx)
theorem cpG_len {Q : List (List Int)} {j : Nat} (hj : j ≤ Q.length) : (cpG Q j).length = Q.length := by
  have := ddS_le Q j
  unfold cpG
  rw [List.length_append, List.length_drop]; omega
theorem cpG_get {Q : List (List Int)} {j t : Nat} (h : (ddS Q j).length ≤ t) : (cpG Q j).getD t [] = Q.getD t [] := by
  unfold cpG
  rw [List.getD_eq_getElem?_getD, List.getElem?_append_right h, List.getElem?_drop, List.getD_eq_getElem?_getD, show (ddS Q j).length + (t - (ddS Q j).length) = t by omega]
theorem cpG_start {Q : List (List Int)} {k : Nat} (hk : k ≤ Q.length) (h : ddS Q k = Q.take k) (h1 : ddS Q (k + 1) = ddS Q k) : cpG Q (k + 1) = Q := by
  unfold cpG
  rw [h1, h, List.length_take, Nat.min_eq_left hk, List.take_append_drop]
theorem cpG_put {Q : List (List Int)} (h : all24 Q) {j : Nat} (hj : j ≤ Q.length) (hk : (ddS Q j).length < Q.length) (x Z : List Int) :
    List.take ((ddS Q j).length * 24) ((cpG Q j).flatten ++ Z) ++ x ++ List.drop ((ddS Q j).length * 24 + 24) ((cpG Q j).flatten ++ Z) = (ddS Q j ++ [x] ++ Q.drop ((ddS Q j).length + 1)).flatten ++ Z := by
  have l1 : (ddS Q j).flatten.length = (ddS Q j).length * 24 := flat_len (ddS_24 h j hj)
  have e : Q.drop (ddS Q j).length = Q.getD (ddS Q j).length [] :: Q.drop ((ddS Q j).length + 1) := by
    rw [List.drop_eq_getElem_cons hk, List.getD_eq_getElem?_getD, List.getElem?_eq_getElem hk]; rfl
  have l2 : (Q.getD (ddS Q j).length []).length = 24 := h _ (getD_mem hk)
  have hB : (cpG Q j).flatten ++ Z = (ddS Q j).flatten ++ (Q.getD (ddS Q j).length [] ++ ((Q.drop ((ddS Q j).length + 1)).flatten ++ Z)) := by
    unfold cpG
    rw [e, List.flatten_append, List.flatten_cons, List.append_assoc, List.append_assoc]
  rw [hB, List.take_left' l1, ← List.drop_drop, List.drop_left' l1, List.drop_left' l2]
  simp
theorem compact_ok (Z : List Int) (Q : List (List Int)) (hQ : all24 Q) (e cap n : Nat) (hn : Q.length = n) (hb : n ≤ 1000000) (hc : (Q.flatten ++ Z).length = cap * 24) :
    UpdP Tryz.prog 140 [.slice 0 0 n cap] 0 [] (.ints (Q.flatten ++ Z) e) (.ints ((ddS Q n).flatten ++ (List.replicate ((n - (ddS Q n).length) * 24) 0 ++ Z)) e) (.slice 0 0 (ddS Q n).length cap) := by
  have eqr := eqI_rack
  have hfl := flat_len hQ
  refine upd_of_vc (X := ⟨Tryz.prog, tys, [], [], true, true, 0, [], []⟩) fn_140 ⟨tys_ok, .nil, .nil, mixed⟩ (n0 := 1) (by omega) (Nat.le_of_ble_eq_true rfl) (by simp [wfL, SV.wf]) (wfH_spec (by simp [wfH, SObj.wf])) (fun k o1 hk => by cases hk) rfl rfl (fun _ => trivial) (by simp [SV.wf, wfL]) ?_
  by_cases h2 : n < 2
  · have h2' : (n : Int) < 2 := by omega
    simp -implicitDefEqProofs only [Tryz.f140, Option.getD_some, argS, h2', ZB, Int.reduceToNat, Nat.reduceLT, Nat.reduceLeDiff, Int.reduceLE, Int.reduceLT, Nat.reduceEqDiff, Nat.reduceSub, SB, SV.known, packR, ne_eq, reduceCtorEq, Nat.reduceEqDiff, ↓reduceIte, if_true, if_false, eq_self, Nat.reduceAdd, Nat.reduceMul, Nat.reduceSub, forall_const, oneCellS, litOne, flat1, Kd.isSca, flat, TYB]
    have ed : ddS Q n = Q := by
      obtain rfl | rfl : n = 0 ∨ n = 1 := by omega
      · exact (List.length_eq_zero_iff.1 hn).symm
      · match Q, hn with
        | [x], _ => rfl
    rw [ed, hn]
    simp
  · have h2' : ¬ (n : Int) < 2 := by omega
    simp -implicitDefEqProofs only [Tryz.f140, Option.getD_some, argS, h2', ZB, Int.reduceToNat, Nat.reduceLT, Nat.reduceLeDiff, Int.reduceLE, Int.reduceLT, Nat.reduceEqDiff, Nat.reduceSub, SB, SV.known, packR, ne_eq, reduceCtorEq, Nat.reduceEqDiff, ↓reduceIte, if_true, if_false, eq_self, Nat.reduceAdd, Nat.reduceMul, Nat.reduceSub, forall_const, oneCellS, litOne, flat1, Kd.isSca, flat, TYB]
    refine loop_intro (fun k : Nat => [(3, .int k), (0, .slice 0 0 n cap)]) (fun _ => [(0, .ints (Q.flatten ++ Z) e)]) 1 (fun k => (1 ≤ k ∧ k ≤ n) ∧ ddS Q k = Q.take k) (fun k => n - k) ?_ ?_
    · refine ⟨1, ⟨by omega, ?_⟩, Sub.mk_id ?_ ?_ ?_ ?_ ?_⟩
      · exact ddS_one (by omega)
      all_goals ((try simp only [LB, subS, subH, wfS, wfH, SV.ren, renL, SObj.ren, SV.wf, SObj.wf, wfL, SV.known, Nat.reduceEqDiff, ↓reduceIte, if_true, if_false, eq_self, Nat.reduceAdd, Nat.reduceLT, Nat.reduceLeDiff, implies_true, reduceCtorEq, forall_const]) <;> simp)
    · rintro k ⟨⟨hk1, hkn⟩, hdk⟩
      by_cases hlt : k < n
      · have hkl : (k : Int) < n := by omega
        have k0 : 0 ≤ (k : Int) - 1 := by omega
        have kb : (k : Int) - 1 < n := by omega
        have tk : ((k : Int) - 1).toNat = k - 1 := by omega
        have lQ : (Q.flatten ++ Z).length = cap * 24 := hc
        have hlen : n * 24 ≤ cap * 24 := by rw [← hc, List.length_append, hfl]; omega
        have r1 : List.take 24 (List.drop (k * 24) (Q.flatten ++ Z)) = Q.getD k [] := flat_get hQ (by omega) Z
        have r2 : List.take 24 (List.drop ((k - 1) * 24) (Q.flatten ++ Z)) = Q.getD (k - 1) [] := flat_get hQ (by omega) Z
        have g1 := hQ _ (getD_mem (show k < Q.length by omega))
        have g2 := hQ _ (getD_mem (show k - 1 < Q.length by omega))
        by_cases hd : Q.getD k [] = Q.getD (k - 1) []
        · have hd' := decide_eq_true hd
          simp -implicitDefEqProofs only [lk_normal, hkl, k0, kb, tk, lQ, r1, r2, g1, g2, eqr, hd', ZB, Int.reduceToNat, Nat.reduceLT, Nat.reduceLeDiff, Int.reduceLE, Int.reduceLT, Nat.reduceEqDiff, Nat.reduceSub, SB, SV.known, packR, ne_eq, reduceCtorEq, Nat.reduceEqDiff, ↓reduceIte, if_true, if_false, eq_self, Nat.reduceAdd, Nat.reduceMul, Nat.reduceSub, forall_const, oneCellS, litOne, flat1, Kd.isSca, flat, TYB]
          have co : cutOff cap k 0 24 = k * 24 := by unfold cutOff; rw [if_neg (by omega)]; omega
          have eo := ddS_old (Q := Q) (j := k) (by omega) hd
          refine ⟨by omega, by omega, by unfold In64; omega, by omega, by omega, by omega, ?_⟩
          rw [co]
          refine loop_intro (fun k2 : Nat => [(5, .int k2), (4, .slice 0 (k * 24) (n - k) (cap - k)), (3, .int (ddS Q (k + k2)).length), (0, .slice 0 0 n cap)]) (fun k2 => [(0, .ints ((cpG Q (k + k2)).flatten ++ Z) e)]) 1
            (fun k2 => (1 ≤ k2 ∧ k + k2 ≤ n) ∧ (ddS Q (k + k2)).length < k + k2) (fun k2 => n - k - k2) ?_ ?_
          · refine ⟨1, ⟨by omega, by rw [eo]; have := ddS_le Q k; omega⟩, Sub.mk_id ?_ ?_ ?_ ?_ ?_⟩
            all_goals (try simp only [cpG_start (by omega) hdk eo, eo, hdk, List.length_take, Nat.min_eq_left (show k ≤ Q.length by omega)])
            all_goals ((try simp only [LB, subS, subH, wfS, wfH, SV.ren, renL, SObj.ren, SV.wf, SObj.wf, wfL, SV.known, Nat.reduceEqDiff, ↓reduceIte, if_true, if_false, eq_self, Nat.reduceAdd, Nat.reduceLT, Nat.reduceLeDiff, implies_true, reduceCtorEq, forall_const]) <;> simp)
          · rintro k2 ⟨⟨hk21, hk2n⟩, hlt2⟩
            have hG := cpG_24 hQ (j := k + k2) (by omega)
            have lG := cpG_len (Q := Q) (j := k + k2) (by omega)
            have fG := flat_len hG
            have lB : ((cpG Q (k + k2)).flatten ++ Z).length = cap * 24 := by rw [List.length_append, fG, lG]; rw [List.length_append, hfl] at hc; omega
            by_cases hlt3 : k + k2 < n
            · have hkl2 : (k2 : Int) < (n - k : Nat) := by omega
              have k20 : 0 ≤ (k2 : Int) - 1 := by omega
              have k22 : (k2 : Int) - 1 < (n - k : Nat) := by omega
              have tk2 : ((k2 : Int) - 1).toNat = k2 - 1 := by omega
              have kk0 : ((ddS Q (k + k2)).length : Int) < n := by omega
              have a1 : k * 24 + k2 * 24 = (k + k2) * 24 := by omega
              have a2 : k * 24 + (k2 - 1) * 24 = (k + k2 - 1) * 24 := by omega
              have r1 : List.take 24 (List.drop ((k + k2) * 24) ((cpG Q (k + k2)).flatten ++ Z)) = Q.getD (k + k2) [] := by
                rw [flat_get hG (by omega) Z, cpG_get (by omega)]
              have r2 : List.take 24 (List.drop ((k + k2 - 1) * 24) ((cpG Q (k + k2)).flatten ++ Z)) = Q.getD (k + k2 - 1) [] := by
                rw [flat_get hG (by omega) Z, cpG_get (by omega)]
              have g1 := hQ _ (getD_mem (show k + k2 < Q.length by omega))
              have g2 := hQ _ (getD_mem (show k + k2 - 1 < Q.length by omega))
              by_cases hd2 : Q.getD (k + k2) [] = Q.getD (k + k2 - 1) []
              · have hd' := decide_eq_true hd2
                have eo2 := ddS_old (Q := Q) (j := k + k2) (by omega) hd2
                simp -implicitDefEqProofs only [lk_normal, hkl2, k20, k22, tk2, lB, a1, a2, r1, r2, g1, g2, eqr, hd', ZB, Int.reduceToNat, Nat.reduceLT, Nat.reduceLeDiff, Int.reduceLE, Int.reduceLT, Nat.reduceEqDiff, Nat.reduceSub, SB, SV.known, packR, ne_eq, reduceCtorEq, Nat.reduceEqDiff, ↓reduceIte, if_true, if_false, eq_self, Nat.reduceAdd, Nat.reduceMul, Nat.reduceSub, forall_const, oneCellS, litOne, flat1, Kd.isSca, flat, TYB]
                refine ⟨by omega, by omega, by unfold In64; omega, by omega, by unfold In64; omega, k2 + 1, ⟨by omega, by rw [← Nat.add_assoc, eo2]; omega⟩, by omega, Sub.mk_id ?_ ?_ ?_ ?_ ?_⟩
                all_goals (try simp only [← Nat.add_assoc, cpG, eo2])
                all_goals ((try simp only [LB, subS, subH, wfS, wfH, SV.ren, renL, SObj.ren, SV.wf, SObj.wf, wfL, SV.known, Nat.reduceEqDiff, ↓reduceIte, if_true, if_false, eq_self, Nat.reduceAdd, Nat.reduceLT, Nat.reduceLeDiff, implies_true, reduceCtorEq, forall_const]) <;> simp)
              · have hd' := decide_eq_false hd2
                have en := ddS_new (Q := Q) (j := k + k2) (.inr hd2)
                have pu := cpG_put hQ (j := k + k2) (by omega) (by omega) (Q.getD (k + k2) []) Z
                simp -implicitDefEqProofs only [lk_normal, hkl2, k20, k22, tk2, kk0, lB, a1, a2, r1, r2, g1, g2, eqr, hd', pu, ZB, Int.reduceToNat, Nat.reduceLT, Nat.reduceLeDiff, Int.reduceLE, Int.reduceLT, Nat.reduceEqDiff, Nat.reduceSub, SB, SV.known, packR, ne_eq, reduceCtorEq, Nat.reduceEqDiff, ↓reduceIte, if_true, if_false, eq_self, Nat.reduceAdd, Nat.reduceMul, Nat.reduceSub, forall_const, oneCellS, litOne, flat1, Kd.isSca, flat, TYB]
                refine ⟨by omega, by omega, by unfold In64; omega, by omega, by omega, by omega, by omega, by omega, by unfold In64; omega, by unfold In64; omega, k2 + 1, ⟨by omega, by rw [← Nat.add_assoc, en, List.length_append]; simp; omega⟩, by omega, Sub.mk_id ?_ ?_ ?_ ?_ ?_⟩
                all_goals (try simp only [← Nat.add_assoc, cpG, en, List.length_append, List.length_cons, List.length_nil, Nat.zero_add])
                all_goals ((try simp only [LB, subS, subH, wfS, wfH, SV.ren, renL, SObj.ren, SV.wf, SObj.wf, wfL, SV.known, Nat.reduceEqDiff, ↓reduceIte, if_true, if_false, eq_self, Nat.reduceAdd, Nat.reduceLT, Nat.reduceLeDiff, implies_true, reduceCtorEq, forall_const]) <;> simp)
            · have hkl2 : ¬ (k2 : Int) < (n - k : Nat) := by omega
              simp -implicitDefEqProofs only [lk_normal, hkl2, lB, ZB, Int.reduceToNat, Nat.reduceLT, Nat.reduceLeDiff, Int.reduceLE, Int.reduceLT, Nat.reduceEqDiff, Nat.reduceSub, SB, SV.known, packR, ne_eq, reduceCtorEq, Nat.reduceEqDiff, ↓reduceIte, if_true, if_false, eq_self, Nat.reduceAdd, Nat.reduceMul, Nat.reduceSub, forall_const, oneCellS, litOne, flat1, Kd.isSca, flat, TYB]
              obtain rfl : n = k + k2 := by omega
              have co2 : cutOff cap (ddS Q (k + k2)).length 0 24 = (ddS Q (k + k2)).length * 24 := by unfold cutOff; rw [if_neg (by omega)]; omega
              have l1 : (ddS Q (k + k2)).flatten.length = (ddS Q (k + k2)).length * 24 := flat_len (ddS_24 hQ _ (by omega))
              have hB : (cpG Q (k + k2)).flatten ++ Z = (ddS Q (k + k2)).flatten ++ ((Q.drop (ddS Q (k + k2)).length).flatten ++ Z) := by
                unfold cpG; rw [List.flatten_append, List.append_assoc]
              have l3 : (Q.drop (ddS Q (k + k2)).length).flatten.length = (k + k2 - (ddS Q (k + k2)).length) * 24 := by
                rw [flat_len fun x hx => hQ x (List.mem_of_mem_drop hx), List.length_drop, hn]
              rw [co2]
              refine ⟨by omega, by omega, by omega, by omega, by omega, by omega, rfl, ?_⟩
              rw [hB, List.take_left' l1, ← List.drop_drop, List.drop_left' l1, List.drop_left' l3, List.append_assoc]
        · have hd' := decide_eq_false hd
          have en := ddS_new (Q := Q) (j := k) (.inr hd)
          simp -implicitDefEqProofs only [lk_normal, hkl, k0, kb, tk, lQ, r1, r2, g1, g2, eqr, hd', ZB, Int.reduceToNat, Nat.reduceLT, Nat.reduceLeDiff, Int.reduceLE, Int.reduceLT, Nat.reduceEqDiff, Nat.reduceSub, SB, SV.known, packR, ne_eq, reduceCtorEq, Nat.reduceEqDiff, ↓reduceIte, if_true, if_false, eq_self, Nat.reduceAdd, Nat.reduceMul, Nat.reduceSub, forall_const, oneCellS, litOne, flat1, Kd.isSca, flat, TYB]
          refine ⟨by omega, by omega, by unfold In64; omega, by omega, by unfold In64; omega, k + 1, ⟨by omega, ?_⟩, by omega, Sub.mk_id ?_ ?_ ?_ ?_ ?_⟩
          · rw [en, hdk, take_succ_getD Q k (by omega)]
          all_goals ((try simp only [LB, subS, subH, wfS, wfH, SV.ren, renL, SObj.ren, SV.wf, SObj.wf, wfL, SV.known, Nat.reduceEqDiff, ↓reduceIte, if_true, if_false, eq_self, Nat.reduceAdd, Nat.reduceLT, Nat.reduceLeDiff, implies_true, reduceCtorEq, forall_const]) <;> simp)
      · have hkl : ¬ (k : Int) < n := by omega
        obtain rfl : k = n := by omega
        have ed : ddS Q k = Q := by rw [hdk, List.take_of_length_le (by omega)]
        simp -implicitDefEqProofs only [lk_normal, hkl, ZB, Int.reduceToNat, Nat.reduceLT, Nat.reduceLeDiff, Int.reduceLE, Int.reduceLT, Nat.reduceEqDiff, Nat.reduceSub, SB, SV.known, packR, ne_eq, reduceCtorEq, Nat.reduceEqDiff, ↓reduceIte, if_true, if_false, eq_self, Nat.reduceAdd, Nat.reduceMul, Nat.reduceSub, forall_const, oneCellS, litOne, flat1, Kd.isSca, flat, TYB]
        rw [ed, hn]
        simp
end Go.Proofs.YtmccafjblhbmkaaGreat
set_option maxRecDepth 100000
set_option linter.unusedSimpArgs false
set_option linter.unusedVariables false
namespace Go.Proofs.YtmccafjblhbmkaaGreat
open Go Go.RowKit
/-- May so many layers be poured back? -/
def bk1 (R : List Int) (i j m : Int) : Bool := plF i && plF j && !decide (i = j) && decide (1 ≤ m ∧ m ≤ min (topF (tubeAt R j.toNat)).2 (4 - (layN (tubeAt R i.toNat) : Int)))
def bkR (R : List Int) (i j m : Int) : List Int := pmR R j.toNat i.toNat m.toNat
def bk2 (R : List Int) (i j m : Int) : Bool := bk1 R i j m && canF (bkR R i j m) i j
def bkB (R : List Int) (i j m : Int) : Bool := bk2 R i j m && decide (pourF (bkR R i j m) i.toNat j.toNat = R) && decide (pmN (bkR R i j m) i.toNat j.toNat = m)
theorem bkR_len {R : List Int} (hR : R.length = 24) (i j m : Int) : (bkR R i j m).length = 24 := by unfold bkR; rw [pmR_len, hR]
theorem bk1_facts {R : List Int} {i j m : Int} (hR : R.length = 24) (h : bk1 R i j m = true) : (0 ≤ i ∧ i ≤ 5) ∧ (0 ≤ j ∧ j ≤ 5) ∧ i ≠ j ∧ 1 ≤ m ∧ m ≤ (topF (tubeAt R j.toNat)).2 ∧ m ≤ 4 - (layN (tubeAt R i.toNat) : Int) ∧ m.toNat ≤ layN (tubeAt R j.toNat) ∧ m.toNat + layN (tubeAt R i.toNat) ≤ 4 ∧ m ≤ 4 := by
  simp only [bk1, Bool.and_eq_true, Bool.not_eq_true', decide_eq_false_iff_not, decide_eq_true_eq] at h
  have bi := pl_bd h.1.1.1
  have bj := pl_bd h.1.1.2
  have lj := tubeAt_len hR (i := j.toNat) (by omega)
  have tl := topF_le _ lj
  have := lay_le _ lj
  refine ⟨bi, bj, h.1.2, h.2.1, by omega, by omega, by omega, by omega, by omega⟩
theorem bk_rack {R : List Int} {i j m : Int} (hR : R.length = 24) (hr : rackB R = true) (h : bk1 R i j m = true) : rackB (bkR R i j m) = true := by
  obtain ⟨bi, bj, hij, h1, h2, h3, h4, h5, _⟩ := bk1_facts hR h
  exact pm_rack hR hr (by omega) (by omega) (by omega) h4 h5
--@tbl back = impl.back
theorem back_ok (R s : List Int) (hR : R.length = 24) (hs : s.length = 3) (hr : rackB R = true) : PureH Tryz.prog 87 [.arr R, .arr s] [] (.tup [.arr (if bk2 R (s.getD 0 0) (s.getD 1 0) (s.getD 2 0) = true then bkR R (s.getD 0 0) (s.getD 1 0) (s.getD 2 0) else List.replicate 24 0), .bool (bkB R (s.getD 0 0) (s.getD 1 0) (s.getD 2 0))]) := by
  have tkR : R.take 24 = R := List.take_of_length_le (by omega)
  have tks : s.take 3 = s := List.take_of_length_le (by omega)
  generalize hi0 : s.getD 0 0 = i
  generalize hj0 : s.getD 1 0 = j
  generalize hm0 : s.getD 2 0 = m
  have r24 : List.take 24 (List.replicate 24 (0 : Int)) = List.replicate 24 0 := rfl
  cases h1 : bk1 R i j m
  · have e : bk2 R i j m = false := by simp [bk2, h1]
    have e2 : bkB R i j m = false := by simp [bkB, e]
    rw [e, e2]
    cases hi : plF i <;> cases hj : plF j
    case true.true =>
      have bi := pl_bd hi
      have bj := pl_bd hj
      have ei : List.take 4 (List.drop (i.toNat * 4) R) = tubeAt R i.toNat := rfl
      have ej : List.take 4 (List.drop (j.toNat * 4) R) = tubeAt R j.toNat := rfl
      have li := tubeAt_len hR (i := i.toNat) (by omega)
      have lj := tubeAt_len hR (i := j.toNat) (by omega)
      have hh : i = j ∨ ¬ (1 ≤ m ∧ m ≤ min (topF (tubeAt R j.toNat)).2 (4 - (layN (tubeAt R i.toNat) : Int))) := by
        simp only [bk1, hi, hj, Bool.and_self, Bool.true_and, Bool.and_eq_false_iff, Bool.not_eq_false', decide_eq_true_eq, decide_eq_false_iff_not] at h1
        exact h1
      by_cases hij : i = j
      · subst hij
        refine pure_of_vc (X := ⟨Tryz.prog, tys, [(131, isPlace_F), (135, layers_F), (136, top_F), (69, within_F), (100, canPour_F), (101, pour_F)], [], true, true, 0, [], [(17, .holes [4])]⟩) fn_87 ⟨tys_ok, (.cons isPlace_T (.cons layers_T (.cons top_T (.cons within_T (.cons canPour_T (.cons pour_T .nil)))))), .nil, mixed⟩ (n0 := 0) (Nat.le_of_ble_eq_true rfl) (by simp [wfL, SV.wf]) (wfH_spec (by simp [wfH, SObj.wf])) (Nat.le_refl _) (fun _ => by simp [SV.wf, wfL]) ?_
        simp -implicitDefEqProofs only [Tryz.f87, Option.getD_some, argS, isPlace_F, layers_F, top_F, within_F, canPour_F, pour_F, hR, hs, tkR, tks, hi0, hj0, hm0, hi, r24, ei, li, ZB, Int.reduceToNat, Nat.reduceLT, Nat.reduceLeDiff, Int.reduceLE, Int.reduceLT, Nat.reduceEqDiff, Nat.reduceSub, SB, SV.known, packR, ne_eq, reduceCtorEq, Nat.reduceEqDiff, ↓reduceIte, if_true, if_false, eq_self, Nat.reduceAdd, Nat.reduceMul, Nat.reduceSub, forall_const, oneCellS, litOne, flat1, Kd.isSca, flat, TYB]
      · have hw : decide (1 ≤ m ∧ m ≤ min (topF (tubeAt R j.toNat)).2 (4 - (layN (tubeAt R i.toNat) : Int))) = false := by simp only [decide_eq_false_iff_not]; exact hh.resolve_left hij
        have la := lay_le _ li
        refine pure_of_vc (X := ⟨Tryz.prog, tys, [(131, isPlace_F), (135, layers_F), (136, top_F), (69, within_F), (100, canPour_F), (101, pour_F)], [], true, true, 0, [], [(17, .holes [4])]⟩) fn_87 ⟨tys_ok, (.cons isPlace_T (.cons layers_T (.cons top_T (.cons within_T (.cons canPour_T (.cons pour_T .nil)))))), .nil, mixed⟩ (n0 := 0) (Nat.le_of_ble_eq_true rfl) (by simp [wfL, SV.wf]) (wfH_spec (by simp [wfH, SObj.wf])) (Nat.le_refl _) (fun _ => by simp [SV.wf, wfL]) ?_
        simp -implicitDefEqProofs only [Tryz.f87, Option.getD_some, argS, isPlace_F, layers_F, top_F, within_F, canPour_F, pour_F, hR, hs, tkR, tks, hi0, hj0, hm0, hi, hj, r24, ei, ej, li, lj, hij, hw, ZB, Int.reduceToNat, Nat.reduceLT, Nat.reduceLeDiff, Int.reduceLE, Int.reduceLT, Nat.reduceEqDiff, Nat.reduceSub, SB, SV.known, packR, ne_eq, reduceCtorEq, Nat.reduceEqDiff, ↓reduceIte, if_true, if_false, eq_self, Nat.reduceAdd, Nat.reduceMul, Nat.reduceSub, forall_const, oneCellS, litOne, flat1, Kd.isSca, flat, TYB]
        (try (and_intros <;> try (first | omega | (unfold In64; omega) | trivial | assumption)))
    all_goals
      refine pure_of_vc (X := ⟨Tryz.prog, tys, [(131, isPlace_F), (135, layers_F), (136, top_F), (69, within_F), (100, canPour_F), (101, pour_F)], [], true, true, 0, [], [(17, .holes [4])]⟩) fn_87 ⟨tys_ok, (.cons isPlace_T (.cons layers_T (.cons top_T (.cons within_T (.cons canPour_T (.cons pour_T .nil)))))), .nil, mixed⟩ (n0 := 0) (Nat.le_of_ble_eq_true rfl) (by simp [wfL, SV.wf]) (wfH_spec (by simp [wfH, SObj.wf])) (Nat.le_refl _) (fun _ => by simp [SV.wf, wfL]) ?_
      simp -implicitDefEqProofs only [Tryz.f87, Option.getD_some, argS, isPlace_F, layers_F, top_F, within_F, canPour_F, pour_F, hR, hs, tkR, tks, hi0, hj0, hm0, hi, hj, r24, ZB, Int.reduceToNat, Nat.reduceLT, Nat.reduceLeDiff, Int.reduceLE, Int.reduceLT, Nat.reduceEqDiff, Nat.reduceSub, SB, SV.known, packR, ne_eq, reduceCtorEq, Nat.reduceEqDiff, ↓reduceIte, if_true, if_false, eq_self, Nat.reduceAdd, Nat.reduceMul, Nat.reduceSub, forall_const, oneCellS, litOne, flat1, Kd.isSca, flat, TYB]
  · obtain ⟨bi, bj, hij, g1, g2, g3, g4, g5, g6⟩ := bk1_facts hR h1
    have hi : plF i = true := by simp [plF, bi]
    have hj : plF j = true := by simp [plF, bj]
    have ei : List.take 4 (List.drop (i.toNat * 4) R) = tubeAt R i.toNat := rfl
    have ej : List.take 4 (List.drop (j.toNat * 4) R) = tubeAt R j.toNat := rfl
    have li := tubeAt_len hR (i := i.toNat) (by omega)
    have lj := tubeAt_len hR (i := j.toNat) (by omega)
    have hw : decide (1 ≤ m ∧ m ≤ min (topF (tubeAt R j.toNat)).2 (4 - (layN (tubeAt R i.toNat) : Int))) = true := by simp only [decide_eq_true_eq]; omega
    refine pure_of_vc (X := ⟨Tryz.prog, tys, [(131, isPlace_F), (135, layers_F), (136, top_F), (69, within_F), (100, canPour_F), (101, pour_F)], [], true, true, 0, [], [(17, .holes [4])]⟩) fn_87 ⟨tys_ok, (.cons isPlace_T (.cons layers_T (.cons top_T (.cons within_T (.cons canPour_T (.cons pour_T .nil)))))), .nil, mixed⟩ (n0 := 0) (Nat.le_of_ble_eq_true rfl) (by simp [wfL, SV.wf]) (wfH_spec (by simp [wfH, SObj.wf])) (Nat.le_refl _) (fun _ => by simp [SV.wf, wfL]) ?_
    simp -implicitDefEqProofs only [Tryz.f87, Option.getD_some, argS, isPlace_F, layers_F, top_F, within_F, canPour_F, pour_F, hR, hs, tkR, tks, hi0, hj0, hm0, hi, hj, r24, ei, ej, li, lj, hij, hw, ZB, Int.reduceToNat, Nat.reduceLT, Nat.reduceLeDiff, Int.reduceLE, Int.reduceLT, Nat.reduceEqDiff, Nat.reduceSub, SB, SV.known, packR, ne_eq, reduceCtorEq, Nat.reduceEqDiff, ↓reduceIte, if_true, if_false, eq_self, Nat.reduceAdd, Nat.reduceMul, Nat.reduceSub, forall_const, oneCellS, litOne, flat1, Kd.isSca, flat, TYB]
    have la := lay_le _ li
    have lb := lay_le _ lj
    (try (and_intros <;> try (first | omega | (unfold In64; omega) | trivial | assumption)))
    have bl := fun k => pmR_len R j.toNat i.toNat k
    refine loop_intro (fun k : Nat => [(65, .int k), (64, .int m), (10, .ptr 3 0), (2, .ptr 0 0), (3, .ptr 1 0), (4, .ptr 2 0), (8, .int (topF (tubeAt R j.toNat)).1), (6, .int (layN (tubeAt R i.toNat))), (7, .int (layN (tubeAt R j.toNat)))]) (fun k => [(3, .ints (pmR R j.toNat i.toNat k) 27), (2, .ints (List.replicate 24 0) 27), (1, .ints s 48), (0, .ints R 27)]) 4 (fun k => (k : Int) ≤ m) (fun k => m.toNat - k) ?_ ?_
    · refine ⟨0, ?_, Sub.mk_id ?_ ?_ ?_ ?_ ?_⟩
      all_goals (try (simp only [pmR, LB, subS, subH, wfS, wfH, SV.ren, renL, SObj.ren, SV.wf, SObj.wf, wfL, SV.known, Nat.reduceEqDiff, ↓reduceIte, if_true, if_false, eq_self, Nat.reduceAdd, Nat.reduceLT, Nat.reduceLeDiff, implies_true, reduceCtorEq, forall_const]; done))
      all_goals (try (simp only [pmR, LB, subS, subH, wfS, wfH, SV.ren, renL, SObj.ren, SV.wf, SObj.wf, wfL, SV.known, Nat.reduceEqDiff, ↓reduceIte, if_true, if_false, eq_self, Nat.reduceAdd, Nat.reduceLT, Nat.reduceLeDiff, implies_true, reduceCtorEq, forall_const]; simp; done))
      all_goals (try (simp only [pmR, LB, subS, subH, wfS, wfH, SV.ren, renL, SObj.ren, SV.wf, SObj.wf, wfL, SV.known, Nat.reduceEqDiff, ↓reduceIte, if_true, if_false, eq_self, Nat.reduceAdd, Nat.reduceLT, Nat.reduceLeDiff, implies_true, reduceCtorEq, forall_const]; (and_intros <;> (first | omega | rfl | (simp; done) | (simp; omega))); done))
      all_goals (try dsimp only)
      all_goals (and_intros <;> try (first | omega | (unfold In64; omega) | trivial | assumption))
    · intro k hk
      have blk := (bl k).trans hR
      by_cases hlt : (k : Int) < m
      · have e1 : ((layN (tubeAt R j.toNat) : Int) - 1 - k).toNat = layN (tubeAt R j.toNat) - 1 - k := by omega
        have e2 : ((layN (tubeAt R i.toNat) : Int) + k).toNat = layN (tubeAt R i.toNat) + k := by omega
        have es : pmR R j.toNat i.toNat (k + 1) = ((pmR R j.toNat i.toNat k).set (j.toNat * 4 + (layN (tubeAt R j.toNat) - 1 - k)) 0).set (i.toNat * 4 + (layN (tubeAt R i.toNat) + k)) (topF (tubeAt R j.toNat)).1 := rfl
        simp -implicitDefEqProofs only [lk_normal, hlt, hR, hs, hi0, hj0, hm0, blk, e1, e2, ZB, Int.reduceToNat, Nat.reduceLT, Nat.reduceLeDiff, Int.reduceLE, Int.reduceLT, Nat.reduceEqDiff, Nat.reduceSub, SB, SV.known, packR, ne_eq, reduceCtorEq, Nat.reduceEqDiff, ↓reduceIte, if_true, if_false, eq_self, Nat.reduceAdd, Nat.reduceMul, Nat.reduceSub, forall_const, oneCellS, litOne, flat1, Kd.isSca, flat, TYB]
        (try (and_intros <;> try (first | omega | (unfold In64; omega) | trivial | assumption)))
        refine ⟨k + 1, ?_, ?_, Sub.mk_id ?_ ?_ ?_ ?_ ?_⟩
        all_goals (try (simp only [es, LB, subS, subH, wfS, wfH, SV.ren, renL, SObj.ren, SV.wf, SObj.wf, wfL, SV.known, Nat.reduceEqDiff, ↓reduceIte, if_true, if_false, eq_self, Nat.reduceAdd, Nat.reduceLT, Nat.reduceLeDiff, implies_true, reduceCtorEq, forall_const]; done))
        all_goals (try (simp only [es, LB, subS, subH, wfS, wfH, SV.ren, renL, SObj.ren, SV.wf, SObj.wf, wfL, SV.known, Nat.reduceEqDiff, ↓reduceIte, if_true, if_false, eq_self, Nat.reduceAdd, Nat.reduceLT, Nat.reduceLeDiff, implies_true, reduceCtorEq, forall_const]; simp; done))
        all_goals (try (simp only [es, LB, subS, subH, wfS, wfH, SV.ren, renL, SObj.ren, SV.wf, SObj.wf, wfL, SV.known, Nat.reduceEqDiff, ↓reduceIte, if_true, if_false, eq_self, Nat.reduceAdd, Nat.reduceLT, Nat.reduceLeDiff, implies_true, reduceCtorEq, forall_const]; (and_intros <;> (first | omega | rfl | (simp; done) | (simp; omega))); done))
        all_goals (try dsimp only)
        all_goals (and_intros <;> try (first | omega | (unfold In64; omega) | trivial | assumption))
      · have hke : k = m.toNat := by omega
        subst hke
        have eb : pmR R j.toNat i.toNat m.toNat = bkR R i j m := rfl
        have bR := bkR_len hR i j m
        have tkB : (bkR R i j m).take 24 = bkR R i j m := List.take_of_length_le (by omega)
        have pl := pourF_len bR i.toNat j.toNat
        have tkP : (pourF (bkR R i j m) i.toNat j.toNat).take 24 = pourF (bkR R i j m) i.toNat j.toNat := List.take_of_length_le (by omega)
        rw [eb]
        cases hc : canF (bkR R i j m) i j
        · have e : bk2 R i j m = false := by simp [bk2, hc]
          have e2 : bkB R i j m = false := by simp [bkB, e]
          rw [e, e2]
          simp -implicitDefEqProofs only [lk_normal, canPour_F, pour_F, hlt, hR, hs, hi0, hj0, hm0, bR, tkB, hc, r24, ZB, Int.reduceToNat, Nat.reduceLT, Nat.reduceLeDiff, Int.reduceLE, Int.reduceLT, Nat.reduceEqDiff, Nat.reduceSub, SB, SV.known, packR, ne_eq, reduceCtorEq, Nat.reduceEqDiff, ↓reduceIte, if_true, if_false, eq_self, Nat.reduceAdd, Nat.reduceMul, Nat.reduceSub, forall_const, oneCellS, litOne, flat1, Kd.isSca, flat, TYB]
          (try (and_intros <;> try (first | omega | (unfold In64; omega) | trivial | assumption)))
        · have e : bk2 R i j m = true := by simp [bk2, hc, h1]
          rw [e]
          have e2 : bkB R i j m = (decide (pourF (bkR R i j m) i.toNat j.toNat = R) && decide (pmN (bkR R i j m) i.toNat j.toNat = m)) := by simp [bkB, e]
          rw [e2]
          have eqr := eqI_rack
          simp -implicitDefEqProofs only [lk_normal, canPour_F, pour_F, hlt, hR, hs, hi0, hj0, hm0, bR, tkB, tkR, pl, tkP, hc, r24, eqr, ZB, Int.reduceToNat, Nat.reduceLT, Nat.reduceLeDiff, Int.reduceLE, Int.reduceLT, Nat.reduceEqDiff, Nat.reduceSub, SB, SV.known, packR, ne_eq, reduceCtorEq, Nat.reduceEqDiff, ↓reduceIte, if_true, if_false, eq_self, Nat.reduceAdd, Nat.reduceMul, Nat.reduceSub, forall_const, oneCellS, litOne, flat1, Kd.isSca, flat, TYB]
          (try (and_intros <;> try (first | omega | (unfold In64; omega) | trivial | assumption)))
          all_goals (intro h; simp [h])
def back_F : List SV → Heap → Option (Prop × SV)
  | [.arr R, .arr s], _ => some (R.length = 24 ∧ s.length = 3 ∧ rackB R = true, .tup [.arr (if bk2 R (s.getD 0 0) (s.getD 1 0) (s.getD 2 0) = true then bkR R (s.getD 0 0) (s.getD 1 0) (s.getD 2 0) else List.replicate 24 0), .bool (bkB R (s.getD 0 0) (s.getD 1 0) (s.getD 2 0))])
  | _, _ => none
theorem back_T : ∀ args H p v, back_F args H = some (p, v) → p → PureH Tryz.prog 87 args H v := by
  intro args H p v h hp
  unfold back_F at h
  split at h
  · cases h; exact (back_ok _ _ hp.1 hp.2.1 hp.2.2).any _
  · cases h
--@tbl l5Back = spec.l5Back
def bkT (R : List Int) (i j m : Int) : List Int := if bkB R i j m = true then bkR R i j m else List.replicate 24 0
theorem bkT_len {R : List Int} (hR : R.length = 24) (i j m : Int) : (bkT R i j m).length = 24 := by
  unfold bkT
  split
  · exact bkR_len hR i j m
  · rfl
theorem l5Back_ok (R s : List Int) (hR : R.length = 24) (hs : s.length = 3) (hr : rackB R = true) : PureH Tryz.prog 88 [.arr R, .arr s] [] (.tup [.arr (bkT R (s.getD 0 0) (s.getD 1 0) (s.getD 2 0)), .bool (bkB R (s.getD 0 0) (s.getD 1 0) (s.getD 2 0))]) := by
  have tkR : R.take 24 = R := List.take_of_length_le (by omega)
  have tks : s.take 3 = s := List.take_of_length_le (by omega)
  unfold bkT
  generalize hi0 : s.getD 0 0 = i
  generalize hj0 : s.getD 1 0 = j
  generalize hm0 : s.getD 2 0 = m
  have r24 : List.take 24 (List.replicate 24 (0 : Int)) = List.replicate 24 0 := rfl
  cases h1 : bk1 R i j m
  · have e : bk2 R i j m = false := by simp [bk2, h1]
    have e2 : bkB R i j m = false := by simp [bkB, e]
    rw [e2]
    cases hi : plF i <;> cases hj : plF j
    case true.true =>
      have bi := pl_bd hi
      have bj := pl_bd hj
      have ei : List.take 4 (List.drop (i.toNat * 4) R) = tubeAt R i.toNat := rfl
      have ej : List.take 4 (List.drop (j.toNat * 4) R) = tubeAt R j.toNat := rfl
      have li := tubeAt_len hR (i := i.toNat) (by omega)
      have lj := tubeAt_len hR (i := j.toNat) (by omega)
      have ti := tubeAt_ok hr (i := i.toNat) (by omega)
      have tj := tubeAt_ok hr (i := j.toNat) (by omega)
      have pi := posC_lay _ li ti
      have pj := posC_lay _ lj tj
      have hh : i = j ∨ ¬ (1 ≤ m ∧ m ≤ min (topF (tubeAt R j.toNat)).2 (4 - (layN (tubeAt R i.toNat) : Int))) := by
        simp only [bk1, hi, hj, Bool.and_self, Bool.true_and, Bool.and_eq_false_iff, Bool.not_eq_false', decide_eq_true_eq, decide_eq_false_iff_not] at h1
        exact h1
      by_cases hij : i = j
      · subst hij
        refine pure_of_vc (X := ⟨Tryz.prog, tys, [(109, l2Place_F), (127, l2Top_F), (128, l2Many_F), (72, l1In_F), (129, l1Least_F)], [], true, true, 0, [], []⟩) fn_88 ⟨tys_ok, (.cons l2Place_T (.cons l2Top_T (.cons l2Many_T (.cons l1In_T (.cons l1Least_T .nil))))), .nil, mixed⟩ (n0 := 0) (Nat.le_of_ble_eq_true rfl) (by simp [wfL, SV.wf]) (wfH_spec (by simp [wfH, SObj.wf])) (Nat.le_refl _) (fun _ => by simp [SV.wf, wfL]) ?_
        simp -implicitDefEqProofs only [Tryz.f88, Option.getD_some, argS, l2Place_F, l2Top_F, l2Many_F, l1In_F, l1Least_F, hR, hs, tkR, tks, hi0, hj0, hm0, hi, r24, ei, li, ti, pi, ZB, Int.reduceToNat, Nat.reduceLT, Nat.reduceLeDiff, Int.reduceLE, Int.reduceLT, Nat.reduceEqDiff, Nat.reduceSub, SB, SV.known, packR, ne_eq, reduceCtorEq, Nat.reduceEqDiff, ↓reduceIte, if_true, if_false, eq_self, Nat.reduceAdd, Nat.reduceMul, Nat.reduceSub, forall_const, oneCellS, litOne, flat1, Kd.isSca, flat, TYB]
      · have hw : decide (1 ≤ m ∧ m ≤ min (topF (tubeAt R j.toNat)).2 (4 - (layN (tubeAt R i.toNat) : Int))) = false := by simp only [decide_eq_false_iff_not]; exact hh.resolve_left hij
        have la := lay_le _ li
        refine pure_of_vc (X := ⟨Tryz.prog, tys, [(109, l2Place_F), (127, l2Top_F), (128, l2Many_F), (72, l1In_F), (129, l1Least_F)], [], true, true, 0, [], []⟩) fn_88 ⟨tys_ok, (.cons l2Place_T (.cons l2Top_T (.cons l2Many_T (.cons l1In_T (.cons l1Least_T .nil))))), .nil, mixed⟩ (n0 := 0) (Nat.le_of_ble_eq_true rfl) (by simp [wfL, SV.wf]) (wfH_spec (by simp [wfH, SObj.wf])) (Nat.le_refl _) (fun _ => by simp [SV.wf, wfL]) ?_
        simp -implicitDefEqProofs only [Tryz.f88, Option.getD_some, argS, l2Place_F, l2Top_F, l2Many_F, l1In_F, l1Least_F, hR, hs, tkR, tks, hi0, hj0, hm0, hi, hj, r24, ei, ej, li, lj, ti, tj, pi, pj, hij, hw, ZB, Int.reduceToNat, Nat.reduceLT, Nat.reduceLeDiff, Int.reduceLE, Int.reduceLT, Nat.reduceEqDiff, Nat.reduceSub, SB, SV.known, packR, ne_eq, reduceCtorEq, Nat.reduceEqDiff, ↓reduceIte, if_true, if_false, eq_self, Nat.reduceAdd, Nat.reduceMul, Nat.reduceSub, forall_const, oneCellS, litOne, flat1, Kd.isSca, flat, TYB]
        (try (and_intros <;> try (first | omega | (unfold In64; omega) | trivial | assumption)))
    all_goals
      refine pure_of_vc (X := ⟨Tryz.prog, tys, [(109, l2Place_F), (127, l2Top_F), (128, l2Many_F), (72, l1In_F), (129, l1Least_F)], [], true, true, 0, [], []⟩) fn_88 ⟨tys_ok, (.cons l2Place_T (.cons l2Top_T (.cons l2Many_T (.cons l1In_T (.cons l1Least_T .nil))))), .nil, mixed⟩ (n0 := 0) (Nat.le_of_ble_eq_true rfl) (by simp [wfL, SV.wf]) (wfH_spec (by simp [wfH, SObj.wf])) (Nat.le_refl _) (fun _ => by simp [SV.wf, wfL]) ?_
      simp -implicitDefEqProofs only [Tryz.f88, Option.getD_some, argS, l2Place_F, l2Top_F, l2Many_F, l1In_F, l1Least_F, hR, hs, tkR, tks, hi0, hj0, hm0, hi, hj, r24, ZB, Int.reduceToNat, Nat.reduceLT, Nat.reduceLeDiff, Int.reduceLE, Int.reduceLT, Nat.reduceEqDiff, Nat.reduceSub, SB, SV.known, packR, ne_eq, reduceCtorEq, Nat.reduceEqDiff, ↓reduceIte, if_true, if_false, eq_self, Nat.reduceAdd, Nat.reduceMul, Nat.reduceSub, forall_const, oneCellS, litOne, flat1, Kd.isSca, flat, TYB]
  · obtain ⟨bi, bj, hij, g1, g2, g3, g4, g5, g6⟩ := bk1_facts hR h1
    have hi : plF i = true := by simp [plF, bi]
    have hj : plF j = true := by simp [plF, bj]
    have ei : List.take 4 (List.drop (i.toNat * 4) R) = tubeAt R i.toNat := rfl
    have ej : List.take 4 (List.drop (j.toNat * 4) R) = tubeAt R j.toNat := rfl
    have li := tubeAt_len hR (i := i.toNat) (by omega)
    have lj := tubeAt_len hR (i := j.toNat) (by omega)
    have ti := tubeAt_ok hr (i := i.toNat) (by omega)
    have tj := tubeAt_ok hr (i := j.toNat) (by omega)
    have pi := posC_lay _ li ti
    have pj := posC_lay _ lj tj
    have hw : decide (1 ≤ m ∧ m ≤ min (topF (tubeAt R j.toNat)).2 (4 - (layN (tubeAt R i.toNat) : Int))) = true := by simp only [decide_eq_true_eq]; omega
    refine pure_of_vc (X := ⟨Tryz.prog, tys, [(109, l2Place_F), (127, l2Top_F), (128, l2Many_F), (72, l1In_F), (129, l1Least_F), (110, l2Can_F), (77, l2Pour_F)], [], true, true, 0, [], []⟩) fn_88 ⟨tys_ok, (.cons l2Place_T (.cons l2Top_T (.cons l2Many_T (.cons l1In_T (.cons l1Least_T (.cons l2Can_T (.cons l2Pour_T .nil))))))), .nil, mixed⟩ (n0 := 0) (Nat.le_of_ble_eq_true rfl) (by simp [wfL, SV.wf]) (wfH_spec (by simp [wfH, SObj.wf])) (Nat.le_refl _) (fun _ => by simp [SV.wf, wfL]) ?_
    simp -implicitDefEqProofs only [Tryz.f88, Option.getD_some, argS, l2Place_F, l2Top_F, l2Many_F, l1In_F, l1Least_F, l2Can_F, l2Pour_F, hR, hs, tkR, tks, hi0, hj0, hm0, hi, hj, r24, ei, ej, li, lj, ti, tj, pi, pj, hij, hw, ZB, Int.reduceToNat, Nat.reduceLT, Nat.reduceLeDiff, Int.reduceLE, Int.reduceLT, Nat.reduceEqDiff, Nat.reduceSub, SB, SV.known, packR, ne_eq, reduceCtorEq, Nat.reduceEqDiff, ↓reduceIte, if_true, if_false, eq_self, Nat.reduceAdd, Nat.reduceMul, Nat.reduceSub, forall_const, oneCellS, litOne, flat1, Kd.isSca, flat, TYB]
    have la := lay_le _ li
    have lb := lay_le _ lj
    (try (and_intros <;> try (first | omega | (unfold In64; omega) | trivial | assumption)))
    have bl := fun k => pmR_len R j.toNat i.toNat k
    refine loop_intro (fun k : Nat => [(11, .int k), (10, .ptr 3 0), (2, .ptr 0 0), (3, .ptr 1 0), (4, .ptr 2 0), (6, .int (topF (tubeAt R j.toNat)).1), (8, .int (layN (tubeAt R i.toNat))), (9, .int (layN (tubeAt R j.toNat)))]) (fun k => [(3, .ints (pmR R j.toNat i.toNat k) 27), (2, .ints (List.replicate 24 0) 27), (1, .ints s 48), (0, .ints R 27)]) 4 (fun k => (k : Int) ≤ m) (fun k => m.toNat - k) ?_ ?_
    · refine ⟨0, ?_, Sub.mk_id ?_ ?_ ?_ ?_ ?_⟩
      all_goals (try (simp only [pmR, LB, subS, subH, wfS, wfH, SV.ren, renL, SObj.ren, SV.wf, SObj.wf, wfL, SV.known, Nat.reduceEqDiff, ↓reduceIte, if_true, if_false, eq_self, Nat.reduceAdd, Nat.reduceLT, Nat.reduceLeDiff, implies_true, reduceCtorEq, forall_const]; done))
      all_goals (try (simp only [pmR, LB, subS, subH, wfS, wfH, SV.ren, renL, SObj.ren, SV.wf, SObj.wf, wfL, SV.known, Nat.reduceEqDiff, ↓reduceIte, if_true, if_false, eq_self, Nat.reduceAdd, Nat.reduceLT, Nat.reduceLeDiff, implies_true, reduceCtorEq, forall_const]; simp; done))
      all_goals (try (simp only [pmR, LB, subS, subH, wfS, wfH, SV.ren, renL, SObj.ren, SV.wf, SObj.wf, wfL, SV.known, Nat.reduceEqDiff, ↓reduceIte, if_true, if_false, eq_self, Nat.reduceAdd, Nat.reduceLT, Nat.reduceLeDiff, implies_true, reduceCtorEq, forall_const]; (and_intros <;> (first | omega | rfl | (simp; done) | (simp; omega))); done))
      all_goals (try dsimp only)
      all_goals (and_intros <;> try (first | omega | (unfold In64; omega) | trivial | assumption))
    · intro k hk
      have blk := (bl k).trans hR
      by_cases hlt : (k : Int) < m
      · have e1 : ((layN (tubeAt R j.toNat) : Int) - 1 - k).toNat = layN (tubeAt R j.toNat) - 1 - k := by omega
        have e2 : ((layN (tubeAt R i.toNat) : Int) + k).toNat = layN (tubeAt R i.toNat) + k := by omega
        have es : pmR R j.toNat i.toNat (k + 1) = ((pmR R j.toNat i.toNat k).set (j.toNat * 4 + (layN (tubeAt R j.toNat) - 1 - k)) 0).set (i.toNat * 4 + (layN (tubeAt R i.toNat) + k)) (topF (tubeAt R j.toNat)).1 := rfl
        simp -implicitDefEqProofs only [lk_normal, hlt, hR, hs, hi0, hj0, hm0, blk, e1, e2, ZB, Int.reduceToNat, Nat.reduceLT, Nat.reduceLeDiff, Int.reduceLE, Int.reduceLT, Nat.reduceEqDiff, Nat.reduceSub, SB, SV.known, packR, ne_eq, reduceCtorEq, Nat.reduceEqDiff, ↓reduceIte, if_true, if_false, eq_self, Nat.reduceAdd, Nat.reduceMul, Nat.reduceSub, forall_const, oneCellS, litOne, flat1, Kd.isSca, flat, TYB]
        (try (and_intros <;> try (first | omega | (unfold In64; omega) | trivial | assumption)))
        refine ⟨k + 1, ?_, ?_, Sub.mk_id ?_ ?_ ?_ ?_ ?_⟩
        all_goals (try (simp only [es, LB, subS, subH, wfS, wfH, SV.ren, renL, SObj.ren, SV.wf, SObj.wf, wfL, SV.known, Nat.reduceEqDiff, ↓reduceIte, if_true, if_false, eq_self, Nat.reduceAdd, Nat.reduceLT, Nat.reduceLeDiff, implies_true, reduceCtorEq, forall_const]; done))
        all_goals (try (simp only [es, LB, subS, subH, wfS, wfH, SV.ren, renL, SObj.ren, SV.wf, SObj.wf, wfL, SV.known, Nat.reduceEqDiff, ↓reduceIte, if_true, if_false, eq_self, Nat.reduceAdd, Nat.reduceLT, Nat.reduceLeDiff, implies_true, reduceCtorEq, forall_const]; simp; done))
        all_goals (try (simp only [es, LB, subS, subH, wfS, wfH, SV.ren, renL, SObj.ren, SV.wf, SObj.wf, wfL, SV.known, Nat.reduceEqDiff, ↓reduceIte, if_true, if_false, eq_self, Nat.reduceAdd, Nat.reduceLT, Nat.reduceLeDiff, implies_true, reduceCtorEq, forall_const]; (and_intros <;> (first | omega | rfl | (simp; done) | (simp; omega))); done))
        all_goals (try dsimp only)
        all_goals (and_intros <;> try (first | omega | (unfold In64; omega) | trivial | assumption))
      · have hke : k = m.toNat := by omega
        subst hke
        have eb : pmR R j.toNat i.toNat m.toNat = bkR R i j m := rfl
        have bR := bkR_len hR i j m
        have tkB : (bkR R i j m).take 24 = bkR R i j m := List.take_of_length_le (by omega)
        have pl := pourF_len bR i.toNat j.toNat
        have tkP : (pourF (bkR R i j m) i.toNat j.toNat).take 24 = pourF (bkR R i j m) i.toNat j.toNat := List.take_of_length_le (by omega)
        rw [eb]
        have brk := bk_rack hR hr h1
        cases hc : canF (bkR R i j m) i j
        · have e : bk2 R i j m = false := by simp [bk2, hc]
          have e2 : bkB R i j m = false := by simp [bkB, e]
          rw [e2]
          simp -implicitDefEqProofs only [lk_normal, l2Can_F, l2Pour_F, hlt, hR, hs, hi0, hj0, hm0, bR, brk, tkB, hc, r24, ZB, Int.reduceToNat, Nat.reduceLT, Nat.reduceLeDiff, Int.reduceLE, Int.reduceLT, Nat.reduceEqDiff, Nat.reduceSub, SB, SV.known, packR, ne_eq, reduceCtorEq, Nat.reduceEqDiff, ↓reduceIte, if_true, if_false, eq_self, Nat.reduceAdd, Nat.reduceMul, Nat.reduceSub, forall_const, oneCellS, litOne, flat1, Kd.isSca, flat, TYB]
          (try (and_intros <;> try (first | omega | (unfold In64; omega) | trivial | assumption)))
        · have e : bk2 R i j m = true := by simp [bk2, hc, h1]
          have e2 : bkB R i j m = (decide (pourF (bkR R i j m) i.toNat j.toNat = R) && decide (pmN (bkR R i j m) i.toNat j.toNat = m)) := by simp [bkB, e]
          rw [e2]
          have eqr := eqI_rack
          simp -implicitDefEqProofs only [lk_normal, l2Can_F, l2Pour_F, hlt, hR, hs, hi0, hj0, hm0, bR, brk, tkB, tkR, pl, tkP, hc, r24, eqr, ZB, Int.reduceToNat, Nat.reduceLT, Nat.reduceLeDiff, Int.reduceLE, Int.reduceLT, Nat.reduceEqDiff, Nat.reduceSub, SB, SV.known, packR, ne_eq, reduceCtorEq, Nat.reduceEqDiff, ↓reduceIte, if_true, if_false, eq_self, Nat.reduceAdd, Nat.reduceMul, Nat.reduceSub, forall_const, oneCellS, litOne, flat1, Kd.isSca, flat, TYB]
          (try (and_intros <;> try (first | omega | (unfold In64; omega) | trivial | assumption)))
          all_goals (intro h; first | (refine ⟨fun h2 => ?_, fun h2 => ?_⟩ <;> (simp [h, h2]; done)) | (simp [h]; done))
def l5Back_F : List SV → Heap → Option (Prop × SV)
  | [.arr R, .arr s], _ => some (R.length = 24 ∧ s.length = 3 ∧ rackB R = true, .tup [.arr (bkT R (s.getD 0 0) (s.getD 1 0) (s.getD 2 0)), .bool (bkB R (s.getD 0 0) (s.getD 1 0) (s.getD 2 0))])
  | _, _ => none
theorem l5Back_T : ∀ args H p v, l5Back_F args H = some (p, v) → p → PureH Tryz.prog 88 args H v := by
  intro args H p v h hp
  unfold l5Back_F at h
  split at h
  · cases h; exact (l5Back_ok _ _ hp.1 hp.2.1 hp.2.2).any _
  · cases h
--@tbl PourBack = impl.PourBack
--@tbl sPourBack = spec.PourBack
def pbkT (R s : List Int) : List Int := if rackB R = true then bkT R (s.getD 0 0) (s.getD 1 0) (s.getD 2 0) else List.replicate 24 0
def pbkB (R s : List Int) : Bool := rackB R && bkB R (s.getD 0 0) (s.getD 1 0) (s.getD 2 0)
theorem pbkT_len {R : List Int} (hR : R.length = 24) (s : List Int) : (pbkT R s).length = 24 := by
  unfold pbkT
  split
  · exact bkT_len hR _ _ _
  · rfl
theorem bk_21 {R : List Int} {i j m : Int} (h : bkB R i j m = true) : bk2 R i j m = true := by
  simp only [bkB, Bool.and_eq_true] at h
  exact h.1.1
theorem PourBack_ok (R s : List Int) (hR : R.length = 24) (hs : s.length = 3) : PureH Tryz.prog 23 [.arr R, .arr s] [] (.tup [.arr (pbkT R s), .bool (pbkB R s)]) := by
  have tkR : R.take 24 = R := List.take_of_length_le (by omega)
  have tks : s.take 3 = s := List.take_of_length_le (by omega)
  have r24 : List.take 24 (List.replicate 24 (0 : Int)) = List.replicate 24 0 := rfl
  unfold pbkT pbkB bkT
  cases hr : rackB R
  · refine pure_of_vc (X := ⟨Tryz.prog, tys, [(62, IsRack_F), (87, back_F)], [], true, true, 0, [], []⟩) fn_23 ⟨tys_ok, (.cons IsRack_T (.cons back_T .nil)), .nil, mixed⟩ (n0 := 0) (Nat.le_of_ble_eq_true rfl) (by simp [wfL, SV.wf]) (wfH_spec (by simp [wfH, SObj.wf])) (Nat.le_refl _) (fun _ => by simp [SV.wf, wfL]) ?_
    simp -implicitDefEqProofs only [Tryz.f23, Option.getD_some, argS, IsRack_F, back_F, hR, hs, tkR, tks, hr, r24, ZB, Int.reduceToNat, Nat.reduceLT, Nat.reduceLeDiff, Int.reduceLE, Int.reduceLT, Nat.reduceEqDiff, Nat.reduceSub, SB, SV.known, packR, ne_eq, reduceCtorEq, Nat.reduceEqDiff, ↓reduceIte, if_true, if_false, eq_self, Nat.reduceAdd, Nat.reduceMul, Nat.reduceSub, forall_const, oneCellS, litOne, flat1, Kd.isSca, flat, TYB]
  · have bR := bkR_len hR (s.getD 0 0) (s.getD 1 0) (s.getD 2 0)
    have tkB : (bkR R (s.getD 0 0) (s.getD 1 0) (s.getD 2 0)).take 24 = bkR R (s.getD 0 0) (s.getD 1 0) (s.getD 2 0) := List.take_of_length_le (by omega)
    cases hb : bkB R (s.getD 0 0) (s.getD 1 0) (s.getD 2 0)
    · cases h2 : bk2 R (s.getD 0 0) (s.getD 1 0) (s.getD 2 0)
      all_goals
        refine pure_of_vc (X := ⟨Tryz.prog, tys, [(62, IsRack_F), (87, back_F)], [], true, true, 0, [], []⟩) fn_23 ⟨tys_ok, (.cons IsRack_T (.cons back_T .nil)), .nil, mixed⟩ (n0 := 0) (Nat.le_of_ble_eq_true rfl) (by simp [wfL, SV.wf]) (wfH_spec (by simp [wfH, SObj.wf])) (Nat.le_refl _) (fun _ => by simp [SV.wf, wfL]) ?_
        simp -implicitDefEqProofs only [Tryz.f23, Option.getD_some, argS, IsRack_F, back_F, hR, hs, tkR, tks, hr, hb, h2, r24, bR, tkB, ZB, Int.reduceToNat, Nat.reduceLT, Nat.reduceLeDiff, Int.reduceLE, Int.reduceLT, Nat.reduceEqDiff, Nat.reduceSub, SB, SV.known, packR, ne_eq, reduceCtorEq, Nat.reduceEqDiff, ↓reduceIte, if_true, if_false, eq_self, Nat.reduceAdd, Nat.reduceMul, Nat.reduceSub, forall_const, oneCellS, litOne, flat1, Kd.isSca, flat, TYB]
    · have h2 := bk_21 hb
      refine pure_of_vc (X := ⟨Tryz.prog, tys, [(62, IsRack_F), (87, back_F)], [], true, true, 0, [], []⟩) fn_23 ⟨tys_ok, (.cons IsRack_T (.cons back_T .nil)), .nil, mixed⟩ (n0 := 0) (Nat.le_of_ble_eq_true rfl) (by simp [wfL, SV.wf]) (wfH_spec (by simp [wfH, SObj.wf])) (Nat.le_refl _) (fun _ => by simp [SV.wf, wfL]) ?_
      simp -implicitDefEqProofs only [Tryz.f23, Option.getD_some, argS, IsRack_F, back_F, hR, hs, tkR, tks, hr, hb, h2, r24, bR, tkB, ZB, Int.reduceToNat, Nat.reduceLT, Nat.reduceLeDiff, Int.reduceLE, Int.reduceLT, Nat.reduceEqDiff, Nat.reduceSub, SB, SV.known, packR, ne_eq, reduceCtorEq, Nat.reduceEqDiff, ↓reduceIte, if_true, if_false, eq_self, Nat.reduceAdd, Nat.reduceMul, Nat.reduceSub, forall_const, oneCellS, litOne, flat1, Kd.isSca, flat, TYB]
theorem sPourBack_ok (R s : List Int) (hR : R.length = 24) (hs : s.length = 3) : PureH Tryz.prog 24 [.arr R, .arr s] [] (.tup [.arr (pbkT R s), .bool (pbkB R s)]) := by
  have tkR : R.take 24 = R := List.take_of_length_le (by omega)
  have tks : s.take 3 = s := List.take_of_length_le (by omega)
  have r24 : List.take 24 (List.replicate 24 (0 : Int)) = List.replicate 24 0 := rfl
  have bT := bkT_len hR (s.getD 0 0) (s.getD 1 0) (s.getD 2 0)
  have tkT : (bkT R (s.getD 0 0) (s.getD 1 0) (s.getD 2 0)).take 24 = bkT R (s.getD 0 0) (s.getD 1 0) (s.getD 2 0) := List.take_of_length_le (by omega)
  unfold pbkT pbkB
  cases hr : rackB R
  all_goals
    refine pure_of_vc (X := ⟨Tryz.prog, tys, [(64, l2Rack_F), (88, l5Back_F)], [], true, true, 0, [], []⟩) fn_24 ⟨tys_ok, (.cons l2Rack_T (.cons l5Back_T .nil)), .nil, mixed⟩ (n0 := 0) (Nat.le_of_ble_eq_true rfl) (by simp [wfL, SV.wf]) (wfH_spec (by simp [wfH, SObj.wf])) (Nat.le_refl _) (fun _ => by simp [SV.wf, wfL]) ?_
    simp -implicitDefEqProofs only [Tryz.f24, Option.getD_some, argS, l2Rack_F, l5Back_F, hR, hs, tkR, tks, hr, r24, bT, tkT, ZB, Int.reduceToNat, Nat.reduceLT, Nat.reduceLeDiff, Int.reduceLE, Int.reduceLT, Nat.reduceEqDiff, Nat.reduceSub, SB, SV.known, packR, ne_eq, reduceCtorEq, Nat.reduceEqDiff, ↓reduceIte, if_true, if_false, eq_self, Nat.reduceAdd, Nat.reduceMul, Nat.reduceSub, forall_const, oneCellS, litOne, flat1, Kd.isSca, flat, TYB]
def PourBack_F : List SV → Heap → Option (Prop × SV)
  | [.arr R, .arr s], _ => some (R.length = 24 ∧ s.length = 3, .tup [.arr (pbkT R s), .bool (pbkB R s)])
  | _, _ => none
theorem PourBack_T : ∀ args H p v, PourBack_F args H = some (p, v) → p → PureH Tryz.prog 23 args H v := by
  intro args H p v h hp
  unfold PourBack_F at h
  split at h
  · cases h; exact (PourBack_ok _ _ hp.1 hp.2).any _
  · cases h
def sPourBack_F : List SV → Heap → Option (Prop × SV)
  | [.arr R, .arr s], _ => some (R.length = 24 ∧ s.length = 3, .tup [.arr (pbkT R s), .bool (pbkB R s)])
  | _, _ => none
theorem sPourBack_T : ∀ args H p v, sPourBack_F args H = some (p, v) → p → PureH Tryz.prog 24 args H v := by
  intro args H p v h hp
  unfold sPourBack_F at h
  split at h
  · cases h; exact (sPourBack_ok _ _ hp.1 hp.2).any _
  · cases h
end Go.Proofs.YtmccafjblhbmkaaGreat
