/- Walks: forms (racks with sorted tubes). -/
import Derived.Test.YtdnechlmkbchaaaCmp
import Derived.Test.YtdnechlmkbchaaaS
import Derived.Test.YtdnechlmkbchaaaN
set_option maxRecDepth 100000
set_option linter.unusedSimpArgs false
set_option linter.unusedVariables false
namespace Go.Proofs.Ytdnechlmkbchaaa
open Go Go.RowKit
--@tbl l3Below = spec.l3Below
theorem l3Below_ok (x y : List Int) (hx : x.length = 4) (hy : y.length = 4) : PureH Try.prog 90 [.arr x, .arr y] [] (.bool (decide (lexC x y < 0))) := by
  have tx : x.take 4 = x := List.take_of_length_le (by omega)
  have ty : y.take 4 = y := List.take_of_length_le (by omega)
  refine pure_of_vc (X := ⟨Try.prog, tys, [], [], true, true, 0, [], []⟩) fn_90 ⟨tys_ok, .nil, .nil, mixed⟩ (n0 := 0) (Nat.le_of_ble_eq_true rfl) (by simp [wfL, SV.wf]) (wfH_spec (by simp [wfH, SObj.wf])) (Nat.le_refl _) (fun _ => by simp [SV.wf, wfL]) ?_
  simp -implicitDefEqProofs only [Try.f90, Option.getD_some, argS, hx, hy, tx, ty, ZB, Int.reduceToNat, Nat.reduceLT, Nat.reduceLeDiff, Int.reduceLE, Int.reduceLT, Nat.reduceEqDiff, Nat.reduceSub, SB, SV.known, packR, ne_eq, reduceCtorEq, Nat.reduceEqDiff, ↓reduceIte, if_true, if_false, eq_self, Nat.reduceAdd, Nat.reduceMul, Nat.reduceSub, forall_const, oneCellS, litOne, flat1, Kd.isSca, flat, TYB]
  refine loop_intro (fun i : Nat => [(5, .int i), (3, .ptr 1 0), (2, .ptr 0 0)]) (fun _ => [(1, .ints y 22), (0, .ints x 22)]) 2 (fun i => i ≤ 4 ∧ lexC x y = lexC (x.drop i) (y.drop i)) (fun i => 4 - i) ?_ ?_
  · refine ⟨0, ⟨by omega, rfl⟩, Sub.mk_id ?_ ?_ ?_ ?_ ?_⟩
    all_goals ((try simp only [LB, subS, subH, wfS, wfH, SV.ren, renL, SObj.ren, SV.wf, SObj.wf, wfL, SV.known, Nat.reduceEqDiff, ↓reduceIte, if_true, if_false, eq_self, Nat.reduceAdd, Nat.reduceLT, Nat.reduceLeDiff, implies_true, reduceCtorEq, forall_const]) <;> simp)
  · rintro i ⟨hi, he⟩
    by_cases hlt : i < 4
    · have hil : (i : Int) < 4 := by omega
      have hix : i < x.length := by omega
      have hiy : i < y.length := by omega
      have st := lexC_step x y 4 i hlt (by omega) (by omega)
      rw [tx, ty, ← he] at st
      unfold icmp at st
      by_cases hc : x.getD i 0 = y.getD i 0
      · simp only [hc, Int.lt_irrefl, if_false, if_true] at st
        simp -implicitDefEqProofs only [lk_normal, hil, hix, hiy, hx, hy, hlt, hc, ZB, Int.reduceToNat, Nat.reduceLT, Nat.reduceLeDiff, Int.reduceLE, Int.reduceLT, Nat.reduceEqDiff, Nat.reduceSub, SB, SV.known, packR, ne_eq, reduceCtorEq, Nat.reduceEqDiff, ↓reduceIte, if_true, if_false, eq_self, Nat.reduceAdd, Nat.reduceMul, Nat.reduceSub, forall_const, oneCellS, litOne, flat1, Kd.isSca, flat, TYB]
        refine ⟨by omega, by omega, by unfold In64; omega, i + 1, ⟨by omega, st⟩, by omega, Sub.mk_id ?_ ?_ ?_ ?_ ?_⟩
        all_goals ((try simp only [LB, subS, subH, wfS, wfH, SV.ren, renL, SObj.ren, SV.wf, SObj.wf, wfL, SV.known, Nat.reduceEqDiff, ↓reduceIte, if_true, if_false, eq_self, Nat.reduceAdd, Nat.reduceLT, Nat.reduceLeDiff, implies_true, reduceCtorEq, forall_const]) <;> simp)
      · simp -implicitDefEqProofs only [lk_normal, hil, hix, hiy, hx, hy, hlt, hc, ZB, Int.reduceToNat, Nat.reduceLT, Nat.reduceLeDiff, Int.reduceLE, Int.reduceLT, Nat.reduceEqDiff, Nat.reduceSub, SB, SV.known, packR, ne_eq, reduceCtorEq, Nat.reduceEqDiff, ↓reduceIte, if_true, if_false, eq_self, Nat.reduceAdd, Nat.reduceMul, Nat.reduceSub, forall_const, oneCellS, litOne, flat1, Kd.isSca, flat, TYB]
        refine ⟨by omega, by omega, by omega, by omega, ?_⟩
        congr 1
        apply propext
        rw [st]
        repeat' split
        all_goals omega
    · have hil : ¬ (i : Int) < 4 := by omega
      obtain rfl : i = 4 := by omega
      have e0 : lexC x y = 0 := by
        rw [he, List.drop_eq_nil_of_le (by omega)]; rfl
      simp -implicitDefEqProofs only [lk_normal, hil, e0, Int.lt_irrefl, ZB, Int.reduceToNat, Nat.reduceLT, Nat.reduceLeDiff, Int.reduceLE, Int.reduceLT, Nat.reduceEqDiff, Nat.reduceSub, SB, SV.known, packR, ne_eq, reduceCtorEq, Nat.reduceEqDiff, ↓reduceIte, if_true, if_false, eq_self, Nat.reduceAdd, Nat.reduceMul, Nat.reduceSub, forall_const, oneCellS, litOne, flat1, Kd.isSca, flat, TYB]
def l3Below_F : List SV → Heap → Option (Prop × SV)
  | [.arr x, .arr y], _ => some (x.length = 4 ∧ y.length = 4, .bool (decide (lexC x y < 0)))
  | _, _ => none
theorem l3Below_T : ∀ args H p v, l3Below_F args H = some (p, v) → p → PureH Try.prog 90 args H v := by
  intro args H p v h hp
  unfold l3Below_F at h
  split at h
  · cases h; exact (l3Below_ok _ _ hp.1 hp.2).any _
  · cases h
/-! Sorted tubes. -/
def insT (x : List Int) : List (List Int) → List (List Int)
  | [] => [x]
  | y :: l => if lexL x y = true then x :: y :: l else y :: insT x l
def srtT : List (List Int) → List (List Int)
  | [] => []
  | x :: l => insT x (srtT l)
theorem insT_perm (x : List Int) : ∀ l, (insT x l).Perm (x :: l)
  | [] => List.Perm.refl _
  | y :: l => by
    unfold insT
    split
    · exact List.Perm.refl _
    · exact (List.Perm.cons y (insT_perm x l)).trans (List.Perm.swap x y l)
theorem srtT_perm : ∀ l, (srtT l).Perm l
  | [] => List.Perm.refl _
  | x :: l => (insT_perm x (srtT l)).trans (List.Perm.cons x (srtT_perm l))
theorem insT_pw {w : Nat} {x : List Int} (hx : x.length = w) : ∀ {l : List (List Int)}, (∀ y ∈ l, y.length = w) → l.Pairwise (fun a b => lexL a b = true) → (insT x l).Pairwise (fun a b => lexL a b = true)
  | [], _, _ => by simp [insT]
  | y :: l, h, hp => by
    have hy := h y (List.mem_cons_self ..)
    rw [List.pairwise_cons] at hp
    unfold insT
    split
    · rename_i hxy
      rw [List.pairwise_cons]
      refine ⟨fun z hz => ?_, List.pairwise_cons.2 hp⟩
      rcases List.mem_cons.1 hz with rfl | hz
      · exact hxy
      · exact lexL_trans (by rw [hx, hy]) (by rw [hy, h z (List.mem_cons_of_mem _ hz)]) hxy (hp.1 z hz)
    · rename_i hxy
      have hyx := (lexL_total x y (by rw [hx, hy])).resolve_left hxy
      rw [List.pairwise_cons]
      refine ⟨fun z hz => ?_, insT_pw hx (fun z hz => h z (List.mem_cons_of_mem _ hz)) hp.2⟩
      rcases List.mem_cons.1 ((insT_perm x l).mem_iff.1 hz) with rfl | hz
      · exact hyx
      · exact hp.1 z hz
theorem srtT_pw {w : Nat} : ∀ {l : List (List Int)}, (∀ y ∈ l, y.length = w) → (srtT l).Pairwise (fun a b => lexL a b = true)
  | [], _ => List.Pairwise.nil
  | x :: l, h => insT_pw (h x (List.mem_cons_self ..)) (fun y hy => h y (List.mem_cons_of_mem _ ((srtT_perm l).mem_iff.1 hy))) (srtT_pw fun y hy => h y (List.mem_cons_of_mem _ hy))
def tubs (R : List Int) : List (List Int) := (List.range 6).map (tubeAt R)
theorem tubs_len {R : List Int} (hR : R.length = 24) : ∀ y ∈ tubs R, y.length = 4 := fun y hy => by
  obtain ⟨i, hi, rfl⟩ := List.mem_map.1 hy
  exact tubeAt_len hR (List.mem_range.1 hi)
theorem tubs_flat {R : List Int} (hR : R.length = 24) : (tubs R).flatten = R := by
  have h : ∀ m, m ≤ 6 → ((List.range m).map (tubeAt R)).flatten = R.take (m * 4) := fun m => by
    induction m with
    | zero => intro _; simp
    | succ m ih =>
      intro hm
      rw [List.range_succ, List.map_append, List.flatten_append, ih (by omega), show (m + 1) * 4 = m * 4 + 4 by omega, List.take_add]
      simp [tubeAt]
  have := h 6 (by omega)
  unfold tubs
  rw [this, List.take_of_length_le (by omega)]
def frm (R : List Int) : List Int := (srtT (tubs R)).flatten
/-- Another order of the tubes, sorted: the form. -/
theorem frm_of {R R' : List Int} (hR : R.length = 24) (hR' : R'.length = 24) (hp : (tubs R').Perm (tubs R)) (hs : (tubs R').Pairwise (fun a b => lexL a b = true)) : R' = frm R := by
  unfold frm
  rw [← lexL_one (tubs_len hR') (hp.trans (srtT_perm _).symm) hs (srtT_pw (tubs_len hR)), tubs_flat hR']
theorem frm_len {R : List Int} (hR : R.length = 24) : (frm R).length = 24 := by
  unfold frm
  have h1 : ∀ l : List (List Int), (∀ y ∈ l, y.length = 4) → l.flatten.length = l.length * 4 := fun l => by
    induction l with
    | nil => intro _; rfl
    | cons x l ih => intro h; rw [List.flatten_cons, List.length_append, ih (fun y hy => h y (List.mem_cons_of_mem _ hy)), h x (List.mem_cons_self ..), List.length_cons]; omega
  rw [h1 _ fun y hy => tubs_len hR y ((srtT_perm _).mem_iff.1 hy), (srtT_perm _).length_eq]
  simp [tubs]
/-! Exchanges of tubes. -/
def putT (R : List Int) (k : Nat) (v : List Int) : List Int := R.take (k * 4) ++ v ++ R.drop (k * 4 + 4)
theorem putT_len {R v : List Int} {k : Nat} (hR : R.length = 24) (hv : v.length = 4) (hk : k < 6) : (putT R k v).length = 24 := by
  unfold putT
  rw [List.length_append, List.length_append, List.length_take, List.length_drop]; omega
theorem tubeAt_put {R v : List Int} {k q : Nat} (hR : R.length = 24) (hv : v.length = 4) (hk : k < 6) (hq : q < 6) : tubeAt (putT R k v) q = if q = k then v else tubeAt R q := by
  have l1 : (R.take (k * 4)).length = k * 4 := by rw [List.length_take]; omega
  unfold tubeAt putT
  by_cases h : q = k
  · subst h
    rw [if_pos rfl, List.append_assoc, List.drop_left' l1, List.take_left' hv]
  · rw [if_neg h]
    by_cases hlt : q < k
    · rw [List.append_assoc, List.drop_append_of_le_length (by omega), List.take_append_of_le_length (by rw [List.length_drop]; omega), List.drop_take, List.take_take, Nat.min_eq_left (by omega)]
    · obtain ⟨d, rfl⟩ : ∃ d, q = k + 1 + d := ⟨q - (k + 1), by omega⟩
      rw [show (k + 1 + d) * 4 = (k * 4 + 4) + d * 4 by omega, ← List.drop_drop, List.drop_left' (by rw [List.length_append, l1, hv]), List.drop_drop]
def swT (R : List Int) (k : Nat) : List Int := putT (putT R k (tubeAt R (k + 1))) (k + 1) (tubeAt R k)
theorem swT_len {R : List Int} {k : Nat} (hR : R.length = 24) (hk : k < 5) : (swT R k).length = 24 :=
  putT_len (putT_len hR (tubeAt_len hR (by omega)) (by omega)) (tubeAt_len hR (by omega)) (by omega)
theorem tubeAt_sw {R : List Int} {k q : Nat} (hR : R.length = 24) (hk : k < 5) (hq : q < 6) : tubeAt (swT R k) q = if q = k then tubeAt R (k + 1) else if q = k + 1 then tubeAt R k else tubeAt R q := by
  unfold swT
  rw [tubeAt_put (putT_len hR (tubeAt_len hR (by omega)) (by omega)) (tubeAt_len hR (by omega)) (by omega) hq, tubeAt_put hR (tubeAt_len hR (by omega)) (by omega) hq]
  by_cases h1 : q = k + 1
  · rw [if_pos h1, if_neg (by omega), if_pos h1]
  · rw [if_neg h1, if_neg h1]
theorem tubs_sw {R : List Int} {k : Nat} (hR : R.length = 24) (hk : k < 5) : (tubs (swT R k)).Perm (tubs R) := by
  have e : tubs (swT R k) = (List.range 6).map fun q => if q = k then tubeAt R (k + 1) else if q = k + 1 then tubeAt R k else tubeAt R q :=
    List.map_congr_left fun q hq => tubeAt_sw hR hk (List.mem_range.1 hq)
  rw [e]
  have r6 : List.range 6 = [0, 1, 2, 3, 4, 5] := rfl
  unfold tubs
  rw [r6]
  obtain rfl | rfl | rfl | rfl | rfl : k = 0 ∨ k = 1 ∨ k = 2 ∨ k = 3 ∨ k = 4 := by omega
  · exact List.Perm.swap ..
  · exact (List.Perm.swap ..).cons _
  · exact ((List.Perm.swap ..).cons _).cons _
  · exact (((List.Perm.swap ..).cons _).cons _).cons _
  · exact ((((List.Perm.swap ..).cons _).cons _).cons _).cons _
/-- What a bubble sort keeps, in round i at place k. -/
structure Bub (R0 R : List Int) (i k : Nat) : Prop where
  len : R.length = 24
  perm : (tubs R).Perm (tubs R0)
  tail : ∀ p q, p < q → q ≤ 5 → 6 - i ≤ q → lexL (tubeAt R p) (tubeAt R q) = true
  top : ∀ p, p < k → lexL (tubeAt R p) (tubeAt R k) = true
  fin : 5 - i ≤ k → ∀ p, p < 5 - i → lexL (tubeAt R p) (tubeAt R (5 - i)) = true
theorem Bub.start {R : List Int} (hR : R.length = 24) : Bub R R 0 0 := ⟨hR, List.Perm.refl _, fun p q h1 h2 h3 => by omega, fun p h => by omega, fun h => by omega⟩
theorem Bub.round {R0 R : List Int} {i : Nat} (h : Bub R0 R i 5) (hi : i < 6) : Bub R0 R (i + 1) 0 := by
  refine ⟨h.len, h.perm, fun p q h1 h2 h3 => ?_, fun p hp => by omega, fun h0 p hp => by omega⟩
  by_cases hq : 6 - i ≤ q
  · exact h.tail p q h1 h2 hq
  · obtain rfl : q = 5 - i := by omega
    exact h.fin (by omega) p h1
theorem Bub.keep {R0 R : List Int} {i k : Nat} (h : Bub R0 R i k) (hk : k < 5) (hc : ¬ lexC (tubeAt R (k + 1)) (tubeAt R k) < 0) : Bub R0 R i (k + 1) := by
  have hl : lexL (tubeAt R k) (tubeAt R (k + 1)) = true := by simp only [lexL, Bool.not_eq_true', decide_eq_false_iff_not]; exact hc
  have l4 := fun q (hq : q < 6) => tubeAt_len h.len hq
  have htop : ∀ p, p < k + 1 → lexL (tubeAt R p) (tubeAt R (k + 1)) = true := fun p hp => by
    by_cases hpk : p = k
    · subst hpk; exact hl
    · exact lexL_trans (by rw [l4 p (by omega), l4 k (by omega)]) (by rw [l4 k (by omega), l4 (k + 1) (by omega)]) (h.top p (by omega)) hl
  refine ⟨h.len, h.perm, h.tail, htop, fun h1 p hp => ?_⟩
  by_cases h2 : 5 - i ≤ k
  · exact h.fin h2 p hp
  · obtain h3 : 5 - i = k + 1 := by omega
    rw [h3]
    exact htop p (by omega)
theorem Bub.swap {R0 R : List Int} {i k : Nat} (h : Bub R0 R i k) (hk : k < 5) (hc : lexC (tubeAt R (k + 1)) (tubeAt R k) < 0) : Bub R0 (swT R k) i (k + 1) := by
  have l4 := fun q (hq : q < 6) => tubeAt_len h.len hq
  have hl : lexL (tubeAt R (k + 1)) (tubeAt R k) = true := by
    simp only [lexL, Bool.not_eq_true', decide_eq_false_iff_not]
    intro h2
    have := lexC_trans (by rw [l4 k (by omega), l4 (k + 1) (by omega)]) (by rw [l4 k (by omega), l4 (k + 1) (by omega)]) h2 hc
    rw [lexC_refl] at this; omega
  have hnot : k + 1 < 6 - i := by
    rcases Nat.lt_or_ge (k + 1) (6 - i) with h1 | h1
    · exact h1
    · have := h.tail k (k + 1) (by omega) (by omega) h1
      simp only [lexL, Bool.not_eq_true', decide_eq_false_iff_not] at this
      exact absurd hc this
  have ts := fun q (hq : q < 6) => tubeAt_sw (k := k) h.len hk hq
  have htop : ∀ p, p < k + 1 → lexL (tubeAt (swT R k) p) (tubeAt (swT R k) (k + 1)) = true := fun p hp => by
    rw [ts p (by omega), ts (k + 1) (by omega), if_neg (by omega : ¬ k + 1 = k), if_pos (rfl : k + 1 = k + 1)]
    by_cases hpk : p = k
    · rw [if_pos hpk]; exact hl
    · rw [if_neg hpk, if_neg (by omega)]; exact h.top p (by omega)
  refine ⟨swT_len h.len hk, (tubs_sw h.len hk).trans h.perm, fun p q h1 h2 h3 => ?_, htop, fun h1 p hp => ?_⟩
  · rw [ts p (by omega), ts q (by omega), if_neg (by omega : ¬ q = k), if_neg (by omega : ¬ q = k + 1)]
    by_cases hp1 : p = k
    · rw [if_pos hp1]; exact h.tail (k + 1) q (by omega) h2 h3
    · rw [if_neg hp1]
      by_cases hp2 : p = k + 1
      · rw [if_pos hp2]; exact h.tail k q (by omega) h2 h3
      · rw [if_neg hp2]; exact h.tail p q h1 h2 h3
  · obtain h4 : 5 - i = k + 1 := by omega
    rw [h4]
    exact htop p (by omega)
theorem Bub.done {R0 R : List Int} {k : Nat} (hR : R0.length = 24) (h : Bub R0 R 6 k) : R = frm R0 := by
  refine frm_of hR h.len h.perm ?_
  unfold tubs
  rw [List.pairwise_map]
  have : (List.range 6).Pairwise (fun a b => a < b ∧ b < 6) := by decide
  exact this.imp fun {a b} hab => h.tail a b hab.1 (by omega) (by omega)
theorem l3Form_ok (R : List Int) (hR : R.length = 24) : PureH Try.prog 49 [.arr R] [] (.arr (frm R)) := by
  have tkR : R.take 24 = R := List.take_of_length_le (by omega)
  refine pure_of_vc (X := ⟨Try.prog, tys, [(90, l3Below_F)], [], true, true, 0, [], [(8, .tree (.one 0 (.one 1 (.one 2 (.one 3 (.one 4 (.one 5 (.one 6 (.one 7 (.alt 8 (.alt 9 (.one 10 (.one 11 (.one 12 .done))) (.alt 10 (.one 9 (.one 11 (.one 12 .done))) .stop)) (.alt 9 (.alt 8 (.one 10 (.one 11 (.one 12 .done))) (.alt 10 (.alt 8 (.one 11 (.one 12 .done)) (.alt 11 (.one 8 (.one 12 .done)) .stop)) .stop)) (.alt 10 (.alt 8 (.one 9 (.one 11 (.one 12 .done))) (.alt 9 (.alt 8 (.one 11 (.one 12 .done)) (.alt 11 (.one 8 (.one 12 .done)) .stop)) .stop)) .stop))))))))))))]⟩) fn_49 ⟨tys_ok, (.cons l3Below_T .nil), .nil, mixed⟩ (n0 := 0) (Nat.le_of_ble_eq_true rfl) (by simp [wfL, SV.wf]) (wfH_spec (by simp [wfH, SObj.wf])) (Nat.le_refl _) (fun _ => by simp [SV.wf, wfL]) ?_
  simp -implicitDefEqProofs only [Try.f49, Option.getD_some, argS, l3Below_F, hR, tkR, ZB, Int.reduceToNat, Nat.reduceLT, Nat.reduceLeDiff, Int.reduceLE, Int.reduceLT, Nat.reduceEqDiff, Nat.reduceSub, SB, SV.known, packR, ne_eq, reduceCtorEq, Nat.reduceEqDiff, ↓reduceIte, if_true, if_false, eq_self, Nat.reduceAdd, Nat.reduceMul, Nat.reduceSub, forall_const, oneCellS, litOne, flat1, Kd.isSca, flat, TYB]
  refine loop_intro (fun s : Nat × List Int => [(3, .int s.1), (2, .ptr 1 0), (1, .ptr 0 0)]) (fun s => [(1, .ints (List.replicate 24 0) 29), (0, .ints s.2 29)]) 2 (fun s => s.1 ≤ 6 ∧ Bub R s.2 s.1 0) (fun s => 6 - s.1) ?_ ?_
  · refine ⟨(0, R), ⟨by simp, Bub.start hR⟩, Sub.mk_id ?_ ?_ ?_ ?_ ?_⟩
    all_goals ((try simp only [LB, subS, subH, wfS, wfH, SV.ren, renL, SObj.ren, SV.wf, SObj.wf, wfL, SV.known, Nat.reduceEqDiff, ↓reduceIte, if_true, if_false, eq_self, Nat.reduceAdd, Nat.reduceLT, Nat.reduceLeDiff, implies_true, reduceCtorEq, forall_const]) <;> simp)
  · rintro ⟨i, Q⟩ ⟨hi, hb⟩
    simp only at hi hb
    by_cases hlt : i < 6
    · have hil : (i : Int) < 6 := by omega
      simp -implicitDefEqProofs only [lk_normal, hil, ZB, Int.reduceToNat, Nat.reduceLT, Nat.reduceLeDiff, Int.reduceLE, Int.reduceLT, Nat.reduceEqDiff, Nat.reduceSub, SB, SV.known, packR, ne_eq, reduceCtorEq, Nat.reduceEqDiff, ↓reduceIte, if_true, if_false, eq_self, Nat.reduceAdd, Nat.reduceMul, Nat.reduceSub, forall_const, oneCellS, litOne, flat1, Kd.isSca, flat, TYB]
      refine loop_intro (fun s : Nat × List Int => [(4, .int s.1), (3, .int i), (2, .ptr 1 0), (1, .ptr 0 0)]) (fun s => [(1, .ints (List.replicate 24 0) 29), (0, .ints s.2 29)]) 2 (fun s => s.1 ≤ 5 ∧ Bub R s.2 i s.1) (fun s => 5 - s.1) ?_ ?_
      · refine ⟨(0, Q), ⟨by simp, hb⟩, Sub.mk_id ?_ ?_ ?_ ?_ ?_⟩
        all_goals ((try simp only [LB, subS, subH, wfS, wfH, SV.ren, renL, SObj.ren, SV.wf, SObj.wf, wfL, SV.known, Nat.reduceEqDiff, ↓reduceIte, if_true, if_false, eq_self, Nat.reduceAdd, Nat.reduceLT, Nat.reduceLeDiff, implies_true, reduceCtorEq, forall_const]) <;> simp)
      · rintro ⟨k, Q⟩ ⟨hk, hb⟩
        simp only at hk hb
        have hQ := hb.len
        by_cases hk5 : k < 5
        · have hkl : (k : Int) + 1 < 6 := by omega
          have tk1 : ((k : Int) + 1).toNat = k + 1 := by omega
          have e1 : List.take 4 (List.drop (k * 4) Q) = tubeAt Q k := rfl
          have e2 : List.take 4 (List.drop ((k + 1) * 4) Q) = tubeAt Q (k + 1) := rfl
          have l1 := tubeAt_len hQ (show k < 6 by omega)
          have l2 := tubeAt_len hQ (show k + 1 < 6 by omega)
          by_cases hc : lexC (tubeAt Q (k + 1)) (tubeAt Q k) < 0
          · simp -implicitDefEqProofs only [lk_normal, l3Below_F, hkl, tk1, e1, e2, l1, l2, hQ, hc, ZB, Int.reduceToNat, Nat.reduceLT, Nat.reduceLeDiff, Int.reduceLE, Int.reduceLT, Nat.reduceEqDiff, Nat.reduceSub, SB, SV.known, packR, ne_eq, reduceCtorEq, Nat.reduceEqDiff, ↓reduceIte, if_true, if_false, eq_self, Nat.reduceAdd, Nat.reduceMul, Nat.reduceSub, forall_const, oneCellS, litOne, flat1, Kd.isSca, flat, TYB]
            refine ⟨by unfold In64; omega, by unfold In64; omega, by omega, by omega, by omega, by omega, by omega, ?_⟩
            refine ⟨Unit, fun _ => [(4, .int k), (3, .int i), (2, .ptr 1 0), (1, .ptr 0 0), (5, .ptr 2 0), (6, .ptr 3 0)], fun _ => [(2, .ints (tubeAt Q k) 22), (3, .ints (tubeAt Q (k + 1)) 22), (1, .ints (List.replicate 24 0) 29), (0, .ints Q 29)], fun _ => 4, ?_, fun _ => ?_⟩
            · have i1 : In64 ((k : Int) + 1) := by unfold In64; omega
              have i2 : 0 ≤ (k : Int) := by omega
              have i3 : (k : Int) < 6 := by omega
              have i4 : 0 ≤ (k : Int) + 1 := by omega
              have i5 : k * 4 ≤ 20 := by omega
              have i6 : (k + 1) * 4 ≤ 20 := by omega
              simp -implicitDefEqProofs only [hkl, tk1, e1, e2, l1, l2, hQ, i1, i2, i3, i4, i5, i6, ZB, Int.reduceToNat, Nat.reduceLT, Nat.reduceLeDiff, Int.reduceLE, Int.reduceLT, Nat.reduceEqDiff, Nat.reduceSub, SB, SV.known, packR, ne_eq, reduceCtorEq, Nat.reduceEqDiff, ↓reduceIte, if_true, if_false, eq_self, Nat.reduceAdd, Nat.reduceMul, Nat.reduceSub, forall_const, oneCellS, litOne, flat1, Kd.isSca, flat, TYB]
              repeat' apply And.intro
              all_goals (first
                | (refine ⟨(), Sub.mk_id ?_ ?_ ?_ ?_ ?_⟩ <;> ((try simp only [LB, subS, subH, wfS, wfH, SV.ren, renL, SObj.ren, SV.wf, SObj.wf, wfL, SV.known, Nat.reduceEqDiff, ↓reduceIte, if_true, if_false, eq_self, Nat.reduceAdd, Nat.reduceLT, Nat.reduceLeDiff, implies_true, reduceCtorEq, forall_const]) <;> simp) <;> done)
                | (refine ⟨(), Sub.mk_to2 2 3 3 2 ?_ ?_ ?_ ?_ ?_ ?_ ?_ ?_⟩ <;> ((try simp only [LB, subS, subH, wfS, wfH, SV.ren, renL, SObj.ren, SV.wf, SObj.wf, wfL, SV.known, Nat.reduceEqDiff, ↓reduceIte, if_true, if_false, eq_self, Nat.reduceAdd, Nat.reduceLT, Nat.reduceLeDiff, implies_true, reduceCtorEq, forall_const]) <;> simp) <;> done))
            · have t1 : List.take 4 (tubeAt Q k) = tubeAt Q k := List.take_of_length_le (by omega)
              have t2 : List.take 4 (tubeAt Q (k + 1)) = tubeAt Q (k + 1) := List.take_of_length_le (by omega)
              have p1 : List.take (k * 4) Q ++ tubeAt Q (k + 1) ++ List.drop (k * 4 + 4) Q = putT Q k (tubeAt Q (k + 1)) := rfl
              have p2 : List.take ((k + 1) * 4) (putT Q k (tubeAt Q (k + 1))) ++ tubeAt Q k ++ List.drop ((k + 1) * 4 + 4) (putT Q k (tubeAt Q (k + 1))) = swT Q k := rfl
              have lp := putT_len hQ l2 (show k < 6 by omega)
              simp -implicitDefEqProofs only [lk_normal, hkl, tk1, e1, e2, l1, l2, hQ, t1, t2, p1, p2, lp, ZB, Int.reduceToNat, Nat.reduceLT, Nat.reduceLeDiff, Int.reduceLE, Int.reduceLT, Nat.reduceEqDiff, Nat.reduceSub, SB, SV.known, packR, ne_eq, reduceCtorEq, Nat.reduceEqDiff, ↓reduceIte, if_true, if_false, eq_self, Nat.reduceAdd, Nat.reduceMul, Nat.reduceSub, forall_const, oneCellS, litOne, flat1, Kd.isSca, flat, TYB]
              refine ⟨by omega, by omega, by omega, by unfold In64; omega, by omega, by omega, by unfold In64; omega, (k + 1, swT Q k), ⟨by simp only; omega, hb.swap hk5 hc⟩, by simp only; omega, Sub.mk_id ?_ ?_ ?_ ?_ ?_⟩
              all_goals ((try simp only [LB, subS, subH, wfS, wfH, SV.ren, renL, SObj.ren, SV.wf, SObj.wf, wfL, SV.known, Nat.reduceEqDiff, ↓reduceIte, if_true, if_false, eq_self, Nat.reduceAdd, Nat.reduceLT, Nat.reduceLeDiff, implies_true, reduceCtorEq, forall_const]) <;> simp)
          · simp -implicitDefEqProofs only [lk_normal, l3Below_F, hkl, tk1, e1, e2, l1, l2, hQ, hc, ZB, Int.reduceToNat, Nat.reduceLT, Nat.reduceLeDiff, Int.reduceLE, Int.reduceLT, Nat.reduceEqDiff, Nat.reduceSub, SB, SV.known, packR, ne_eq, reduceCtorEq, Nat.reduceEqDiff, ↓reduceIte, if_true, if_false, eq_self, Nat.reduceAdd, Nat.reduceMul, Nat.reduceSub, forall_const, oneCellS, litOne, flat1, Kd.isSca, flat, TYB]
            refine ⟨by unfold In64; omega, by unfold In64; omega, by omega, by omega, by omega, by omega, by omega, by unfold In64; omega, (k + 1, Q), ⟨by simp only; omega, hb.keep hk5 hc⟩, by simp only; omega, Sub.mk_id ?_ ?_ ?_ ?_ ?_⟩
            all_goals ((try simp only [LB, subS, subH, wfS, wfH, SV.ren, renL, SObj.ren, SV.wf, SObj.wf, wfL, SV.known, Nat.reduceEqDiff, ↓reduceIte, if_true, if_false, eq_self, Nat.reduceAdd, Nat.reduceLT, Nat.reduceLeDiff, implies_true, reduceCtorEq, forall_const]) <;> simp)
        · obtain rfl : k = 5 := by omega
          have hkl : ¬ (5 : Int) + 1 < 6 := by omega
          simp -implicitDefEqProofs only [lk_normal, hkl, ZB, Int.reduceToNat, Nat.reduceLT, Nat.reduceLeDiff, Int.reduceLE, Int.reduceLT, Nat.reduceEqDiff, Nat.reduceSub, SB, SV.known, packR, ne_eq, reduceCtorEq, Nat.reduceEqDiff, ↓reduceIte, if_true, if_false, eq_self, Nat.reduceAdd, Nat.reduceMul, Nat.reduceSub, forall_const, oneCellS, litOne, flat1, Kd.isSca, flat, TYB]
          refine ⟨by unfold In64; omega, by unfold In64; omega, (i + 1, Q), ⟨by simp only; omega, hb.round hlt⟩, by simp only; omega, Sub.mk_id ?_ ?_ ?_ ?_ ?_⟩
          all_goals ((try simp only [LB, subS, subH, wfS, wfH, SV.ren, renL, SObj.ren, SV.wf, SObj.wf, wfL, SV.known, Nat.reduceEqDiff, ↓reduceIte, if_true, if_false, eq_self, Nat.reduceAdd, Nat.reduceLT, Nat.reduceLeDiff, implies_true, reduceCtorEq, forall_const]) <;> simp)
    · have hil : ¬ (i : Int) < 6 := by omega
      obtain rfl : i = 6 := by omega
      have hd := hb.done hR
      have tkQ : List.take 24 Q = Q := List.take_of_length_le (by have := hb.len; omega)
      have hQ := hb.len
      simp -implicitDefEqProofs only [lk_normal, hil, hQ, tkQ, ZB, Int.reduceToNat, Nat.reduceLT, Nat.reduceLeDiff, Int.reduceLE, Int.reduceLT, Nat.reduceEqDiff, Nat.reduceSub, SB, SV.known, packR, ne_eq, reduceCtorEq, Nat.reduceEqDiff, ↓reduceIte, if_true, if_false, eq_self, Nat.reduceAdd, Nat.reduceMul, Nat.reduceSub, forall_const, oneCellS, litOne, flat1, Kd.isSca, flat, TYB]
      exact hd
--@tbl l3Form = spec.l3Form
def l3Form_F : List SV → Heap → Option (Prop × SV)
  | [.arr R], _ => some (R.length = 24, .arr (frm R))
  | _, _ => none
theorem l3Form_T : ∀ args H p v, l3Form_F args H = some (p, v) → p → PureH Try.prog 49 args H v := by
  intro args H p v h hp
  unfold l3Form_F at h
  split at h
  · cases h; exact (l3Form_ok _ hp).any _
  · cases h
theorem pdqT_ok (L : List Int) (e : Nat) (hL : L.length = 24) : True := by
  trivial
end Go.Proofs.Ytdnechlmkbchaaa
