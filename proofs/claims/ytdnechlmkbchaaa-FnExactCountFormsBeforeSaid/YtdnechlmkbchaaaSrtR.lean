/- Walks: racks compared, sorted, compacted. -/
import Derived.Test.YtdnechlmkbchaaaSrtF
import Derived.Test.YtdnechlmkbchaaaMap
set_option maxRecDepth 100000
set_option linter.unusedSimpArgs false
set_option linter.unusedVariables false
namespace Go.Proofs.Ytdnechlmkbchaaa
open Go Go.RowKit
theorem lexC_app : ∀ {a b A B : List Int}, a.length = b.length → lexC (a ++ A) (b ++ B) = if lexC a b = 0 then lexC A B else lexC a b
  | [], [], A, B, _ => by simp [lexC]
  | [], _ :: _, _, _, h => by simp at h
  | _ :: _, [], _, _, h => by simp at h
  | x :: a, y :: b, A, B, h => by
    have ih := lexC_app (a := a) (b := b) (A := A) (B := B) (by simpa using h)
    show (if x < y then -1 else if y < x then 1 else lexC (a ++ A) (b ++ B)) = if (if x < y then -1 else if y < x then 1 else lexC a b) = 0 then lexC A B else (if x < y then -1 else if y < x then 1 else lexC a b)
    rw [ih]
    by_cases h1 : x < y
    · simp [h1]
    · by_cases h2 : y < x
      · simp [h1, h2]
      · simp [h1, h2]
theorem lexC_step4 (x y : List Int) (i : Nat) (hx : i * 4 + 4 ≤ x.length) (hy : i * 4 + 4 ≤ y.length) : lexC (x.drop (i * 4)) (y.drop (i * 4)) = if lexC (tubeAt x i) (tubeAt y i) = 0 then lexC (x.drop ((i + 1) * 4)) (y.drop ((i + 1) * 4)) else lexC (tubeAt x i) (tubeAt y i) := by
  have e : ∀ l : List Int, i * 4 + 4 ≤ l.length → l.drop (i * 4) = tubeAt l i ++ l.drop ((i + 1) * 4) := fun l hl => by
    unfold tubeAt
    rw [show (i + 1) * 4 = i * 4 + 4 by omega, ← List.drop_drop, List.take_append_drop]
  rw [e x hx, e y hy]
  exact lexC_app (by unfold tubeAt; rw [List.length_take, List.length_take, List.length_drop, List.length_drop]; omega)
theorem cmpRows_ok (x y : List Int) (e e' : Nat) (hx : x.length = 24) (hy : y.length = 24) : PureH Try.prog 136 [.slice 0 0 6 6, .slice 1 0 6 6, .fn 100 []] [(0, .ints x e), (1, .ints y e')] (.int (lexC x y)) := by
  refine pure_of_vc (X := ⟨Try.prog, tys, [(100, compareTubes_F)], [], true, true, 2, [], []⟩) fn_136 ⟨tys_ok, (.cons compareTubes_T .nil), .nil, mixed⟩ (n0 := 2) (Nat.le_of_ble_eq_true rfl) (by simp [wfL, SV.wf]) (wfH_spec (by simp [wfH, SObj.wf])) (Nat.le_refl _) (fun _ => by simp [SV.wf, wfL]) ?_
  simp -implicitDefEqProofs only [Try.f136, Option.getD_some, argS, compareTubes_F, hx, hy, ZB, Int.reduceToNat, Nat.reduceLT, Nat.reduceLeDiff, Int.reduceLE, Int.reduceLT, Nat.reduceEqDiff, Nat.reduceSub, SB, SV.known, packR, ne_eq, reduceCtorEq, Nat.reduceEqDiff, ↓reduceIte, if_true, if_false, eq_self, Nat.reduceAdd, Nat.reduceMul, Nat.reduceSub, forall_const, oneCellS, Kd.isSca, flat, TYB]
  refine loop_intro (fun i : Nat => [(13, .int i), (12, .int 6), (11, .slice 0 0 6 6), (0, .slice 0 0 6 6), (1, .slice 1 0 6 6), (2, .fn 100 [])]) (fun _ => [(0, .ints x e), (1, .ints y e')]) 2 (fun i => i ≤ 6 ∧ lexC x y = lexC (x.drop (i * 4)) (y.drop (i * 4))) (fun i => 6 - i) ?_ ?_
  · refine ⟨0, ⟨by omega, rfl⟩, Sub.mk_id ?_ ?_ ?_ ?_ ?_⟩
    all_goals ((try simp only [LB, subS, subH, wfS, wfH, SV.ren, renL, SObj.ren, SV.wf, SObj.wf, wfL, SV.known, Nat.reduceEqDiff, ↓reduceIte, if_true, if_false, eq_self, Nat.reduceAdd, Nat.reduceLT, Nat.reduceLeDiff, implies_true, reduceCtorEq, forall_const]) <;> simp)
  · rintro i ⟨hi, he⟩
    by_cases hlt : i < 6
    · have hil : (i : Int) < 6 := by omega
      have hnl : ¬ (i : Int) ≥ 6 := by omega
      have st := lexC_step4 x y i (by omega) (by omega)
      rw [← he] at st
      have e1 : List.take 4 (List.drop (i * 4) x) = tubeAt x i := rfl
      have e2 : List.take 4 (List.drop (i * 4) y) = tubeAt y i := rfl
      have l1 := tubeAt_len hx hlt
      have l2 := tubeAt_len hy hlt
      have t1 := List.take_of_length_le (Nat.le_of_eq l1)
      have t2 := List.take_of_length_le (Nat.le_of_eq l2)
      by_cases hc : lexC (tubeAt x i) (tubeAt y i) = 0
      · rw [if_pos hc] at st
        simp -implicitDefEqProofs only [lk_normal, compareTubes_F, hil, hnl, hx, hy, e1, e2, l1, l2, t1, t2, hc, ZB, Int.reduceToNat, Nat.reduceLT, Nat.reduceLeDiff, Int.reduceLE, Int.reduceLT, Nat.reduceEqDiff, Nat.reduceSub, SB, SV.known, packR, ne_eq, reduceCtorEq, Nat.reduceEqDiff, ↓reduceIte, if_true, if_false, eq_self, Nat.reduceAdd, Nat.reduceMul, Nat.reduceSub, forall_const, oneCellS, Kd.isSca, flat, TYB]
        refine ⟨by omega, by omega, by omega, by omega, by unfold In64; omega, i + 1, ⟨by omega, st⟩, by omega, Sub.mk_id ?_ ?_ ?_ ?_ ?_⟩
        all_goals ((try simp only [LB, subS, subH, wfS, wfH, SV.ren, renL, SObj.ren, SV.wf, SObj.wf, wfL, SV.known, Nat.reduceEqDiff, ↓reduceIte, if_true, if_false, eq_self, Nat.reduceAdd, Nat.reduceLT, Nat.reduceLeDiff, implies_true, reduceCtorEq, forall_const]) <;> simp)
      · rw [if_neg hc] at st
        simp -implicitDefEqProofs only [lk_normal, compareTubes_F, hil, hnl, hx, hy, e1, e2, l1, l2, t1, t2, hc, ZB, Int.reduceToNat, Nat.reduceLT, Nat.reduceLeDiff, Int.reduceLE, Int.reduceLT, Nat.reduceEqDiff, Nat.reduceSub, SB, SV.known, packR, ne_eq, reduceCtorEq, Nat.reduceEqDiff, ↓reduceIte, if_true, if_false, eq_self, Nat.reduceAdd, Nat.reduceMul, Nat.reduceSub, forall_const, oneCellS, Kd.isSca, flat, TYB]
        exact ⟨by omega, by omega, by omega, by omega, st.symm⟩
    · have hil : ¬ (i : Int) < 6 := by omega
      obtain rfl : i = 6 := by omega
      have e0 : lexC x y = 0 := by
        rw [he, List.drop_eq_nil_of_le (by omega)]; rfl
      simp -implicitDefEqProofs only [lk_normal, hil, e0, Int.lt_irrefl, ZB, Int.reduceToNat, Nat.reduceLT, Nat.reduceLeDiff, Int.reduceLE, Int.reduceLT, Nat.reduceEqDiff, Nat.reduceSub, SB, SV.known, packR, ne_eq, reduceCtorEq, Nat.reduceEqDiff, ↓reduceIte, if_true, if_false, eq_self, Nat.reduceAdd, Nat.reduceMul, Nat.reduceSub, forall_const, oneCellS, Kd.isSca, flat, TYB]
--@tbl cmpRows = slices.CompareFunc[[][4]int,[][4]int,[4]int,[4]int]
def cmpRows_F : List SV → Heap → Option (Prop × SV)
  | [.slice 0 0 6 6, .slice 1 0 6 6, .fn g []], H => match hget H 0, hget H 1 with
    | some (.ints x _), some (.ints y _) => some (g = 100 ∧ x.length = 24 ∧ y.length = 24, .int (lexC x y))
    | _, _ => none
  | _, _ => none
theorem cmpRows_T : ∀ args H p v, cmpRows_F args H = some (p, v) → p → PureH Try.prog 136 args H v := by
  intro args H p v h hp
  unfold cmpRows_F at h
  split at h
  · rename_i g
    split at h
    · rename_i x e y e' h1 h2
      cases h
      obtain ⟨rfl, g1, g2⟩ := hp
      refine (cmpRows_ok x y e e' g1 g2).weaken (fun k o hk => ?_) (fun _ => trivial)
      simp only [hget_cons] at hk
      split at hk
      · rename_i h0; cases hk; subst h0; exact h1
      · split at hk
        · rename_i h0; cases hk; subst h0; exact h2
        · cases hk
    · cases h
  · cases h
theorem cmpR_ok (x y : List Int) (hx : x.length = 24) (hy : y.length = 24) : PureH Try.prog 108 [.arr x, .arr y] [] (.int (lexC x y)) := by
  have tx : x.take 24 = x := List.take_of_length_le (by omega)
  have ty : y.take 24 = y := List.take_of_length_le (by omega)
  refine pure_of_vc (X := ⟨Try.prog, tys, [(136, cmpRows_F)], [], true, true, 0, [], []⟩) fn_108 ⟨tys_ok, (.cons cmpRows_T .nil), .nil, mixed⟩ (n0 := 0) (Nat.le_of_ble_eq_true rfl) (by simp [wfL, SV.wf]) (wfH_spec (by simp [wfH, SObj.wf])) (Nat.le_refl _) (fun _ => by simp [SV.wf, wfL]) ?_
  simp -implicitDefEqProofs only [Try.f108, Option.getD_some, argS, cmpRows_F, hx, hy, tx, ty, ZB, Int.reduceToNat, Nat.reduceLT, Nat.reduceLeDiff, Int.reduceLE, Int.reduceLT, Nat.reduceEqDiff, Nat.reduceSub, SB, SV.known, packR, ne_eq, reduceCtorEq, Nat.reduceEqDiff, ↓reduceIte, if_true, if_false, eq_self, Nat.reduceAdd, Nat.reduceMul, Nat.reduceSub, forall_const, oneCellS, Kd.isSca, flat, TYB]
theorem sortR_ok (A Z : List Int) (Q : List (List Int)) (hQ : ∀ x ∈ Q, x.length = 24) (e cap off n : Nat) (hA : A.length = off) (hn : Q.length = n) (hb : n < 4611686018427387904) :
    UpdP Try.prog 107 [.slice 0 off n cap, .fn 108 []] 0 [] (.ints (A ++ Q.flatten ++ Z) e) (.ints (A ++ (srtT Q).flatten ++ Z) e) (.tup []) :=
  sortF_ok laySortR 24 (by omega) Try.isAgg29 Try.sizeOf29 108 fn_108.ent fn_107.ent cmpR_ok A Z Q hQ e cap off n hA hn hb
/-! Sorted lists without equals. -/
def ddS (Q : List (List Int)) : Nat → List (List Int)
  | 0 => []
  | j + 1 => if 0 < j ∧ Q.getD j [] = Q.getD (j - 1) [] then ddS Q j else ddS Q j ++ [Q.getD j []]
theorem ddS_old {Q : List (List Int)} {j : Nat} (h : 0 < j) (h2 : Q.getD j [] = Q.getD (j - 1) []) : ddS Q (j + 1) = ddS Q j := if_pos ⟨h, h2⟩
theorem ddS_new {Q : List (List Int)} {j : Nat} (h : j = 0 ∨ Q.getD j [] ≠ Q.getD (j - 1) []) : ddS Q (j + 1) = ddS Q j ++ [Q.getD j []] := if_neg fun ⟨h1, h2⟩ => h.elim (fun h => by omega) fun h => h h2
theorem ddS_le (Q : List (List Int)) : ∀ j, (ddS Q j).length ≤ j
  | 0 => Nat.le_refl _
  | j + 1 => by
    have := ddS_le Q j
    unfold ddS
    split
    · omega
    · simp; omega
theorem ddS_24 {Q : List (List Int)} (h : all24 Q) : ∀ j, j ≤ Q.length → all24 (ddS Q j)
  | 0, _ => fun x hx => by simp [ddS] at hx
  | j + 1, hj => by
    have ih := ddS_24 h j (by omega)
    unfold ddS
    split
    · exact ih
    · intro x hx
      rcases List.mem_append.1 hx with hx | hx
      · exact ih x hx
      · simp only [List.mem_singleton] at hx; subst hx; exact h _ (getD_mem (by omega))
theorem ddS_one : ∀ {Q : List (List Int)}, 1 ≤ Q.length → ddS Q 1 = Q.take 1
  | [], h => by simp at h
  | x :: r, _ => rfl
/-- The racks while the list is compacted. -/
def cpG (Q : List (List Int)) (j : Nat) : List (List Int) := ddS Q j ++ Q.drop (ddS Q j).length
theorem cpG_24 {Q : List (List Int)} (h : all24 Q) {j : Nat} (hj : j ≤ Q.length) : all24 (cpG Q j) := fun x hx => by
  rcases List.mem_append.1 hx with hx | hx
  · exact ddS_24 h j hj x hx
  · exact h x (List.mem_of_mem_drop hx)
theorem cpG_len {Q : List (List Int)} {j : Nat} (hj : j ≤ Q.length) : (cpG Q j).length = Q.length := by
  have := ddS_le Q j
  unfold cpG
  rw [List.length_append, List.length_drop]; omega
theorem cpG_get {Q : List (List Int)} {j t : Nat} (h : (ddS Q j).length ≤ t) : (cpG Q j).getD t [] = Q.getD t [] := by
  unfold cpG
  rw [List.getD_eq_getElem?_getD, List.getElem?_append_right h, List.getElem?_drop, List.getD_eq_getElem?_getD, show (ddS Q j).length + (t - (ddS Q j).length) = t by omega]
theorem cpG_start {Q : List (List Int)} {k : Nat} (hk : k ≤ Q.length) (h : ddS Q k = Q.take k) (h1 : ddS Q (k + 1) = ddS Q k) : cpG Q (k + 1) = Q := by
  unfold cpG
  rw [h1, h, List.length_take, Nat.min_eq_left hk, List.take_append_drop]
theorem cpG_put {Q : List (List Int)} (h : all24 Q) {j : Nat} (hj : j ≤ Q.length) (hk : (ddS Q j).length < Q.length) (x Z : List Int) :
    List.take ((ddS Q j).length * 24) ((cpG Q j).flatten ++ Z) ++ x ++ List.drop ((ddS Q j).length * 24 + 24) ((cpG Q j).flatten ++ Z) = (ddS Q j ++ [x] ++ Q.drop ((ddS Q j).length + 1)).flatten ++ Z := by
  have l1 : (ddS Q j).flatten.length = (ddS Q j).length * 24 := flat_len (ddS_24 h j hj)
  have e : Q.drop (ddS Q j).length = Q.getD (ddS Q j).length [] :: Q.drop ((ddS Q j).length + 1) := by
    rw [List.drop_eq_getElem_cons hk, List.getD_eq_getElem?_getD, List.getElem?_eq_getElem hk]; rfl
  have l2 : (Q.getD (ddS Q j).length []).length = 24 := h _ (getD_mem hk)
  have hB : (cpG Q j).flatten ++ Z = (ddS Q j).flatten ++ (Q.getD (ddS Q j).length [] ++ ((Q.drop ((ddS Q j).length + 1)).flatten ++ Z)) := by
    unfold cpG
    rw [e, List.flatten_append, List.flatten_cons, List.append_assoc, List.append_assoc]
  rw [hB, List.take_left' l1, ← List.drop_drop, List.drop_left' l1, List.drop_left' l2]
  simp
theorem compact_ok (Z : List Int) (Q : List (List Int)) (hQ : all24 Q) (e cap n : Nat) (hn : Q.length = n) (hb : n ≤ 1000000) (hc : (Q.flatten ++ Z).length = cap * 24) :
    UpdP Try.prog 109 [.slice 0 0 n cap] 0 [] (.ints (Q.flatten ++ Z) e) (.ints ((ddS Q n).flatten ++ (List.replicate ((n - (ddS Q n).length) * 24) 0 ++ Z)) e) (.slice 0 0 (ddS Q n).length cap) := by
  have eqr := eqI_rack
  have hfl := flat_len hQ
  refine upd_of_vc (X := ⟨Try.prog, tys, [], [], true, true, 0, [], []⟩) fn_109 ⟨tys_ok, .nil, .nil, mixed⟩ (n0 := 1) (by omega) (Nat.le_of_ble_eq_true rfl) (by simp [wfL, SV.wf]) (wfH_spec (by simp [wfH, SObj.wf])) (fun k o1 hk => by cases hk) rfl rfl (fun _ => trivial) (by simp [SV.wf, wfL]) ?_
  by_cases h2 : n < 2
  · have h2' : (n : Int) < 2 := by omega
    simp -implicitDefEqProofs only [Try.f109, Option.getD_some, argS, h2', ZB, Int.reduceToNat, Nat.reduceLT, Nat.reduceLeDiff, Int.reduceLE, Int.reduceLT, Nat.reduceEqDiff, Nat.reduceSub, SB, SV.known, packR, ne_eq, reduceCtorEq, Nat.reduceEqDiff, ↓reduceIte, if_true, if_false, eq_self, Nat.reduceAdd, Nat.reduceMul, Nat.reduceSub, forall_const, oneCellS, Kd.isSca, flat, TYB]
    have ed : ddS Q n = Q := by
      obtain rfl | rfl : n = 0 ∨ n = 1 := by omega
      · exact (List.length_eq_zero_iff.1 hn).symm
      · match Q, hn with
        | [x], _ => rfl
    rw [ed, hn]
    simp
  · have h2' : ¬ (n : Int) < 2 := by omega
    simp -implicitDefEqProofs only [Try.f109, Option.getD_some, argS, h2', ZB, Int.reduceToNat, Nat.reduceLT, Nat.reduceLeDiff, Int.reduceLE, Int.reduceLT, Nat.reduceEqDiff, Nat.reduceSub, SB, SV.known, packR, ne_eq, reduceCtorEq, Nat.reduceEqDiff, ↓reduceIte, if_true, if_false, eq_self, Nat.reduceAdd, Nat.reduceMul, Nat.reduceSub, forall_const, oneCellS, Kd.isSca, flat, TYB]
    refine loop_intro (fun k : Nat => [(3, .int k), (0, .slice 0 0 n cap)]) (fun _ => [(0, .ints (Q.flatten ++ Z) e)]) 1 (fun k => (1 ≤ k ∧ k ≤ n) ∧ ddS Q k = Q.take k) (fun k => n - k) ?_ ?_
    · refine ⟨1, ⟨by omega, ?_⟩, Sub.mk_id ?_ ?_ ?_ ?_ ?_⟩
      · exact ddS_one (by omega)
      all_goals ((try simp only [LB, subS, subH, wfS, wfH, SV.ren, renL, SObj.ren, SV.wf, SObj.wf, wfL, SV.known, Nat.reduceEqDiff, ↓reduceIte, if_true, if_false, eq_self, Nat.reduceAdd, Nat.reduceLT, Nat.reduceLeDiff, implies_true, reduceCtorEq, forall_const]) <;> simp)
    · rintro k ⟨⟨hk1, hkn⟩, hdk⟩
      by_cases hlt : k < n
      · have hkl : (k : Int) < n := by omega
        have k0 : 0 ≤ (k : Int) - 1 := by omega
        have kb : (k : Int) - 1 < n := by omega
        have tk : ((k : Int) - 1).toNat = k - 1 := by omega
        have lQ : (Q.flatten ++ Z).length = cap * 24 := hc
        have hlen : n * 24 ≤ cap * 24 := by rw [← hc, List.length_append, hfl]; omega
        have r1 : List.take 24 (List.drop (k * 24) (Q.flatten ++ Z)) = Q.getD k [] := flat_get hQ (by omega) Z
        have r2 : List.take 24 (List.drop ((k - 1) * 24) (Q.flatten ++ Z)) = Q.getD (k - 1) [] := flat_get hQ (by omega) Z
        have g1 := hQ _ (getD_mem (show k < Q.length by omega))
        have g2 := hQ _ (getD_mem (show k - 1 < Q.length by omega))
        by_cases hd : Q.getD k [] = Q.getD (k - 1) []
        · have hd' := decide_eq_true hd
          simp -implicitDefEqProofs only [lk_normal, hkl, k0, kb, tk, lQ, r1, r2, g1, g2, eqr, hd', ZB, Int.reduceToNat, Nat.reduceLT, Nat.reduceLeDiff, Int.reduceLE, Int.reduceLT, Nat.reduceEqDiff, Nat.reduceSub, SB, SV.known, packR, ne_eq, reduceCtorEq, Nat.reduceEqDiff, ↓reduceIte, if_true, if_false, eq_self, Nat.reduceAdd, Nat.reduceMul, Nat.reduceSub, forall_const, oneCellS, Kd.isSca, flat, TYB]
          have co : cutOff cap k 0 24 = k * 24 := by unfold cutOff; rw [if_neg (by omega)]; omega
          have eo := ddS_old (Q := Q) (j := k) (by omega) hd
          refine ⟨by omega, by omega, by unfold In64; omega, by omega, by omega, by omega, ?_⟩
          rw [co]
          refine loop_intro (fun k2 : Nat => [(5, .int k2), (4, .slice 0 (k * 24) (n - k) (cap - k)), (3, .int (ddS Q (k + k2)).length), (0, .slice 0 0 n cap)]) (fun k2 => [(0, .ints ((cpG Q (k + k2)).flatten ++ Z) e)]) 1
            (fun k2 => (1 ≤ k2 ∧ k + k2 ≤ n) ∧ (ddS Q (k + k2)).length < k + k2) (fun k2 => n - k - k2) ?_ ?_
          · refine ⟨1, ⟨by omega, by rw [eo]; have := ddS_le Q k; omega⟩, Sub.mk_id ?_ ?_ ?_ ?_ ?_⟩
            all_goals (try simp only [cpG_start (by omega) hdk eo, eo, hdk, List.length_take, Nat.min_eq_left (show k ≤ Q.length by omega)])
            all_goals ((try simp only [LB, subS, subH, wfS, wfH, SV.ren, renL, SObj.ren, SV.wf, SObj.wf, wfL, SV.known, Nat.reduceEqDiff, ↓reduceIte, if_true, if_false, eq_self, Nat.reduceAdd, Nat.reduceLT, Nat.reduceLeDiff, implies_true, reduceCtorEq, forall_const]) <;> simp)
          · rintro k2 ⟨⟨hk21, hk2n⟩, hlt2⟩
            have hG := cpG_24 hQ (j := k + k2) (by omega)
            have lG := cpG_len (Q := Q) (j := k + k2) (by omega)
            have fG := flat_len hG
            have lB : ((cpG Q (k + k2)).flatten ++ Z).length = cap * 24 := by rw [List.length_append, fG, lG]; rw [List.length_append, hfl] at hc; omega
            by_cases hlt3 : k + k2 < n
            · have hkl2 : (k2 : Int) < (n - k : Nat) := by omega
              have k20 : 0 ≤ (k2 : Int) - 1 := by omega
              have k22 : (k2 : Int) - 1 < (n - k : Nat) := by omega
              have tk2 : ((k2 : Int) - 1).toNat = k2 - 1 := by omega
              have kk0 : ((ddS Q (k + k2)).length : Int) < n := by omega
              have a1 : k * 24 + k2 * 24 = (k + k2) * 24 := by omega
              have a2 : k * 24 + (k2 - 1) * 24 = (k + k2 - 1) * 24 := by omega
              have r1 : List.take 24 (List.drop ((k + k2) * 24) ((cpG Q (k + k2)).flatten ++ Z)) = Q.getD (k + k2) [] := by
                rw [flat_get hG (by omega) Z, cpG_get (by omega)]
              have r2 : List.take 24 (List.drop ((k + k2 - 1) * 24) ((cpG Q (k + k2)).flatten ++ Z)) = Q.getD (k + k2 - 1) [] := by
                rw [flat_get hG (by omega) Z, cpG_get (by omega)]
              have g1 := hQ _ (getD_mem (show k + k2 < Q.length by omega))
              have g2 := hQ _ (getD_mem (show k + k2 - 1 < Q.length by omega))
              by_cases hd2 : Q.getD (k + k2) [] = Q.getD (k + k2 - 1) []
              · have hd' := decide_eq_true hd2
                have eo2 := ddS_old (Q := Q) (j := k + k2) (by omega) hd2
                simp -implicitDefEqProofs only [lk_normal, hkl2, k20, k22, tk2, lB, a1, a2, r1, r2, g1, g2, eqr, hd', ZB, Int.reduceToNat, Nat.reduceLT, Nat.reduceLeDiff, Int.reduceLE, Int.reduceLT, Nat.reduceEqDiff, Nat.reduceSub, SB, SV.known, packR, ne_eq, reduceCtorEq, Nat.reduceEqDiff, ↓reduceIte, if_true, if_false, eq_self, Nat.reduceAdd, Nat.reduceMul, Nat.reduceSub, forall_const, oneCellS, Kd.isSca, flat, TYB]
                refine ⟨by omega, by omega, by unfold In64; omega, by omega, by unfold In64; omega, k2 + 1, ⟨by omega, by rw [← Nat.add_assoc, eo2]; omega⟩, by omega, Sub.mk_id ?_ ?_ ?_ ?_ ?_⟩
                all_goals (try simp only [← Nat.add_assoc, cpG, eo2])
                all_goals ((try simp only [LB, subS, subH, wfS, wfH, SV.ren, renL, SObj.ren, SV.wf, SObj.wf, wfL, SV.known, Nat.reduceEqDiff, ↓reduceIte, if_true, if_false, eq_self, Nat.reduceAdd, Nat.reduceLT, Nat.reduceLeDiff, implies_true, reduceCtorEq, forall_const]) <;> simp)
              · have hd' := decide_eq_false hd2
                have en := ddS_new (Q := Q) (j := k + k2) (.inr hd2)
                have pu := cpG_put hQ (j := k + k2) (by omega) (by omega) (Q.getD (k + k2) []) Z
                simp -implicitDefEqProofs only [lk_normal, hkl2, k20, k22, tk2, kk0, lB, a1, a2, r1, r2, g1, g2, eqr, hd', pu, ZB, Int.reduceToNat, Nat.reduceLT, Nat.reduceLeDiff, Int.reduceLE, Int.reduceLT, Nat.reduceEqDiff, Nat.reduceSub, SB, SV.known, packR, ne_eq, reduceCtorEq, Nat.reduceEqDiff, ↓reduceIte, if_true, if_false, eq_self, Nat.reduceAdd, Nat.reduceMul, Nat.reduceSub, forall_const, oneCellS, Kd.isSca, flat, TYB]
                refine ⟨by omega, by omega, by unfold In64; omega, by omega, by omega, by omega, by omega, by omega, by unfold In64; omega, by unfold In64; omega, k2 + 1, ⟨by omega, by rw [← Nat.add_assoc, en, List.length_append]; simp; omega⟩, by omega, Sub.mk_id ?_ ?_ ?_ ?_ ?_⟩
                all_goals (try simp only [← Nat.add_assoc, cpG, en, List.length_append, List.length_cons, List.length_nil, Nat.zero_add])
                all_goals ((try simp only [LB, subS, subH, wfS, wfH, SV.ren, renL, SObj.ren, SV.wf, SObj.wf, wfL, SV.known, Nat.reduceEqDiff, ↓reduceIte, if_true, if_false, eq_self, Nat.reduceAdd, Nat.reduceLT, Nat.reduceLeDiff, implies_true, reduceCtorEq, forall_const]) <;> simp)
            · have hkl2 : ¬ (k2 : Int) < (n - k : Nat) := by omega
              simp -implicitDefEqProofs only [lk_normal, hkl2, lB, ZB, Int.reduceToNat, Nat.reduceLT, Nat.reduceLeDiff, Int.reduceLE, Int.reduceLT, Nat.reduceEqDiff, Nat.reduceSub, SB, SV.known, packR, ne_eq, reduceCtorEq, Nat.reduceEqDiff, ↓reduceIte, if_true, if_false, eq_self, Nat.reduceAdd, Nat.reduceMul, Nat.reduceSub, forall_const, oneCellS, Kd.isSca, flat, TYB]
              obtain rfl : n = k + k2 := by omega
              have co2 : cutOff cap (ddS Q (k + k2)).length 0 24 = (ddS Q (k + k2)).length * 24 := by unfold cutOff; rw [if_neg (by omega)]; omega
              have l1 : (ddS Q (k + k2)).flatten.length = (ddS Q (k + k2)).length * 24 := flat_len (ddS_24 hQ _ (by omega))
              have hB : (cpG Q (k + k2)).flatten ++ Z = (ddS Q (k + k2)).flatten ++ ((Q.drop (ddS Q (k + k2)).length).flatten ++ Z) := by
                unfold cpG; rw [List.flatten_append, List.append_assoc]
              have l3 : (Q.drop (ddS Q (k + k2)).length).flatten.length = (k + k2 - (ddS Q (k + k2)).length) * 24 := by
                rw [flat_len fun x hx => hQ x (List.mem_of_mem_drop hx), List.length_drop, hn]
              rw [co2]
              refine ⟨by omega, by omega, by omega, by omega, by omega, by omega, rfl, ?_⟩
              rw [hB, List.take_left' l1, ← List.drop_drop, List.drop_left' l1, List.drop_left' l3, List.append_assoc]
        · have hd' := decide_eq_false hd
          have en := ddS_new (Q := Q) (j := k) (.inr hd)
          simp -implicitDefEqProofs only [lk_normal, hkl, k0, kb, tk, lQ, r1, r2, g1, g2, eqr, hd', ZB, Int.reduceToNat, Nat.reduceLT, Nat.reduceLeDiff, Int.reduceLE, Int.reduceLT, Nat.reduceEqDiff, Nat.reduceSub, SB, SV.known, packR, ne_eq, reduceCtorEq, Nat.reduceEqDiff, ↓reduceIte, if_true, if_false, eq_self, Nat.reduceAdd, Nat.reduceMul, Nat.reduceSub, forall_const, oneCellS, Kd.isSca, flat, TYB]
          refine ⟨by omega, by omega, by unfold In64; omega, by omega, by unfold In64; omega, k + 1, ⟨by omega, ?_⟩, by omega, Sub.mk_id ?_ ?_ ?_ ?_ ?_⟩
          · rw [en, hdk, take_succ_getD Q k (by omega)]
          all_goals ((try simp only [LB, subS, subH, wfS, wfH, SV.ren, renL, SObj.ren, SV.wf, SObj.wf, wfL, SV.known, Nat.reduceEqDiff, ↓reduceIte, if_true, if_false, eq_self, Nat.reduceAdd, Nat.reduceLT, Nat.reduceLeDiff, implies_true, reduceCtorEq, forall_const]) <;> simp)
      · have hkl : ¬ (k : Int) < n := by omega
        obtain rfl : k = n := by omega
        have ed : ddS Q k = Q := by rw [hdk, List.take_of_length_le (by omega)]
        simp -implicitDefEqProofs only [lk_normal, hkl, ZB, Int.reduceToNat, Nat.reduceLT, Nat.reduceLeDiff, Int.reduceLE, Int.reduceLT, Nat.reduceEqDiff, Nat.reduceSub, SB, SV.known, packR, ne_eq, reduceCtorEq, Nat.reduceEqDiff, ↓reduceIte, if_true, if_false, eq_self, Nat.reduceAdd, Nat.reduceMul, Nat.reduceSub, forall_const, oneCellS, Kd.isSca, flat, TYB]
        rw [ed, hn]
        simp
end Go.Proofs.Ytdnechlmkbchaaa
