/- Texts of this claim, joined (DrawR, DrawB, EqR, Back, Src, Sl3, Arg, Rule, RulC, Com, Good, GPath). -/
import Derived.Test.YtopfnkmlgcjpbaaQ1
import Derived.Test.YtopfnkmlgcjpbaaQ2
import Derived.Test.YtopfnkmlgcjpbaaQ3
import Derived.Test.YtopfnkmlgcjpbaaQ4
import Derived.Test.YtopfnkmlgcjpbaaQ5
import Derived.ChangeKeysEq
import Derived.Laws.StructEq
set_option maxRecDepth 100000
set_option linter.unusedSimpArgs false
set_option linter.unusedVariables false
namespace Go.Proofs.Ytopfnkmlgcjpbaa
open Go Go.RowKit
theorem fnx_rack : FnOK Try.prog 77 Try.f77 (Try.f77.body.getD .skip) [94, 92, 119] [(21, .tree (.one 0 (.one 1 (.one 2 (.one 3 (.one 4 (.one 5 (.one 6 (.alt 7 (.alt 8 (.one 9 (.one 10 (.one 11 .done))) (.alt 9 (.one 8 (.one 10 (.one 11 .done))) .stop)) (.alt 8 (.alt 7 (.one 9 (.one 10 (.one 11 .done))) (.alt 9 (.alt 7 (.one 10 (.one 11 .done)) (.alt 10 (.one 7 (.one 11 .done)) .stop)) .stop)) (.alt 9 (.alt 7 (.one 8 (.one 10 (.one 11 .done))) (.alt 8 (.alt 7 (.one 10 (.one 11 .done)) (.alt 10 (.one 7 (.one 11 .done)) .stop)) .stop)) .stop))))))))))), (26, .tree (.one 0 (.one 2 (.one 4 (.one 7 (.alt 1 (.one 8 (.alt 3 (.one 5 (.one 6 (.one 9 (.one 10 .done)))) (.alt 5 (.one 3 (.one 6 (.one 9 (.one 10 .done)))) .stop))) (.alt 5 (.one 1 (.one 3 (.one 6 (.one 8 (.one 9 (.one 10 .done)))))) .stop)))))))] := ⟨Try.func77, rfl, by kernel_rfl, by kernel_rfl⟩
/-- A rack that is being drawn. -/
structure RkS (c kc a n : Nat) (H : Heap) (b : Nat) (R : List Int) (k : Nat) (H' : Heap) (n' : Nat) : Prop where
  d : Drawn c kc a k n H H' n'
  lt : n < b ∧ b < n'
  r : hget H' b = some (.ints R 27)
  l : R.length = 24
  i : ∀ x ∈ R, In64 x
  z : hget H' n = some (.ints (List.replicate 24 0) 27)
theorem RkS.set {c kc a n b k n' : Nat} {H H' : Heap} {R : List Int} (h : RkS c kc a n H b R k H' n') (hlt : c < n ∧ kc < n ∧ kc ≠ c) {R' : List Int} (hl : R'.length = 24) (hi : ∀ x ∈ R', In64 x) : RkS c kc a n H b R' k ((b, .ints R' 27) :: H') n' :=
  ⟨h.d.put hlt _ (Nat.le_of_lt h.lt.1) h.lt.2 (Nat.le_refl _) trivial, h.lt, by simp [hget_cons], hl, hi, by rw [hget_cons, if_neg (Nat.ne_of_lt h.lt.1)]; exact h.z⟩
theorem RkS.push {c kc a n b k n' : Nat} {H H' : Heap} {R : List Int} (h : RkS c kc a n H b R k H' n') (hlt : c < n ∧ kc < n ∧ kc ≠ c) (o : SObj) (ho : o.wf (n' + 1)) : RkS c kc a n H b R k ((n', o) :: H') (n' + 1) :=
  ⟨h.d.push hlt o ho, ⟨h.lt.1, Nat.lt_succ_of_lt h.lt.2⟩, by rw [hget_cons, if_neg (Nat.ne_of_lt h.lt.2)]; exact h.r, h.l, h.i, by rw [hget_cons, if_neg (Nat.ne_of_lt (Nat.lt_trans h.lt.1 h.lt.2))]; exact h.z⟩
theorem RkS.pushI {c kc a n b k n' : Nat} {H H' : Heap} {R : List Int} (h : RkS c kc a n H b R k H' n') (hlt : c < n ∧ kc < n ∧ kc ≠ c) {L : List Int} {e : Nat} : RkS c kc a n H b R k ((n', .ints L e) :: H') (n' + 1) := h.push hlt _ trivial
theorem RkS.draw {c kc a n b k n' k2 n2 : Nat} {H H' H2 : Heap} {R : List Int} (h : RkS c kc a n H b R k H' n') (hd : Drawn c kc a k2 n H H2 n2) (hf : Fr n n' H' H2) (hn : n' ≤ n2) : RkS c kc a n H b R k2 H2 n2 :=
  ⟨hd, ⟨h.lt.1, Nat.lt_of_lt_of_le h.lt.2 hn⟩, hf.use (Nat.le_of_lt h.lt.1) h.lt.2 h.r, h.l, h.i, hf.use (Nat.le_refl _) (Nat.lt_trans h.lt.1 h.lt.2) h.z⟩
theorem RkS.more {c kc a n b k k' n' : Nat} {H H' : Heap} {R : List Int} (h : RkS c kc a n H b R k H' n') (hk : k ≤ k') : RkS c kc a n H b R k' H' n' := ⟨h.d.more hk, h.lt, h.r, h.l, h.i, h.z⟩
theorem CurH.frame {c kc a n : Nat} {H H' : Heap} (h : CurH c kc a H) (hw : hwf n H) (hf : ∀ j o, j < n → hget H j = some o → hget H' j = some o) : CurH c kc a H' := by
  obtain ⟨q1, q2, _⟩ := h.lt hw
  obtain ⟨v, s, h1, h2, h6⟩ := h
  exact ⟨v, s, hf _ _ q1 h1, h2.at (fun o ho => hf _ _ q2 ho), h6⟩
theorem RkS.ext {c kc a n b k n' n2 : Nat} {H H' Hc : Heap} {R : List Int} (h : RkS c kc a n H b R k H' n') (hw : hwf n2 Hc) (hn : n' ≤ n2) (hf : ∀ j o, j < n' → hget H' j = some o → hget Hc j = some o) : RkS c kc a n H b R k Hc n2 :=
  ⟨⟨Nat.le_trans h.d.le hn, hw, by
    obtain ⟨b', g1, g2, g3⟩ := h.d.cur
    exact ⟨b', g1, g2, g3.frame h.d.wf hf⟩, fun i o hi hc ho => hf i o (Nat.lt_of_lt_of_le hi h.d.le) (h.d.fr i o hi hc ho)⟩,
   ⟨h.lt.1, Nat.lt_of_lt_of_le h.lt.2 hn⟩, hf _ _ h.lt.2 h.r, h.l, h.i, hf _ _ (Nat.lt_trans h.lt.1 h.lt.2) h.z⟩
theorem in64_set {R : List Int} (h : ∀ x ∈ R, In64 x) {i : Nat} {v : Int} (hv : In64 v) : ∀ x ∈ R.set i v, In64 x := fun x hx => by
  rcases List.mem_or_eq_of_mem_set hx with hx | hx
  · exact h x hx
  · exact hx ▸ hv
theorem in64_getD {R : List Int} (h : ∀ x ∈ R, In64 x) {i : Nat} (hi : i < R.length) : In64 (R.getD i 0) := by
  rw [List.getD_eq_getElem?_getD, List.getElem?_eq_getElem hi]
  exact h _ (List.getElem_mem _)
theorem rack_vc (c kc a m n : Nat) (H : Heap) (hC : CurH c kc a H) (hm : m ≤ c) (hmn : m ≤ n) (ha : a ≤ 990000) (hwH : hwf n H) :
    codeVC (⟨Try.prog, tys, [], [(94, pick_F), (92, one_F), (119, among_F)], true, true, m, [94, 92, 119], [(21, .tree (.one 0 (.one 1 (.one 2 (.one 3 (.one 4 (.one 5 (.one 6 (.alt 7 (.alt 8 (.one 9 (.one 10 (.one 11 .done))) (.alt 9 (.one 8 (.one 10 (.one 11 .done))) .stop)) (.alt 8 (.alt 7 (.one 9 (.one 10 (.one 11 .done))) (.alt 9 (.alt 7 (.one 10 (.one 11 .done)) (.alt 10 (.one 7 (.one 11 .done)) .stop)) .stop)) (.alt 9 (.alt 7 (.one 8 (.one 10 (.one 11 .done))) (.alt 8 (.alt 7 (.one 10 (.one 11 .done)) (.alt 10 (.one 7 (.one 11 .done)) .stop)) .stop)) .stop))))))))))), (26, .tree (.one 0 (.one 2 (.one 4 (.one 7 (.alt 1 (.one 8 (.alt 3 (.one 5 (.one 6 (.one 9 (.one 10 .done)))) (.alt 5 (.one 3 (.one 6 (.one 9 (.one 10 .done)))) .stop))) (.alt 5 (.one 1 (.one 3 (.one 6 (.one 8 (.one 9 (.one 10 .done)))))) .stop)))))))]⟩ : Cx) n (Try.f77.body.getD .skip) (argS 0 [.ptr c 0]) H n
      (retK tys Try.f77.results.toList fun v H' n' => ∃ R : List Int, v = .arr R ∧ R.length = 24 ∧ (∀ x ∈ R, In64 x) ∧ Drawn c kc a 1000 n H H' n') := by
  have hlt := hC.lt hwH
  have xne : ∀ i, (n + (i + 1) = n) = False := fun i => by simp
  simp -implicitDefEqProofs only [Try.f77, Option.getD_some, argS, Nat.add_assoc, add_self, self_add, add_add, ZB, Int.reduceToNat, Nat.reduceLT, Nat.reduceLeDiff, Int.reduceLE, Int.reduceLT, Nat.reduceEqDiff, Nat.reduceSub, SB, SV.known, packR, ne_eq, reduceCtorEq, Nat.reduceEqDiff, ↓reduceIte, if_true, if_false, eq_self, Nat.reduceAdd, Nat.reduceMul, Nat.reduceSub, forall_const, oneCellS, litOne, flat1, Kd.isSca, flat, TYB]
  have d0 : Drawn c kc a 0 n H ((n, .ints (List.replicate 24 0) 27) :: H) (n + 1) := (Drawn.start hC hwH).push hlt _ trivial
  refine among_use (d0.pushI hlt) hlt hm (by omega) (L := [2, 3, 2, 4, 5, 1]) (by simp [hget_cons]; rfl) (by omega) (by simp) fun col H1 hx1 hd1 hf1 => ?_
  have hc1 : 1 ≤ col ∧ col ≤ 5 := by simp at hx1; omega
  have hz1 := hf1.use (Nat.le_refl _) (by omega) (show hget _ n = some (.ints (List.replicate 24 0) 27) by simp [hget_cons])
  simp -implicitDefEqProofs only [Nat.add_assoc, add_self, self_add, add_add, ZB, Int.reduceToNat, Nat.reduceLT, Nat.reduceLeDiff, Int.reduceLE, Int.reduceLT, Nat.reduceEqDiff, Nat.reduceSub, SB, SV.known, packR, ne_eq, reduceCtorEq, Nat.reduceEqDiff, ↓reduceIte, if_true, if_false, eq_self, Nat.reduceAdd, Nat.reduceMul, Nat.reduceSub, forall_const, oneCellS, litOne, flat1, Kd.isSca, flat, TYB]
  refine among_use (hd1.pushI hlt) hlt hm (by omega) (L := [3, 4, 2, 5, 6]) (by simp [hget_cons]; rfl) (by omega) (by simp) fun tub H2 hx2 hd2 hf2 => ?_
  have ht1 : 2 ≤ tub ∧ tub ≤ 6 := by simp at hx2; omega
  have hz2 := hf2.use (Nat.le_refl _) (by omega) (show hget _ n = some (.ints (List.replicate 24 0) 27) by simp [hget_cons, hz1])
  have hS0 : RkS c kc a n H (n + 3) (List.replicate 24 0) 4 ((n + 3, .ints (List.replicate 24 0) 27) :: (n + 3, .ints (List.replicate 24 0) 27) :: H2) (n + 4) :=
    ⟨(hd2.pushI hlt).putI hlt (by omega) (by omega), by omega, by simp [hget_cons], by simp, fun x hx => by rw [List.eq_of_mem_replicate hx]; simp [In64], by simp [hget_cons]; exact hz2⟩
  clear hf1 hf2 hd1 hd2 hz1 hz2
  simp -implicitDefEqProofs only [Nat.add_assoc, add_self, self_add, add_add, ZB, Int.reduceToNat, Nat.reduceLT, Nat.reduceLeDiff, Int.reduceLE, Int.reduceLT, Nat.reduceEqDiff, Nat.reduceSub, SB, SV.known, packR, ne_eq, reduceCtorEq, Nat.reduceEqDiff, ↓reduceIte, if_true, if_false, eq_self, Nat.reduceAdd, Nat.reduceMul, Nat.reduceSub, forall_const, oneCellS, litOne, flat1, Kd.isSca, flat, TYB]
  refine ⟨by omega, ?_⟩
  refine loop_introN (fun s : (Nat × List Int) × Heap × Nat => [(6, .int s.1.1), (5, .int tub), (4, .int col), (3, .ptr (n + 3) 0), (2, .ptr n 0), (0, .ptr c 0)]) (fun s => s.2.1) (fun s => s.2.2)
    (fun s => s.1.1 ≤ 6 ∧ RkS c kc a n H (n + 3) s.1.2 (4 + 26 * s.1.1) s.2.1 s.2.2) (fun s => 6 - s.1.1) ?_ ?_
  · exact ⟨((0, List.replicate 24 0), _, n + 4), ⟨Nat.zero_le _, hS0⟩, Sub.same (by simp only [LB, subS, subH, wfS, wfH, SV.ren, renL, SObj.ren, SV.wf, SObj.wf, wfL, SV.known, Nat.reduceEqDiff, ↓reduceIte, if_true, if_false, eq_self, Nat.reduceAdd, Nat.reduceLT, Nat.reduceLeDiff, implies_true, reduceCtorEq, forall_const]; try rfl) (by simp [subS, subH, wfS, wfH, SV.ren, renL, SObj.ren, SV.wf, SObj.wf, wfL, sget_cons, hget_cons] <;> omega) hS0.d.wf hS0.d.le⟩
  · rintro ⟨⟨i, R⟩, H3, n3⟩ ⟨hi, hS⟩
    simp only at hi hS
    by_cases hit : (i : Int) < tub
    · simp -implicitDefEqProofs only [lk_normal, hit, ZB, Int.reduceToNat, Nat.reduceLT, Nat.reduceLeDiff, Int.reduceLE, Int.reduceLT, Nat.reduceEqDiff, Nat.reduceSub, SB, SV.known, packR, ne_eq, reduceCtorEq, Nat.reduceEqDiff, ↓reduceIte, if_true, if_false, eq_self, Nat.reduceAdd, Nat.reduceMul, Nat.reduceSub, forall_const, oneCellS, litOne, flat1, Kd.isSca, flat, TYB]
      refine loop_introN (fun s : (Nat × List Int) × Heap × Nat => [(7, .int s.1.1), (6, .int i), (5, .int tub), (4, .int col), (3, .ptr (n + 3) 0), (2, .ptr n 0), (0, .ptr c 0)]) (fun s => s.2.1) (fun s => s.2.2)
        (fun s => s.1.1 ≤ 4 ∧ RkS c kc a n H (n + 3) s.1.2 (4 + 26 * i + 6 * s.1.1) s.2.1 s.2.2) (fun s => 4 - s.1.1) ?_ ?_
      · have hq := hS.lt
        exact ⟨((0, R), H3, n3), ⟨Nat.zero_le _, hS⟩, Sub.same (by simp only [LB, subS, subH, wfS, wfH, SV.ren, renL, SObj.ren, SV.wf, SObj.wf, wfL, SV.known, Nat.reduceEqDiff, ↓reduceIte, if_true, if_false, eq_self, Nat.reduceAdd, Nat.reduceLT, Nat.reduceLeDiff, implies_true, reduceCtorEq, forall_const]; try rfl) (by simp [subS, subH, wfS, wfH, SV.ren, renL, SObj.ren, SV.wf, SObj.wf, wfL, sget_cons, hget_cons] <;> omega) hS.d.wf hS.d.le⟩
      · rintro ⟨⟨j, R1⟩, H4, n4⟩ ⟨hj, hS1⟩
        simp only at hj hS1
        have hn4 := hS1.lt
        have e4 := ne_add' hn4.2
        simp -implicitDefEqProofs only [lk_normal, ZB, Int.reduceToNat, Nat.reduceLT, Nat.reduceLeDiff, Int.reduceLE, Int.reduceLT, Nat.reduceEqDiff, Nat.reduceSub, SB, SV.known, packR, ne_eq, reduceCtorEq, Nat.reduceEqDiff, ↓reduceIte, if_true, if_false, eq_self, Nat.reduceAdd, Nat.reduceMul, Nat.reduceSub, forall_const, oneCellS, litOne, flat1, Kd.isSca, flat, TYB]
        refine among_use (hS1.d.pushI hlt) hlt hm (by omega) (L := [4, 3, 4, 2, 1, 0]) (by simp [hget_cons]; rfl) (by omega) (by simp) fun x H5 hx hd5 hf5 => ?_
        have hx1 : 0 ≤ x ∧ x ≤ 4 := by simp at hx; omega
        have hS5 := (hS1.pushI hlt).draw hd5 hf5 (Nat.le_refl _)
        by_cases hjx : (j : Int) < x
        · have hr5 := hS5.r
          have l5 := hS5.l
          simp -implicitDefEqProofs only [lk_normal, hjx, ZB, Int.reduceToNat, Nat.reduceLT, Nat.reduceLeDiff, Int.reduceLE, Int.reduceLT, Nat.reduceEqDiff, Nat.reduceSub, SB, SV.known, packR, ne_eq, reduceCtorEq, Nat.reduceEqDiff, ↓reduceIte, if_true, if_false, eq_self, Nat.reduceAdd, Nat.reduceMul, Nat.reduceSub, forall_const, oneCellS, litOne, flat1, Kd.isSca, flat, TYB]
          refine pick_use hS5.d hlt hm (by omega) fun y H6 hy0 hy1 hd6 hf6 => ?_
          have hS6 := hS5.draw hd6 hf6 (Nat.le_refl _)
          have hr6 := hS6.r
          have hy : In64 (1 + y) := by unfold In64; omega
          have i0 : 0 ≤ (i : Int) := by omega
          have j0 : 0 ≤ (j : Int) := by omega
          have j4 : (j : Int) < 4 := by omega
          have i6 : (i : Int) < 6 := by omega
          have ij : i * 4 + j < 24 := by omega
          simp -implicitDefEqProofs only [hr6, hy, i0, j0, j4, i6, hS6.l, ij, ZB, Int.reduceToNat, Nat.reduceLT, Nat.reduceLeDiff, Int.reduceLE, Int.reduceLT, Nat.reduceEqDiff, Nat.reduceSub, SB, SV.known, packR, ne_eq, reduceCtorEq, Nat.reduceEqDiff, ↓reduceIte, if_true, if_false, eq_self, Nat.reduceAdd, Nat.reduceMul, Nat.reduceSub, forall_const, oneCellS, litOne, flat1, Kd.isSca, flat, TYB]
          have hS7 := hS6.set hlt (R' := R1.set (i * 4 + j) (1 + y)) (by rw [List.length_set]; exact hS6.l) (in64_set hS6.i hy)
          have hnext : ∀ (R' : List Int) (H8 : Heap), RkS c kc a n H (n + 3) R' (4 + 26 * i + 6 * (j + 1)) H8 (n4 + 1) → j + 1 ≤ 4 ∧ RkS c kc a n H (n + 3) R' (4 + 26 * i + 6 * (j + 1)) H8 (n4 + 1) := fun R' H8 h => ⟨by omega, h⟩
          refine ⟨by omega, fun hj0 => one_use hS7.d hlt hm (by omega) fun o H8 hd8 hf8 => ?_, fun hj0 => ?_⟩
          · have hS8 := hS7.draw hd8 hf8 (Nat.le_refl _)
            cases o
            · simp -implicitDefEqProofs only [lk_normal, ZB, Int.reduceToNat, Nat.reduceLT, Nat.reduceLeDiff, Int.reduceLE, Int.reduceLT, Nat.reduceEqDiff, Nat.reduceSub, SB, SV.known, packR, ne_eq, reduceCtorEq, Nat.reduceEqDiff, ↓reduceIte, if_true, if_false, eq_self, Nat.reduceAdd, Nat.reduceMul, Nat.reduceSub, forall_const, oneCellS, litOne, flat1, Kd.isSca, flat, TYB]
              have hq := hS8.lt
              exact ⟨by unfold In64; omega, ((j + 1, R1.set (i * 4 + j) (1 + y)), H8, n4 + 1), ⟨by show j + 1 ≤ 4; omega, RkS.more hS8 (by show _ ≤ 4 + 26 * i + 6 * (j + 1); omega)⟩, by show 4 - (j + 1) < 4 - j; omega, Sub.same (by simp only [LB, subS, subH, wfS, wfH, SV.ren, renL, SObj.ren, SV.wf, SObj.wf, wfL, SV.known, Nat.reduceEqDiff, ↓reduceIte, if_true, if_false, eq_self, Nat.reduceAdd, Nat.reduceLT, Nat.reduceLeDiff, implies_true, reduceCtorEq, forall_const]; try rfl) (by simp [subS, subH, wfS, wfH, SV.ren, renL, SObj.ren, SV.wf, SObj.wf, wfL, sget_cons, hget_cons] <;> omega) (RkS.d hS8).wf (RkS.d hS8).le⟩
            · have hr8 := hS8.r
              have l8 := hS8.l
              have j1 : 0 ≤ (j : Int) - 1 := by omega
              have j5 : (j : Int) - 1 < 4 := by omega
              have j6 : ((j : Int) - 1).toNat = j - 1 := by omega
              have j7 : In64 ((j : Int) - 1) := by unfold In64; omega
              have ij1 : i * 4 + (j - 1) < 24 := by omega
              simp -implicitDefEqProofs only [lk_normal, hr8, l8, j1, j5, j6, j7, i0, j0, j4, i6, ij, ij1, ZB, Int.reduceToNat, Nat.reduceLT, Nat.reduceLeDiff, Int.reduceLE, Int.reduceLT, Nat.reduceEqDiff, Nat.reduceSub, SB, SV.known, packR, ne_eq, reduceCtorEq, Nat.reduceEqDiff, ↓reduceIte, if_true, if_false, eq_self, Nat.reduceAdd, Nat.reduceMul, Nat.reduceSub, forall_const, oneCellS, litOne, flat1, Kd.isSca, flat, TYB]
              have hq := hS8.lt
              have hS9 := hS8.set hlt (R' := (R1.set (i * 4 + j) (1 + y)).set (i * 4 + j) ((R1.set (i * 4 + j) (1 + y)).getD (i * 4 + (j - 1)) 0)) (by rw [List.length_set]; exact hS8.l) (in64_set hS8.i (in64_getD hS8.i (by rw [l8]; exact ij1)))
              refine ⟨by omega, ?_⟩
              exact ⟨by unfold In64; omega, ((j + 1, _), _, n4 + 1), ⟨by show j + 1 ≤ 4; omega, RkS.more hS9 (by show _ ≤ 4 + 26 * i + 6 * (j + 1); omega)⟩, by show 4 - (j + 1) < 4 - j; omega, Sub.same (by simp only [LB, subS, subH, wfS, wfH, SV.ren, renL, SObj.ren, SV.wf, SObj.wf, wfL, SV.known, Nat.reduceEqDiff, ↓reduceIte, if_true, if_false, eq_self, Nat.reduceAdd, Nat.reduceLT, Nat.reduceLeDiff, implies_true, reduceCtorEq, forall_const]; try rfl) (by simp [subS, subH, wfS, wfH, SV.ren, renL, SObj.ren, SV.wf, SObj.wf, wfL, sget_cons, hget_cons] <;> omega) (RkS.d hS9).wf (RkS.d hS9).le⟩
          · simp -implicitDefEqProofs only [lk_normal, ZB, Int.reduceToNat, Nat.reduceLT, Nat.reduceLeDiff, Int.reduceLE, Int.reduceLT, Nat.reduceEqDiff, Nat.reduceSub, SB, SV.known, packR, ne_eq, reduceCtorEq, Nat.reduceEqDiff, ↓reduceIte, if_true, if_false, eq_self, Nat.reduceAdd, Nat.reduceMul, Nat.reduceSub, forall_const, oneCellS, litOne, flat1, Kd.isSca, flat, TYB]
            have hq := hS7.lt
            exact ⟨by unfold In64; omega, ((j + 1, _), _, n4 + 1), ⟨by show j + 1 ≤ 4; omega, RkS.more hS7 (by show _ ≤ 4 + 26 * i + 6 * (j + 1); omega)⟩, by show 4 - (j + 1) < 4 - j; omega, Sub.same (by simp only [LB, subS, subH, wfS, wfH, SV.ren, renL, SObj.ren, SV.wf, SObj.wf, wfL, SV.known, Nat.reduceEqDiff, ↓reduceIte, if_true, if_false, eq_self, Nat.reduceAdd, Nat.reduceLT, Nat.reduceLeDiff, implies_true, reduceCtorEq, forall_const]; try rfl) (by simp [subS, subH, wfS, wfH, SV.ren, renL, SObj.ren, SV.wf, SObj.wf, wfL, sget_cons, hget_cons] <;> omega) (RkS.d hS7).wf (RkS.d hS7).le⟩
        · simp -implicitDefEqProofs only [lk_normal, hjx, ZB, Int.reduceToNat, Nat.reduceLT, Nat.reduceLeDiff, Int.reduceLE, Int.reduceLT, Nat.reduceEqDiff, Nat.reduceSub, SB, SV.known, packR, ne_eq, reduceCtorEq, Nat.reduceEqDiff, ↓reduceIte, if_true, if_false, eq_self, Nat.reduceAdd, Nat.reduceMul, Nat.reduceSub, forall_const, oneCellS, litOne, flat1, Kd.isSca, flat, TYB]
          have hq := hS5.lt
          exact ⟨by unfold In64; omega, ((i + 1, R1), H5, n4 + 1), ⟨by show i + 1 ≤ 6; omega, hS5.more (by show _ ≤ 4 + 26 * (i + 1); omega)⟩, by show 6 - (i + 1) < 6 - i; omega, Sub.same (by simp only [LB, subS, subH, wfS, wfH, SV.ren, renL, SObj.ren, SV.wf, SObj.wf, wfL, SV.known, Nat.reduceEqDiff, ↓reduceIte, if_true, if_false, eq_self, Nat.reduceAdd, Nat.reduceLT, Nat.reduceLeDiff, implies_true, reduceCtorEq, forall_const]; try rfl) (by simp [subS, subH, wfS, wfH, SV.ren, renL, SObj.ren, SV.wf, SObj.wf, wfL, sget_cons, hget_cons] <;> omega) hS5.d.wf hS5.d.le⟩
    · simp -implicitDefEqProofs only [lk_normal, hit, ZB, Int.reduceToNat, Nat.reduceLT, Nat.reduceLeDiff, Int.reduceLE, Int.reduceLT, Nat.reduceEqDiff, Nat.reduceSub, SB, SV.known, packR, ne_eq, reduceCtorEq, Nat.reduceEqDiff, ↓reduceIte, if_true, if_false, eq_self, Nat.reduceAdd, Nat.reduceMul, Nat.reduceSub, forall_const, oneCellS, litOne, flat1, Kd.isSca, flat, TYB]
      have hS1 := hS.more (k' := 160) (by omega)
      clear hS hit
      refine loop_introN (fun s : (Nat × List Int) × Heap × Nat => [(8, .int s.1.1), (5, .int tub), (4, .int col), (3, .ptr (n + 3) 0), (2, .ptr n 0), (0, .ptr c 0)]) (fun s => s.2.1) (fun s => s.2.2)
        (fun s => s.1.1 ≤ 6 ∧ RkS c kc a n H (n + 3) s.1.2 160 s.2.1 s.2.2) (fun s => 6 - s.1.1) ?_ ?_
      · have hq := hS1.lt
        exact ⟨((0, R), H3, n3), ⟨Nat.zero_le _, hS1⟩, Sub.same (by simp only [LB, subS, subH, wfS, wfH, SV.ren, renL, SObj.ren, SV.wf, SObj.wf, wfL, SV.known, Nat.reduceEqDiff, ↓reduceIte, if_true, if_false, eq_self, Nat.reduceAdd, Nat.reduceLT, Nat.reduceLeDiff, implies_true, reduceCtorEq, forall_const]; try rfl) (by simp [subS, subH, wfS, wfH, SV.ren, renL, SObj.ren, SV.wf, SObj.wf, wfL, sget_cons, hget_cons] <;> omega) hS1.d.wf hS1.d.le⟩
      · rintro ⟨⟨k, R2⟩, H4, n4⟩ ⟨hk, hS2⟩
        simp only at hk hS2
        have hq := hS2.lt
        by_cases hk6 : (k : Int) < 6
        · simp -implicitDefEqProofs only [lk_normal, hk6, ZB, Int.reduceToNat, Nat.reduceLT, Nat.reduceLeDiff, Int.reduceLE, Int.reduceLT, Nat.reduceEqDiff, Nat.reduceSub, SB, SV.known, packR, ne_eq, reduceCtorEq, Nat.reduceEqDiff, ↓reduceIte, if_true, if_false, eq_self, Nat.reduceAdd, Nat.reduceMul, Nat.reduceSub, forall_const, oneCellS, litOne, flat1, Kd.isSca, flat, TYB]
          refine loop_introN (fun s : (Nat × List Int) × Heap × Nat => [(9, .int (s.1.1 : Nat)), (8, .int k), (5, .int tub), (4, .int col), (3, .ptr (n + 3) 0), (2, .ptr n 0), (0, .ptr c 0)]) (fun s => s.2.1) (fun s => s.2.2)
            (fun s => (1 ≤ s.1.1 ∧ s.1.1 ≤ 4) ∧ RkS c kc a n H (n + 3) s.1.2 160 s.2.1 s.2.2) (fun s => 4 - s.1.1) ?_ ?_
          · exact ⟨((1, R2), H4, n4), ⟨⟨Nat.le_refl _, by show 1 ≤ 4; omega⟩, hS2⟩, Sub.same (by simp only [LB, subS, subH, wfS, wfH, SV.ren, renL, SObj.ren, SV.wf, SObj.wf, wfL, SV.known, Nat.reduceEqDiff, ↓reduceIte, if_true, if_false, eq_self, Nat.reduceAdd, Nat.reduceLT, Nat.reduceLeDiff, implies_true, reduceCtorEq, forall_const]; try rfl) (by simp [subS, subH, wfS, wfH, SV.ren, renL, SObj.ren, SV.wf, SObj.wf, wfL, sget_cons, hget_cons] <;> omega) hS2.d.wf hS2.d.le⟩
          · rintro ⟨⟨j, R3⟩, H5, n5⟩ ⟨hj, hS3⟩
            simp only at hj hS3
            have hq3 := hS3.lt
            by_cases hj4 : (j : Int) < 4
            · have hr3 := hS3.r
              have l3 := hS3.l
              have k0 : 0 ≤ (k : Int) := by omega
              have j0 : 0 ≤ (j : Int) := by omega
              have j1 : 0 ≤ (j : Int) - 1 := by omega
              have j5 : (j : Int) - 1 < 4 := by omega
              have j6 : ((j : Int) - 1).toNat = j - 1 := by omega
              have j7 : In64 ((j : Int) - 1) := by unfold In64; omega
              have kj : k * 4 + j < 24 := by omega
              have kj1 : k * 4 + (j - 1) < 24 := by omega
              simp -implicitDefEqProofs only [lk_normal, hr3, l3, hk6, hj4, k0, j0, j1, j5, j6, j7, kj, kj1, ZB, Int.reduceToNat, Nat.reduceLT, Nat.reduceLeDiff, Int.reduceLE, Int.reduceLT, Nat.reduceEqDiff, Nat.reduceSub, SB, SV.known, packR, ne_eq, reduceCtorEq, Nat.reduceEqDiff, ↓reduceIte, if_true, if_false, eq_self, Nat.reduceAdd, Nat.reduceMul, Nat.reduceSub, forall_const, oneCellS, litOne, flat1, Kd.isSca, flat, TYB]
              refine ⟨fun _ => ⟨by omega, ?_⟩, fun _ => ?_⟩
              · have hS4 := hS3.set hlt (R' := R3.set (k * 4 + j) 0) (by rw [List.length_set]; exact l3) (in64_set hS3.i (by simp [In64]))
                exact ⟨by unfold In64; omega, ((j + 1, R3.set (k * 4 + j) 0), _, n5), ⟨⟨by show 1 ≤ j + 1; omega, by show j + 1 ≤ 4; omega⟩, hS4⟩, by show 4 - (j + 1) < 4 - j; omega, Sub.same (by simp only [LB, subS, subH, wfS, wfH, SV.ren, renL, SObj.ren, SV.wf, SObj.wf, wfL, SV.known, Nat.reduceEqDiff, ↓reduceIte, if_true, if_false, eq_self, Nat.reduceAdd, Nat.reduceLT, Nat.reduceLeDiff, implies_true, reduceCtorEq, forall_const]; try rfl) (by simp [subS, subH, wfS, wfH, SV.ren, renL, SObj.ren, SV.wf, SObj.wf, wfL, sget_cons, hget_cons] <;> omega) hS4.d.wf hS4.d.le⟩
              · exact ⟨by unfold In64; omega, ((j + 1, R3), _, n5), ⟨⟨by show 1 ≤ j + 1; omega, by show j + 1 ≤ 4; omega⟩, hS3⟩, by show 4 - (j + 1) < 4 - j; omega, Sub.same (by simp only [LB, subS, subH, wfS, wfH, SV.ren, renL, SObj.ren, SV.wf, SObj.wf, wfL, SV.known, Nat.reduceEqDiff, ↓reduceIte, if_true, if_false, eq_self, Nat.reduceAdd, Nat.reduceLT, Nat.reduceLeDiff, implies_true, reduceCtorEq, forall_const]; try rfl) (by simp [subS, subH, wfS, wfH, SV.ren, renL, SObj.ren, SV.wf, SObj.wf, wfL, sget_cons, hget_cons] <;> omega) hS3.d.wf hS3.d.le⟩
            · simp -implicitDefEqProofs only [lk_normal, hj4, ZB, Int.reduceToNat, Nat.reduceLT, Nat.reduceLeDiff, Int.reduceLE, Int.reduceLT, Nat.reduceEqDiff, Nat.reduceSub, SB, SV.known, packR, ne_eq, reduceCtorEq, Nat.reduceEqDiff, ↓reduceIte, if_true, if_false, eq_self, Nat.reduceAdd, Nat.reduceMul, Nat.reduceSub, forall_const, oneCellS, litOne, flat1, Kd.isSca, flat, TYB]
              exact ⟨by unfold In64; omega, ((k + 1, R3), H5, n5), ⟨by show k + 1 ≤ 6; omega, hS3⟩, by show 6 - (k + 1) < 6 - k; omega, Sub.same (by simp only [LB, subS, subH, wfS, wfH, SV.ren, renL, SObj.ren, SV.wf, SObj.wf, wfL, SV.known, Nat.reduceEqDiff, ↓reduceIte, if_true, if_false, eq_self, Nat.reduceAdd, Nat.reduceLT, Nat.reduceLeDiff, implies_true, reduceCtorEq, forall_const]; try rfl) (by simp [subS, subH, wfS, wfH, SV.ren, renL, SObj.ren, SV.wf, SObj.wf, wfL, sget_cons, hget_cons] <;> omega) hS3.d.wf hS3.d.le⟩
        · clear hS1
          simp -implicitDefEqProofs only [lk_normal, hk6, ZB, Int.reduceToNat, Nat.reduceLT, Nat.reduceLeDiff, Int.reduceLE, Int.reduceLT, Nat.reduceEqDiff, Nat.reduceSub, SB, SV.known, packR, ne_eq, reduceCtorEq, Nat.reduceEqDiff, ↓reduceIte, if_true, if_false, eq_self, Nat.reduceAdd, Nat.reduceMul, Nat.reduceSub, forall_const, oneCellS, litOne, flat1, Kd.isSca, flat, TYB]
          refine one_use hS2.d hlt hm (by omega) fun o H6 hd6 hf6 => ?_
          have hS6 := hS2.draw hd6 hf6 (Nat.le_refl _)
          cases o
          · simp -implicitDefEqProofs only [lk_normal, ZB, Int.reduceToNat, Nat.reduceLT, Nat.reduceLeDiff, Int.reduceLE, Int.reduceLT, Nat.reduceEqDiff, Nat.reduceSub, SB, SV.known, packR, ne_eq, reduceCtorEq, Nat.reduceEqDiff, ↓reduceIte, if_true, if_false, eq_self, Nat.reduceAdd, Nat.reduceMul, Nat.reduceSub, forall_const, oneCellS, litOne, flat1, Kd.isSca, flat, TYB]
            refine pick_use hS6.d hlt hm (by omega) fun w H7 hw0 hw1 hd7 hf7 => ?_
            have hS7 := hS6.draw hd7 hf7 (Nat.le_refl _)
            have hr7 := hS7.r
            have hz7 := hS7.z
            have l7 := hS7.l
            have tk7 : R2.take 24 = R2 := List.take_of_length_le (by omega)
            have fin : ∀ (R' : List Int) (k' : Nat) (H' : Heap) (n' : Nat), R'.length = 24 → (∀ x ∈ R', In64 x) → Drawn c kc a k' n H H' n' → n < n' → k' ≤ 1000 → ∃ R : List Int, R' = R ∧ R.length = 24 ∧ (∀ x ∈ R, In64 x) ∧ Drawn c kc a 1000 n H ((n, .ints R' 27) :: H') n' := fun R' k' H' n' h1 h2 h3 h4 h5 => ⟨R', rfl, h1, h2, (h3.more h5).putI hlt (Nat.le_refl _) h4⟩
            have hq7 := hS7.lt
            by_cases w0 : w = 0
            · have w0' : (w = 0) = True := eq_true w0
              simp -implicitDefEqProofs only [lk_normal, w0', ZB, Int.reduceToNat, Nat.reduceLT, Nat.reduceLeDiff, Int.reduceLE, Int.reduceLT, Nat.reduceEqDiff, Nat.reduceSub, SB, SV.known, packR, ne_eq, reduceCtorEq, Nat.reduceEqDiff, ↓reduceIte, if_true, if_false, eq_self, Nat.reduceAdd, Nat.reduceMul, Nat.reduceSub, forall_const, oneCellS, litOne, flat1, Kd.isSca, flat, TYB]
              refine ⟨{q : List Int × Heap × Nat // RkS c kc a n H (n + 3) q.1 300 q.2.1 q.2.2}, fun q => [(3, .ptr (n + 3) 0), (2, .ptr n 0)], fun q => q.1.2.1, fun q => q.1.2.2, ?_, ?_⟩
              · simp -implicitDefEqProofs only [ZB, Int.reduceToNat, Nat.reduceLT, Nat.reduceLeDiff, Int.reduceLE, Int.reduceLT, Nat.reduceEqDiff, Nat.reduceSub, SB, SV.known, packR, ne_eq, reduceCtorEq, Nat.reduceEqDiff, ↓reduceIte, if_true, if_false, eq_self, Nat.reduceAdd, Nat.reduceMul, Nat.reduceSub, forall_const, oneCellS, litOne, flat1, Kd.isSca, flat, TYB]
                refine ⟨?_, ?_⟩
                · refine pick_use hS7.d hlt hm (by omega) fun x H8 g0 g1 hd8 hf8 => ?_
                  have hS8 := hS7.draw hd8 hf8 (Nat.le_refl _)
                  obtain ⟨X, rfl⟩ : ∃ X : Nat, x = X := ⟨x.toNat, by omega⟩
                  have x6 : (X : Int) < 6 := by omega
                  simp -implicitDefEqProofs only [x6, g0, ZB, Int.reduceToNat, Nat.reduceLT, Nat.reduceLeDiff, Int.reduceLE, Int.reduceLT, Nat.reduceEqDiff, Nat.reduceSub, SB, SV.known, packR, ne_eq, reduceCtorEq, Nat.reduceEqDiff, ↓reduceIte, if_true, if_false, eq_self, Nat.reduceAdd, Nat.reduceMul, Nat.reduceSub, forall_const, oneCellS, litOne, flat1, Kd.isSca, flat, TYB]
                  refine ⟨?_, ?_⟩
                  · refine pick_use hS8.d hlt hm (by omega) fun y H9 k0 k1 hd9 hf9 => ?_
                    have hS9 := hS8.draw hd9 hf9 (Nat.le_refl _)
                    simp -implicitDefEqProofs only [ZB, Int.reduceToNat, Nat.reduceLT, Nat.reduceLeDiff, Int.reduceLE, Int.reduceLT, Nat.reduceEqDiff, Nat.reduceSub, SB, SV.known, packR, ne_eq, reduceCtorEq, Nat.reduceEqDiff, ↓reduceIte, if_true, if_false, eq_self, Nat.reduceAdd, Nat.reduceMul, Nat.reduceSub, forall_const, oneCellS, litOne, flat1, Kd.isSca, flat, TYB]
                    refine among_use (hS9.d.pushI hlt) hlt hm (by omega) (L := [-1, 6, 4611686018427387904]) (by simp [hget_cons]; rfl) (by omega) (by simp) fun z Hz hzl hdz hfz => ?_
                    have hSz := (hS9.pushI hlt).draw hdz hfz (Nat.le_refl _)
                    obtain ⟨Y, rfl⟩ : ∃ Y : Nat, y = Y := ⟨y.toNat, by omega⟩
                    have y4 : (Y : Int) < 4 := by omega
                    have xy : X * 4 + Y < 24 := by omega
                    have hz : In64 z := by simp at hzl; unfold In64; omega
                    have hrz := hSz.r
                    have lz := hSz.l
                    have hqz := hSz.lt
                    have hSw := (hSz.set hlt (R' := R2.set (X * 4 + Y) z) (by rw [List.length_set]; exact lz) (in64_set hSz.i hz)).more (k' := 300) (by omega)
                    simp -implicitDefEqProofs only [lk_normal, hrz, lz, x6, y4, xy, g0, k0, ZB, Int.reduceToNat, Nat.reduceLT, Nat.reduceLeDiff, Int.reduceLE, Int.reduceLT, Nat.reduceEqDiff, Nat.reduceSub, SB, SV.known, packR, ne_eq, reduceCtorEq, Nat.reduceEqDiff, ↓reduceIte, if_true, if_false, eq_self, Nat.reduceAdd, Nat.reduceMul, Nat.reduceSub, forall_const, oneCellS, litOne, flat1, Kd.isSca, flat, TYB]
                    exact ⟨by omega, ⟨(R2.set (X * 4 + Y) z, _, _), hSw⟩, Sub.same (by simp only [LB, subS, subH, wfS, wfH, SV.ren, renL, SObj.ren, SV.wf, SObj.wf, wfL, SV.known, Nat.reduceEqDiff, ↓reduceIte, if_true, if_false, eq_self, Nat.reduceAdd, Nat.reduceLT, Nat.reduceLeDiff, implies_true, reduceCtorEq, forall_const]; try rfl) (by simp [subS, subH, wfS, wfH, SV.ren, renL, SObj.ren, SV.wf, SObj.wf, wfL, sget_cons, hget_cons] <;> omega) hSw.d.wf hSw.d.le⟩
                  · refine pick_use (hS8.pushI hlt).d hlt hm (by omega) fun y H9 k0 k1 hd9 hf9 => ?_
                    have hS9 := (hS8.pushI hlt).draw hd9 hf9 (Nat.le_refl _)
                    simp -implicitDefEqProofs only [ZB, Int.reduceToNat, Nat.reduceLT, Nat.reduceLeDiff, Int.reduceLE, Int.reduceLT, Nat.reduceEqDiff, Nat.reduceSub, SB, SV.known, packR, ne_eq, reduceCtorEq, Nat.reduceEqDiff, ↓reduceIte, if_true, if_false, eq_self, Nat.reduceAdd, Nat.reduceMul, Nat.reduceSub, forall_const, oneCellS, litOne, flat1, Kd.isSca, flat, TYB]
                    refine among_use hS9.d hlt hm (by omega) (L := [-1, 6, 4611686018427387904]) (hf9.use (by omega) (by omega) (by simp [hget_cons]; rfl)) (by omega) (by simp) fun z Hz hzl hdz hfz => ?_
                    have hSz := hS9.draw hdz hfz (Nat.le_refl _)
                    obtain ⟨Y, rfl⟩ : ∃ Y : Nat, y = Y := ⟨y.toNat, by omega⟩
                    have y4 : (Y : Int) < 4 := by omega
                    have xy : X * 4 + Y < 24 := by omega
                    have hz : In64 z := by simp at hzl; unfold In64; omega
                    have hrz := hSz.r
                    have lz := hSz.l
                    have hqz := hSz.lt
                    have hSw := (hSz.set hlt (R' := R2.set (X * 4 + Y) z) (by rw [List.length_set]; exact lz) (in64_set hSz.i hz)).more (k' := 300) (by omega)
                    simp -implicitDefEqProofs only [lk_normal, hrz, lz, x6, y4, xy, g0, k0, ZB, Int.reduceToNat, Nat.reduceLT, Nat.reduceLeDiff, Int.reduceLE, Int.reduceLT, Nat.reduceEqDiff, Nat.reduceSub, SB, SV.known, packR, ne_eq, reduceCtorEq, Nat.reduceEqDiff, ↓reduceIte, if_true, if_false, eq_self, Nat.reduceAdd, Nat.reduceMul, Nat.reduceSub, forall_const, oneCellS, litOne, flat1, Kd.isSca, flat, TYB]
                    exact ⟨by omega, ⟨(R2.set (X * 4 + Y) z, _, _), hSw⟩, Sub.same (by simp only [LB, subS, subH, wfS, wfH, SV.ren, renL, SObj.ren, SV.wf, SObj.wf, wfL, SV.known, Nat.reduceEqDiff, ↓reduceIte, if_true, if_false, eq_self, Nat.reduceAdd, Nat.reduceLT, Nat.reduceLeDiff, implies_true, reduceCtorEq, forall_const]; try rfl) (by simp [subS, subH, wfS, wfH, SV.ren, renL, SObj.ren, SV.wf, SObj.wf, wfL, sget_cons, hget_cons] <;> omega) hSw.d.wf hSw.d.le⟩
                · refine pick_use (hS7.pushI hlt).d hlt hm (by omega) fun x H8 g0 g1 hd8 hf8 => ?_
                  have hS8 := (hS7.pushI hlt).draw hd8 hf8 (Nat.le_refl _)
                  have hb8 := hf8.use (by omega) (by omega) (show hget _ n4 = some (.ints [-1, 6, 4611686018427387904] 3) by simp [hget_cons])
                  obtain ⟨X, rfl⟩ : ∃ X : Nat, x = X := ⟨x.toNat, by omega⟩
                  have x6 : (X : Int) < 6 := by omega
                  simp -implicitDefEqProofs only [x6, g0, ZB, Int.reduceToNat, Nat.reduceLT, Nat.reduceLeDiff, Int.reduceLE, Int.reduceLT, Nat.reduceEqDiff, Nat.reduceSub, SB, SV.known, packR, ne_eq, reduceCtorEq, Nat.reduceEqDiff, ↓reduceIte, if_true, if_false, eq_self, Nat.reduceAdd, Nat.reduceMul, Nat.reduceSub, forall_const, oneCellS, litOne, flat1, Kd.isSca, flat, TYB]
                  refine pick_use hS8.d hlt hm (by omega) fun y H9 k0 k1 hd9 hf9 => ?_
                  have hS9 := hS8.draw hd9 hf9 (Nat.le_refl _)
                  simp -implicitDefEqProofs only [ZB, Int.reduceToNat, Nat.reduceLT, Nat.reduceLeDiff, Int.reduceLE, Int.reduceLT, Nat.reduceEqDiff, Nat.reduceSub, SB, SV.known, packR, ne_eq, reduceCtorEq, Nat.reduceEqDiff, ↓reduceIte, if_true, if_false, eq_self, Nat.reduceAdd, Nat.reduceMul, Nat.reduceSub, forall_const, oneCellS, litOne, flat1, Kd.isSca, flat, TYB]
                  refine among_use hS9.d hlt hm (by omega) (L := [-1, 6, 4611686018427387904]) (hf9.use (by omega) (by omega) hb8) (by omega) (by simp) fun z Hz hzl hdz hfz => ?_
                  have hSz := hS9.draw hdz hfz (Nat.le_refl _)
                  obtain ⟨Y, rfl⟩ : ∃ Y : Nat, y = Y := ⟨y.toNat, by omega⟩
                  have y4 : (Y : Int) < 4 := by omega
                  have xy : X * 4 + Y < 24 := by omega
                  have hz : In64 z := by simp at hzl; unfold In64; omega
                  have hrz := hSz.r
                  have lz := hSz.l
                  have hqz := hSz.lt
                  have hSw := (hSz.set hlt (R' := R2.set (X * 4 + Y) z) (by rw [List.length_set]; exact lz) (in64_set hSz.i hz)).more (k' := 300) (by omega)
                  simp -implicitDefEqProofs only [lk_normal, hrz, lz, x6, y4, xy, g0, k0, ZB, Int.reduceToNat, Nat.reduceLT, Nat.reduceLeDiff, Int.reduceLE, Int.reduceLT, Nat.reduceEqDiff, Nat.reduceSub, SB, SV.known, packR, ne_eq, reduceCtorEq, Nat.reduceEqDiff, ↓reduceIte, if_true, if_false, eq_self, Nat.reduceAdd, Nat.reduceMul, Nat.reduceSub, forall_const, oneCellS, litOne, flat1, Kd.isSca, flat, TYB]
                  exact ⟨by omega, ⟨(R2.set (X * 4 + Y) z, _, _), hSw⟩, Sub.same (by simp only [LB, subS, subH, wfS, wfH, SV.ren, renL, SObj.ren, SV.wf, SObj.wf, wfL, SV.known, Nat.reduceEqDiff, ↓reduceIte, if_true, if_false, eq_self, Nat.reduceAdd, Nat.reduceLT, Nat.reduceLeDiff, implies_true, reduceCtorEq, forall_const]; try rfl) (by simp [subS, subH, wfS, wfH, SV.ren, renL, SObj.ren, SV.wf, SObj.wf, wfL, sget_cons, hget_cons] <;> omega) hSw.d.wf hSw.d.le⟩
              · rintro ⟨⟨R9, H9, n9⟩, hS9⟩
                simp only at hS9
                have hr9 := hS9.r
                have l9 := hS9.l
                have hz9 := hS9.z
                have hq9 := hS9.lt
                have tk9 : R9.take 24 = R9 := List.take_of_length_le (by omega)
                simp -implicitDefEqProofs only [lk_normal, hr9, hz9, l9, tk9, ZB, Int.reduceToNat, Nat.reduceLT, Nat.reduceLeDiff, Int.reduceLE, Int.reduceLT, Nat.reduceEqDiff, Nat.reduceSub, SB, SV.known, packR, ne_eq, reduceCtorEq, Nat.reduceEqDiff, ↓reduceIte, if_true, if_false, eq_self, Nat.reduceAdd, Nat.reduceMul, Nat.reduceSub, forall_const, oneCellS, litOne, flat1, Kd.isSca, flat, TYB]
                exact ⟨hmn, fin R9 _ H9 n9 hS9.l hS9.i hS9.d (by omega) (by omega)⟩
            by_cases w1 : w = 1
            · have w1' : (w = 1) = True := eq_true w1
              simp -implicitDefEqProofs only [lk_normal, w0, w1', ZB, Int.reduceToNat, Nat.reduceLT, Nat.reduceLeDiff, Int.reduceLE, Int.reduceLT, Nat.reduceEqDiff, Nat.reduceSub, SB, SV.known, packR, ne_eq, reduceCtorEq, Nat.reduceEqDiff, ↓reduceIte, if_true, if_false, eq_self, Nat.reduceAdd, Nat.reduceMul, Nat.reduceSub, forall_const, oneCellS, litOne, flat1, Kd.isSca, flat, TYB]
              refine pick_use hS7.d hlt hm (by omega) fun x H8 g0 g1 hd8 hf8 => ?_
              have hS8 := hS7.draw hd8 hf8 (Nat.le_refl _)
              have hr8 := hS8.r
              have l8 := hS8.l
              have hz8 := hS8.z
              have hq8 := hS8.lt
              obtain ⟨X, rfl⟩ : ∃ X : Nat, x = X := ⟨x.toNat, by omega⟩
              have x6 : (X : Int) < 6 := by omega
              have x4 : X * 4 + 4 ≤ 24 := by omega
              let V : List Int := ((((List.replicate 4 (0 : Int)).set 0 0).set 1 1).set 2 0).set 3 0
              have e3 : (n = n + 3) = False := by simp
              have lV : V.length = 4 := rfl
              have eV : (((((List.replicate 4 (0 : Int)).set 0 0).set 1 1).set 2 0).set 3 0) = V := rfl
              have hRl : (R2.take (X * 4) ++ V ++ R2.drop (X * 4 + 4)).length = 24 := by
                rw [List.length_append, List.length_append, List.length_take, List.length_drop, lV]; omega
              have hRi : ∀ y ∈ R2.take (X * 4) ++ V ++ R2.drop (X * 4 + 4), In64 y := fun y hy => by
                rcases List.mem_append.1 hy with hy | hy
                · rcases List.mem_append.1 hy with hy | hy
                  · exact hS8.i y (List.mem_of_mem_take hy)
                  · have hy' : y ∈ ([0, 1, 0, 0] : List Int) := hy
                    simp at hy'; unfold In64; omega
                · exact hS8.i y (List.mem_of_mem_drop hy)
              have hS9 := hS8.set hlt hRl hRi
              have tk8 : (R2.take (X * 4) ++ V ++ R2.drop (X * 4 + 4)).take 24 = R2.take (X * 4) ++ V ++ R2.drop (X * 4 + 4) := List.take_of_length_le (by omega)
              simp -implicitDefEqProofs only [lk_normal, hr8, l8, hz8, x6, x4, g0, eV, lV, tk8, hRl, e3, ZB, Int.reduceToNat, Nat.reduceLT, Nat.reduceLeDiff, Int.reduceLE, Int.reduceLT, Nat.reduceEqDiff, Nat.reduceSub, SB, SV.known, packR, ne_eq, reduceCtorEq, Nat.reduceEqDiff, ↓reduceIte, if_true, if_false, eq_self, Nat.reduceAdd, Nat.reduceMul, Nat.reduceSub, forall_const, oneCellS, litOne, flat1, Kd.isSca, flat, TYB]
              exact ⟨by omega, hmn, fin _ _ _ n4 hRl hRi hS9.d (by omega) (by omega)⟩
            by_cases w2 : w = 2
            · have w2' : (w = 2) = True := eq_true w2
              simp -implicitDefEqProofs only [lk_normal, hz7, w0, w1, w2', ZB, Int.reduceToNat, Nat.reduceLT, Nat.reduceLeDiff, Int.reduceLE, Int.reduceLT, Nat.reduceEqDiff, Nat.reduceSub, SB, SV.known, packR, ne_eq, reduceCtorEq, Nat.reduceEqDiff, ↓reduceIte, if_true, if_false, eq_self, Nat.reduceAdd, Nat.reduceMul, Nat.reduceSub, forall_const, oneCellS, litOne, flat1, Kd.isSca, flat, TYB]
              exact ⟨hmn, fin (List.replicate 24 0) _ H7 n4 (by simp) (fun x hx => by rw [List.eq_of_mem_replicate hx]; simp [In64]) hS7.d (by omega) (by omega)⟩
            · simp -implicitDefEqProofs only [lk_normal, hr7, hz7, l7, tk7, w0, w1, w2, ZB, Int.reduceToNat, Nat.reduceLT, Nat.reduceLeDiff, Int.reduceLE, Int.reduceLT, Nat.reduceEqDiff, Nat.reduceSub, SB, SV.known, packR, ne_eq, reduceCtorEq, Nat.reduceEqDiff, ↓reduceIte, if_true, if_false, eq_self, Nat.reduceAdd, Nat.reduceMul, Nat.reduceSub, forall_const, oneCellS, litOne, flat1, Kd.isSca, flat, TYB]
              exact ⟨hmn, fin R2 _ H7 n4 l7 hS7.i hS7.d (by omega) (by omega)⟩
          · simp -implicitDefEqProofs only [lk_normal, ZB, Int.reduceToNat, Nat.reduceLT, Nat.reduceLeDiff, Int.reduceLE, Int.reduceLT, Nat.reduceEqDiff, Nat.reduceSub, SB, SV.known, packR, ne_eq, reduceCtorEq, Nat.reduceEqDiff, ↓reduceIte, if_true, if_false, eq_self, Nat.reduceAdd, Nat.reduceMul, Nat.reduceSub, forall_const, oneCellS, litOne, flat1, Kd.isSca, flat, TYB]
            refine pick_use hS6.d hlt hm (by omega) fun x Ha x0 x1 hda hfa => ?_
            have hSa := hS6.draw hda hfa (Nat.le_refl _)
            simp -implicitDefEqProofs only [ZB, Int.reduceToNat, Nat.reduceLT, Nat.reduceLeDiff, Int.reduceLE, Int.reduceLT, Nat.reduceEqDiff, Nat.reduceSub, SB, SV.known, packR, ne_eq, reduceCtorEq, Nat.reduceEqDiff, ↓reduceIte, if_true, if_false, eq_self, Nat.reduceAdd, Nat.reduceMul, Nat.reduceSub, forall_const, oneCellS, litOne, flat1, Kd.isSca, flat, TYB]
            refine pick_use hSa.d hlt hm (by omega) fun y Hb y0 y1 hdb hfb => ?_
            have hSb := hSa.draw hdb hfb (Nat.le_refl _)
            obtain ⟨X, rfl⟩ : ∃ X : Nat, x = X := ⟨x.toNat, by omega⟩
            obtain ⟨Y, rfl⟩ : ∃ Y : Nat, y = Y := ⟨y.toNat, by omega⟩
            have x6 : (X : Int) < 6 := by omega
            have y6 : (Y : Int) < 6 := by omega
            have x4 : X * 4 + 4 ≤ 24 := by omega
            have y4 : Y * 4 + 4 ≤ 24 := by omega
            have hrb := hSb.r
            have lb := hSb.l
            have hqb := hSb.lt
            simp -implicitDefEqProofs only [ZB, Int.reduceToNat, Nat.reduceLT, Nat.reduceLeDiff, Int.reduceLE, Int.reduceLT, Nat.reduceEqDiff, Nat.reduceSub, SB, SV.known, packR, ne_eq, reduceCtorEq, Nat.reduceEqDiff, ↓reduceIte, if_true, if_false, eq_self, Nat.reduceAdd, Nat.reduceMul, Nat.reduceSub, forall_const, oneCellS, litOne, flat1, Kd.isSca, flat, TYB]
            refine ⟨{q : (Nat × Nat) × Heap × Nat // RkS c kc a n H (n + 3) R2 170 q.2.1 q.2.2 ∧ hget q.2.1 q.1.1 = some (.ints ((R2.drop (X * 4)).take 4) 24) ∧ hget q.2.1 q.1.2 = some (.ints ((R2.drop (Y * 4)).take 4) 24) ∧ n + 3 < q.1.1 ∧ n + 3 < q.1.2 ∧ q.1.1 < q.2.2 ∧ q.1.2 < q.2.2},
              fun q => [(13, .ptr q.1.1.2 0), (12, .ptr q.1.1.1 0), (11, .int Y), (10, .int X), (3, .ptr (n + 3) 0), (2, .ptr n 0), (0, .ptr c 0)], fun q => q.1.2.1, fun q => q.1.2.2, ?_, ?_⟩
            · have lA : ((R2.drop (X * 4)).take 4).length = 4 := by rw [List.length_take, List.length_drop]; omega
              have lB : ((R2.drop (Y * 4)).take 4).length = 4 := by rw [List.length_take, List.length_drop]; omega
              have tA : ((R2.drop (X * 4)).take 4).take 4 = (R2.drop (X * 4)).take 4 := List.take_of_length_le (by omega)
              have tB : ((R2.drop (Y * 4)).take 4).take 4 = (R2.drop (Y * 4)).take 4 := List.take_of_length_le (by omega)
              have e3 : ∀ i, (n4 + i = n + 3) = False := fun i => by simp; omega
              have e4 : ∀ i, (n + 3 = n4 + i) = False := fun i => by simp; omega
              have e5 : (n4 = n + 3) = False := by simp; omega
              have e6 : (n + 3 = n4) = False := by simp; omega
              simp -implicitDefEqProofs only [hrb, lb, x0, x6, x4, y0, y6, y4, Nat.add_assoc, add_self, self_add, add_add, e3, e4, e5, e6, lA, lB, tA, tB, ZB, Int.reduceToNat, Nat.reduceLT, Nat.reduceLeDiff, Int.reduceLE, Int.reduceLT, Nat.reduceEqDiff, Nat.reduceSub, SB, SV.known, packR, ne_eq, reduceCtorEq, Nat.reduceEqDiff, ↓reduceIte, if_true, if_false, eq_self, Nat.reduceAdd, Nat.reduceMul, Nat.reduceSub, forall_const, oneCellS, litOne, flat1, Kd.isSca, flat, TYB]
              have hwk : ∀ (L1 L2 L3 L4 : List Int) (e1 e2 e3 e4 k1 k2 k3 k4 : Nat), n4 ≤ k1 → n4 ≤ k2 → n4 ≤ k3 → n4 ≤ k4 → k1 < n4 + 2 → k2 < n4 + 2 → k3 < n4 + 2 → k4 < n4 + 2 →
                  RkS c kc a n H (n + 3) R2 170 ((k1, .ints L1 e1) :: (k2, .ints L2 e2) :: (k3, .ints L3 e3) :: (k4, .ints L4 e4) :: Hb) (n4 + 2) := fun L1 L2 L3 L4 e1 e2 e3 e4 k1 k2 k3 k4 h1 h2 h3 h4 g1 g2 g3 g4 =>
                (hSb.more (by omega)).ext (hwf_cons (hwf_cons (hwf_cons (hwf_cons (hwf_mono (by omega) hSb.d.wf) g4 trivial) g3 trivial) g2 trivial) g1 trivial) (by omega) fun j o hj ho => by
                  rw [hget_cons, if_neg (by omega), hget_cons, if_neg (by omega), hget_cons, if_neg (by omega), hget_cons, if_neg (by omega)]
                  exact ho
              have hwj := fun (L1 L2 L3 L4 : List Int) (e1 e2 e3 e4 k1 k2 k3 k4 : Nat) h1 h2 h3 h4 g1 g2 g3 g4 => (hwk L1 L2 L3 L4 e1 e2 e3 e4 k1 k2 k3 k4 h1 h2 h3 h4 g1 g2 g3 g4).d.wf
              repeat' first
                | apply And.intro
                | omega
                | refine ⟨⟨((n4, n4 + 1), _, n4 + 2), hwk _ _ _ _ _ _ _ _ _ _ _ _ (by omega) (by omega) (by omega) (by omega) (by omega) (by omega) (by omega) (by omega), ?_, ?_, by show n + 3 < n4; omega, by show n + 3 < n4 + 1; omega, by show n4 < n4 + 2; omega, by show n4 + 1 < n4 + 2; omega⟩, Sub.same ?_ ?_ (hwj _ _ _ _ _ _ _ _ _ _ _ _ (by omega) (by omega) (by omega) (by omega) (by omega) (by omega) (by omega) (by omega)) (by show n ≤ n4 + 2; omega)⟩ <;> first | (simp [hget_cons]; done) | (simp only [LB, subS, subH, wfS, wfH, SV.ren, renL, SObj.ren, SV.wf, SObj.wf, wfL, SV.known, Nat.reduceEqDiff, ↓reduceIte, if_true, if_false, eq_self, Nat.reduceAdd, Nat.reduceLT, Nat.reduceLeDiff, implies_true, reduceCtorEq, forall_const]; done) | (simp [subS, subH, wfS, wfH, SV.ren, renL, SObj.ren, SV.wf, SObj.wf, wfL, sget_cons, hget_cons] <;> omega)
                | refine ⟨⟨((n4 + 1, n4), _, n4 + 2), hwk _ _ _ _ _ _ _ _ _ _ _ _ (by omega) (by omega) (by omega) (by omega) (by omega) (by omega) (by omega) (by omega), ?_, ?_, by show n + 3 < n4 + 1; omega, by show n + 3 < n4; omega, by show n4 + 1 < n4 + 2; omega, by show n4 < n4 + 2; omega⟩, Sub.same ?_ ?_ (hwj _ _ _ _ _ _ _ _ _ _ _ _ (by omega) (by omega) (by omega) (by omega) (by omega) (by omega) (by omega) (by omega)) (by show n ≤ n4 + 2; omega)⟩ <;> first | (simp [hget_cons]; done) | (simp only [LB, subS, subH, wfS, wfH, SV.ren, renL, SObj.ren, SV.wf, SObj.wf, wfL, SV.known, Nat.reduceEqDiff, ↓reduceIte, if_true, if_false, eq_self, Nat.reduceAdd, Nat.reduceLT, Nat.reduceLeDiff, implies_true, reduceCtorEq, forall_const]; done) | (simp [subS, subH, wfS, wfH, SV.ren, renL, SObj.ren, SV.wf, SObj.wf, wfL, sget_cons, hget_cons] <;> omega)
            · rintro ⟨⟨⟨b1, b2⟩, Hc, nc⟩, hSc, g1, g2, g3, g4, g5, g6⟩
              simp only at hSc g1 g2 g3 g4 g5 g6
              have lA : ((R2.drop (X * 4)).take 4).length = 4 := by rw [List.length_take, List.length_drop]; omega
              have lB : ((R2.drop (Y * 4)).take 4).length = 4 := by rw [List.length_take, List.length_drop]; omega
              have tA : ((R2.drop (X * 4)).take 4).take 4 = (R2.drop (X * 4)).take 4 := List.take_of_length_le (by omega)
              have tB : ((R2.drop (Y * 4)).take 4).take 4 = (R2.drop (Y * 4)).take 4 := List.take_of_length_le (by omega)
              have hrc := hSc.r
              have e1 : (b1 = n + 3) = False := by simp; omega
              simp -implicitDefEqProofs only [lk_normal, g1, g2, hrc, lb, lA, lB, tA, tB, x0, x6, x4, y0, y6, y4, e1, ZB, Int.reduceToNat, Nat.reduceLT, Nat.reduceLeDiff, Int.reduceLE, Int.reduceLT, Nat.reduceEqDiff, Nat.reduceSub, SB, SV.known, packR, ne_eq, reduceCtorEq, Nat.reduceEqDiff, ↓reduceIte, if_true, if_false, eq_self, Nat.reduceAdd, Nat.reduceMul, Nat.reduceSub, forall_const, oneCellS, litOne, flat1, Kd.isSca, flat, TYB]
              have hl4 : (R2.take (X * 4) ++ (R2.drop (Y * 4)).take 4 ++ R2.drop (X * 4 + 4)).length = 24 := by
                rw [List.length_append, List.length_append, List.length_take, List.length_drop, lB]; omega
              have hi4 : ∀ z ∈ R2.take (X * 4) ++ (R2.drop (Y * 4)).take 4 ++ R2.drop (X * 4 + 4), In64 z := fun z hz => by
                rcases List.mem_append.1 hz with hz | hz
                · rcases List.mem_append.1 hz with hz | hz
                  · exact hSb.i z (List.mem_of_mem_take hz)
                  · exact hSb.i z (List.mem_of_mem_drop (List.mem_of_mem_take hz))
                · exact hSb.i z (List.mem_of_mem_drop hz)
              have hSc1 := hSc.set hlt hl4 hi4
              generalize R2.take (X * 4) ++ (R2.drop (Y * 4)).take 4 ++ R2.drop (X * 4 + 4) = R4 at *
              have hl5 : (R4.take (Y * 4) ++ (R2.drop (X * 4)).take 4 ++ R4.drop (Y * 4 + 4)).length = 24 := by
                rw [List.length_append, List.length_append, List.length_take, List.length_drop, lA]; omega
              have hi5 : ∀ z ∈ R4.take (Y * 4) ++ (R2.drop (X * 4)).take 4 ++ R4.drop (Y * 4 + 4), In64 z := fun z hz => by
                rcases List.mem_append.1 hz with hz | hz
                · rcases List.mem_append.1 hz with hz | hz
                  · exact hi4 z (List.mem_of_mem_take hz)
                  · exact hSb.i z (List.mem_of_mem_drop (List.mem_of_mem_take hz))
                · exact hi4 z (List.mem_of_mem_drop hz)
              have hSd := hSc1.set hlt hl5 hi5
              generalize R4.take (Y * 4) ++ (R2.drop (X * 4)).take 4 ++ R4.drop (Y * 4 + 4) = R5 at *
              refine ⟨by omega, by omega, by omega, ?_⟩
              refine pick_use hSd.d hlt hm (by omega) fun w H7 hw0 hw1 hd7 hf7 => ?_
              have hS7 := hSd.draw hd7 hf7 (Nat.le_refl _)
              have hr7 := hS7.r
              have hz7 := hS7.z
              have l7 := hS7.l
              have tk7 : R5.take 24 = R5 := List.take_of_length_le (by omega)
              have fin : ∀ (R' : List Int) (k' : Nat) (H' : Heap) (n' : Nat), R'.length = 24 → (∀ x ∈ R', In64 x) → Drawn c kc a k' n H H' n' → n < n' → k' ≤ 1000 → ∃ R : List Int, R' = R ∧ R.length = 24 ∧ (∀ x ∈ R, In64 x) ∧ Drawn c kc a 1000 n H ((n, .ints R' 27) :: H') n' := fun R' k' H' n' h1 h2 h3 h4 h5 => ⟨R', rfl, h1, h2, (h3.more h5).putI hlt (Nat.le_refl _) h4⟩
              have hq7 := hS7.lt
              by_cases w0 : w = 0
              · have w0' : (w = 0) = True := eq_true w0
                simp -implicitDefEqProofs only [lk_normal, w0', ZB, Int.reduceToNat, Nat.reduceLT, Nat.reduceLeDiff, Int.reduceLE, Int.reduceLT, Nat.reduceEqDiff, Nat.reduceSub, SB, SV.known, packR, ne_eq, reduceCtorEq, Nat.reduceEqDiff, ↓reduceIte, if_true, if_false, eq_self, Nat.reduceAdd, Nat.reduceMul, Nat.reduceSub, forall_const, oneCellS, litOne, flat1, Kd.isSca, flat, TYB]
                refine ⟨{q : List Int × Heap × Nat // RkS c kc a n H (n + 3) q.1 300 q.2.1 q.2.2}, fun q => [(3, .ptr (n + 3) 0), (2, .ptr n 0)], fun q => q.1.2.1, fun q => q.1.2.2, ?_, ?_⟩
                · simp -implicitDefEqProofs only [ZB, Int.reduceToNat, Nat.reduceLT, Nat.reduceLeDiff, Int.reduceLE, Int.reduceLT, Nat.reduceEqDiff, Nat.reduceSub, SB, SV.known, packR, ne_eq, reduceCtorEq, Nat.reduceEqDiff, ↓reduceIte, if_true, if_false, eq_self, Nat.reduceAdd, Nat.reduceMul, Nat.reduceSub, forall_const, oneCellS, litOne, flat1, Kd.isSca, flat, TYB]
                  refine ⟨?_, ?_⟩
                  · refine pick_use hS7.d hlt hm (by omega) fun x H8 g0 g1 hd8 hf8 => ?_
                    have hS8 := hS7.draw hd8 hf8 (Nat.le_refl _)
                    obtain ⟨X, rfl⟩ : ∃ X : Nat, x = X := ⟨x.toNat, by omega⟩
                    have x6 : (X : Int) < 6 := by omega
                    simp -implicitDefEqProofs only [x6, g0, ZB, Int.reduceToNat, Nat.reduceLT, Nat.reduceLeDiff, Int.reduceLE, Int.reduceLT, Nat.reduceEqDiff, Nat.reduceSub, SB, SV.known, packR, ne_eq, reduceCtorEq, Nat.reduceEqDiff, ↓reduceIte, if_true, if_false, eq_self, Nat.reduceAdd, Nat.reduceMul, Nat.reduceSub, forall_const, oneCellS, litOne, flat1, Kd.isSca, flat, TYB]
                    refine ⟨?_, ?_⟩
                    · refine pick_use hS8.d hlt hm (by omega) fun y H9 k0 k1 hd9 hf9 => ?_
                      have hS9 := hS8.draw hd9 hf9 (Nat.le_refl _)
                      simp -implicitDefEqProofs only [ZB, Int.reduceToNat, Nat.reduceLT, Nat.reduceLeDiff, Int.reduceLE, Int.reduceLT, Nat.reduceEqDiff, Nat.reduceSub, SB, SV.known, packR, ne_eq, reduceCtorEq, Nat.reduceEqDiff, ↓reduceIte, if_true, if_false, eq_self, Nat.reduceAdd, Nat.reduceMul, Nat.reduceSub, forall_const, oneCellS, litOne, flat1, Kd.isSca, flat, TYB]
                      refine among_use (hS9.d.pushI hlt) hlt hm (by omega) (L := [-1, 6, 4611686018427387904]) (by simp [hget_cons]; rfl) (by omega) (by simp) fun z Hz hzl hdz hfz => ?_
                      have hSz := (hS9.pushI hlt).draw hdz hfz (Nat.le_refl _)
                      obtain ⟨Y, rfl⟩ : ∃ Y : Nat, y = Y := ⟨y.toNat, by omega⟩
                      have y4 : (Y : Int) < 4 := by omega
                      have xy : X * 4 + Y < 24 := by omega
                      have hz : In64 z := by simp at hzl; unfold In64; omega
                      have hrz := hSz.r
                      have lz := hSz.l
                      have hqz := hSz.lt
                      have hSw := (hSz.set hlt (R' := R5.set (X * 4 + Y) z) (by rw [List.length_set]; exact lz) (in64_set hSz.i hz)).more (k' := 300) (by omega)
                      simp -implicitDefEqProofs only [lk_normal, hrz, lz, x6, y4, xy, g0, k0, ZB, Int.reduceToNat, Nat.reduceLT, Nat.reduceLeDiff, Int.reduceLE, Int.reduceLT, Nat.reduceEqDiff, Nat.reduceSub, SB, SV.known, packR, ne_eq, reduceCtorEq, Nat.reduceEqDiff, ↓reduceIte, if_true, if_false, eq_self, Nat.reduceAdd, Nat.reduceMul, Nat.reduceSub, forall_const, oneCellS, litOne, flat1, Kd.isSca, flat, TYB]
                      exact ⟨by omega, ⟨(R5.set (X * 4 + Y) z, _, _), hSw⟩, Sub.same (by simp only [LB, subS, subH, wfS, wfH, SV.ren, renL, SObj.ren, SV.wf, SObj.wf, wfL, SV.known, Nat.reduceEqDiff, ↓reduceIte, if_true, if_false, eq_self, Nat.reduceAdd, Nat.reduceLT, Nat.reduceLeDiff, implies_true, reduceCtorEq, forall_const]; try rfl) (by simp [subS, subH, wfS, wfH, SV.ren, renL, SObj.ren, SV.wf, SObj.wf, wfL, sget_cons, hget_cons] <;> omega) hSw.d.wf hSw.d.le⟩
                    · refine pick_use (hS8.pushI hlt).d hlt hm (by omega) fun y H9 k0 k1 hd9 hf9 => ?_
                      have hS9 := (hS8.pushI hlt).draw hd9 hf9 (Nat.le_refl _)
                      simp -implicitDefEqProofs only [ZB, Int.reduceToNat, Nat.reduceLT, Nat.reduceLeDiff, Int.reduceLE, Int.reduceLT, Nat.reduceEqDiff, Nat.reduceSub, SB, SV.known, packR, ne_eq, reduceCtorEq, Nat.reduceEqDiff, ↓reduceIte, if_true, if_false, eq_self, Nat.reduceAdd, Nat.reduceMul, Nat.reduceSub, forall_const, oneCellS, litOne, flat1, Kd.isSca, flat, TYB]
                      refine among_use hS9.d hlt hm (by omega) (L := [-1, 6, 4611686018427387904]) (hf9.use (by omega) (by omega) (by simp [hget_cons]; rfl)) (by omega) (by simp) fun z Hz hzl hdz hfz => ?_
                      have hSz := hS9.draw hdz hfz (Nat.le_refl _)
                      obtain ⟨Y, rfl⟩ : ∃ Y : Nat, y = Y := ⟨y.toNat, by omega⟩
                      have y4 : (Y : Int) < 4 := by omega
                      have xy : X * 4 + Y < 24 := by omega
                      have hz : In64 z := by simp at hzl; unfold In64; omega
                      have hrz := hSz.r
                      have lz := hSz.l
                      have hqz := hSz.lt
                      have hSw := (hSz.set hlt (R' := R5.set (X * 4 + Y) z) (by rw [List.length_set]; exact lz) (in64_set hSz.i hz)).more (k' := 300) (by omega)
                      simp -implicitDefEqProofs only [lk_normal, hrz, lz, x6, y4, xy, g0, k0, ZB, Int.reduceToNat, Nat.reduceLT, Nat.reduceLeDiff, Int.reduceLE, Int.reduceLT, Nat.reduceEqDiff, Nat.reduceSub, SB, SV.known, packR, ne_eq, reduceCtorEq, Nat.reduceEqDiff, ↓reduceIte, if_true, if_false, eq_self, Nat.reduceAdd, Nat.reduceMul, Nat.reduceSub, forall_const, oneCellS, litOne, flat1, Kd.isSca, flat, TYB]
                      exact ⟨by omega, ⟨(R5.set (X * 4 + Y) z, _, _), hSw⟩, Sub.same (by simp only [LB, subS, subH, wfS, wfH, SV.ren, renL, SObj.ren, SV.wf, SObj.wf, wfL, SV.known, Nat.reduceEqDiff, ↓reduceIte, if_true, if_false, eq_self, Nat.reduceAdd, Nat.reduceLT, Nat.reduceLeDiff, implies_true, reduceCtorEq, forall_const]; try rfl) (by simp [subS, subH, wfS, wfH, SV.ren, renL, SObj.ren, SV.wf, SObj.wf, wfL, sget_cons, hget_cons] <;> omega) hSw.d.wf hSw.d.le⟩
                  · refine pick_use (hS7.pushI hlt).d hlt hm (by omega) fun x H8 g0 g1 hd8 hf8 => ?_
                    have hS8 := (hS7.pushI hlt).draw hd8 hf8 (Nat.le_refl _)
                    have hb8 := hf8.use (by omega) (by omega) (show hget _ nc = some (.ints [-1, 6, 4611686018427387904] 3) by simp [hget_cons])
                    obtain ⟨X, rfl⟩ : ∃ X : Nat, x = X := ⟨x.toNat, by omega⟩
                    have x6 : (X : Int) < 6 := by omega
                    simp -implicitDefEqProofs only [x6, g0, ZB, Int.reduceToNat, Nat.reduceLT, Nat.reduceLeDiff, Int.reduceLE, Int.reduceLT, Nat.reduceEqDiff, Nat.reduceSub, SB, SV.known, packR, ne_eq, reduceCtorEq, Nat.reduceEqDiff, ↓reduceIte, if_true, if_false, eq_self, Nat.reduceAdd, Nat.reduceMul, Nat.reduceSub, forall_const, oneCellS, litOne, flat1, Kd.isSca, flat, TYB]
                    refine pick_use hS8.d hlt hm (by omega) fun y H9 k0 k1 hd9 hf9 => ?_
                    have hS9 := hS8.draw hd9 hf9 (Nat.le_refl _)
                    simp -implicitDefEqProofs only [ZB, Int.reduceToNat, Nat.reduceLT, Nat.reduceLeDiff, Int.reduceLE, Int.reduceLT, Nat.reduceEqDiff, Nat.reduceSub, SB, SV.known, packR, ne_eq, reduceCtorEq, Nat.reduceEqDiff, ↓reduceIte, if_true, if_false, eq_self, Nat.reduceAdd, Nat.reduceMul, Nat.reduceSub, forall_const, oneCellS, litOne, flat1, Kd.isSca, flat, TYB]
                    refine among_use hS9.d hlt hm (by omega) (L := [-1, 6, 4611686018427387904]) (hf9.use (by omega) (by omega) hb8) (by omega) (by simp) fun z Hz hzl hdz hfz => ?_
                    have hSz := hS9.draw hdz hfz (Nat.le_refl _)
                    obtain ⟨Y, rfl⟩ : ∃ Y : Nat, y = Y := ⟨y.toNat, by omega⟩
                    have y4 : (Y : Int) < 4 := by omega
                    have xy : X * 4 + Y < 24 := by omega
                    have hz : In64 z := by simp at hzl; unfold In64; omega
                    have hrz := hSz.r
                    have lz := hSz.l
                    have hqz := hSz.lt
                    have hSw := (hSz.set hlt (R' := R5.set (X * 4 + Y) z) (by rw [List.length_set]; exact lz) (in64_set hSz.i hz)).more (k' := 300) (by omega)
                    simp -implicitDefEqProofs only [lk_normal, hrz, lz, x6, y4, xy, g0, k0, ZB, Int.reduceToNat, Nat.reduceLT, Nat.reduceLeDiff, Int.reduceLE, Int.reduceLT, Nat.reduceEqDiff, Nat.reduceSub, SB, SV.known, packR, ne_eq, reduceCtorEq, Nat.reduceEqDiff, ↓reduceIte, if_true, if_false, eq_self, Nat.reduceAdd, Nat.reduceMul, Nat.reduceSub, forall_const, oneCellS, litOne, flat1, Kd.isSca, flat, TYB]
                    exact ⟨by omega, ⟨(R5.set (X * 4 + Y) z, _, _), hSw⟩, Sub.same (by simp only [LB, subS, subH, wfS, wfH, SV.ren, renL, SObj.ren, SV.wf, SObj.wf, wfL, SV.known, Nat.reduceEqDiff, ↓reduceIte, if_true, if_false, eq_self, Nat.reduceAdd, Nat.reduceLT, Nat.reduceLeDiff, implies_true, reduceCtorEq, forall_const]; try rfl) (by simp [subS, subH, wfS, wfH, SV.ren, renL, SObj.ren, SV.wf, SObj.wf, wfL, sget_cons, hget_cons] <;> omega) hSw.d.wf hSw.d.le⟩
                · rintro ⟨⟨R9, H9, n9⟩, hS9⟩
                  simp only at hS9
                  have hr9 := hS9.r
                  have l9 := hS9.l
                  have hz9 := hS9.z
                  have hq9 := hS9.lt
                  have tk9 : R9.take 24 = R9 := List.take_of_length_le (by omega)
                  simp -implicitDefEqProofs only [lk_normal, hr9, hz9, l9, tk9, ZB, Int.reduceToNat, Nat.reduceLT, Nat.reduceLeDiff, Int.reduceLE, Int.reduceLT, Nat.reduceEqDiff, Nat.reduceSub, SB, SV.known, packR, ne_eq, reduceCtorEq, Nat.reduceEqDiff, ↓reduceIte, if_true, if_false, eq_self, Nat.reduceAdd, Nat.reduceMul, Nat.reduceSub, forall_const, oneCellS, litOne, flat1, Kd.isSca, flat, TYB]
                  exact ⟨hmn, fin R9 _ H9 n9 hS9.l hS9.i hS9.d (by omega) (by omega)⟩
              by_cases w1 : w = 1
              · have w1' : (w = 1) = True := eq_true w1
                simp -implicitDefEqProofs only [lk_normal, w0, w1', ZB, Int.reduceToNat, Nat.reduceLT, Nat.reduceLeDiff, Int.reduceLE, Int.reduceLT, Nat.reduceEqDiff, Nat.reduceSub, SB, SV.known, packR, ne_eq, reduceCtorEq, Nat.reduceEqDiff, ↓reduceIte, if_true, if_false, eq_self, Nat.reduceAdd, Nat.reduceMul, Nat.reduceSub, forall_const, oneCellS, litOne, flat1, Kd.isSca, flat, TYB]
                refine pick_use hS7.d hlt hm (by omega) fun x H8 g0 g1 hd8 hf8 => ?_
                have hS8 := hS7.draw hd8 hf8 (Nat.le_refl _)
                have hr8 := hS8.r
                have l8 := hS8.l
                have hz8 := hS8.z
                have hq8 := hS8.lt
                obtain ⟨X, rfl⟩ : ∃ X : Nat, x = X := ⟨x.toNat, by omega⟩
                have x6 : (X : Int) < 6 := by omega
                have x4 : X * 4 + 4 ≤ 24 := by omega
                let V : List Int := ((((List.replicate 4 (0 : Int)).set 0 0).set 1 1).set 2 0).set 3 0
                have e3 : (n = n + 3) = False := by simp
                have lV : V.length = 4 := rfl
                have eV : (((((List.replicate 4 (0 : Int)).set 0 0).set 1 1).set 2 0).set 3 0) = V := rfl
                have hRl : (R5.take (X * 4) ++ V ++ R5.drop (X * 4 + 4)).length = 24 := by
                  rw [List.length_append, List.length_append, List.length_take, List.length_drop, lV]; omega
                have hRi : ∀ y ∈ R5.take (X * 4) ++ V ++ R5.drop (X * 4 + 4), In64 y := fun y hy => by
                  rcases List.mem_append.1 hy with hy | hy
                  · rcases List.mem_append.1 hy with hy | hy
                    · exact hS8.i y (List.mem_of_mem_take hy)
                    · have hy' : y ∈ ([0, 1, 0, 0] : List Int) := hy
                      simp at hy'; unfold In64; omega
                  · exact hS8.i y (List.mem_of_mem_drop hy)
                have hS9 := hS8.set hlt hRl hRi
                have tk8 : (R5.take (X * 4) ++ V ++ R5.drop (X * 4 + 4)).take 24 = R5.take (X * 4) ++ V ++ R5.drop (X * 4 + 4) := List.take_of_length_le (by omega)
                simp -implicitDefEqProofs only [lk_normal, hr8, l8, hz8, x6, x4, g0, eV, lV, tk8, hRl, e3, ZB, Int.reduceToNat, Nat.reduceLT, Nat.reduceLeDiff, Int.reduceLE, Int.reduceLT, Nat.reduceEqDiff, Nat.reduceSub, SB, SV.known, packR, ne_eq, reduceCtorEq, Nat.reduceEqDiff, ↓reduceIte, if_true, if_false, eq_self, Nat.reduceAdd, Nat.reduceMul, Nat.reduceSub, forall_const, oneCellS, litOne, flat1, Kd.isSca, flat, TYB]
                exact ⟨by omega, hmn, fin _ _ _ nc hRl hRi hS9.d (by omega) (by omega)⟩
              by_cases w2 : w = 2
              · have w2' : (w = 2) = True := eq_true w2
                simp -implicitDefEqProofs only [lk_normal, hz7, w0, w1, w2', ZB, Int.reduceToNat, Nat.reduceLT, Nat.reduceLeDiff, Int.reduceLE, Int.reduceLT, Nat.reduceEqDiff, Nat.reduceSub, SB, SV.known, packR, ne_eq, reduceCtorEq, Nat.reduceEqDiff, ↓reduceIte, if_true, if_false, eq_self, Nat.reduceAdd, Nat.reduceMul, Nat.reduceSub, forall_const, oneCellS, litOne, flat1, Kd.isSca, flat, TYB]
                exact ⟨hmn, fin (List.replicate 24 0) _ H7 nc (by simp) (fun x hx => by rw [List.eq_of_mem_replicate hx]; simp [In64]) hS7.d (by omega) (by omega)⟩
              · simp -implicitDefEqProofs only [lk_normal, hr7, hz7, l7, tk7, w0, w1, w2, ZB, Int.reduceToNat, Nat.reduceLT, Nat.reduceLeDiff, Int.reduceLE, Int.reduceLT, Nat.reduceEqDiff, Nat.reduceSub, SB, SV.known, packR, ne_eq, reduceCtorEq, Nat.reduceEqDiff, ↓reduceIte, if_true, if_false, eq_self, Nat.reduceAdd, Nat.reduceMul, Nat.reduceSub, forall_const, oneCellS, litOne, flat1, Kd.isSca, flat, TYB]
                exact ⟨hmn, fin R5 _ H7 nc l7 hS7.i hS7.d (by omega) (by omega)⟩
def rack_F : List SV → Heap → Nat → Nat → K1 → Prop
  | [.ptr c 0], H, n, m, κ => ∃ kc a, CurH c kc a H ∧ m ≤ c ∧ m ≤ n ∧ a ≤ 990000 ∧ ∀ (R : List Int) H' n', R.length = 24 → (∀ x ∈ R, In64 x) → Drawn c kc a 1000 n H H' n' → κ (.arr R) H' n'
  | _, _, _, _, _ => False
theorem rack_T : ∀ args H n m κ, rack_F args H n m κ → GenOK Try.prog 77 args H n m κ := by
  intro args H n m κ h
  unfold rack_F at h
  split at h
  · rename_i c
    obtain ⟨kc, a, hC, hm, hmn, ha, h1⟩ := h
    exact gen_direct (X := ⟨Try.prog, tys, [], [(94, pick_F), (92, one_F), (119, among_F)], true, true, m, [94, 92, 119], [(21, .tree (.one 0 (.one 1 (.one 2 (.one 3 (.one 4 (.one 5 (.one 6 (.alt 7 (.alt 8 (.one 9 (.one 10 (.one 11 .done))) (.alt 9 (.one 8 (.one 10 (.one 11 .done))) .stop)) (.alt 8 (.alt 7 (.one 9 (.one 10 (.one 11 .done))) (.alt 9 (.alt 7 (.one 10 (.one 11 .done)) (.alt 10 (.one 7 (.one 11 .done)) .stop)) .stop)) (.alt 9 (.alt 7 (.one 8 (.one 10 (.one 11 .done))) (.alt 8 (.alt 7 (.one 10 (.one 11 .done)) (.alt 10 (.one 7 (.one 11 .done)) .stop)) .stop)) .stop))))))))))), (26, .tree (.one 0 (.one 2 (.one 4 (.one 7 (.alt 1 (.one 8 (.alt 3 (.one 5 (.one 6 (.one 9 (.one 10 .done)))) (.alt 5 (.one 3 (.one 6 (.one 9 (.one 10 .done)))) .stop))) (.alt 5 (.one 1 (.one 3 (.one 6 (.one 8 (.one 9 (.one 10 .done)))))) .stop)))))))]⟩) fnx_rack ⟨tys_ok, .nil, .cons pick_T (.cons one_T (.cons among_T .nil)), mixed⟩ rfl (Nat.le_of_ble_eq_true rfl) (fun hwH hwa => rack_vc c kc a m n H hC hm hmn ha hwH) fun hwH v H' n' hψ h3 h4 h5 => by
      obtain ⟨R, rfl, g1, g2, g3⟩ := hψ
      exact h1 R H' n' g1 g2 g3
  · exact h.elim
theorem rack_use {c kc a k n0 n m : Nat} {H0 H : Heap} {κ : K1} (h : Drawn c kc a k n0 H0 H n) (hc : c < n0 ∧ kc < n0 ∧ kc ≠ c) (hm : m ≤ c) (hmn : m ≤ n) (ha : a + k ≤ 990000)
    (hκ : ∀ (R : List Int) H' n', R.length = 24 → (∀ x ∈ R, In64 x) → Drawn c kc a (k + 1000) n0 H0 H' n' → n ≤ n' → Fr n0 n H H' → κ (.arr R) H' n') : rack_F [.ptr c 0] H n m κ := by
  obtain ⟨b', g1, g2, g3⟩ := h.cur
  exact ⟨kc, b', g3, hm, hmn, by omega, fun R H' n' h1 h2 hd => hκ R H' n' h1 h2 (h.trans hd g2 g1) hd.le (hd.own hc.1)⟩
/-- A pour of a rack, or any two places. -/
theorem fnx_pour : FnOK Try.prog 90 Try.f90 (Try.f90.body.getD .skip) [94, 92, 146] [] := ⟨Try.func90, rfl, by kernel_rfl, by kernel_rfl⟩
theorem dpour_vc (c kc a m n : Nat) (H : Heap) (R : List Int) (hR : R.length = 24) (hC : CurH c kc a H) (hm : m ≤ c) (hmn : m ≤ n) (ha : a ≤ 995000) (hwH : hwf n H) :
    codeVC (⟨Try.prog, tys, [(72, l2Rack_F)], [(94, pick_F), (92, one_F), (146, place_F), (85, l2Pours_F)], true, true, m, [94, 92, 146], []⟩ : Cx) n (Try.f90.body.getD .skip) (argS 0 [.ptr c 0, .arr R]) H n
      (retK tys Try.f90.results.toList fun v H' n' => ∃ x y : Int, v = .arr [x, y] ∧ In64 x ∧ In64 y ∧ Drawn c kc a 100 n H H' n') := by
  have hlt := hC.lt hwH
  have tkR : R.take 24 = R := List.take_of_length_le (by omega)
  simp -implicitDefEqProofs only [Try.f90, Option.getD_some, argS, l2Rack_F, hR, tkR, Nat.add_assoc, add_self, self_add, add_add, ZB, Int.reduceToNat, Nat.reduceLT, Nat.reduceLeDiff, Int.reduceLE, Int.reduceLT, Nat.reduceEqDiff, Nat.reduceSub, SB, SV.known, packR, ne_eq, reduceCtorEq, Nat.reduceEqDiff, ↓reduceIte, if_true, if_false, eq_self, Nat.reduceAdd, Nat.reduceMul, Nat.reduceSub, forall_const, oneCellS, litOne, flat1, Kd.isSca, flat, TYB]
  have d0 : Drawn c kc a 0 n H ((n + 1, .ints (List.replicate 2 0) 44) :: (n, .ints R 27) :: H) (n + 2) := ((Drawn.start hC hwH).pushI hlt).pushI hlt
  have hb0 : hget ((n + 1, .ints (List.replicate 2 0) 44) :: (n, .ints R 27) :: H) (n + 1) = some (.ints (List.replicate 2 0) 44) := by simp [hget_cons]
  have hr0 : hget ((n + 1, .ints (List.replicate 2 0) 44) :: (n, .ints R 27) :: H) n = some (.ints R 27) := by simp [hget_cons]
  cases hr : rackB R
  · simp -implicitDefEqProofs only [lk_normal, Nat.add_assoc, add_self, self_add, add_add, ZB, Int.reduceToNat, Nat.reduceLT, Nat.reduceLeDiff, Int.reduceLE, Int.reduceLT, Nat.reduceEqDiff, Nat.reduceSub, SB, SV.known, packR, ne_eq, reduceCtorEq, Nat.reduceEqDiff, ↓reduceIte, if_true, if_false, eq_self, Nat.reduceAdd, Nat.reduceMul, Nat.reduceSub, forall_const, oneCellS, litOne, flat1, Kd.isSca, flat, TYB]
    refine place_use d0 hlt hm (by omega) fun x H1 n1 hx hd1 hle1 hf1 => ?_
    have hb1 := hf1.use (by omega) (by omega) hb0
    simp -implicitDefEqProofs only [lk_normal, ZB, Int.reduceToNat, Nat.reduceLT, Nat.reduceLeDiff, Int.reduceLE, Int.reduceLT, Nat.reduceEqDiff, Nat.reduceSub, SB, SV.known, packR, ne_eq, reduceCtorEq, Nat.reduceEqDiff, ↓reduceIte, if_true, if_false, eq_self, Nat.reduceAdd, Nat.reduceMul, Nat.reduceSub, forall_const, oneCellS, litOne, flat1, Kd.isSca, flat, TYB]
    refine place_use hd1 hlt hm (by omega) fun y H2 n2 hy hd2 hle2 hf2 => ?_
    have hb2 := hf2.use (by omega) (by omega) hb1
    simp -implicitDefEqProofs only [hb2, ZB, Int.reduceToNat, Nat.reduceLT, Nat.reduceLeDiff, Int.reduceLE, Int.reduceLT, Nat.reduceEqDiff, Nat.reduceSub, SB, SV.known, packR, ne_eq, reduceCtorEq, Nat.reduceEqDiff, ↓reduceIte, if_true, if_false, eq_self, Nat.reduceAdd, Nat.reduceMul, Nat.reduceSub, forall_const, oneCellS, litOne, flat1, Kd.isSca, flat, TYB]
    exact ⟨by omega, x, y, ⟨rfl, rfl⟩, hx, hy, (hd2.more (by omega)).putI hlt (by omega) (by omega)⟩
  · simp -implicitDefEqProofs only [lk_normal, Nat.add_assoc, add_self, self_add, add_add, ZB, Int.reduceToNat, Nat.reduceLT, Nat.reduceLeDiff, Int.reduceLE, Int.reduceLT, Nat.reduceEqDiff, Nat.reduceSub, SB, SV.known, packR, ne_eq, reduceCtorEq, Nat.reduceEqDiff, ↓reduceIte, if_true, if_false, eq_self, Nat.reduceAdd, Nat.reduceMul, Nat.reduceSub, forall_const, oneCellS, litOne, flat1, Kd.isSca, flat, TYB]
    refine one_use d0 hlt hm (by omega) fun o H0 hd0 hf0 => ?_
    have hb := hf0.use (by omega) (by omega) hb0
    have hrb := hf0.use (by omega) (by omega) hr0
    cases o
    · obtain ⟨np, hnp, hnp36⟩ := PL_even R 36
      have ehp : (PL R 36).length / 2 = np := by omega
      have hbd := PL_bd R 36 (Nat.le_refl _)
      simp -implicitDefEqProofs only [lk_normal, l2Pours_F, freshK, Wrap.ap, hrb, hR, tkR, hr, ehp, ZB, Int.reduceToNat, Nat.reduceLT, Nat.reduceLeDiff, Int.reduceLE, Int.reduceLT, Nat.reduceEqDiff, Nat.reduceSub, SB, SV.known, packR, ne_eq, reduceCtorEq, Nat.reduceEqDiff, ↓reduceIte, if_true, if_false, eq_self, Nat.reduceAdd, Nat.reduceMul, Nat.reduceSub, forall_const, oneCellS, litOne, flat1, Kd.isSca, flat, TYB]
      intro cp jp hjp
      have hdp := hd0.pushI hlt (L := PL R 36 ++ jp) (e := 44)
      have hbp : hget ((n + 2, .ints (PL R 36 ++ jp) 44) :: H0) (n + 1) = some (.ints (List.replicate 2 0) 44) := by rw [hget_cons, if_neg (by omega)]; exact hb
      by_cases h0 : np = 0
      · have h0' : ¬ (0 : Int) < (np : Int) := by omega
        simp -implicitDefEqProofs only [lk_normal, h0', ZB, Int.reduceToNat, Nat.reduceLT, Nat.reduceLeDiff, Int.reduceLE, Int.reduceLT, Nat.reduceEqDiff, Nat.reduceSub, SB, SV.known, packR, ne_eq, reduceCtorEq, Nat.reduceEqDiff, ↓reduceIte, if_true, if_false, eq_self, Nat.reduceAdd, Nat.reduceMul, Nat.reduceSub, forall_const, oneCellS, litOne, flat1, Kd.isSca, flat, TYB]
        refine place_use hdp hlt hm (by omega) fun x H1 n1 hx hd1 hle1 hf1 => ?_
        have hb1 := hf1.use (by omega) (by omega) hbp
        simp -implicitDefEqProofs only [lk_normal, ZB, Int.reduceToNat, Nat.reduceLT, Nat.reduceLeDiff, Int.reduceLE, Int.reduceLT, Nat.reduceEqDiff, Nat.reduceSub, SB, SV.known, packR, ne_eq, reduceCtorEq, Nat.reduceEqDiff, ↓reduceIte, if_true, if_false, eq_self, Nat.reduceAdd, Nat.reduceMul, Nat.reduceSub, forall_const, oneCellS, litOne, flat1, Kd.isSca, flat, TYB]
        refine place_use hd1 hlt hm (by omega) fun y H2 n2 hy hd2 hle2 hf2 => ?_
        have hb2 := hf2.use (by omega) (by omega) hb1
        simp -implicitDefEqProofs only [hb2, ZB, Int.reduceToNat, Nat.reduceLT, Nat.reduceLeDiff, Int.reduceLE, Int.reduceLT, Nat.reduceEqDiff, Nat.reduceSub, SB, SV.known, packR, ne_eq, reduceCtorEq, Nat.reduceEqDiff, ↓reduceIte, if_true, if_false, eq_self, Nat.reduceAdd, Nat.reduceMul, Nat.reduceSub, forall_const, oneCellS, litOne, flat1, Kd.isSca, flat, TYB]
        exact ⟨by omega, x, y, ⟨rfl, rfl⟩, hx, hy, (hd2.more (by omega)).putI hlt (by omega) (by omega)⟩
      · have h0' : (0 : Int) < (np : Int) := by omega
        simp -implicitDefEqProofs only [lk_normal, h0', ZB, Int.reduceToNat, Nat.reduceLT, Nat.reduceLeDiff, Int.reduceLE, Int.reduceLT, Nat.reduceEqDiff, Nat.reduceSub, SB, SV.known, packR, ne_eq, reduceCtorEq, Nat.reduceEqDiff, ↓reduceIte, if_true, if_false, eq_self, Nat.reduceAdd, Nat.reduceMul, Nat.reduceSub, forall_const, oneCellS, litOne, flat1, Kd.isSca, flat, TYB]
        refine ⟨pick_use hdp hlt hm (by omega) fun q Hq q0 q1 hdq hfq => ?_, fun h => absurd trivial h⟩
        obtain ⟨Q, rfl⟩ : ∃ Q : Nat, q = Q := ⟨q.toNat, by omega⟩
        have qn : (Q : Int) < (np : Int) := by omega
        have hbq := hfq.use (by omega) (by omega) hbp
        have hlq := hfq.use (by omega) (by omega) (show hget _ (n + 2) = some (.ints (PL R 36 ++ jp) 44) by simp [hget_cons])
        have lQ : Q * 2 + 2 ≤ (PL R 36 ++ jp).length := by rw [List.length_append]; omega
        have e2 : ((PL R 36 ++ jp).drop (Q * 2)).take 2 = [(PL R 36).getD (Q * 2) 0, (PL R 36).getD (Q * 2 + 1) 0] := by
          rw [take2_drop _ _ lQ, getD_app _ _ _ (by omega), getD_app _ _ _ (by omega)]
        have b0 : In64 ((PL R 36).getD (Q * 2) 0) := by
          rw [List.getD_eq_getElem?_getD, List.getElem?_eq_getElem (by omega)]
          have := hbd _ (List.getElem_mem (l := PL R 36) (n := Q * 2) (by omega))
          unfold In64; simp only [Option.getD_some]; omega
        have b1 : In64 ((PL R 36).getD (Q * 2 + 1) 0) := by
          rw [List.getD_eq_getElem?_getD, List.getElem?_eq_getElem (by omega)]
          have := hbd _ (List.getElem_mem (l := PL R 36) (n := Q * 2 + 1) (by omega))
          unfold In64; simp only [Option.getD_some]; omega
        simp -implicitDefEqProofs only [lk_normal, hlq, hbq, qn, q0, lQ, e2, ZB, Int.reduceToNat, Nat.reduceLT, Nat.reduceLeDiff, Int.reduceLE, Int.reduceLT, Nat.reduceEqDiff, Nat.reduceSub, SB, SV.known, packR, ne_eq, reduceCtorEq, Nat.reduceEqDiff, ↓reduceIte, if_true, if_false, eq_self, Nat.reduceAdd, Nat.reduceMul, Nat.reduceSub, forall_const, oneCellS, litOne, flat1, Kd.isSca, flat, TYB]
        exact ⟨by omega, _, _, ⟨rfl, rfl⟩, b0, b1, (hdq.more (by omega)).putI hlt (by omega) (by omega)⟩
    · simp -implicitDefEqProofs only [lk_normal, ZB, Int.reduceToNat, Nat.reduceLT, Nat.reduceLeDiff, Int.reduceLE, Int.reduceLT, Nat.reduceEqDiff, Nat.reduceSub, SB, SV.known, packR, ne_eq, reduceCtorEq, Nat.reduceEqDiff, ↓reduceIte, if_true, if_false, eq_self, Nat.reduceAdd, Nat.reduceMul, Nat.reduceSub, forall_const, oneCellS, litOne, flat1, Kd.isSca, flat, TYB]
      refine place_use hd0 hlt hm (by omega) fun x H1 n1 hx hd1 hle1 hf1 => ?_
      have hb1 := hf1.use (by omega) (by omega) hb
      simp -implicitDefEqProofs only [lk_normal, ZB, Int.reduceToNat, Nat.reduceLT, Nat.reduceLeDiff, Int.reduceLE, Int.reduceLT, Nat.reduceEqDiff, Nat.reduceSub, SB, SV.known, packR, ne_eq, reduceCtorEq, Nat.reduceEqDiff, ↓reduceIte, if_true, if_false, eq_self, Nat.reduceAdd, Nat.reduceMul, Nat.reduceSub, forall_const, oneCellS, litOne, flat1, Kd.isSca, flat, TYB]
      refine place_use hd1 hlt hm (by omega) fun y H2 n2 hy hd2 hle2 hf2 => ?_
      have hb2 := hf2.use (by omega) (by omega) hb1
      simp -implicitDefEqProofs only [hb2, ZB, Int.reduceToNat, Nat.reduceLT, Nat.reduceLeDiff, Int.reduceLE, Int.reduceLT, Nat.reduceEqDiff, Nat.reduceSub, SB, SV.known, packR, ne_eq, reduceCtorEq, Nat.reduceEqDiff, ↓reduceIte, if_true, if_false, eq_self, Nat.reduceAdd, Nat.reduceMul, Nat.reduceSub, forall_const, oneCellS, litOne, flat1, Kd.isSca, flat, TYB]
      exact ⟨by omega, x, y, ⟨rfl, rfl⟩, hx, hy, (hd2.more (by omega)).putI hlt (by omega) (by omega)⟩
def dpour_F : List SV → Heap → Nat → Nat → K1 → Prop
  | [.ptr c 0, .arr R], H, n, m, κ => R.length = 24 ∧ ∃ kc a, CurH c kc a H ∧ m ≤ c ∧ m ≤ n ∧ a ≤ 995000 ∧ ∀ (x y : Int) H' n', In64 x → In64 y → Drawn c kc a 100 n H H' n' → κ (.arr [x, y]) H' n'
  | _, _, _, _, _ => False
theorem dpour_T : ∀ args H n m κ, dpour_F args H n m κ → GenOK Try.prog 90 args H n m κ := by
  intro args H n m κ h
  unfold dpour_F at h
  split at h
  · rename_i c R
    obtain ⟨hR, kc, a, hC, hm, hmn, ha, h1⟩ := h
    exact gen_direct (X := ⟨Try.prog, tys, [(72, l2Rack_F)], [(94, pick_F), (92, one_F), (146, place_F), (85, l2Pours_F)], true, true, m, [94, 92, 146], []⟩) fnx_pour ⟨tys_ok, .cons l2Rack_T .nil, .cons pick_T (.cons one_T (.cons place_T (.cons l2Pours_T .nil))), mixed⟩ rfl (Nat.le_of_ble_eq_true rfl) (fun hwH hwa => dpour_vc c kc a m n H R hR hC hm hmn ha hwH) fun hwH v H' n' hψ h3 h4 h5 => by
      obtain ⟨x, y, rfl, g1, g2, g3⟩ := hψ
      exact h1 x y H' n' g1 g2 g3
  · exact h.elim
theorem dpour_use {c kc a k n0 n m : Nat} {H0 H : Heap} {κ : K1} (h : Drawn c kc a k n0 H0 H n) (hc : c < n0 ∧ kc < n0 ∧ kc ≠ c) (hm : m ≤ c) (hmn : m ≤ n) (ha : a + k ≤ 995000) {R : List Int} (hR : R.length = 24)
    (hκ : ∀ (x y : Int) H' n', In64 x → In64 y → Drawn c kc a (k + 100) n0 H0 H' n' → n ≤ n' → Fr n0 n H H' → κ (.arr [x, y]) H' n') : dpour_F [.ptr c 0, .arr R] H n m κ := by
  obtain ⟨b', g1, g2, g3⟩ := h.cur
  exact ⟨hR, kc, b', g3, hm, hmn, by omega, fun x y H' n' h1 h2 hd => hκ x y H' n' h1 h2 (h.trans hd g2 g1) hd.le (hd.own hc.1)⟩
/-- The bytes that a law is given. -/
def BytA (v : SV) (H : Heap) : Prop := v = .nils ∨ ∃ (kc off len cap : Nat) (L : List Int), v = .slice kc off len cap ∧ hget H kc = some (.winU off L) ∧ L.length = len ∧ len ≤ 1000000000 ∧ ∀ x ∈ L, 0 ≤ x ∧ x ≤ 255
theorem BytA.put {v : SV} {H : Heap} {n k : Nat} (h : BytA v H) (hw : hwf n H) (hk : n ≤ k) (o : SObj) : BytA v ((k, o) :: H) := by
  rcases h with rfl | ⟨kc, off, len, cap, L, rfl, h, h2⟩
  · exact .inl rfl
  · have := (hw _ _ h).1
    exact .inr ⟨kc, off, len, cap, L, rfl, by rw [hget_cons, if_neg (by omega)]; exact h, h2⟩
theorem BytA.at {v : SV} {H : Heap} {n k : Nat} (h : BytA v H) (hw : hwf n H) (hk : k < n) (hx : ∃ o, hget H k = some o) : ∃ kc, kc < n ∧ BytV kc v H := by
  rcases h with rfl | ⟨kc, off, len, cap, L, rfl, h, h2⟩
  · exact ⟨k, hk, .inl ⟨rfl, hx⟩⟩
  · exact ⟨kc, (hw _ _ h).1, .inr ⟨off, len, cap, L, rfl, h, h2⟩⟩
/-- What a drawing function leaves: nothing that is not its own has changed. -/
structure Kpt (n : Nat) (H H' : Heap) (n' : Nat) : Prop where
  le : n ≤ n'
  wf : hwf n' H'
  fr : ∀ i o, i < n → hget H i = some o → hget H' i = some o
theorem Kpt.under {n n' k : Nat} {H H' : Heap} {o : SObj} (h : Kpt k ((n, o) :: H) H' n') (hn : n < k) : ∀ i o, i < n → hget H i = some o → hget H' i = some o := fun i o' hi ho => h.fr i o' (by omega) (by rw [hget_cons, if_neg (by omega)]; exact ho)
end Go.Proofs.Ytopfnkmlgcjpbaa
set_option maxRecDepth 100000
set_option linter.unusedSimpArgs false
set_option linter.unusedVariables false
namespace Go.Proofs.Ytopfnkmlgcjpbaa
open Go Go.RowKit
/-- A rack of one's own, behind all draws. -/
structure SrS (n : Nat) (H : Heap) (b : Nat) (R : List Int) (H' : Heap) (n' : Nat) : Prop where
  lt : n < b ∧ b < n'
  wf : hwf n' H'
  r : hget H' b = some (.ints R 27)
  l : R.length = 24
  i : ∀ x ∈ R, In64 x
  z : hget H' n = some (.ints (List.replicate 24 0) 27)
  fr : ∀ i o, i < n → hget H i = some o → hget H' i = some o
theorem SrS.set {n b n' : Nat} {H H' : Heap} {R R' : List Int} (h : SrS n H b R H' n') (hl : R'.length = 24) (hi : ∀ x ∈ R', In64 x) : SrS n H b R' ((b, .ints R' 27) :: H') n' :=
  ⟨h.lt, hwf_cons h.wf h.lt.2 trivial, by simp [hget_cons], hl, hi, by rw [hget_cons, if_neg (Nat.ne_of_lt h.lt.1)]; exact h.z, fun i o hin ho => by
    rw [hget_cons, if_neg (by have := h.lt.1; omega)]
    exact h.fr i o hin ho⟩
/-- Any rack. -/
def DrawIsSorted_F : List SV → Heap → Nat → Nat → K1 → Prop
  | [cv], H, n, m, κ => BytA cv H ∧ m ≤ n ∧ ∀ (R : List Int) H' n', R.length = 24 → (∀ z ∈ R, In64 z) → Kpt n H H' n' → κ (.arr R) H' n'
  | _, _, _, _, _ => False
end Go.Proofs.Ytopfnkmlgcjpbaa
set_option maxRecDepth 100000
set_option linter.unusedSimpArgs false
set_option linter.unusedVariables false
namespace Go.Proofs.Ytopfnkmlgcjpbaa
open Go Go.RowKit
theorem run_of_next {P : Program} {s : Sem Value} {x : Value} {w : World} (h : (do pure (Next.value (← s)) : Sem Next).run P w = .ok (.value x) w) : s.run P w = .ok x w := by
  simp only [Sem.run_bind] at h
  generalize s.run P w = r at h
  cases r with
  | ok y w1 => simp only [Result.andThen_ok, Sem.run_pure] at h; cases h; rfl
  | halt y w1 => simp only [Result.andThen_halt] at h; cases h
theorem runPart_int {t : TypeId} (hk : (tys t).k = .int) (L : List Int) (off : Nat) (h : off < L.length) (w : World) : (part t (ints L) off).run Try.prog w = .ok (.int .i64 (L.getD off 0)) w := by
  obtain ⟨v, x, _, h2, h3, h4⟩ := part_sound (B := fun _ => 0) (H := []) (n := 0) (κ := fun v _ _ => v = .int (L.getD off 0)) tys_ok (t := t) (L := L) (off := off) (by unfold partVC; rw [hk]; all_goals exact ⟨h, rfl⟩)
  subst h3
  have h5 := h4 w (HR.nil _ _)
  rw [h2 rfl] at h5
  exact run_of_next h5
theorem runPart_arr {t k e : Nat} (hk : (tys t).k = .arr k e) (L : List Int) (off : Nat) (h : off + (tys t).size ≤ L.length) (w : World) : (part t (ints L) off).run Try.prog w = .ok (.agg (ints ((L.drop off).take (tys t).size))) w := by
  obtain ⟨v, x, _, h2, h3, h4⟩ := part_sound (B := fun _ => 0) (H := []) (n := 0) (κ := fun v _ _ => v = .arr ((L.drop off).take (tys t).size)) tys_ok (t := t) (L := L) (off := off) (by unfold partVC; rw [hk]; all_goals exact ⟨h, rfl⟩)
  subst h3
  have h5 := h4 w (HR.nil _ _)
  rw [h2 rfl] at h5
  exact run_of_next h5
/-- Equality at a type, at every depth from some depth on. -/
def EqA (D : Nat) (t : TypeId) (s : Nat) : Prop := ∀ d, D ≤ d → ∀ (L M : List Int), L.length = s → M.length = s → ∀ w, (Op.equalIn d t (.agg (ints L)) (.agg (ints M))).run Try.prog w = .ok (decide (L = M)) w
theorem take_split (L : List Int) (c k : Nat) : L.take ((k + 1) * c) = L.take c ++ (L.drop c).take (k * c) := by
  rw [show (k + 1) * c = c + k * c by rw [Nat.add_mul, Nat.one_mul, Nat.add_comm], List.take_add]
theorem items_run {d : Nat} {e : TypeId} {c : Nat} (L M : List Int) (hst : ∀ a, (a + 1) * c ≤ L.length → (a + 1) * c ≤ M.length → ∀ w, ∃ x y, (part e (ints L) (a * c)).run Try.prog w = .ok x w ∧ (part e (ints M) (a * c)).run Try.prog w = .ok y w ∧
      (Op.equalIn d e x y).run Try.prog w = .ok (decide ((L.drop (a * c)).take c = (M.drop (a * c)).take c)) w) :
    ∀ (k a : Nat), (a + k) * c ≤ L.length → (a + k) * c ≤ M.length → ∀ w, (Op.eqItems d e c (ints L) (ints M) (List.range' a k)).run Try.prog w = .ok (decide ((L.drop (a * c)).take (k * c) = (M.drop (a * c)).take (k * c))) w
  | 0, a, _, _, w => by simp [Op.eqItems]
  | k + 1, a, h1, h2, w => by
    have le : (a + 1) * c ≤ (a + (k + 1)) * c := Nat.mul_le_mul_right c (by omega)
    obtain ⟨x, y, p1, p2, p3⟩ := hst a (by omega) (by omega) w
    have ih := items_run L M hst k (a + 1) (by rw [show a + 1 + k = a + (k + 1) by omega]; exact h1) (by rw [show a + 1 + k = a + (k + 1) by omega]; exact h2) w
    have hac : (a + 1) * c = a * c + c := by rw [Nat.add_mul, Nat.one_mul]
    have hkc : (a + (k + 1)) * c = a * c + c + k * c := by rw [Nat.add_mul, Nat.add_mul, Nat.one_mul]; omega
    rw [List.range'_succ]
    simp only [Op.eqItems, Sem.run_bind, p1, p2, p3, Result.andThen_ok]
    rw [take_split, take_split, List.drop_drop, List.drop_drop, ← hac]
    by_cases hd : (L.drop (a * c)).take c = (M.drop (a * c)).take c
    · simp only [hd, decide_true, Bool.not_true, Bool.false_eq_true, if_false]
      rw [ih]
      simp
    · have : ¬ ((L.drop (a * c)).take c ++ (L.drop ((a + 1) * c)).take (k * c) = (M.drop (a * c)).take c ++ (M.drop ((a + 1) * c)).take (k * c)) := fun h => hd (List.append_inj_left h (by rw [List.length_take, List.length_take, List.length_drop, List.length_drop]; omega))
      simp [hd, this]
theorem eqA_ints {t e n : Nat} {i : TypeInfo} (hu : Try.prog.underlying t = some (.array n e)) (hi : Try.prog.info? e = some i) (hc : Try.prog.cellsOf e = 1) (hk : (tys e).k = .int) (hue : Try.prog.underlying e = some (.int .i64)) : EqA 2 t n := by
  intro d hd L M hL hM w
  obtain ⟨d, rfl⟩ : ∃ d', d = d' + 1 + 1 := ⟨d - 2, by omega⟩
  rw [run_equalIn_array w (d + 1) (ints L) (ints M) hu hi, hc, List.range_eq_range', items_run L M (fun a h1 h2 w => ⟨_, _, runPart_int hk L (a * 1) (by omega) w, runPart_int hk M (a * 1) (by omega) w, ?_⟩) n 0 (by omega) (by omega) w]
  · simp [List.take_of_length_le, hL, hM]
  · rw [run_equalIn_int w d e .i64 .i64 _ _ hue]
    have one : ∀ N : List Int, a * 1 < N.length → (N.drop (a * 1)).take 1 = [N.getD (a * 1) 0] := fun N h => by
      rw [List.drop_eq_getElem_cons h, List.take_succ_cons, List.take_zero]
      simp only [List.getD, List.getElem?_eq_getElem h, Option.getD_some]
    rw [one L (by omega), one M (by omega)]
    have : (L.getD (a * 1) 0 == M.getD (a * 1) 0) = decide ([L.getD (a * 1) 0] = [M.getD (a * 1) 0]) := by
      simp only [List.cons.injEq, and_true]
      rfl
    rw [this]
theorem eqA_arr {t e n c D k e' : Nat} {i : TypeInfo} (hu : Try.prog.underlying t = some (.array n e)) (hi : Try.prog.info? e = some i) (hc : Try.prog.cellsOf e = c) (hs : (tys e).size = c) (hk : (tys e).k = .arr k e') (he : EqA D e c) : EqA (D + 1) t (n * c) := by
  intro d hd L M hL hM w
  obtain ⟨d, rfl⟩ : ∃ d', d = d' + 1 := ⟨d - 1, by omega⟩
  have mul1 : ∀ a, (a + 1) * c = a * c + c := fun a => by rw [Nat.add_mul, Nat.one_mul]
  rw [run_equalIn_array w d (ints L) (ints M) hu hi, hc, List.range_eq_range', items_run L M (fun a h1 h2 w => ⟨_, _, runPart_arr hk L (a * c) (by rw [hs]; have := mul1 a; omega) w, runPart_arr hk M (a * c) (by rw [hs]; have := mul1 a; omega) w, ?_⟩) n 0 (by rw [Nat.zero_add]; omega) (by rw [Nat.zero_add]; omega) w]
  · simp [List.take_of_length_le, hL, hM]
  · rw [hs]
    exact he d (by omega) _ _ (by rw [List.length_take, List.length_drop]; have := mul1 a; omega) (by rw [List.length_take, List.length_drop]; have := mul1 a; omega) w
theorem eqA_one {t e c D k e' : Nat} {f : Field} (hu : Try.prog.underlying t = some (.struct #[f])) (hf : f.name ≠ "_") (hft : f.type = e) (hfo : f.offset = 0) (hs : (tys e).size = c) (hk : (tys e).k = .arr k e') (hp : Try.prog.stoodInHeld t = false) (he : EqA D e c) : EqA (D + 1) t c := by
  intro d hd L M hL hM w
  obtain ⟨d, rfl⟩ : ∃ d', d = d' + 1 := ⟨d - 1, by omega⟩
  have hfs : Try.prog.fieldsOf t = #[f] := by simp [Program.fieldsOf, hu]
  rw [run_equalIn_struct w d t (ints L) (ints M) (by rw [hfs]; exact hu) hp, hfs]
  have p1 := runPart_arr hk L 0 (by omega) w
  have p2 := runPart_arr hk M 0 (by omega) w
  rw [hs, List.drop_zero, List.take_of_length_le (by omega)] at p1 p2
  have h3 := he d (by omega) L M hL hM w
  simp only [Op.eqFields, if_pos hf, hft, hfo, Sem.run_bind, p1, p2, h3, Result.andThen_ok]
  by_cases hx : L = M
  · simp [hx]
  · simp [hx]
theorem eqI_of {t s D : Nat} (hD : D ≤ 10000) (h : EqA D t s) (hg : Try.prog.eqGuardType Try.prog.depth t = false) : EqI Try.prog t s := by
  intro L M hL hM w
  refine ⟨fun x y => ?_, fun x y => ?_, h 10000 hD L M hL hM w⟩
  · simp [eqGuard, hg]
  · simp [eqGuard, hg]
theorem eqA_A4 : EqA 2 24 4 := eqA_ints (i := (Try.prog.info? 3).getD default) Try.underlying24 (by kernel_rfl) (by kernel_rfl) rfl Try.underlying3
theorem eqA_A64 : EqA 3 25 24 := eqA_arr (c := 4) (i := (Try.prog.info? 24).getD default) Try.underlying25 (by kernel_rfl) (by kernel_rfl) rfl rfl eqA_A4
theorem eqI_rack : EqI Try.prog 27 24 := eqI_of (by omega) (eqA_one Try.underlying27 (by decide) rfl rfl rfl rfl (by kernel_rfl) eqA_A64) (by kernel_rfl)
/-! Keys of maps. -/
end Go.Proofs.Ytopfnkmlgcjpbaa
set_option maxRecDepth 100000
set_option linter.unusedSimpArgs false
set_option linter.unusedVariables false
namespace Go.Proofs.Ytopfnkmlgcjpbaa
open Go Go.RowKit
/-- May so many layers be poured back? -/
def bk1 (R : List Int) (i j m : Int) : Bool := plF i && plF j && !decide (i = j) && decide (1 ≤ m ∧ m ≤ min (topF (tubeAt R j.toNat)).2 (4 - (layN (tubeAt R i.toNat) : Int)))
def bkR (R : List Int) (i j m : Int) : List Int := pmR R j.toNat i.toNat m.toNat
def bk2 (R : List Int) (i j m : Int) : Bool := bk1 R i j m && canF (bkR R i j m) i j
def bkB (R : List Int) (i j m : Int) : Bool := bk2 R i j m && decide (pourF (bkR R i j m) i.toNat j.toNat = R) && decide (pmN (bkR R i j m) i.toNat j.toNat = m)
def bkT (R : List Int) (i j m : Int) : List Int := if bkB R i j m = true then bkR R i j m else List.replicate 24 0
end Go.Proofs.Ytopfnkmlgcjpbaa
set_option maxRecDepth 100000
set_option linter.unusedSimpArgs false
set_option linter.unusedVariables false
namespace Go.Proofs.Ytopfnkmlgcjpbaa
open Go Go.RowKit
end Go.Proofs.Ytopfnkmlgcjpbaa
set_option maxRecDepth 100000
set_option linter.unusedSimpArgs false
set_option linter.unusedVariables false
namespace Go.Proofs.Ytopfnkmlgcjpbaa
open Go Go.RowKit
--@tbl eqSource = laws.eqSource
--@tbl eqS3 = laws.eqSourceS
/-! Marks. -/
--@tbl mark3 = laws.markSourceS
--@tbl held3 = laws.heldSourceS
end Go.Proofs.Ytopfnkmlgcjpbaa
set_option maxRecDepth 100000
set_option linter.unusedSimpArgs false
set_option linter.unusedVariables false
namespace Go.Proofs.Ytopfnkmlgcjpbaa
open Go Go.RowKit
--@tbl toIntA2 = laws.toIntA2
end Go.Proofs.Ytopfnkmlgcjpbaa
set_option maxRecDepth 100000
set_option linter.unusedSimpArgs false
set_option linter.unusedVariables false
namespace Go.Proofs.Ytopfnkmlgcjpbaa
open Go Go.RowKit
/-! Moved layers. -/
end Go.Proofs.Ytopfnkmlgcjpbaa
set_option maxRecDepth 100000
set_option linter.unusedSimpArgs false
set_option linter.unusedVariables false
namespace Go.Proofs.Ytopfnkmlgcjpbaa
open Go Go.RowKit
/-! CountRules. -/
end Go.Proofs.Ytopfnkmlgcjpbaa
set_option maxRecDepth 100000
set_option linter.unusedSimpArgs false
set_option linter.unusedVariables false
namespace Go.Proofs.Ytopfnkmlgcjpbaa
open Go Go.RowKit
theorem GL_pair' (c : Nat → Nat → Bool) (i : Nat) (junk : List Int) (h : i * 2 + 2 ≤ (GL c 36).length) : ∃ a b : Nat, a < 6 ∧ b < 6 ∧ c a b = true ∧ (((GL c 36) ++ junk).drop (i * 2)).take 2 = [(a : Int), (b : Int)] := by
  obtain ⟨a, b, h1, h2, h3, h4⟩ := GL_pair c 36 (by omega) i h
  refine ⟨a, b, h1, h2, h3, ?_⟩
  rw [List.drop_append_of_le_length (by omega), List.take_append_of_le_length (by rw [List.length_drop]; omega)]
  exact h4
/-! DeleteFunc with a closure over a rack and depths. -/
/-! The lists. -/
end Go.Proofs.Ytopfnkmlgcjpbaa
set_option maxRecDepth 100000
set_option linter.unusedSimpArgs false
set_option linter.unusedVariables false
namespace Go.Proofs.Ytopfnkmlgcjpbaa
open Go Go.RowKit
def goodF (R p : List Int) : Bool := decide (bndF (pourF R (p.getD 0 0).toNat (p.getD 1 0).toNat) < bndF R)
def qCan (R p : List Int) : Prop := rackB R = true ∧ okP p ∧ canF R (p.getD 0 0) (p.getD 1 0) = true
theorem qCan_of {R : List Int} (hr : rackB R = true) (i : Nat) (junk : List Int) (h : i * 2 + 2 ≤ (PL R 36).length) : qCan R (List.take 2 (List.drop (i * 2) (PL R 36 ++ junk))) := by
  obtain ⟨a, b, h1, h2, h3, h4⟩ := GL_pair' (fun i j => canF R i j) i junk h
  rw [PL_GL, h4]
  exact ⟨hr, ⟨rfl, by simp only [List.getD_cons_zero]; omega, by simp only [List.getD_cons_succ, List.getD_cons_zero]; omega⟩, h3⟩
theorem qCan_pair {R : List Int} (hr : rackB R = true) (i : Nat) (h : i * 2 + 2 ≤ (PL R 36).length) : canF R ((PL R 36).getD (i * 2) 0) ((PL R 36).getD (i * 2 + 1) 0) = true := by
  have h1 := (qCan_of hr i [] h).2.2
  rw [List.append_nil, take2_drop _ _ (by omega)] at h1
  exact h1
--@tbl isGood = impl.isGood
theorem isGood_ok (R p : List Int) (hR : R.length = 24) (hq : qCan R p) : PureH Try.prog 80 [.arr R, .arr p] [] (.bool (goodF R p)) := by
  have tkR : R.take 24 = R := List.take_of_length_le (by omega)
  obtain ⟨hr, hp, hc⟩ := hq
  have tkp := okP_take hp
  obtain ⟨pl, b0, b1⟩ := hp
  have hr' := pour_rack hR hr b0 b1 hc
  have pl' := pourF_len hR (p.getD 0 0).toNat (p.getD 1 0).toNat
  have tkP : (pourF R (p.getD 0 0).toNat (p.getD 1 0).toNat).take 24 = pourF R (p.getD 0 0).toNat (p.getD 1 0).toNat := List.take_of_length_le (by omega)
  refine pure_of_vc (X := ⟨Try.prog, tys, [(71, pour_F), (83, bound_F)], [], true, true, 0, [], []⟩) fn_80 ⟨tys_ok, (.cons pour_T (.cons bound_T .nil)), .nil, mixed⟩ (n0 := 0) (Nat.le_of_ble_eq_true rfl) (by simp [wfL, SV.wf]) (wfH_spec (by simp [wfH, SObj.wf])) (Nat.le_refl _) (fun _ => by simp [SV.wf, wfL]) ?_
  simp -implicitDefEqProofs only [Try.f80, Option.getD_some, argS, pour_F, bound_F, hR, tkR, pl, tkp, hr, hr', pl', tkP, ZB, Int.reduceToNat, Nat.reduceLT, Nat.reduceLeDiff, Int.reduceLE, Int.reduceLT, Nat.reduceEqDiff, Nat.reduceSub, SB, SV.known, packR, ne_eq, reduceCtorEq, Nat.reduceEqDiff, ↓reduceIte, if_true, if_false, eq_self, Nat.reduceAdd, Nat.reduceMul, Nat.reduceSub, forall_const, oneCellS, litOne, flat1, Kd.isSca, flat, TYB]
  (try (and_intros <;> try (first | omega | (unfold In64; omega) | trivial | assumption)))
def isGood_F : List SV → Heap → Option (Prop × SV)
  | [.arr R, .arr p], _ => some (R.length = 24 ∧ qCan R p, .bool (goodF R p))
  | _, _ => none
theorem isGood_T : ∀ args H p v, isGood_F args H = some (p, v) → p → PureH Try.prog 80 args H v := by
  intro args H p v h hp
  unfold isGood_F at h
  split at h
  · cases h; exact (isGood_ok _ _ hp.1 hp.2).any _
  · cases h
theorem good1_ok (R : List Int) (e : Nat) (p : List Int) (hR : R.length = 24) (hq : qCan R p) : PureH Try.prog 136 [.arr p, .ptr 0 0] [(0, .ints R e)] (.bool (!goodF R p)) := by
  have tkR : R.take 24 = R := List.take_of_length_le (by omega)
  have tkp := okP_take hq.2.1
  refine pure_of_vc (X := ⟨Try.prog, tys, [(80, isGood_F)], [], true, true, 1, [], []⟩) fn_136 ⟨tys_ok, (.cons isGood_T .nil), .nil, mixed⟩ (n0 := 1) (Nat.le_of_ble_eq_true rfl) (by simp [wfL, SV.wf]) (wfH_spec (by simp [wfH, SObj.wf])) (Nat.le_refl _) (fun _ => by simp [SV.wf, wfL]) ?_
  simp -implicitDefEqProofs only [Try.f136, Option.getD_some, argS, isGood_F, hR, tkR, tkp, ZB, Int.reduceToNat, Nat.reduceLT, Nat.reduceLeDiff, Int.reduceLE, Int.reduceLT, Nat.reduceEqDiff, Nat.reduceSub, SB, SV.known, packR, ne_eq, reduceCtorEq, Nat.reduceEqDiff, ↓reduceIte, if_true, if_false, eq_self, Nat.reduceAdd, Nat.reduceMul, Nat.reduceSub, forall_const, oneCellS, litOne, flat1, Kd.isSca, flat, TYB]
  exact ⟨by have := hq.2.1.1; omega, hq⟩
def gDel_F := delR_F 136 (fun R p => !goodF R p) qCan
--@tbl gDel = slices.DeleteFunc[[][2]int,[2]int]
theorem gDel_T : ∀ args H n m κ, gDel_F args H n m κ → GenOK Try.prog 110 args H n m κ := delR_T _ _ _ (by decide) good1_ok
def gdL (R : List Int) : List Int := kept (fun p => goodF R p) (PL R 36) ((PL R 36).length / 2)
theorem gdL_even (R : List Int) : ∃ k, (gdL R).length = k * 2 ∧ k ≤ 36 := by
  obtain ⟨m, hm, hm36⟩ := PL_even R 36
  obtain ⟨k, hk, hkm⟩ := kept_even (fun p => goodF R p) (PL R 36) m (by omega)
  have e2 : (PL R 36).length / 2 = m := by omega
  exact ⟨k, by unfold gdL; rw [e2]; exact hk, by omega⟩
theorem good_ok (R : List Int) (hR : R.length = 24) (hr : rackB R = true) : FreshP Try.prog 70 [.arr R] [] (gdL R) ((gdL R).length / 2) 2 44 (decide (PL R 36 = [])) .one := by
  have tkR : R.take 24 = R := List.take_of_length_le (by omega)
  refine fresh_of_vc (X := ⟨Try.prog, tys, [], [(84, pours_F), (110, gDel_F)], true, true, 0, [], []⟩) fn_70 ⟨tys_ok, .nil, (.cons pours_T (.cons gDel_T .nil)), mixed⟩ (n0 := 0) rfl (Nat.le_of_ble_eq_true rfl) (by simp [wfL, SV.wf]) (wfH_spec (by simp [wfH, SObj.wf])) (Nat.le_refl _) ?_
  simp -implicitDefEqProofs only [Try.f70, Option.getD_some, argS, pours_F, gDel_F, hR, tkR, freshK, Wrap.ap, gDel_F, delR_F, Bool.not_not, ZB, Int.reduceToNat, Nat.reduceLT, Nat.reduceLeDiff, Int.reduceLE, Int.reduceLT, Nat.reduceEqDiff, Nat.reduceSub, SB, SV.known, packR, ne_eq, reduceCtorEq, Nat.reduceEqDiff, ↓reduceIte, if_true, if_false, eq_self, Nat.reduceAdd, Nat.reduceMul, Nat.reduceSub, forall_const, oneCellS, litOne, flat1, Kd.isSca, flat, TYB]
  obtain ⟨m, hm, hm36⟩ := PL_even R 36
  have e2 : (PL R 36).length / 2 = m := by omega
  have uf : gdL R = kept (fun p => goodF R p) (PL R 36) m := by unfold gdL; rw [e2]
  refine ⟨fun h0 => ?_, fun h0 cap junk hj => ?_⟩
  · refine .inl ⟨by simp [h0], ?_, rfl⟩
    rw [uf, show m = 0 by rw [h0] at hm; simp at hm; omega]; rfl
  · have ka := kept_app (fun p => goodF R p) (PL R 36) junk m (by omega)
    obtain ⟨k, hk, hkm⟩ := kept_even (fun p => goodF R p) (PL R 36) m (by omega)
    rw [e2, ka]
    refine ⟨by rw [List.length_append]; omega, by omega, by omega, fun i hi => ?_, .inr ⟨1, cap, List.replicate (m * 2 - (kept (fun p => goodF R p) (PL R 36) m).length) 0 ++ List.drop (m * 2) (PL R 36 ++ junk), ?_, ?_, by omega, ?_, by simp [h0]⟩⟩
    · exact qCan_of hr i junk (by omega)
    · rw [uf]; rfl
    · rw [uf, hget_cons, if_pos rfl, List.append_assoc]
    · rw [uf, List.length_append, List.length_replicate, List.length_drop, List.length_append]
      omega
def good_F : List SV → Heap → Nat → Nat → K1 → Prop
  | [.arr R], H, n, _, κ => (R.length = 24 ∧ rackB R = true) ∧ freshK .one (gdL R) ((gdL R).length / 2) 2 44 (decide (PL R 36 = [])) H n κ
  | _, _, _, _, _ => False
--@tbl good = impl.good
theorem good_T : ∀ args H n m κ, good_F args H n m κ → GenOK Try.prog 70 args H n m κ := by
  intro args H n m κ h
  unfold good_F at h
  split at h
  · exact gen_of_fresh (good_ok _ h.1.1 h.1.2) (fun k o hk => by cases hk) h.2
  · exact h.elim
theorem l6Good_ok (R : List Int) (hR : R.length = 24) (hr : rackB R = true) : FreshP Try.prog 73 [.arr R] [] (gdL R) ((gdL R).length / 2) 2 44 false .one := by
  have tkR : R.take 24 = R := List.take_of_length_le (by omega)
  obtain ⟨m, hm, hm36⟩ := PL_even R 36
  refine fresh_of_vc (X := ⟨Try.prog, tys, [(74, l2Pour_F), (82, l6Bound_F)], [(85, l2Pours_F)], true, true, 0, [], []⟩) fn_73 ⟨tys_ok, (.cons l2Pour_T (.cons l6Bound_T .nil)), (.cons l2Pours_T .nil), mixed⟩ (n0 := 0) rfl (Nat.le_of_ble_eq_true rfl) (by simp [wfL, SV.wf]) (wfH_spec (by simp [wfH, SObj.wf])) (Nat.le_refl _) ?_
  simp -implicitDefEqProofs only [Try.f73, Option.getD_some, argS, l2Pour_F, l6Bound_F, l2Pours_F, hR, tkR, hr, freshK, Wrap.ap, ZB, Int.reduceToNat, Nat.reduceLT, Nat.reduceLeDiff, Int.reduceLE, Int.reduceLT, Nat.reduceEqDiff, Nat.reduceSub, SB, SV.known, packR, ne_eq, reduceCtorEq, Nat.reduceEqDiff, ↓reduceIte, if_true, if_false, eq_self, Nat.reduceAdd, Nat.reduceMul, Nat.reduceSub, forall_const, oneCellS, litOne, flat1, Kd.isSca, flat, TYB]
  have hbd : Bd 0 5 (PL R 36) := PL_bd R 36 (by omega)
  have e2 : (PL R 36).length / 2 = m := by omega
  have uf : gdL R = kept (fun p => goodF R p) (PL R 36) m := by unfold gdL; rw [e2]
  rw [uf, e2]
  have hcan := fun i h => qCan_pair (i := i) hr h
  generalize PL R 36 = P at *
  intro cap junk hj
  refine loop_intro (fun s : Nat × Nat × Nat × List Int => [(5, .int s.1), (4, .slice 2 0 m cap), (3, .slice 1 0 s.2.1 s.2.2.1), (1, .ptr 0 0)]) (fun s => [(1, .ints (kept (fun p => goodF R p) P s.1 ++ s.2.2.2) 44), (2, .ints (P ++ junk) 44), (0, .ints R 27)]) 3
    (fun s => s.1 ≤ m ∧ (kept (fun p => goodF R p) P s.1).length = s.2.1 * 2 ∧ s.2.1 ≤ s.1 ∧ s.2.2.2.length + s.2.1 * 2 = s.2.2.1 * 2) (fun s => m - s.1) ?_ ?_
  · refine ⟨(0, 0, 0, []), ?_, Sub.mk_id ?_ ?_ ?_ ?_ ?_⟩
    all_goals (try (simp only [kept_zero, List.append_nil, LB, subS, subH, wfS, wfH, SV.ren, renL, SObj.ren, SV.wf, SObj.wf, wfL, SV.known, Nat.reduceEqDiff, ↓reduceIte, if_true, if_false, eq_self, Nat.reduceAdd, Nat.reduceLT, Nat.reduceLeDiff, implies_true, reduceCtorEq, forall_const]; done))
    all_goals (try (simp only [kept_zero, List.append_nil, LB, subS, subH, wfS, wfH, SV.ren, renL, SObj.ren, SV.wf, SObj.wf, wfL, SV.known, Nat.reduceEqDiff, ↓reduceIte, if_true, if_false, eq_self, Nat.reduceAdd, Nat.reduceLT, Nat.reduceLeDiff, implies_true, reduceCtorEq, forall_const]; simp; done))
    all_goals (try (simp only [kept_zero, List.append_nil, LB, subS, subH, wfS, wfH, SV.ren, renL, SObj.ren, SV.wf, SObj.wf, wfL, SV.known, Nat.reduceEqDiff, ↓reduceIte, if_true, if_false, eq_self, Nat.reduceAdd, Nat.reduceLT, Nat.reduceLeDiff, implies_true, reduceCtorEq, forall_const]; (and_intros <;> (first | omega | rfl | (simp; done) | (simp; omega))); done))
    all_goals (try dsimp only)
    all_goals (and_intros <;> try (first | omega | (unfold In64; omega) | trivial | assumption))
    all_goals simp [kept_zero]
  · rintro ⟨i, n, capo, jo⟩ ⟨hi, hL, hni, hjo⟩
    simp only at hi hL hni hjo
    have lenL : (kept (fun p => goodF R p) P i ++ jo).length = capo * 2 := by rw [List.length_append]; omega
    have tkL : (kept (fun p => goodF R p) P i ++ jo).take (n * 2) = kept (fun p => goodF R p) P i := List.take_left' hL
    have lenP : (P ++ junk).length = cap * 2 := by rw [List.length_append]; omega
    by_cases hlt : i < m
    · have hil : (i : Int) < m := by omega
      have g0 := getD_app P junk (i * 2) (by omega)
      have g1 := getD_app P junk (i * 2 + 1) (by omega)
      have bA : 0 ≤ P.getD (i * 2) 0 ∧ P.getD (i * 2) 0 ≤ 5 := hbd.getD (by omega)
      have bB : 0 ≤ P.getD (i * 2 + 1) 0 ∧ P.getD (i * 2 + 1) 0 ≤ 5 := hbd.getD (by omega)
      have eP : List.take 2 (List.drop (i * 2) (P ++ junk)) = [P.getD (i * 2) 0, P.getD (i * 2 + 1) 0] := by
        rw [take2_drop _ _ (by rw [List.length_append]; omega), g0, g1]
      have eQ : List.take 2 (List.drop (i * 2) P) = [P.getD (i * 2) 0, P.getD (i * 2 + 1) 0] := take2_drop _ _ (by omega)
      have es := kept_succ (fun p => goodF R p) P i
      rw [eQ] at es
      have hcn := hcan i (by omega)
      have hr2 := pour_rack hR hr bA bB hcn
      have pl2 := pourF_len hR (P.getD (i * 2) 0).toNat (P.getD (i * 2 + 1) 0).toNat
      have tkP2 : (pourF R (P.getD (i * 2) 0).toNat (P.getD (i * 2 + 1) 0).toNat).take 24 = pourF R (P.getD (i * 2) 0).toNat (P.getD (i * 2 + 1) 0).toNat := List.take_of_length_le (by omega)
      have hcd : ∀ b, goodF R [P.getD (i * 2) 0, P.getD (i * 2 + 1) 0] = b → decide (bndF (pourF R (P.getD (i * 2) 0).toNat (P.getD (i * 2 + 1) 0).toNat) < bndF R) = b := fun b h => h
      cases hc : goodF R [P.getD (i * 2) 0, P.getD (i * 2 + 1) 0] with
      | false =>
        rw [hc] at es
        simp only [Bool.false_eq_true, if_false, List.append_nil] at es
        simp -implicitDefEqProofs only [lk_normal, l2Pour_F, l6Bound_F, hil, hR, tkR, hr, hr2, pl2, tkP2, g0, g1, eP, hcd _ hc, lenP, lenL, tkL, ZB, Int.reduceToNat, Nat.reduceLT, Nat.reduceLeDiff, Int.reduceLE, Int.reduceLT, Nat.reduceEqDiff, Nat.reduceSub, SB, SV.known, packR, ne_eq, reduceCtorEq, Nat.reduceEqDiff, ↓reduceIte, if_true, if_false, eq_self, Nat.reduceAdd, Nat.reduceMul, Nat.reduceSub, forall_const, oneCellS, litOne, flat1, Kd.isSca, flat, TYB]
        (try (and_intros <;> try (first | omega | (unfold In64; omega) | trivial | assumption)))
        refine ⟨(i + 1, n, capo, jo), ?_, ?_, Sub.mk_id ?_ ?_ ?_ ?_ ?_⟩
        all_goals (try (simp only [es, LB, subS, subH, wfS, wfH, SV.ren, renL, SObj.ren, SV.wf, SObj.wf, wfL, SV.known, Nat.reduceEqDiff, ↓reduceIte, if_true, if_false, eq_self, Nat.reduceAdd, Nat.reduceLT, Nat.reduceLeDiff, implies_true, reduceCtorEq, forall_const]; done))
        all_goals (try (simp only [es, LB, subS, subH, wfS, wfH, SV.ren, renL, SObj.ren, SV.wf, SObj.wf, wfL, SV.known, Nat.reduceEqDiff, ↓reduceIte, if_true, if_false, eq_self, Nat.reduceAdd, Nat.reduceLT, Nat.reduceLeDiff, implies_true, reduceCtorEq, forall_const]; simp; done))
        all_goals (try (simp only [es, LB, subS, subH, wfS, wfH, SV.ren, renL, SObj.ren, SV.wf, SObj.wf, wfL, SV.known, Nat.reduceEqDiff, ↓reduceIte, if_true, if_false, eq_self, Nat.reduceAdd, Nat.reduceLT, Nat.reduceLeDiff, implies_true, reduceCtorEq, forall_const]; (and_intros <;> (first | omega | rfl | (simp; done) | (simp; omega))); done))
        all_goals (try dsimp only)
        all_goals (and_intros <;> try (first | omega | (unfold In64; omega) | trivial | assumption))
        all_goals (try (rw [es]; exact hL))
      | true =>
        rw [hc] at es
        simp only [if_true] at es
        simp -implicitDefEqProofs only [lk_normal, l2Pour_F, l6Bound_F, hil, hR, tkR, hr, hr2, pl2, tkP2, g0, g1, eP, hcd _ hc, lenP, lenL, tkL, ZB, Int.reduceToNat, Nat.reduceLT, Nat.reduceLeDiff, Int.reduceLE, Int.reduceLT, Nat.reduceEqDiff, Nat.reduceSub, SB, SV.known, packR, ne_eq, reduceCtorEq, Nat.reduceEqDiff, ↓reduceIte, if_true, if_false, eq_self, Nat.reduceAdd, Nat.reduceMul, Nat.reduceSub, forall_const, oneCellS, litOne, flat1, Kd.isSca, flat, TYB]
        (try (and_intros <;> try (first | omega | (unfold In64; omega) | trivial | assumption)))
        intro junk' cap' hj'
        (try (and_intros <;> try (first | omega | (unfold In64; omega) | trivial | assumption)))
        refine ⟨(i + 1, n + 1, cap', junk'), ?_, ?_, Sub.mk_to 1 5 ?_ ?_ ?_ ?_ ?_ ?_ ?_⟩
        all_goals (try (simp only [es, LB, subS, subH, wfS, wfH, SV.ren, renL, SObj.ren, SV.wf, SObj.wf, wfL, SV.known, Nat.reduceEqDiff, ↓reduceIte, if_true, if_false, eq_self, Nat.reduceAdd, Nat.reduceLT, Nat.reduceLeDiff, implies_true, reduceCtorEq, forall_const]; done))
        all_goals (try (simp only [es, LB, subS, subH, wfS, wfH, SV.ren, renL, SObj.ren, SV.wf, SObj.wf, wfL, SV.known, Nat.reduceEqDiff, ↓reduceIte, if_true, if_false, eq_self, Nat.reduceAdd, Nat.reduceLT, Nat.reduceLeDiff, implies_true, reduceCtorEq, forall_const]; simp; done))
        all_goals (try (simp only [es, LB, subS, subH, wfS, wfH, SV.ren, renL, SObj.ren, SV.wf, SObj.wf, wfL, SV.known, Nat.reduceEqDiff, ↓reduceIte, if_true, if_false, eq_self, Nat.reduceAdd, Nat.reduceLT, Nat.reduceLeDiff, implies_true, reduceCtorEq, forall_const]; (and_intros <;> (first | omega | rfl | (simp; done) | (simp; omega))); done))
        all_goals (try dsimp only)
        all_goals (and_intros <;> try (first | omega | (unfold In64; omega) | trivial | assumption))
        all_goals (try (rw [es, List.length_append, hL]; simp; omega))
    · have hil : ¬ (i : Int) < m := by omega
      obtain rfl : i = m := by omega
      simp -implicitDefEqProofs only [lk_normal, l2Pour_F, l6Bound_F, hil, hR, tkR, hr, lenP, lenL, tkL, ZB, Int.reduceToNat, Nat.reduceLT, Nat.reduceLeDiff, Int.reduceLE, Int.reduceLT, Nat.reduceEqDiff, Nat.reduceSub, SB, SV.known, packR, ne_eq, reduceCtorEq, Nat.reduceEqDiff, ↓reduceIte, if_true, if_false, eq_self, Nat.reduceAdd, Nat.reduceMul, Nat.reduceSub, forall_const, oneCellS, litOne, flat1, Kd.isSca, flat, TYB]
      refine .inr ⟨1, capo, jo, ?_, ?_, by omega, ?_, by simp⟩
      · rw [hL]; simp [Wrap.ap]
      · simp [hget_cons]
      · omega
def l6Good_F : List SV → Heap → Nat → Nat → K1 → Prop
  | [.arr R], H, n, _, κ => (R.length = 24 ∧ rackB R = true) ∧ freshK .one (gdL R) ((gdL R).length / 2) 2 44 (false) H n κ
  | _, _, _, _, _ => False
--@tbl l6Good = spec.l6Good
theorem l6Good_T : ∀ args H n m κ, l6Good_F args H n m κ → GenOK Try.prog 73 args H n m κ := by
  intro args H n m κ h
  unfold l6Good_F at h
  split at h
  · exact gen_of_fresh (l6Good_ok _ h.1.1 h.1.2) (fun k o hk => by cases hk) h.2
  · exact h.elim
def gpF (R : List Int) : List Int := if rackB R = true then gdL R else []
theorem GoodPours_ok (R : List Int) (hR : R.length = 24) : FreshP Try.prog 13 [.arr R] [] (gpF R) ((gpF R).length / 2) 2 44 (decide (rackB R = false ∨ PL R 36 = [])) (.more [.bool (rackB R)]) := by
  have tkR : R.take 24 = R := List.take_of_length_le (by omega)
  unfold gpF
  cases hr : rackB R
  · refine fresh_of_vc (X := ⟨Try.prog, tys, [(11, IsRack_F)], [(70, good_F)], true, true, 0, [], []⟩) fn_13 ⟨tys_ok, (.cons IsRack_T .nil), (.cons good_T .nil), mixed⟩ (n0 := 0) rfl (Nat.le_of_ble_eq_true rfl) (by simp [wfL, SV.wf]) (wfH_spec (by simp [wfH, SObj.wf])) (Nat.le_refl _) ?_
    simp -implicitDefEqProofs only [Try.f13, Option.getD_some, argS, IsRack_F, good_F, hR, tkR, hr, freshK, Wrap.ap, ZB, Int.reduceToNat, Nat.reduceLT, Nat.reduceLeDiff, Int.reduceLE, Int.reduceLT, Nat.reduceEqDiff, Nat.reduceSub, SB, SV.known, packR, ne_eq, reduceCtorEq, Nat.reduceEqDiff, ↓reduceIte, if_true, if_false, eq_self, Nat.reduceAdd, Nat.reduceMul, Nat.reduceSub, forall_const, oneCellS, litOne, flat1, Kd.isSca, flat, TYB]
    exact .inl ⟨by simp, rfl, rfl⟩
  · refine fresh_of_vc (X := ⟨Try.prog, tys, [(11, IsRack_F)], [(70, good_F)], true, true, 0, [], []⟩) fn_13 ⟨tys_ok, (.cons IsRack_T .nil), (.cons good_T .nil), mixed⟩ (n0 := 0) rfl (Nat.le_of_ble_eq_true rfl) (by simp [wfL, SV.wf]) (wfH_spec (by simp [wfH, SObj.wf])) (Nat.le_refl _) ?_
    simp -implicitDefEqProofs only [Try.f13, Option.getD_some, argS, IsRack_F, good_F, hR, tkR, hr, freshK, Wrap.ap, ZB, Int.reduceToNat, Nat.reduceLT, Nat.reduceLeDiff, Int.reduceLE, Int.reduceLT, Nat.reduceEqDiff, Nat.reduceSub, SB, SV.known, packR, ne_eq, reduceCtorEq, Nat.reduceEqDiff, ↓reduceIte, if_true, if_false, eq_self, Nat.reduceAdd, Nat.reduceMul, Nat.reduceSub, forall_const, oneCellS, litOne, flat1, Kd.isSca, flat, TYB]
    exact ⟨fun h1 h2 => .inl ⟨by simp [h1], h2, rfl⟩, fun h cap junk hj => .inr ⟨1, cap, junk, rfl, by simp [hget_cons], by omega, hj, by simpa using h⟩⟩
theorem sGoodPours_ok (R : List Int) (hR : R.length = 24) : FreshP Try.prog 14 [.arr R] [] (gpF R) ((gpF R).length / 2) 2 44 false (.more [.bool (rackB R)]) := by
  have tkR : R.take 24 = R := List.take_of_length_le (by omega)
  unfold gpF
  cases hr : rackB R
  · refine fresh_of_vc (X := ⟨Try.prog, tys, [(72, l2Rack_F)], [(73, l6Good_F)], true, true, 0, [], []⟩) fn_14 ⟨tys_ok, (.cons l2Rack_T .nil), (.cons l6Good_T .nil), mixed⟩ (n0 := 0) rfl (Nat.le_of_ble_eq_true rfl) (by simp [wfL, SV.wf]) (wfH_spec (by simp [wfH, SObj.wf])) (Nat.le_refl _) ?_
    simp -implicitDefEqProofs only [Try.f14, Option.getD_some, argS, l2Rack_F, l6Good_F, hR, tkR, hr, freshK, Wrap.ap, ZB, Int.reduceToNat, Nat.reduceLT, Nat.reduceLeDiff, Int.reduceLE, Int.reduceLT, Nat.reduceEqDiff, Nat.reduceSub, SB, SV.known, packR, ne_eq, reduceCtorEq, Nat.reduceEqDiff, ↓reduceIte, if_true, if_false, eq_self, Nat.reduceAdd, Nat.reduceMul, Nat.reduceSub, forall_const, oneCellS, litOne, flat1, Kd.isSca, flat, TYB]
    exact .inr ⟨1, 0, [], rfl, by simp [hget_cons], by omega, rfl, by simp⟩
  · refine fresh_of_vc (X := ⟨Try.prog, tys, [(72, l2Rack_F)], [(73, l6Good_F)], true, true, 0, [], []⟩) fn_14 ⟨tys_ok, (.cons l2Rack_T .nil), (.cons l6Good_T .nil), mixed⟩ (n0 := 0) rfl (Nat.le_of_ble_eq_true rfl) (by simp [wfL, SV.wf]) (wfH_spec (by simp [wfH, SObj.wf])) (Nat.le_refl _) ?_
    simp -implicitDefEqProofs only [Try.f14, Option.getD_some, argS, l2Rack_F, l6Good_F, hR, tkR, hr, freshK, Wrap.ap, ZB, Int.reduceToNat, Nat.reduceLT, Nat.reduceLeDiff, Int.reduceLE, Int.reduceLT, Nat.reduceEqDiff, Nat.reduceSub, SB, SV.known, packR, ne_eq, reduceCtorEq, Nat.reduceEqDiff, ↓reduceIte, if_true, if_false, eq_self, Nat.reduceAdd, Nat.reduceMul, Nat.reduceSub, forall_const, oneCellS, litOne, flat1, Kd.isSca, flat, TYB]
    exact fun cap junk hj => .inr ⟨1, cap, junk, rfl, by simp [hget_cons], by omega, hj, by simp⟩
def GoodPours_F : List SV → Heap → Nat → Nat → K1 → Prop
  | [.arr R], H, n, _, κ => (R.length = 24) ∧ freshK (.more [.bool (rackB R)]) (gpF R) ((gpF R).length / 2) 2 44 (decide (rackB R = false ∨ PL R 36 = [])) H n κ
  | _, _, _, _, _ => False
--@tbl GoodPours = impl.GoodPours
theorem GoodPours_T : ∀ args H n m κ, GoodPours_F args H n m κ → GenOK Try.prog 13 args H n m κ := by
  intro args H n m κ h
  unfold GoodPours_F at h
  split at h
  · exact gen_of_fresh (GoodPours_ok _ h.1) (fun k o hk => by cases hk) h.2
  · exact h.elim
def sGoodPours_F : List SV → Heap → Nat → Nat → K1 → Prop
  | [.arr R], H, n, _, κ => (R.length = 24) ∧ freshK (.more [.bool (rackB R)]) (gpF R) ((gpF R).length / 2) 2 44 (false) H n κ
  | _, _, _, _, _ => False
--@tbl sGoodPours = spec.GoodPours
theorem sGoodPours_T : ∀ args H n m κ, sGoodPours_F args H n m κ → GenOK Try.prog 14 args H n m κ := by
  intro args H n m κ h
  unfold sGoodPours_F at h
  split at h
  · exact gen_of_fresh (sGoodPours_ok _ h.1) (fun k o hk => by cases hk) h.2
  · exact h.elim
end Go.Proofs.Ytopfnkmlgcjpbaa
set_option maxRecDepth 100000
set_option linter.unusedSimpArgs false
set_option linter.unusedVariables false
namespace Go.Proofs.Ytopfnkmlgcjpbaa
open Go Go.RowKit
/-- Two blocks under other names. -/
def gdC (R : List Int) (i j : Nat) : Bool := canF R i j && goodF R [(i : Int), (j : Int)]
theorem gdL_GL (R : List Int) : gdL R = GL (gdC R) 36 := by
  obtain ⟨n, h1, h2⟩ := kept_GL (fun i j => canF R i j) (gdC R) (fun p => goodF R p) (fun i j _ _ hc => by simp [gdC, hc]) (fun i j _ _ hc => by
    simp only [gdC, Bool.and_eq_true] at hc; exact hc.1) 36 (by omega)
  unfold gdL
  rw [PL_GL, show (GL (fun i j => canF R i j) 36).length / 2 = n by omega]
  exact h2
/-- The first good pour. -/
theorem gd_first {R : List Int} (h : gdL R ≠ []) : (0 ≤ (gdL R).getD 0 0 ∧ (gdL R).getD 0 0 ≤ 5) ∧ (0 ≤ (gdL R).getD 1 0 ∧ (gdL R).getD 1 0 ≤ 5) ∧ canF R ((gdL R).getD 0 0) ((gdL R).getD 1 0) = true ∧ goodF R [(gdL R).getD 0 0, (gdL R).getD 1 0] = true ∧ 2 ≤ (gdL R).length ∧ (gdL R).take 2 = [(gdL R).getD 0 0, (gdL R).getD 1 0] := by
  obtain ⟨k, hk, _⟩ := gdL_even R
  have hl : 2 ≤ (gdL R).length := by
    have : (gdL R).length ≠ 0 := fun h0 => h (List.length_eq_zero_iff.1 h0)
    omega
  have tk := take2_drop (gdL R) 0 (by omega)
  simp only [List.drop_zero, Nat.zero_add] at tk
  rw [gdL_GL] at hl
  obtain ⟨a, b, h1, h2, h3, h4⟩ := GL_pair (gdC R) 36 (by omega) 0 (by omega)
  rw [← gdL_GL] at hl h4
  simp only [Nat.zero_mul, List.drop_zero] at h4
  rw [tk] at h4
  injection h4 with e1 h4
  injection h4 with e2 _
  simp only [gdC, Bool.and_eq_true] at h3
  rw [e1, e2]
  exact ⟨by omega, by omega, h3.1, h3.2, hl, by rw [tk, e1, e2]⟩
def stR (R : List Int) : List Int := if gdL R = [] then R else pourF R ((gdL R).getD 0 0).toNat ((gdL R).getD 1 0).toNat
def gpR (R : List Int) : Nat → List Int
  | 0 => R
  | n + 1 => stR (gpR R n)
def gpL (R : List Int) : Nat → List Int
  | 0 => []
  | n + 1 => gpL R n ++ (gdL (gpR R n)).take 2
theorem stR_facts {R : List Int} (hR : R.length = 24) (hr : rackB R = true) : (stR R).length = 24 ∧ rackB (stR R) = true ∧ (gdL R ≠ [] → bndF (stR R) < bndF R) := by
  unfold stR
  split
  · rename_i h; exact ⟨hR, hr, fun h' => absurd h h'⟩
  · rename_i h
    obtain ⟨h1, h2, h3, h4, h5, h6⟩ := gd_first h
    exact ⟨pourF_len hR _ _, pour_rack hR hr h1 h2 h3, fun _ => by simpa [goodF] using h4⟩
theorem gpR_facts {R : List Int} (hR : R.length = 24) (hr : rackB R = true) : ∀ n, (gpR R n).length = 24 ∧ rackB (gpR R n) = true
  | 0 => ⟨hR, hr⟩
  | n + 1 => by
    have := gpR_facts hR hr n
    have h2 := stR_facts this.1 this.2
    exact ⟨h2.1, h2.2.1⟩
theorem gp_stop {R : List Int} {n : Nat} (h : gdL (gpR R n) = []) : ∀ k, gpR R (n + k) = gpR R n ∧ gpL R (n + k) = gpL R n
  | 0 => ⟨rfl, rfl⟩
  | k + 1 => by
    have ih := gp_stop h k
    refine ⟨?_, ?_⟩
    · show stR (gpR R (n + k)) = _
      rw [ih.1]; unfold stR; rw [if_pos h]
    · show gpL R (n + k) ++ (gdL (gpR R (n + k))).take 2 = _
      rw [ih.1, h, ih.2]; simp
theorem gp_end {R : List Int} {n : Nat} (h : gdL (gpR R n) = []) (hn : n ≤ 100) : gpR R 100 = gpR R n ∧ gpL R 100 = gpL R n := by
  have := gp_stop h (100 - n)
  rwa [show n + (100 - n) = 100 by omega] at this
def gpaL (R : List Int) : List Int := if rackB R = true then gpL R 100 else []
def gpaR (R : List Int) : List Int := if rackB R = true then gpR R 100 else List.replicate 24 0
theorem gpR_zero (R : List Int) : gpR R 0 = R := rfl
theorem gpL_zero (R : List Int) : gpL R 0 = [] := rfl
theorem gpR_next {R : List Int} {n : Nat} (hg : gdL (gpR R n) ≠ []) : gpR R (n + 1) = pourF (gpR R n) ((gdL (gpR R n)).getD 0 0).toNat ((gdL (gpR R n)).getD 1 0).toNat := by show stR _ = _; unfold stR; rw [if_neg hg]
theorem gpL_next {R : List Int} {n : Nat} (hg : gdL (gpR R n) ≠ []) : gpL R (n + 1) = gpL R n ++ [(gdL (gpR R n)).getD 0 0, (gdL (gpR R n)).getD 1 0] := by show gpL R n ++ List.take 2 _ = _; rw [(gd_first hg).2.2.2.2.2]
theorem gp_dec {R : List Int} (hR : R.length = 24) (hr : rackB R = true) {n : Nat} (hg : gdL (gpR R n) ≠ []) : bndF (gpR R (n + 1)) < bndF (gpR R n) := (stR_facts (gpR_facts hR hr n).1 (gpR_facts hR hr n).2).2.2 hg
attribute [local irreducible] gpR gpL gdL pourF bndF canF goodF
/-- A list of good pours as it stands: nil or a block. -/
def gnV (nl : Bool) (b len cap : Nat) : SV := match nl with
  | true => .nils
  | false => .slice b 0 len cap
def gnH (nl : Bool) (b : Nat) (L : List Int) (e : Nat) (base : Heap) : Heap := match nl with
  | true => base
  | false => (b, .ints L e) :: base
theorem gnV_t (b len cap : Nat) : gnV true b len cap = .nils := rfl
theorem gnV_f (b len cap : Nat) : gnV false b len cap = .slice b 0 len cap := rfl
theorem gnH_t (b : Nat) (L : List Int) (e : Nat) (base : Heap) : gnH true b L e base = base := rfl
theorem gnH_f (b : Nat) (L : List Int) (e : Nat) (base : Heap) : gnH false b L e base = (b, .ints L e) :: base := rfl
set_option maxHeartbeats 800000 in
theorem GoodPath_ok (R : List Int) (hR : R.length = 24) : FreshP Try.prog 9 [.arr R] [] (gpaL R) ((gpaL R).length / 2) 2 44 true (.more [.arr (gpaR R), .bool (rackB R)]) := by
  have tkR : R.take 24 = R := List.take_of_length_le (by omega)
  unfold gpaL gpaR
  cases hr : rackB R
  · refine fresh_of_vc (X := ⟨Try.prog, tys, [(11, IsRack_F), (71, pour_F)], [(70, good_F)], true, true, 0, [], []⟩) fn_9 ⟨tys_ok, (.cons IsRack_T (.cons pour_T .nil)), (.cons good_T .nil), mixed⟩ (n0 := 0) rfl (Nat.le_of_ble_eq_true rfl) (by simp [wfL, SV.wf]) (wfH_spec (by simp [wfH, SObj.wf])) (Nat.le_refl _) ?_
    simp -implicitDefEqProofs only [Try.f9, Option.getD_some, argS, IsRack_F, pour_F, good_F, hR, tkR, hr, freshK, Wrap.ap, ZB, Int.reduceToNat, Nat.reduceLT, Nat.reduceLeDiff, Int.reduceLE, Int.reduceLT, Nat.reduceEqDiff, Nat.reduceSub, SB, SV.known, packR, ne_eq, reduceCtorEq, Nat.reduceEqDiff, ↓reduceIte, if_true, if_false, eq_self, Nat.reduceAdd, Nat.reduceMul, Nat.reduceSub, forall_const, oneCellS, litOne, flat1, Kd.isSca, flat, TYB]
    exact .inl ⟨rfl, rfl, rfl⟩
  · refine fresh_of_vc (X := ⟨Try.prog, tys, [(11, IsRack_F), (71, pour_F)], [(70, good_F)], true, true, 0, [], []⟩) fn_9 ⟨tys_ok, (.cons IsRack_T (.cons pour_T .nil)), (.cons good_T .nil), mixed⟩ (n0 := 0) rfl (Nat.le_of_ble_eq_true rfl) (by simp [wfL, SV.wf]) (wfH_spec (by simp [wfH, SObj.wf])) (Nat.le_refl _) ?_
    simp -implicitDefEqProofs only [Try.f9, Option.getD_some, argS, IsRack_F, pour_F, good_F, hR, tkR, hr, freshK, Wrap.ap, ZB, Int.reduceToNat, Nat.reduceLT, Nat.reduceLeDiff, Int.reduceLE, Int.reduceLT, Nat.reduceEqDiff, Nat.reduceSub, SB, SV.known, packR, ne_eq, reduceCtorEq, Nat.reduceEqDiff, ↓reduceIte, if_true, if_false, eq_self, Nat.reduceAdd, Nat.reduceMul, Nat.reduceSub, forall_const, oneCellS, litOne, flat1, Kd.isSca, flat, TYB]
    have b54 := (bnd_bd R hR).2.2.2.1
    refine ⟨fun h1 h2 => ?_, fun h1 cap0 junk0 hj0 => ?_⟩
    · have e0 := gp_end (R := R) (n := 0) (by rw [gpR_zero]; exact h2) (by omega)
      rw [e0.1, e0.2]
      refine loop_intro (fun _ : Unit => [(6, .nils), (5, .nils), (4, .bool false), (3, .ptr 1 0), (2, .nils), (1, .ptr 0 0)]) (fun _ => [(1, .ints (List.replicate 24 0) 27), (0, .ints R 27)]) 2 (fun _ => True) (fun _ => 0) ?_ ?_
      · refine ⟨(), ?_, Sub.mk_id ?_ ?_ ?_ ?_ ?_⟩
        all_goals (try (simp only [LB, subS, subH, wfS, wfH, SV.ren, renL, SObj.ren, SV.wf, SObj.wf, wfL, SV.known, Nat.reduceEqDiff, ↓reduceIte, if_true, if_false, eq_self, Nat.reduceAdd, Nat.reduceLT, Nat.reduceLeDiff, implies_true, reduceCtorEq, forall_const]; done))
        all_goals (try (simp only [LB, subS, subH, wfS, wfH, SV.ren, renL, SObj.ren, SV.wf, SObj.wf, wfL, SV.known, Nat.reduceEqDiff, ↓reduceIte, if_true, if_false, eq_self, Nat.reduceAdd, Nat.reduceLT, Nat.reduceLeDiff, implies_true, reduceCtorEq, forall_const]; simp; done))
        all_goals (try (simp only [LB, subS, subH, wfS, wfH, SV.ren, renL, SObj.ren, SV.wf, SObj.wf, wfL, SV.known, Nat.reduceEqDiff, ↓reduceIte, if_true, if_false, eq_self, Nat.reduceAdd, Nat.reduceLT, Nat.reduceLeDiff, implies_true, reduceCtorEq, forall_const]; (and_intros <;> (first | omega | rfl | (simp; done) | (simp; omega))); done))
        all_goals (try dsimp only)
        all_goals (and_intros <;> try (first | omega | (unfold In64; omega) | trivial | assumption))
      · intro _ _
        simp -implicitDefEqProofs only [lk_normal, gpR_zero, gpL_zero, hR, tkR, ZB, Int.reduceToNat, Nat.reduceLT, Nat.reduceLeDiff, Int.reduceLE, Int.reduceLT, Nat.reduceEqDiff, Nat.reduceSub, SB, SV.known, packR, ne_eq, reduceCtorEq, Nat.reduceEqDiff, ↓reduceIte, if_true, if_false, eq_self, Nat.reduceAdd, Nat.reduceMul, Nat.reduceSub, forall_const, oneCellS, litOne, flat1, Kd.isSca, flat, TYB]
        exact .inl ⟨rfl, rfl, rfl⟩
    · refine loop_intro (fun s : Nat × Nat × List Int × Nat × List Int × Bool => [(6, gnV s.2.2.2.2.2 3 ((gdL (gpR R s.1)).length / 2) s.2.2.2.1), (5, outVn 2 s.1 s.1 s.2.1), (4, .bool false), (3, .ptr 1 0), (2, .nils), (1, .ptr 0 0)])
        (fun s => gnH s.2.2.2.2.2 3 (gdL (gpR R s.1) ++ s.2.2.2.2.1) 44 (outHn 2 s.1 (gpL R s.1 ++ s.2.2.1) 44 [(1, .ints (List.replicate 24 0) 27), (0, .ints (gpR R s.1) 27)])) 4
        (fun s => ((s.1 : Int) + bndF (gpR R s.1) ≤ bndF R ∧ (gpL R s.1).length = s.1 * 2 ∧ s.2.2.1.length + s.1 * 2 = s.2.1 * 2) ∧ (s.2.2.2.2.2 = true → gdL (gpR R s.1) = []) ∧ (s.2.2.2.2.2 = false → s.2.2.2.2.1.length + (gdL (gpR R s.1)).length = s.2.2.2.1 * 2)) (fun s => (bndF (gpR R s.1)).toNat) ?_ ?_
      · refine ⟨(0, 0, [], cap0, junk0, false), ⟨⟨by simp [gpR_zero], by simp [gpL_zero], rfl⟩, (fun h => by cases h), (fun _ => by simpa [gpR_zero] using hj0)⟩, Sub.mk_to 3 2 ?_ ?_ ?_ ?_ ?_ ?_ ?_⟩
        all_goals simp only [gnV_f, gnH_f, outVn_zero, outHn_zero, gpR_zero, gpL_zero, LB, subS, subH, wfS, wfH, SV.ren, renL, SObj.ren, SV.wf, SObj.wf, wfL, SV.known, Nat.reduceEqDiff, ↓reduceIte, if_true, if_false, eq_self, Nat.reduceAdd, Nat.reduceLT, Nat.reduceLeDiff, implies_true, reduceCtorEq, forall_const]
        all_goals (try simp)
      · rintro ⟨n, cap, junk, capL, junkL, nl⟩ ⟨⟨hb, hL, hj⟩, hn1, hn2⟩
        simp only at hb hL hj hn1 hn2
        obtain ⟨qR, qr⟩ := gpR_facts hR hr n
        have tkQ : (gpR R n).take 24 = gpR R n := List.take_of_length_le (by omega)
        have bq := (bnd_bd (gpR R n) qR).2.2.1
        obtain ⟨k, hk, hk36⟩ := gdL_even (gpR R n)
        have ek : (gdL (gpR R n)).length / 2 = k := by omega
        by_cases hg : gdL (gpR R n) = []
        · have e0 := gp_end hg (by omega)
          rw [e0.1, e0.2]
          have k0 : k = 0 := by rw [hg] at hk; simp at hk; omega
          subst k0
          cases nl <;> cases n
          all_goals simp -implicitDefEqProofs only [lk_normal, gnV_t, gnV_f, gnH_t, gnH_f, outVn_zero, outVn_succ, outHn_zero, outHn_succ, ek, qR, qr, tkQ, ZB, Int.reduceToNat, Nat.reduceLT, Nat.reduceLeDiff, Int.reduceLE, Int.reduceLT, Nat.reduceEqDiff, Nat.reduceSub, SB, SV.known, packR, ne_eq, reduceCtorEq, Nat.reduceEqDiff, ↓reduceIte, if_true, if_false, eq_self, Nat.reduceAdd, Nat.reduceMul, Nat.reduceSub, forall_const, oneCellS, litOne, flat1, Kd.isSca, flat, TYB]
          all_goals first
            | exact .inl ⟨rfl, gpL_zero R, rfl⟩
            | (refine .inr ⟨2, cap, junk, ?_, by simp [hget_cons], by omega, by omega, fun _ h0 => ?_⟩
               · rw [hL]; simp [Wrap.ap]
               · rw [h0] at hL; simp at hL)
        · have nlf : nl = false := by cases nl with
            | false => rfl
            | true => exact absurd (hn1 rfl) hg
          subst nlf
          have hn2 := hn2 rfl
          obtain ⟨f1, f2, f3, f4, f5, f6⟩ := gd_first hg
          have kp : ¬ ((k : Int) ≤ 0) := by omega
          have kp' : 0 < (k : Int) := by omega
          have lenA : (gdL (gpR R n) ++ junkL).length = capL * 2 := by rw [List.length_append]; omega
          have cA : 2 ≤ capL * 2 := by omega
          have tkA : List.take 2 (gdL (gpR R n) ++ junkL) = [(gdL (gpR R n)).getD 0 0, (gdL (gpR R n)).getD 1 0] := by rw [List.take_append_of_le_length f5]; exact f6
          have g0 := getD_app (gdL (gpR R n)) junkL 0 (by omega)
          have g1 := getD_app (gdL (gpR R n)) junkL 1 (by omega)
          have lenO : (gpL R n ++ junk).length = cap * 2 := by rw [List.length_append]; omega
          have tkO : (gpL R n ++ junk).take (n * 2) = gpL R n := List.take_left' hL
          have es1 : gpR R (n + 1) = pourF (gpR R n) ((gdL (gpR R n)).getD 0 0).toNat ((gdL (gpR R n)).getD 1 0).toNat := gpR_next hg
          have es2 : gpL R (n + 1) = gpL R n ++ [(gdL (gpR R n)).getD 0 0, (gdL (gpR R n)).getD 1 0] := gpL_next hg
          obtain ⟨qR', qr'⟩ := gpR_facts hR hr (n + 1)
          have dec := gp_dec hR hr hg
          have bq' := (bnd_bd (gpR R (n + 1)) qR').2.2.1
          rw [es1] at qR' qr' dec bq'
          have tkQ' : (pourF (gpR R n) ((gdL (gpR R n)).getD 0 0).toNat ((gdL (gpR R n)).getD 1 0).toNat).take 24 = pourF (gpR R n) ((gdL (gpR R n)).getD 0 0).toNat ((gdL (gpR R n)).getD 1 0).toNat := List.take_of_length_le (by omega)
          have dQ : List.drop 24 (gpR R n) = [] := List.drop_eq_nil_of_le (by omega)
          rcases n with _ | n
          all_goals simp -implicitDefEqProofs only [lk_normal, pour_F, good_F, dQ, freshK, Wrap.ap, lenA, cA, tkA, g0, g1, lenO, tkO, qR', qr', tkQ', gnV_t, gnV_f, gnH_t, gnH_f, outVn_zero, outVn_succ, outHn_zero, outHn_succ, ek, kp', qR, qr, tkQ, ZB, Int.reduceToNat, Nat.reduceLT, Nat.reduceLeDiff, Int.reduceLE, Int.reduceLT, Nat.reduceEqDiff, Nat.reduceSub, SB, SV.known, packR, ne_eq, reduceCtorEq, Nat.reduceEqDiff, ↓reduceIte, if_true, if_false, eq_self, Nat.reduceAdd, Nat.reduceMul, Nat.reduceSub, forall_const, oneCellS, litOne, flat1, Kd.isSca, flat, TYB]
          · rw [Nat.zero_add] at es1 es2
            intro junk' cap' hj'
            (try (and_intros <;> try (first | omega | (unfold In64; omega) | trivial | assumption)))
            · intro h1 h2
              refine ⟨(0 + 1, cap', junk', 0, [], true), ?_, ?_, Sub.mk_to 2 5 ?_ ?_ ?_ ?_ ?_ ?_ ?_⟩
              all_goals (try (simp only [gnV_t, gnH_t, outVn_succ, outHn_succ, gpL_zero, es1, es2, LB, subS, subH, wfS, wfH, SV.ren, renL, SObj.ren, SV.wf, SObj.wf, wfL, SV.known, Nat.reduceEqDiff, ↓reduceIte, if_true, if_false, eq_self, Nat.reduceAdd, Nat.reduceLT, Nat.reduceLeDiff, implies_true, reduceCtorEq, forall_const]; done))
              all_goals (try (simp only [gnV_t, gnH_t, outVn_succ, outHn_succ, gpL_zero, es1, es2, LB, subS, subH, wfS, wfH, SV.ren, renL, SObj.ren, SV.wf, SObj.wf, wfL, SV.known, Nat.reduceEqDiff, ↓reduceIte, if_true, if_false, eq_self, Nat.reduceAdd, Nat.reduceLT, Nat.reduceLeDiff, implies_true, reduceCtorEq, forall_const]; simp; done))
              all_goals (try (simp only [gnV_t, gnH_t, outVn_succ, outHn_succ, gpL_zero, es1, es2, LB, subS, subH, wfS, wfH, SV.ren, renL, SObj.ren, SV.wf, SObj.wf, wfL, SV.known, Nat.reduceEqDiff, ↓reduceIte, if_true, if_false, eq_self, Nat.reduceAdd, Nat.reduceLT, Nat.reduceLeDiff, implies_true, reduceCtorEq, forall_const]; (and_intros <;> (first | omega | rfl | (simp; done) | (simp; omega))); done))
              all_goals (try dsimp only)
              all_goals (and_intros <;> try (first | omega | (unfold In64; omega) | trivial | assumption))
              all_goals (try simp only [Nat.zero_add, es1, es2, gpL_zero, LB, subS, subH, wfS, wfH, SV.ren, renL, SObj.ren, SV.wf, SObj.wf, wfL, SV.known, Nat.reduceEqDiff, ↓reduceIte, if_true, if_false, eq_self, Nat.reduceAdd, Nat.reduceLT, Nat.reduceLeDiff, implies_true, reduceCtorEq, forall_const])
              all_goals (first | omega | (simp; done) | (simpa using hj2) | (simp; omega))
            · intro h1 capL' junkL' hj2
              refine ⟨(0 + 1, cap', junk', capL', junkL', false), ?_, ?_, Sub.mk_to2 2 5 3 6 ?_ ?_ ?_ ?_ ?_ ?_ ?_ (by simp only [gnV_f, gnH_f, outVn_succ, outHn_succ, es1, es2, List.map_cons, List.map_nil]; decide)⟩
              all_goals (try (simp only [gnV_f, gnH_f, outVn_succ, outHn_succ, es1, es2, LB, subS, subH, wfS, wfH, SV.ren, renL, SObj.ren, SV.wf, SObj.wf, wfL, SV.known, Nat.reduceEqDiff, ↓reduceIte, if_true, if_false, eq_self, Nat.reduceAdd, Nat.reduceLT, Nat.reduceLeDiff, implies_true, reduceCtorEq, forall_const]; done))
              all_goals (try (simp only [gnV_f, gnH_f, outVn_succ, outHn_succ, es1, es2, LB, subS, subH, wfS, wfH, SV.ren, renL, SObj.ren, SV.wf, SObj.wf, wfL, SV.known, Nat.reduceEqDiff, ↓reduceIte, if_true, if_false, eq_self, Nat.reduceAdd, Nat.reduceLT, Nat.reduceLeDiff, implies_true, reduceCtorEq, forall_const]; simp; done))
              all_goals (try (simp only [gnV_f, gnH_f, outVn_succ, outHn_succ, es1, es2, LB, subS, subH, wfS, wfH, SV.ren, renL, SObj.ren, SV.wf, SObj.wf, wfL, SV.known, Nat.reduceEqDiff, ↓reduceIte, if_true, if_false, eq_self, Nat.reduceAdd, Nat.reduceLT, Nat.reduceLeDiff, implies_true, reduceCtorEq, forall_const]; (and_intros <;> (first | omega | rfl | (simp; done) | (simp; omega))); done))
              all_goals (try dsimp only)
              all_goals (and_intros <;> try (first | omega | (unfold In64; omega) | trivial | assumption))
              all_goals (try simp only [Nat.zero_add, es1, es2, gpL_zero, LB, subS, subH, wfS, wfH, SV.ren, renL, SObj.ren, SV.wf, SObj.wf, wfL, SV.known, Nat.reduceEqDiff, ↓reduceIte, if_true, if_false, eq_self, Nat.reduceAdd, Nat.reduceLT, Nat.reduceLeDiff, implies_true, reduceCtorEq, forall_const])
              all_goals (first | omega | (simp; done) | (simpa using hj2) | (simp; omega))
          · (try (and_intros <;> try (first | omega | (unfold In64; omega) | trivial | assumption)))
            intro junk' cap' hj'
            (try (and_intros <;> try (first | omega | (unfold In64; omega) | trivial | assumption)))
            · intro h1 h2
              refine ⟨(n + 1 + 1, cap', junk', 0, [], true), ?_, ?_, Sub.mk_to 2 5 ?_ ?_ ?_ ?_ ?_ ?_ ?_⟩
              all_goals (try (simp only [gnV_t, gnH_t, outVn_succ, outHn_succ, es1, es2, LB, subS, subH, wfS, wfH, SV.ren, renL, SObj.ren, SV.wf, SObj.wf, wfL, SV.known, Nat.reduceEqDiff, ↓reduceIte, if_true, if_false, eq_self, Nat.reduceAdd, Nat.reduceLT, Nat.reduceLeDiff, implies_true, reduceCtorEq, forall_const]; done))
              all_goals (try (simp only [gnV_t, gnH_t, outVn_succ, outHn_succ, es1, es2, LB, subS, subH, wfS, wfH, SV.ren, renL, SObj.ren, SV.wf, SObj.wf, wfL, SV.known, Nat.reduceEqDiff, ↓reduceIte, if_true, if_false, eq_self, Nat.reduceAdd, Nat.reduceLT, Nat.reduceLeDiff, implies_true, reduceCtorEq, forall_const]; simp; done))
              all_goals (try (simp only [gnV_t, gnH_t, outVn_succ, outHn_succ, es1, es2, LB, subS, subH, wfS, wfH, SV.ren, renL, SObj.ren, SV.wf, SObj.wf, wfL, SV.known, Nat.reduceEqDiff, ↓reduceIte, if_true, if_false, eq_self, Nat.reduceAdd, Nat.reduceLT, Nat.reduceLeDiff, implies_true, reduceCtorEq, forall_const]; (and_intros <;> (first | omega | rfl | (simp; done) | (simp; omega))); done))
              all_goals (try dsimp only)
              all_goals (and_intros <;> try (first | omega | (unfold In64; omega) | trivial | assumption))
            · intro h1 capL' junkL' hj2
              refine ⟨(n + 1 + 1, cap', junk', capL', junkL', false), ?_, ?_, Sub.mk_to2 2 5 3 6 ?_ ?_ ?_ ?_ ?_ ?_ ?_ (by simp only [gnV_f, gnH_f, outVn_succ, outHn_succ, es1, es2, List.map_cons, List.map_nil]; decide)⟩
              all_goals (try (simp only [gnV_f, gnH_f, outVn_succ, outHn_succ, es1, es2, LB, subS, subH, wfS, wfH, SV.ren, renL, SObj.ren, SV.wf, SObj.wf, wfL, SV.known, Nat.reduceEqDiff, ↓reduceIte, if_true, if_false, eq_self, Nat.reduceAdd, Nat.reduceLT, Nat.reduceLeDiff, implies_true, reduceCtorEq, forall_const]; done))
              all_goals (try (simp only [gnV_f, gnH_f, outVn_succ, outHn_succ, es1, es2, LB, subS, subH, wfS, wfH, SV.ren, renL, SObj.ren, SV.wf, SObj.wf, wfL, SV.known, Nat.reduceEqDiff, ↓reduceIte, if_true, if_false, eq_self, Nat.reduceAdd, Nat.reduceLT, Nat.reduceLeDiff, implies_true, reduceCtorEq, forall_const]; simp; done))
              all_goals (try (simp only [gnV_f, gnH_f, outVn_succ, outHn_succ, es1, es2, LB, subS, subH, wfS, wfH, SV.ren, renL, SObj.ren, SV.wf, SObj.wf, wfL, SV.known, Nat.reduceEqDiff, ↓reduceIte, if_true, if_false, eq_self, Nat.reduceAdd, Nat.reduceLT, Nat.reduceLeDiff, implies_true, reduceCtorEq, forall_const]; (and_intros <;> (first | omega | rfl | (simp; done) | (simp; omega))); done))
              all_goals (try dsimp only)
              all_goals (and_intros <;> try (first | omega | (unfold In64; omega) | trivial | assumption))
set_option maxHeartbeats 800000 in
theorem sGoodPath_ok (R : List Int) (hR : R.length = 24) : FreshP Try.prog 10 [.arr R] [] (gpaL R) ((gpaL R).length / 2) 2 44 false (.more [.arr (gpaR R), .bool (rackB R)]) := by
  have tkR : R.take 24 = R := List.take_of_length_le (by omega)
  unfold gpaL gpaR
  cases hr : rackB R
  · refine fresh_of_vc (X := ⟨Try.prog, tys, [(72, l2Rack_F), (74, l2Pour_F)], [(73, l6Good_F)], true, true, 0, [], []⟩) fn_10 ⟨tys_ok, (.cons l2Rack_T (.cons l2Pour_T .nil)), (.cons l6Good_T .nil), mixed⟩ (n0 := 0) rfl (Nat.le_of_ble_eq_true rfl) (by simp [wfL, SV.wf]) (wfH_spec (by simp [wfH, SObj.wf])) (Nat.le_refl _) ?_
    simp -implicitDefEqProofs only [Try.f10, Option.getD_some, argS, l2Rack_F, l2Pour_F, l6Good_F, hR, tkR, hr, freshK, Wrap.ap, ZB, Int.reduceToNat, Nat.reduceLT, Nat.reduceLeDiff, Int.reduceLE, Int.reduceLT, Nat.reduceEqDiff, Nat.reduceSub, SB, SV.known, packR, ne_eq, reduceCtorEq, Nat.reduceEqDiff, ↓reduceIte, if_true, if_false, eq_self, Nat.reduceAdd, Nat.reduceMul, Nat.reduceSub, forall_const, oneCellS, litOne, flat1, Kd.isSca, flat, TYB]
    exact .inr ⟨2, 0, [], by simp [Wrap.ap], by simp [hget_cons], by omega, by simp, by simp⟩
  · refine fresh_of_vc (X := ⟨Try.prog, tys, [(72, l2Rack_F), (74, l2Pour_F)], [(73, l6Good_F)], true, true, 0, [], []⟩) fn_10 ⟨tys_ok, (.cons l2Rack_T (.cons l2Pour_T .nil)), (.cons l6Good_T .nil), mixed⟩ (n0 := 0) rfl (Nat.le_of_ble_eq_true rfl) (by simp [wfL, SV.wf]) (wfH_spec (by simp [wfH, SObj.wf])) (Nat.le_refl _) ?_
    simp -implicitDefEqProofs only [Try.f10, Option.getD_some, argS, l2Rack_F, l2Pour_F, l6Good_F, hR, tkR, hr, freshK, Wrap.ap, ZB, Int.reduceToNat, Nat.reduceLT, Nat.reduceLeDiff, Int.reduceLE, Int.reduceLT, Nat.reduceEqDiff, Nat.reduceSub, SB, SV.known, packR, ne_eq, reduceCtorEq, Nat.reduceEqDiff, ↓reduceIte, if_true, if_false, eq_self, Nat.reduceAdd, Nat.reduceMul, Nat.reduceSub, forall_const, oneCellS, litOne, flat1, Kd.isSca, flat, TYB]
    have b54 := (bnd_bd R hR).2.2.2.1
    intro cap0 junk0 hj0
    refine loop_intro (fun s : Nat × Nat × List Int × Nat × List Int => [(6, .slice 3 0 ((gdL (gpR R s.1)).length / 2) s.2.2.2.1), (5, .slice 2 0 s.1 s.2.1), (4, .bool false), (3, .ptr 1 0), (2, .nils), (1, .ptr 0 0)])
      (fun s => [(3, .ints (gdL (gpR R s.1) ++ s.2.2.2.2) 44), (2, .ints (gpL R s.1 ++ s.2.2.1) 44), (1, .ints (List.replicate 24 0) 27), (0, .ints (gpR R s.1) 27)]) 4
      (fun s => ((s.1 : Int) + bndF (gpR R s.1) ≤ bndF R ∧ (gpL R s.1).length = s.1 * 2 ∧ s.2.2.1.length + s.1 * 2 = s.2.1 * 2) ∧ s.2.2.2.2.length + (gdL (gpR R s.1)).length = s.2.2.2.1 * 2) (fun s => (bndF (gpR R s.1)).toNat) ?_ ?_
    · refine ⟨(0, 0, [], cap0, junk0), ?_, Sub.mk_id ?_ ?_ ?_ ?_ ?_⟩
      all_goals (try (simp only [gpR_zero, gpL_zero, List.append_nil, LB, subS, subH, wfS, wfH, SV.ren, renL, SObj.ren, SV.wf, SObj.wf, wfL, SV.known, Nat.reduceEqDiff, ↓reduceIte, if_true, if_false, eq_self, Nat.reduceAdd, Nat.reduceLT, Nat.reduceLeDiff, implies_true, reduceCtorEq, forall_const]; done))
      all_goals (try (simp only [gpR_zero, gpL_zero, List.append_nil, LB, subS, subH, wfS, wfH, SV.ren, renL, SObj.ren, SV.wf, SObj.wf, wfL, SV.known, Nat.reduceEqDiff, ↓reduceIte, if_true, if_false, eq_self, Nat.reduceAdd, Nat.reduceLT, Nat.reduceLeDiff, implies_true, reduceCtorEq, forall_const]; simp; done))
      all_goals (try (simp only [gpR_zero, gpL_zero, List.append_nil, LB, subS, subH, wfS, wfH, SV.ren, renL, SObj.ren, SV.wf, SObj.wf, wfL, SV.known, Nat.reduceEqDiff, ↓reduceIte, if_true, if_false, eq_self, Nat.reduceAdd, Nat.reduceLT, Nat.reduceLeDiff, implies_true, reduceCtorEq, forall_const]; (and_intros <;> (first | omega | rfl | (simp; done) | (simp; omega))); done))
      all_goals (try dsimp only)
      all_goals (and_intros <;> try (first | omega | (unfold In64; omega) | trivial | assumption))
      all_goals (try simp only [gpR_zero, gpL_zero])
      all_goals (first | omega | (simp; done) | (simpa using hj0))
    · rintro ⟨n, cap, junk, capL, junkL⟩ ⟨⟨hb, hL, hj⟩, hn2⟩
      simp only at hb hL hj hn2
      obtain ⟨qR, qr⟩ := gpR_facts hR hr n
      have tkQ : (gpR R n).take 24 = gpR R n := List.take_of_length_le (by omega)
      have bq := (bnd_bd (gpR R n) qR).2.2.1
      obtain ⟨k, hk, hk36⟩ := gdL_even (gpR R n)
      have ek : (gdL (gpR R n)).length / 2 = k := by omega
      by_cases hg : gdL (gpR R n) = []
      · have e0 := gp_end hg (by omega)
        rw [e0.1, e0.2]
        have k0 : k = 0 := by rw [hg] at hk; simp at hk; omega
        subst k0
        simp -implicitDefEqProofs only [lk_normal, ek, qR, qr, tkQ, ZB, Int.reduceToNat, Nat.reduceLT, Nat.reduceLeDiff, Int.reduceLE, Int.reduceLT, Nat.reduceEqDiff, Nat.reduceSub, SB, SV.known, packR, ne_eq, reduceCtorEq, Nat.reduceEqDiff, ↓reduceIte, if_true, if_false, eq_self, Nat.reduceAdd, Nat.reduceMul, Nat.reduceSub, forall_const, oneCellS, litOne, flat1, Kd.isSca, flat, TYB]
        refine .inr ⟨2, cap, junk, ?_, by simp [hget_cons], by omega, by omega, fun h0 => by cases h0⟩
        rw [hL]; simp [Wrap.ap]
      · obtain ⟨f1, f2, f3, f4, f5, f6⟩ := gd_first hg
        have kp' : 0 < (k : Int) := by omega
        have lenA : (gdL (gpR R n) ++ junkL).length = capL * 2 := by rw [List.length_append]; omega
        have cA : 2 ≤ capL * 2 := by omega
        have tkA : List.take 2 (gdL (gpR R n) ++ junkL) = [(gdL (gpR R n)).getD 0 0, (gdL (gpR R n)).getD 1 0] := by rw [List.take_append_of_le_length f5]; exact f6
        have g0 := getD_app (gdL (gpR R n)) junkL 0 (by omega)
        have g1 := getD_app (gdL (gpR R n)) junkL 1 (by omega)
        have lenO : (gpL R n ++ junk).length = cap * 2 := by rw [List.length_append]; omega
        have tkO : (gpL R n ++ junk).take (n * 2) = gpL R n := List.take_left' hL
        have es1 : gpR R (n + 1) = pourF (gpR R n) ((gdL (gpR R n)).getD 0 0).toNat ((gdL (gpR R n)).getD 1 0).toNat := gpR_next hg
        have es2 : gpL R (n + 1) = gpL R n ++ [(gdL (gpR R n)).getD 0 0, (gdL (gpR R n)).getD 1 0] := gpL_next hg
        obtain ⟨qR', qr'⟩ := gpR_facts hR hr (n + 1)
        have dec := gp_dec hR hr hg
        have bq' := (bnd_bd (gpR R (n + 1)) qR').2.2.1
        rw [es1] at qR' qr' dec bq'
        have tkQ' : (pourF (gpR R n) ((gdL (gpR R n)).getD 0 0).toNat ((gdL (gpR R n)).getD 1 0).toNat).take 24 = pourF (gpR R n) ((gdL (gpR R n)).getD 0 0).toNat ((gdL (gpR R n)).getD 1 0).toNat := List.take_of_length_le (by omega)
        have dQ : List.drop 24 (gpR R n) = [] := List.drop_eq_nil_of_le (by omega)
        simp -implicitDefEqProofs only [lk_normal, l2Pour_F, l6Good_F, dQ, freshK, Wrap.ap, lenA, cA, tkA, g0, g1, lenO, tkO, qR', qr', tkQ', ek, kp', qR, qr, tkQ, ZB, Int.reduceToNat, Nat.reduceLT, Nat.reduceLeDiff, Int.reduceLE, Int.reduceLT, Nat.reduceEqDiff, Nat.reduceSub, SB, SV.known, packR, ne_eq, reduceCtorEq, Nat.reduceEqDiff, ↓reduceIte, if_true, if_false, eq_self, Nat.reduceAdd, Nat.reduceMul, Nat.reduceSub, forall_const, oneCellS, litOne, flat1, Kd.isSca, flat, TYB]
        (try (and_intros <;> try (first | omega | (unfold In64; omega) | trivial | assumption)))
        intro junk' cap' hj' capL' junkL' hj2
        refine ⟨(n + 1, cap', junk', capL', junkL'), ?_, ?_, Sub.mk_to2 2 6 3 7 ?_ ?_ ?_ ?_ ?_ ?_ ?_ (by simp only [es1, es2, List.map_cons, List.map_nil]; decide)⟩
        all_goals (try (simp only [es1, es2, LB, subS, subH, wfS, wfH, SV.ren, renL, SObj.ren, SV.wf, SObj.wf, wfL, SV.known, Nat.reduceEqDiff, ↓reduceIte, if_true, if_false, eq_self, Nat.reduceAdd, Nat.reduceLT, Nat.reduceLeDiff, implies_true, reduceCtorEq, forall_const]; done))
        all_goals (try (simp only [es1, es2, LB, subS, subH, wfS, wfH, SV.ren, renL, SObj.ren, SV.wf, SObj.wf, wfL, SV.known, Nat.reduceEqDiff, ↓reduceIte, if_true, if_false, eq_self, Nat.reduceAdd, Nat.reduceLT, Nat.reduceLeDiff, implies_true, reduceCtorEq, forall_const]; simp; done))
        all_goals (try (simp only [es1, es2, LB, subS, subH, wfS, wfH, SV.ren, renL, SObj.ren, SV.wf, SObj.wf, wfL, SV.known, Nat.reduceEqDiff, ↓reduceIte, if_true, if_false, eq_self, Nat.reduceAdd, Nat.reduceLT, Nat.reduceLeDiff, implies_true, reduceCtorEq, forall_const]; (and_intros <;> (first | omega | rfl | (simp; done) | (simp; omega))); done))
        all_goals (try dsimp only)
        all_goals (and_intros <;> try (first | omega | (unfold In64; omega) | trivial | assumption))
        all_goals (first | (simp only [es1]; omega) | (simp only [es2]; simp [hL]; omega) | (simp only [es1]; simpa using hj2) | skip)
def GoodPath_F : List SV → Heap → Nat → Nat → K1 → Prop
  | [.arr R], H, n, _, κ => (R.length = 24) ∧ freshK (.more [.arr (gpaR R), .bool (rackB R)]) (gpaL R) ((gpaL R).length / 2) 2 44 (true) H n κ
  | _, _, _, _, _ => False
--@tbl GoodPath = impl.GoodPath
theorem GoodPath_T : ∀ args H n m κ, GoodPath_F args H n m κ → GenOK Try.prog 9 args H n m κ := by
  intro args H n m κ h
  unfold GoodPath_F at h
  split at h
  · exact gen_of_fresh (GoodPath_ok _ h.1) (fun k o hk => by cases hk) h.2
  · exact h.elim
def sGoodPath_F : List SV → Heap → Nat → Nat → K1 → Prop
  | [.arr R], H, n, _, κ => (R.length = 24) ∧ freshK (.more [.arr (gpaR R), .bool (rackB R)]) (gpaL R) ((gpaL R).length / 2) 2 44 (false) H n κ
  | _, _, _, _, _ => False
--@tbl sGoodPath = spec.GoodPath
theorem sGoodPath_T : ∀ args H n m κ, sGoodPath_F args H n m κ → GenOK Try.prog 10 args H n m κ := by
  intro args H n m κ h
  unfold sGoodPath_F at h
  split at h
  · exact gen_of_fresh (sGoodPath_ok _ h.1) (fun k o hk => by cases hk) h.2
  · exact h.elim
end Go.Proofs.Ytopfnkmlgcjpbaa
