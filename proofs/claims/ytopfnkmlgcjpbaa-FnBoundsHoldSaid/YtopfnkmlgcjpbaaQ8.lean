/- Texts of this claim, joined (DrawR, DrawB, EqR, FP2, FP3). -/
import Derived.Test.YtopfnkmlgcjpbaaQ1
import Derived.Test.YtopfnkmlgcjpbaaQ2
import Derived.Test.YtopfnkmlgcjpbaaQ3
import Derived.Test.YtopfnkmlgcjpbaaQ4
import Derived.Test.YtopfnkmlgcjpbaaQ5
import Derived.Test.YtopfnkmlgcjpbaaQ6
import Derived.Test.YtopfnkmlgcjpbaaQ7
import Derived.ChangeKeysEq
import Derived.Laws.StructEq
/- Walks: how racks are drawn. -/
set_option maxRecDepth 100000
set_option linter.unusedSimpArgs false
set_option linter.unusedVariables false
namespace Go.Proofs.Ytopfnkmlgcjpbaa
open Go Go.RowKit
theorem fnx_rack : FnOK Try.prog 77 Try.f77 (Try.f77.body.getD .skip) [94, 92, 119] [(21, .tree (.one 0 (.one 1 (.one 2 (.one 3 (.one 4 (.one 5 (.one 6 (.alt 7 (.alt 8 (.one 9 (.one 10 (.one 11 .done))) (.alt 9 (.one 8 (.one 10 (.one 11 .done))) .stop)) (.alt 8 (.alt 7 (.one 9 (.one 10 (.one 11 .done))) (.alt 9 (.alt 7 (.one 10 (.one 11 .done)) (.alt 10 (.one 7 (.one 11 .done)) .stop)) .stop)) (.alt 9 (.alt 7 (.one 8 (.one 10 (.one 11 .done))) (.alt 8 (.alt 7 (.one 10 (.one 11 .done)) (.alt 10 (.one 7 (.one 11 .done)) .stop)) .stop)) .stop))))))))))), (26, .tree (.one 0 (.one 2 (.one 4 (.one 7 (.alt 1 (.one 8 (.alt 3 (.one 5 (.one 6 (.one 9 (.one 10 .done)))) (.alt 5 (.one 3 (.one 6 (.one 9 (.one 10 .done)))) .stop))) (.alt 5 (.one 1 (.one 3 (.one 6 (.one 8 (.one 9 (.one 10 .done)))))) .stop)))))))] := ⟨Try.func77, rfl, by kernel_rfl, by kernel_rfl⟩
/-- A rack that is being drawn. -/
structure RkS (c kc a n : Nat) (H : Heap) (b : Nat) (R : List Int) (k : Nat) (H' : Heap) (n' : Nat) : Prop where
  d : Drawn c kc a k n H H' n'
  lt : n < b ∧ b < n'
  r : hget H' b = some (.ints R 27)
  l : R.length = 24
  i : ∀ x ∈ R, In64 x
  z : hget H' n = some (.ints (List.replicate 24 0) 27)
theorem RkS.set {c kc a n b k n' : Nat} {H H' : Heap} {R : List Int} (h : RkS c kc a n H b R k H' n') (hlt : c < n ∧ kc < n ∧ kc ≠ c) {R' : List Int} (hl : R'.length = 24) (hi : ∀ x ∈ R', In64 x) : RkS c kc a n H b R' k ((b, .ints R' 27) :: H') n' :=
  ⟨h.d.put hlt _ (Nat.le_of_lt h.lt.1) h.lt.2 (Nat.le_refl _) trivial, h.lt, by simp [hget_cons], hl, hi, by rw [hget_cons, if_neg (Nat.ne_of_lt h.lt.1)]; exact h.z⟩
theorem RkS.push {c kc a n b k n' : Nat} {H H' : Heap} {R : List Int} (h : RkS c kc a n H b R k H' n') (hlt : c < n ∧ kc < n ∧ kc ≠ c) (o : SObj) (ho : o.wf (n' + 1)) : RkS c kc a n H b R k ((n', o) :: H') (n' + 1) :=
  ⟨h.d.push hlt o ho, ⟨h.lt.1, Nat.lt_succ_of_lt h.lt.2⟩, by rw [hget_cons, if_neg (Nat.ne_of_lt h.lt.2)]; exact h.r, h.l, h.i, by rw [hget_cons, if_neg (Nat.ne_of_lt (Nat.lt_trans h.lt.1 h.lt.2))]; exact h.z⟩
theorem RkS.pushI {c kc a n b k n' : Nat} {H H' : Heap} {R : List Int} (h : RkS c kc a n H b R k H' n') (hlt : c < n ∧ kc < n ∧ kc ≠ c) {L : List Int} {e : Nat} : RkS c kc a n H b R k ((n', .ints L e) :: H') (n' + 1) := h.push hlt _ trivial
theorem RkS.draw {c kc a n b k n' k2 n2 : Nat} {H H' H2 : Heap} {R : List Int} (h : RkS c kc a n H b R k H' n') (hd : Drawn c kc a k2 n H H2 n2) (hf : Fr n n' H' H2) (hn : n' ≤ n2) : RkS c kc a n H b R k2 H2 n2 :=
  ⟨hd, ⟨h.lt.1, Nat.lt_of_lt_of_le h.lt.2 hn⟩, hf.use (Nat.le_of_lt h.lt.1) h.lt.2 h.r, h.l, h.i, hf.use (Nat.le_refl _) (Nat.lt_trans h.lt.1 h.lt.2) h.z⟩
theorem RkS.more {c kc a n b k k' n' : Nat} {H H' : Heap} {R : List Int} (h : RkS c kc a n H b R k H' n') (hk : k ≤ k') : RkS c kc a n H b R k' H' n' := ⟨h.d.more hk, h.lt, h.r, h.l, h.i, h.z⟩
theorem CurH.frame {c kc a n : Nat} {H H' : Heap} (h : CurH c kc a H) (hw : hwf n H) (hf : ∀ j o, j < n → hget H j = some o → hget H' j = some o) : CurH c kc a H' := by
  obtain ⟨q1, q2, _⟩ := h.lt hw
  obtain ⟨v, s, h1, h2, h6⟩ := h
  exact ⟨v, s, hf _ _ q1 h1, h2.at (fun o ho => hf _ _ q2 ho), h6⟩
theorem RkS.ext {c kc a n b k n' n2 : Nat} {H H' Hc : Heap} {R : List Int} (h : RkS c kc a n H b R k H' n') (hw : hwf n2 Hc) (hn : n' ≤ n2) (hf : ∀ j o, j < n' → hget H' j = some o → hget Hc j = some o) : RkS c kc a n H b R k Hc n2 :=
  ⟨⟨Nat.le_trans h.d.le hn, hw, by
    obtain ⟨b', g1, g2, g3⟩ := h.d.cur
    exact ⟨b', g1, g2, g3.frame h.d.wf hf⟩, fun i o hi hc ho => hf i o (Nat.lt_of_lt_of_le hi h.d.le) (h.d.fr i o hi hc ho)⟩,
   ⟨h.lt.1, Nat.lt_of_lt_of_le h.lt.2 hn⟩, hf _ _ h.lt.2 h.r, h.l, h.i, hf _ _ (Nat.lt_trans h.lt.1 h.lt.2) h.z⟩
theorem in64_set {R : List Int} (h : ∀ x ∈ R, In64 x) {i : Nat} {v : Int} (hv : In64 v) : ∀ x ∈ R.set i v, In64 x := fun x hx => by
  rcases List.mem_or_eq_of_mem_set hx with hx | hx
  · exact h x hx
  · exact hx ▸ hv
theorem in64_getD {R : List Int} (h : ∀ x ∈ R, In64 x) {i : Nat} (hi : i < R.length) : In64 (R.getD i 0) := by
  rw [List.getD_eq_getElem?_getD, List.getElem?_eq_getElem hi]
  exact h _ (List.getElem_mem _)
theorem rack_vc (c kc a m n : Nat) (H : Heap) (hC : CurH c kc a H) (hm : m ≤ c) (hmn : m ≤ n) (ha : a ≤ 990000) (hwH : hwf n H) :
    codeVC (⟨Try.prog, tys, [], [(94, pick_F), (92, one_F), (119, among_F)], true, true, m, [94, 92, 119], [(21, .tree (.one 0 (.one 1 (.one 2 (.one 3 (.one 4 (.one 5 (.one 6 (.alt 7 (.alt 8 (.one 9 (.one 10 (.one 11 .done))) (.alt 9 (.one 8 (.one 10 (.one 11 .done))) .stop)) (.alt 8 (.alt 7 (.one 9 (.one 10 (.one 11 .done))) (.alt 9 (.alt 7 (.one 10 (.one 11 .done)) (.alt 10 (.one 7 (.one 11 .done)) .stop)) .stop)) (.alt 9 (.alt 7 (.one 8 (.one 10 (.one 11 .done))) (.alt 8 (.alt 7 (.one 10 (.one 11 .done)) (.alt 10 (.one 7 (.one 11 .done)) .stop)) .stop)) .stop))))))))))), (26, .tree (.one 0 (.one 2 (.one 4 (.one 7 (.alt 1 (.one 8 (.alt 3 (.one 5 (.one 6 (.one 9 (.one 10 .done)))) (.alt 5 (.one 3 (.one 6 (.one 9 (.one 10 .done)))) .stop))) (.alt 5 (.one 1 (.one 3 (.one 6 (.one 8 (.one 9 (.one 10 .done)))))) .stop)))))))]⟩ : Cx) n (Try.f77.body.getD .skip) (argS 0 [.ptr c 0]) H n
      (retK tys Try.f77.results.toList fun v H' n' => ∃ R : List Int, v = .arr R ∧ R.length = 24 ∧ (∀ x ∈ R, In64 x) ∧ Drawn c kc a 1000 n H H' n') := by
  have hlt := hC.lt hwH
  have xne : ∀ i, (n + (i + 1) = n) = False := fun i => by simp
  simp -implicitDefEqProofs only [Try.f77, Option.getD_some, argS, Nat.add_assoc, add_self, self_add, add_add, ZB, Int.reduceToNat, Nat.reduceLT, Nat.reduceLeDiff, Int.reduceLE, Int.reduceLT, Nat.reduceEqDiff, Nat.reduceSub, SB, SV.known, packR, ne_eq, reduceCtorEq, Nat.reduceEqDiff, ↓reduceIte, if_true, if_false, eq_self, Nat.reduceAdd, Nat.reduceMul, Nat.reduceSub, forall_const, oneCellS, litOne, flat1, Kd.isSca, flat, TYB]
  have d0 : Drawn c kc a 0 n H ((n, .ints (List.replicate 24 0) 27) :: H) (n + 1) := (Drawn.start hC hwH).push hlt _ trivial
  refine among_use (d0.pushI hlt) hlt hm (by omega) (L := [2, 3, 2, 4, 5, 1]) (by simp [hget_cons]; rfl) (by omega) (by simp) fun col H1 hx1 hd1 hf1 => ?_
  have hc1 : 1 ≤ col ∧ col ≤ 5 := by simp at hx1; omega
  have hz1 := hf1.use (Nat.le_refl _) (by omega) (show hget _ n = some (.ints (List.replicate 24 0) 27) by simp [hget_cons])
  simp -implicitDefEqProofs only [Nat.add_assoc, add_self, self_add, add_add, ZB, Int.reduceToNat, Nat.reduceLT, Nat.reduceLeDiff, Int.reduceLE, Int.reduceLT, Nat.reduceEqDiff, Nat.reduceSub, SB, SV.known, packR, ne_eq, reduceCtorEq, Nat.reduceEqDiff, ↓reduceIte, if_true, if_false, eq_self, Nat.reduceAdd, Nat.reduceMul, Nat.reduceSub, forall_const, oneCellS, litOne, flat1, Kd.isSca, flat, TYB]
  refine among_use (hd1.pushI hlt) hlt hm (by omega) (L := [3, 4, 2, 5, 6]) (by simp [hget_cons]; rfl) (by omega) (by simp) fun tub H2 hx2 hd2 hf2 => ?_
  have ht1 : 2 ≤ tub ∧ tub ≤ 6 := by simp at hx2; omega
  have hz2 := hf2.use (Nat.le_refl _) (by omega) (show hget _ n = some (.ints (List.replicate 24 0) 27) by simp [hget_cons, hz1])
  have hS0 : RkS c kc a n H (n + 3) (List.replicate 24 0) 4 ((n + 3, .ints (List.replicate 24 0) 27) :: (n + 3, .ints (List.replicate 24 0) 27) :: H2) (n + 4) :=
    ⟨(hd2.pushI hlt).putI hlt (by omega) (by omega), by omega, by simp [hget_cons], by simp, fun x hx => by rw [List.eq_of_mem_replicate hx]; simp [In64], by simp [hget_cons]; exact hz2⟩
  clear hf1 hf2 hd1 hd2 hz1 hz2
  simp -implicitDefEqProofs only [Nat.add_assoc, add_self, self_add, add_add, ZB, Int.reduceToNat, Nat.reduceLT, Nat.reduceLeDiff, Int.reduceLE, Int.reduceLT, Nat.reduceEqDiff, Nat.reduceSub, SB, SV.known, packR, ne_eq, reduceCtorEq, Nat.reduceEqDiff, ↓reduceIte, if_true, if_false, eq_self, Nat.reduceAdd, Nat.reduceMul, Nat.reduceSub, forall_const, oneCellS, litOne, flat1, Kd.isSca, flat, TYB]
  refine ⟨by omega, ?_⟩
  refine loop_introN (fun s : (Nat × List Int) × Heap × Nat => [(6, .int s.1.1), (5, .int tub), (4, .int col), (3, .ptr (n + 3) 0), (2, .ptr n 0), (0, .ptr c 0)]) (fun s => s.2.1) (fun s => s.2.2)
    (fun s => s.1.1 ≤ 6 ∧ RkS c kc a n H (n + 3) s.1.2 (4 + 26 * s.1.1) s.2.1 s.2.2) (fun s => 6 - s.1.1) ?_ ?_
  · exact ⟨((0, List.replicate 24 0), _, n + 4), ⟨Nat.zero_le _, hS0⟩, Sub.same (by simp only [LB, subS, subH, wfS, wfH, SV.ren, renL, SObj.ren, SV.wf, SObj.wf, wfL, SV.known, Nat.reduceEqDiff, ↓reduceIte, if_true, if_false, eq_self, Nat.reduceAdd, Nat.reduceLT, Nat.reduceLeDiff, implies_true, reduceCtorEq, forall_const]; try rfl) (by simp [subS, subH, wfS, wfH, SV.ren, renL, SObj.ren, SV.wf, SObj.wf, wfL, sget_cons, hget_cons] <;> omega) hS0.d.wf hS0.d.le⟩
  · rintro ⟨⟨i, R⟩, H3, n3⟩ ⟨hi, hS⟩
    simp only at hi hS
    by_cases hit : (i : Int) < tub
    · simp -implicitDefEqProofs only [lk_normal, hit, ZB, Int.reduceToNat, Nat.reduceLT, Nat.reduceLeDiff, Int.reduceLE, Int.reduceLT, Nat.reduceEqDiff, Nat.reduceSub, SB, SV.known, packR, ne_eq, reduceCtorEq, Nat.reduceEqDiff, ↓reduceIte, if_true, if_false, eq_self, Nat.reduceAdd, Nat.reduceMul, Nat.reduceSub, forall_const, oneCellS, litOne, flat1, Kd.isSca, flat, TYB]
      refine loop_introN (fun s : (Nat × List Int) × Heap × Nat => [(7, .int s.1.1), (6, .int i), (5, .int tub), (4, .int col), (3, .ptr (n + 3) 0), (2, .ptr n 0), (0, .ptr c 0)]) (fun s => s.2.1) (fun s => s.2.2)
        (fun s => s.1.1 ≤ 4 ∧ RkS c kc a n H (n + 3) s.1.2 (4 + 26 * i + 6 * s.1.1) s.2.1 s.2.2) (fun s => 4 - s.1.1) ?_ ?_
      · have hq := hS.lt
        exact ⟨((0, R), H3, n3), ⟨Nat.zero_le _, hS⟩, Sub.same (by simp only [LB, subS, subH, wfS, wfH, SV.ren, renL, SObj.ren, SV.wf, SObj.wf, wfL, SV.known, Nat.reduceEqDiff, ↓reduceIte, if_true, if_false, eq_self, Nat.reduceAdd, Nat.reduceLT, Nat.reduceLeDiff, implies_true, reduceCtorEq, forall_const]; try rfl) (by simp [subS, subH, wfS, wfH, SV.ren, renL, SObj.ren, SV.wf, SObj.wf, wfL, sget_cons, hget_cons] <;> omega) hS.d.wf hS.d.le⟩
      · rintro ⟨⟨j, R1⟩, H4, n4⟩ ⟨hj, hS1⟩
        simp only at hj hS1
        have hn4 := hS1.lt
        have e4 := ne_add' hn4.2
        simp -implicitDefEqProofs only [lk_normal, ZB, Int.reduceToNat, Nat.reduceLT, Nat.reduceLeDiff, Int.reduceLE, Int.reduceLT, Nat.reduceEqDiff, Nat.reduceSub, SB, SV.known, packR, ne_eq, reduceCtorEq, Nat.reduceEqDiff, ↓reduceIte, if_true, if_false, eq_self, Nat.reduceAdd, Nat.reduceMul, Nat.reduceSub, forall_const, oneCellS, litOne, flat1, Kd.isSca, flat, TYB]
        refine among_use (hS1.d.pushI hlt) hlt hm (by omega) (L := [4, 3, 4, 2, 1, 0]) (by simp [hget_cons]; rfl) (by omega) (by simp) fun x H5 hx hd5 hf5 => ?_
        have hx1 : 0 ≤ x ∧ x ≤ 4 := by simp at hx; omega
        have hS5 := (hS1.pushI hlt).draw hd5 hf5 (Nat.le_refl _)
        by_cases hjx : (j : Int) < x
        · have hr5 := hS5.r
          have l5 := hS5.l
          simp -implicitDefEqProofs only [lk_normal, hjx, ZB, Int.reduceToNat, Nat.reduceLT, Nat.reduceLeDiff, Int.reduceLE, Int.reduceLT, Nat.reduceEqDiff, Nat.reduceSub, SB, SV.known, packR, ne_eq, reduceCtorEq, Nat.reduceEqDiff, ↓reduceIte, if_true, if_false, eq_self, Nat.reduceAdd, Nat.reduceMul, Nat.reduceSub, forall_const, oneCellS, litOne, flat1, Kd.isSca, flat, TYB]
          refine pick_use hS5.d hlt hm (by omega) fun y H6 hy0 hy1 hd6 hf6 => ?_
          have hS6 := hS5.draw hd6 hf6 (Nat.le_refl _)
          have hr6 := hS6.r
          have hy : In64 (1 + y) := by unfold In64; omega
          have i0 : 0 ≤ (i : Int) := by omega
          have j0 : 0 ≤ (j : Int) := by omega
          have j4 : (j : Int) < 4 := by omega
          have i6 : (i : Int) < 6 := by omega
          have ij : i * 4 + j < 24 := by omega
          simp -implicitDefEqProofs only [hr6, hy, i0, j0, j4, i6, hS6.l, ij, ZB, Int.reduceToNat, Nat.reduceLT, Nat.reduceLeDiff, Int.reduceLE, Int.reduceLT, Nat.reduceEqDiff, Nat.reduceSub, SB, SV.known, packR, ne_eq, reduceCtorEq, Nat.reduceEqDiff, ↓reduceIte, if_true, if_false, eq_self, Nat.reduceAdd, Nat.reduceMul, Nat.reduceSub, forall_const, oneCellS, litOne, flat1, Kd.isSca, flat, TYB]
          have hS7 := hS6.set hlt (R' := R1.set (i * 4 + j) (1 + y)) (by rw [List.length_set]; exact hS6.l) (in64_set hS6.i hy)
          have hnext : ∀ (R' : List Int) (H8 : Heap), RkS c kc a n H (n + 3) R' (4 + 26 * i + 6 * (j + 1)) H8 (n4 + 1) → j + 1 ≤ 4 ∧ RkS c kc a n H (n + 3) R' (4 + 26 * i + 6 * (j + 1)) H8 (n4 + 1) := fun R' H8 h => ⟨by omega, h⟩
          refine ⟨by omega, fun hj0 => one_use hS7.d hlt hm (by omega) fun o H8 hd8 hf8 => ?_, fun hj0 => ?_⟩
          · have hS8 := hS7.draw hd8 hf8 (Nat.le_refl _)
            cases o
            · simp -implicitDefEqProofs only [lk_normal, ZB, Int.reduceToNat, Nat.reduceLT, Nat.reduceLeDiff, Int.reduceLE, Int.reduceLT, Nat.reduceEqDiff, Nat.reduceSub, SB, SV.known, packR, ne_eq, reduceCtorEq, Nat.reduceEqDiff, ↓reduceIte, if_true, if_false, eq_self, Nat.reduceAdd, Nat.reduceMul, Nat.reduceSub, forall_const, oneCellS, litOne, flat1, Kd.isSca, flat, TYB]
              have hq := hS8.lt
              exact ⟨by unfold In64; omega, ((j + 1, R1.set (i * 4 + j) (1 + y)), H8, n4 + 1), ⟨by show j + 1 ≤ 4; omega, RkS.more hS8 (by show _ ≤ 4 + 26 * i + 6 * (j + 1); omega)⟩, by show 4 - (j + 1) < 4 - j; omega, Sub.same (by simp only [LB, subS, subH, wfS, wfH, SV.ren, renL, SObj.ren, SV.wf, SObj.wf, wfL, SV.known, Nat.reduceEqDiff, ↓reduceIte, if_true, if_false, eq_self, Nat.reduceAdd, Nat.reduceLT, Nat.reduceLeDiff, implies_true, reduceCtorEq, forall_const]; try rfl) (by simp [subS, subH, wfS, wfH, SV.ren, renL, SObj.ren, SV.wf, SObj.wf, wfL, sget_cons, hget_cons] <;> omega) (RkS.d hS8).wf (RkS.d hS8).le⟩
            · have hr8 := hS8.r
              have l8 := hS8.l
              have j1 : 0 ≤ (j : Int) - 1 := by omega
              have j5 : (j : Int) - 1 < 4 := by omega
              have j6 : ((j : Int) - 1).toNat = j - 1 := by omega
              have j7 : In64 ((j : Int) - 1) := by unfold In64; omega
              have ij1 : i * 4 + (j - 1) < 24 := by omega
              simp -implicitDefEqProofs only [lk_normal, hr8, l8, j1, j5, j6, j7, i0, j0, j4, i6, ij, ij1, ZB, Int.reduceToNat, Nat.reduceLT, Nat.reduceLeDiff, Int.reduceLE, Int.reduceLT, Nat.reduceEqDiff, Nat.reduceSub, SB, SV.known, packR, ne_eq, reduceCtorEq, Nat.reduceEqDiff, ↓reduceIte, if_true, if_false, eq_self, Nat.reduceAdd, Nat.reduceMul, Nat.reduceSub, forall_const, oneCellS, litOne, flat1, Kd.isSca, flat, TYB]
              have hq := hS8.lt
              have hS9 := hS8.set hlt (R' := (R1.set (i * 4 + j) (1 + y)).set (i * 4 + j) ((R1.set (i * 4 + j) (1 + y)).getD (i * 4 + (j - 1)) 0)) (by rw [List.length_set]; exact hS8.l) (in64_set hS8.i (in64_getD hS8.i (by rw [l8]; exact ij1)))
              refine ⟨by omega, ?_⟩
              exact ⟨by unfold In64; omega, ((j + 1, _), _, n4 + 1), ⟨by show j + 1 ≤ 4; omega, RkS.more hS9 (by show _ ≤ 4 + 26 * i + 6 * (j + 1); omega)⟩, by show 4 - (j + 1) < 4 - j; omega, Sub.same (by simp only [LB, subS, subH, wfS, wfH, SV.ren, renL, SObj.ren, SV.wf, SObj.wf, wfL, SV.known, Nat.reduceEqDiff, ↓reduceIte, if_true, if_false, eq_self, Nat.reduceAdd, Nat.reduceLT, Nat.reduceLeDiff, implies_true, reduceCtorEq, forall_const]; try rfl) (by simp [subS, subH, wfS, wfH, SV.ren, renL, SObj.ren, SV.wf, SObj.wf, wfL, sget_cons, hget_cons] <;> omega) (RkS.d hS9).wf (RkS.d hS9).le⟩
          · simp -implicitDefEqProofs only [lk_normal, ZB, Int.reduceToNat, Nat.reduceLT, Nat.reduceLeDiff, Int.reduceLE, Int.reduceLT, Nat.reduceEqDiff, Nat.reduceSub, SB, SV.known, packR, ne_eq, reduceCtorEq, Nat.reduceEqDiff, ↓reduceIte, if_true, if_false, eq_self, Nat.reduceAdd, Nat.reduceMul, Nat.reduceSub, forall_const, oneCellS, litOne, flat1, Kd.isSca, flat, TYB]
            have hq := hS7.lt
            exact ⟨by unfold In64; omega, ((j + 1, _), _, n4 + 1), ⟨by show j + 1 ≤ 4; omega, RkS.more hS7 (by show _ ≤ 4 + 26 * i + 6 * (j + 1); omega)⟩, by show 4 - (j + 1) < 4 - j; omega, Sub.same (by simp only [LB, subS, subH, wfS, wfH, SV.ren, renL, SObj.ren, SV.wf, SObj.wf, wfL, SV.known, Nat.reduceEqDiff, ↓reduceIte, if_true, if_false, eq_self, Nat.reduceAdd, Nat.reduceLT, Nat.reduceLeDiff, implies_true, reduceCtorEq, forall_const]; try rfl) (by simp [subS, subH, wfS, wfH, SV.ren, renL, SObj.ren, SV.wf, SObj.wf, wfL, sget_cons, hget_cons] <;> omega) (RkS.d hS7).wf (RkS.d hS7).le⟩
        · simp -implicitDefEqProofs only [lk_normal, hjx, ZB, Int.reduceToNat, Nat.reduceLT, Nat.reduceLeDiff, Int.reduceLE, Int.reduceLT, Nat.reduceEqDiff, Nat.reduceSub, SB, SV.known, packR, ne_eq, reduceCtorEq, Nat.reduceEqDiff, ↓reduceIte, if_true, if_false, eq_self, Nat.reduceAdd, Nat.reduceMul, Nat.reduceSub, forall_const, oneCellS, litOne, flat1, Kd.isSca, flat, TYB]
          have hq := hS5.lt
          exact ⟨by unfold In64; omega, ((i + 1, R1), H5, n4 + 1), ⟨by show i + 1 ≤ 6; omega, hS5.more (by show _ ≤ 4 + 26 * (i + 1); omega)⟩, by show 6 - (i + 1) < 6 - i; omega, Sub.same (by simp only [LB, subS, subH, wfS, wfH, SV.ren, renL, SObj.ren, SV.wf, SObj.wf, wfL, SV.known, Nat.reduceEqDiff, ↓reduceIte, if_true, if_false, eq_self, Nat.reduceAdd, Nat.reduceLT, Nat.reduceLeDiff, implies_true, reduceCtorEq, forall_const]; try rfl) (by simp [subS, subH, wfS, wfH, SV.ren, renL, SObj.ren, SV.wf, SObj.wf, wfL, sget_cons, hget_cons] <;> omega) hS5.d.wf hS5.d.le⟩
    · simp -implicitDefEqProofs only [lk_normal, hit, ZB, Int.reduceToNat, Nat.reduceLT, Nat.reduceLeDiff, Int.reduceLE, Int.reduceLT, Nat.reduceEqDiff, Nat.reduceSub, SB, SV.known, packR, ne_eq, reduceCtorEq, Nat.reduceEqDiff, ↓reduceIte, if_true, if_false, eq_self, Nat.reduceAdd, Nat.reduceMul, Nat.reduceSub, forall_const, oneCellS, litOne, flat1, Kd.isSca, flat, TYB]
      have hS1 := hS.more (k' := 160) (by omega)
      clear hS hit
      refine loop_introN (fun s : (Nat × List Int) × Heap × Nat => [(8, .int s.1.1), (5, .int tub), (4, .int col), (3, .ptr (n + 3) 0), (2, .ptr n 0), (0, .ptr c 0)]) (fun s => s.2.1) (fun s => s.2.2)
        (fun s => s.1.1 ≤ 6 ∧ RkS c kc a n H (n + 3) s.1.2 160 s.2.1 s.2.2) (fun s => 6 - s.1.1) ?_ ?_
      · have hq := hS1.lt
        exact ⟨((0, R), H3, n3), ⟨Nat.zero_le _, hS1⟩, Sub.same (by simp only [LB, subS, subH, wfS, wfH, SV.ren, renL, SObj.ren, SV.wf, SObj.wf, wfL, SV.known, Nat.reduceEqDiff, ↓reduceIte, if_true, if_false, eq_self, Nat.reduceAdd, Nat.reduceLT, Nat.reduceLeDiff, implies_true, reduceCtorEq, forall_const]; try rfl) (by simp [subS, subH, wfS, wfH, SV.ren, renL, SObj.ren, SV.wf, SObj.wf, wfL, sget_cons, hget_cons] <;> omega) hS1.d.wf hS1.d.le⟩
      · rintro ⟨⟨k, R2⟩, H4, n4⟩ ⟨hk, hS2⟩
        simp only at hk hS2
        have hq := hS2.lt
        by_cases hk6 : (k : Int) < 6
        · simp -implicitDefEqProofs only [lk_normal, hk6, ZB, Int.reduceToNat, Nat.reduceLT, Nat.reduceLeDiff, Int.reduceLE, Int.reduceLT, Nat.reduceEqDiff, Nat.reduceSub, SB, SV.known, packR, ne_eq, reduceCtorEq, Nat.reduceEqDiff, ↓reduceIte, if_true, if_false, eq_self, Nat.reduceAdd, Nat.reduceMul, Nat.reduceSub, forall_const, oneCellS, litOne, flat1, Kd.isSca, flat, TYB]
          refine loop_introN (fun s : (Nat × List Int) × Heap × Nat => [(9, .int (s.1.1 : Nat)), (8, .int k), (5, .int tub), (4, .int col), (3, .ptr (n + 3) 0), (2, .ptr n 0), (0, .ptr c 0)]) (fun s => s.2.1) (fun s => s.2.2)
            (fun s => (1 ≤ s.1.1 ∧ s.1.1 ≤ 4) ∧ RkS c kc a n H (n + 3) s.1.2 160 s.2.1 s.2.2) (fun s => 4 - s.1.1) ?_ ?_
          · exact ⟨((1, R2), H4, n4), ⟨⟨Nat.le_refl _, by show 1 ≤ 4; omega⟩, hS2⟩, Sub.same (by simp only [LB, subS, subH, wfS, wfH, SV.ren, renL, SObj.ren, SV.wf, SObj.wf, wfL, SV.known, Nat.reduceEqDiff, ↓reduceIte, if_true, if_false, eq_self, Nat.reduceAdd, Nat.reduceLT, Nat.reduceLeDiff, implies_true, reduceCtorEq, forall_const]; try rfl) (by simp [subS, subH, wfS, wfH, SV.ren, renL, SObj.ren, SV.wf, SObj.wf, wfL, sget_cons, hget_cons] <;> omega) hS2.d.wf hS2.d.le⟩
          · rintro ⟨⟨j, R3⟩, H5, n5⟩ ⟨hj, hS3⟩
            simp only at hj hS3
            have hq3 := hS3.lt
            by_cases hj4 : (j : Int) < 4
            · have hr3 := hS3.r
              have l3 := hS3.l
              have k0 : 0 ≤ (k : Int) := by omega
              have j0 : 0 ≤ (j : Int) := by omega
              have j1 : 0 ≤ (j : Int) - 1 := by omega
              have j5 : (j : Int) - 1 < 4 := by omega
              have j6 : ((j : Int) - 1).toNat = j - 1 := by omega
              have j7 : In64 ((j : Int) - 1) := by unfold In64; omega
              have kj : k * 4 + j < 24 := by omega
              have kj1 : k * 4 + (j - 1) < 24 := by omega
              simp -implicitDefEqProofs only [lk_normal, hr3, l3, hk6, hj4, k0, j0, j1, j5, j6, j7, kj, kj1, ZB, Int.reduceToNat, Nat.reduceLT, Nat.reduceLeDiff, Int.reduceLE, Int.reduceLT, Nat.reduceEqDiff, Nat.reduceSub, SB, SV.known, packR, ne_eq, reduceCtorEq, Nat.reduceEqDiff, ↓reduceIte, if_true, if_false, eq_self, Nat.reduceAdd, Nat.reduceMul, Nat.reduceSub, forall_const, oneCellS, litOne, flat1, Kd.isSca, flat, TYB]
              refine ⟨fun _ => ⟨by omega, ?_⟩, fun _ => ?_⟩
              · have hS4 := hS3.set hlt (R' := R3.set (k * 4 + j) 0) (by rw [List.length_set]; exact l3) (in64_set hS3.i (by simp [In64]))
                exact ⟨by unfold In64; omega, ((j + 1, R3.set (k * 4 + j) 0), _, n5), ⟨⟨by show 1 ≤ j + 1; omega, by show j + 1 ≤ 4; omega⟩, hS4⟩, by show 4 - (j + 1) < 4 - j; omega, Sub.same (by simp only [LB, subS, subH, wfS, wfH, SV.ren, renL, SObj.ren, SV.wf, SObj.wf, wfL, SV.known, Nat.reduceEqDiff, ↓reduceIte, if_true, if_false, eq_self, Nat.reduceAdd, Nat.reduceLT, Nat.reduceLeDiff, implies_true, reduceCtorEq, forall_const]; try rfl) (by simp [subS, subH, wfS, wfH, SV.ren, renL, SObj.ren, SV.wf, SObj.wf, wfL, sget_cons, hget_cons] <;> omega) hS4.d.wf hS4.d.le⟩
              · exact ⟨by unfold In64; omega, ((j + 1, R3), _, n5), ⟨⟨by show 1 ≤ j + 1; omega, by show j + 1 ≤ 4; omega⟩, hS3⟩, by show 4 - (j + 1) < 4 - j; omega, Sub.same (by simp only [LB, subS, subH, wfS, wfH, SV.ren, renL, SObj.ren, SV.wf, SObj.wf, wfL, SV.known, Nat.reduceEqDiff, ↓reduceIte, if_true, if_false, eq_self, Nat.reduceAdd, Nat.reduceLT, Nat.reduceLeDiff, implies_true, reduceCtorEq, forall_const]; try rfl) (by simp [subS, subH, wfS, wfH, SV.ren, renL, SObj.ren, SV.wf, SObj.wf, wfL, sget_cons, hget_cons] <;> omega) hS3.d.wf hS3.d.le⟩
            · simp -implicitDefEqProofs only [lk_normal, hj4, ZB, Int.reduceToNat, Nat.reduceLT, Nat.reduceLeDiff, Int.reduceLE, Int.reduceLT, Nat.reduceEqDiff, Nat.reduceSub, SB, SV.known, packR, ne_eq, reduceCtorEq, Nat.reduceEqDiff, ↓reduceIte, if_true, if_false, eq_self, Nat.reduceAdd, Nat.reduceMul, Nat.reduceSub, forall_const, oneCellS, litOne, flat1, Kd.isSca, flat, TYB]
              exact ⟨by unfold In64; omega, ((k + 1, R3), H5, n5), ⟨by show k + 1 ≤ 6; omega, hS3⟩, by show 6 - (k + 1) < 6 - k; omega, Sub.same (by simp only [LB, subS, subH, wfS, wfH, SV.ren, renL, SObj.ren, SV.wf, SObj.wf, wfL, SV.known, Nat.reduceEqDiff, ↓reduceIte, if_true, if_false, eq_self, Nat.reduceAdd, Nat.reduceLT, Nat.reduceLeDiff, implies_true, reduceCtorEq, forall_const]; try rfl) (by simp [subS, subH, wfS, wfH, SV.ren, renL, SObj.ren, SV.wf, SObj.wf, wfL, sget_cons, hget_cons] <;> omega) hS3.d.wf hS3.d.le⟩
        · clear hS1
          simp -implicitDefEqProofs only [lk_normal, hk6, ZB, Int.reduceToNat, Nat.reduceLT, Nat.reduceLeDiff, Int.reduceLE, Int.reduceLT, Nat.reduceEqDiff, Nat.reduceSub, SB, SV.known, packR, ne_eq, reduceCtorEq, Nat.reduceEqDiff, ↓reduceIte, if_true, if_false, eq_self, Nat.reduceAdd, Nat.reduceMul, Nat.reduceSub, forall_const, oneCellS, litOne, flat1, Kd.isSca, flat, TYB]
          refine one_use hS2.d hlt hm (by omega) fun o H6 hd6 hf6 => ?_
          have hS6 := hS2.draw hd6 hf6 (Nat.le_refl _)
          cases o
          · simp -implicitDefEqProofs only [lk_normal, ZB, Int.reduceToNat, Nat.reduceLT, Nat.reduceLeDiff, Int.reduceLE, Int.reduceLT, Nat.reduceEqDiff, Nat.reduceSub, SB, SV.known, packR, ne_eq, reduceCtorEq, Nat.reduceEqDiff, ↓reduceIte, if_true, if_false, eq_self, Nat.reduceAdd, Nat.reduceMul, Nat.reduceSub, forall_const, oneCellS, litOne, flat1, Kd.isSca, flat, TYB]
            refine pick_use hS6.d hlt hm (by omega) fun w H7 hw0 hw1 hd7 hf7 => ?_
            have hS7 := hS6.draw hd7 hf7 (Nat.le_refl _)
            have hr7 := hS7.r
            have hz7 := hS7.z
            have l7 := hS7.l
            have tk7 : R2.take 24 = R2 := List.take_of_length_le (by omega)
            have fin : ∀ (R' : List Int) (k' : Nat) (H' : Heap) (n' : Nat), R'.length = 24 → (∀ x ∈ R', In64 x) → Drawn c kc a k' n H H' n' → n < n' → k' ≤ 1000 → ∃ R : List Int, R' = R ∧ R.length = 24 ∧ (∀ x ∈ R, In64 x) ∧ Drawn c kc a 1000 n H ((n, .ints R' 27) :: H') n' := fun R' k' H' n' h1 h2 h3 h4 h5 => ⟨R', rfl, h1, h2, (h3.more h5).putI hlt (Nat.le_refl _) h4⟩
            have hq7 := hS7.lt
            by_cases w0 : w = 0
            · have w0' : (w = 0) = True := eq_true w0
              simp -implicitDefEqProofs only [lk_normal, w0', ZB, Int.reduceToNat, Nat.reduceLT, Nat.reduceLeDiff, Int.reduceLE, Int.reduceLT, Nat.reduceEqDiff, Nat.reduceSub, SB, SV.known, packR, ne_eq, reduceCtorEq, Nat.reduceEqDiff, ↓reduceIte, if_true, if_false, eq_self, Nat.reduceAdd, Nat.reduceMul, Nat.reduceSub, forall_const, oneCellS, litOne, flat1, Kd.isSca, flat, TYB]
              refine ⟨{q : List Int × Heap × Nat // RkS c kc a n H (n + 3) q.1 300 q.2.1 q.2.2}, fun q => [(3, .ptr (n + 3) 0), (2, .ptr n 0)], fun q => q.1.2.1, fun q => q.1.2.2, ?_, ?_⟩
              · simp -implicitDefEqProofs only [ZB, Int.reduceToNat, Nat.reduceLT, Nat.reduceLeDiff, Int.reduceLE, Int.reduceLT, Nat.reduceEqDiff, Nat.reduceSub, SB, SV.known, packR, ne_eq, reduceCtorEq, Nat.reduceEqDiff, ↓reduceIte, if_true, if_false, eq_self, Nat.reduceAdd, Nat.reduceMul, Nat.reduceSub, forall_const, oneCellS, litOne, flat1, Kd.isSca, flat, TYB]
                refine ⟨?_, ?_⟩
                · refine pick_use hS7.d hlt hm (by omega) fun x H8 g0 g1 hd8 hf8 => ?_
                  have hS8 := hS7.draw hd8 hf8 (Nat.le_refl _)
                  obtain ⟨X, rfl⟩ : ∃ X : Nat, x = X := ⟨x.toNat, by omega⟩
                  have x6 : (X : Int) < 6 := by omega
                  simp -implicitDefEqProofs only [x6, g0, ZB, Int.reduceToNat, Nat.reduceLT, Nat.reduceLeDiff, Int.reduceLE, Int.reduceLT, Nat.reduceEqDiff, Nat.reduceSub, SB, SV.known, packR, ne_eq, reduceCtorEq, Nat.reduceEqDiff, ↓reduceIte, if_true, if_false, eq_self, Nat.reduceAdd, Nat.reduceMul, Nat.reduceSub, forall_const, oneCellS, litOne, flat1, Kd.isSca, flat, TYB]
                  refine ⟨?_, ?_⟩
                  · refine pick_use hS8.d hlt hm (by omega) fun y H9 k0 k1 hd9 hf9 => ?_
                    have hS9 := hS8.draw hd9 hf9 (Nat.le_refl _)
                    simp -implicitDefEqProofs only [ZB, Int.reduceToNat, Nat.reduceLT, Nat.reduceLeDiff, Int.reduceLE, Int.reduceLT, Nat.reduceEqDiff, Nat.reduceSub, SB, SV.known, packR, ne_eq, reduceCtorEq, Nat.reduceEqDiff, ↓reduceIte, if_true, if_false, eq_self, Nat.reduceAdd, Nat.reduceMul, Nat.reduceSub, forall_const, oneCellS, litOne, flat1, Kd.isSca, flat, TYB]
                    refine among_use (hS9.d.pushI hlt) hlt hm (by omega) (L := [-1, 6, 4611686018427387904]) (by simp [hget_cons]; rfl) (by omega) (by simp) fun z Hz hzl hdz hfz => ?_
                    have hSz := (hS9.pushI hlt).draw hdz hfz (Nat.le_refl _)
                    obtain ⟨Y, rfl⟩ : ∃ Y : Nat, y = Y := ⟨y.toNat, by omega⟩
                    have y4 : (Y : Int) < 4 := by omega
                    have xy : X * 4 + Y < 24 := by omega
                    have hz : In64 z := by simp at hzl; unfold In64; omega
                    have hrz := hSz.r
                    have lz := hSz.l
                    have hqz := hSz.lt
                    have hSw := (hSz.set hlt (R' := R2.set (X * 4 + Y) z) (by rw [List.length_set]; exact lz) (in64_set hSz.i hz)).more (k' := 300) (by omega)
                    simp -implicitDefEqProofs only [lk_normal, hrz, lz, x6, y4, xy, g0, k0, ZB, Int.reduceToNat, Nat.reduceLT, Nat.reduceLeDiff, Int.reduceLE, Int.reduceLT, Nat.reduceEqDiff, Nat.reduceSub, SB, SV.known, packR, ne_eq, reduceCtorEq, Nat.reduceEqDiff, ↓reduceIte, if_true, if_false, eq_self, Nat.reduceAdd, Nat.reduceMul, Nat.reduceSub, forall_const, oneCellS, litOne, flat1, Kd.isSca, flat, TYB]
                    exact ⟨by omega, ⟨(R2.set (X * 4 + Y) z, _, _), hSw⟩, Sub.same (by simp only [LB, subS, subH, wfS, wfH, SV.ren, renL, SObj.ren, SV.wf, SObj.wf, wfL, SV.known, Nat.reduceEqDiff, ↓reduceIte, if_true, if_false, eq_self, Nat.reduceAdd, Nat.reduceLT, Nat.reduceLeDiff, implies_true, reduceCtorEq, forall_const]; try rfl) (by simp [subS, subH, wfS, wfH, SV.ren, renL, SObj.ren, SV.wf, SObj.wf, wfL, sget_cons, hget_cons] <;> omega) hSw.d.wf hSw.d.le⟩
                  · refine pick_use (hS8.pushI hlt).d hlt hm (by omega) fun y H9 k0 k1 hd9 hf9 => ?_
                    have hS9 := (hS8.pushI hlt).draw hd9 hf9 (Nat.le_refl _)
                    simp -implicitDefEqProofs only [ZB, Int.reduceToNat, Nat.reduceLT, Nat.reduceLeDiff, Int.reduceLE, Int.reduceLT, Nat.reduceEqDiff, Nat.reduceSub, SB, SV.known, packR, ne_eq, reduceCtorEq, Nat.reduceEqDiff, ↓reduceIte, if_true, if_false, eq_self, Nat.reduceAdd, Nat.reduceMul, Nat.reduceSub, forall_const, oneCellS, litOne, flat1, Kd.isSca, flat, TYB]
                    refine among_use hS9.d hlt hm (by omega) (L := [-1, 6, 4611686018427387904]) (hf9.use (by omega) (by omega) (by simp [hget_cons]; rfl)) (by omega) (by simp) fun z Hz hzl hdz hfz => ?_
                    have hSz := hS9.draw hdz hfz (Nat.le_refl _)
                    obtain ⟨Y, rfl⟩ : ∃ Y : Nat, y = Y := ⟨y.toNat, by omega⟩
                    have y4 : (Y : Int) < 4 := by omega
                    have xy : X * 4 + Y < 24 := by omega
                    have hz : In64 z := by simp at hzl; unfold In64; omega
                    have hrz := hSz.r
                    have lz := hSz.l
                    have hqz := hSz.lt
                    have hSw := (hSz.set hlt (R' := R2.set (X * 4 + Y) z) (by rw [List.length_set]; exact lz) (in64_set hSz.i hz)).more (k' := 300) (by omega)
                    simp -implicitDefEqProofs only [lk_normal, hrz, lz, x6, y4, xy, g0, k0, ZB, Int.reduceToNat, Nat.reduceLT, Nat.reduceLeDiff, Int.reduceLE, Int.reduceLT, Nat.reduceEqDiff, Nat.reduceSub, SB, SV.known, packR, ne_eq, reduceCtorEq, Nat.reduceEqDiff, ↓reduceIte, if_true, if_false, eq_self, Nat.reduceAdd, Nat.reduceMul, Nat.reduceSub, forall_const, oneCellS, litOne, flat1, Kd.isSca, flat, TYB]
                    exact ⟨by omega, ⟨(R2.set (X * 4 + Y) z, _, _), hSw⟩, Sub.same (by simp only [LB, subS, subH, wfS, wfH, SV.ren, renL, SObj.ren, SV.wf, SObj.wf, wfL, SV.known, Nat.reduceEqDiff, ↓reduceIte, if_true, if_false, eq_self, Nat.reduceAdd, Nat.reduceLT, Nat.reduceLeDiff, implies_true, reduceCtorEq, forall_const]; try rfl) (by simp [subS, subH, wfS, wfH, SV.ren, renL, SObj.ren, SV.wf, SObj.wf, wfL, sget_cons, hget_cons] <;> omega) hSw.d.wf hSw.d.le⟩
                · refine pick_use (hS7.pushI hlt).d hlt hm (by omega) fun x H8 g0 g1 hd8 hf8 => ?_
                  have hS8 := (hS7.pushI hlt).draw hd8 hf8 (Nat.le_refl _)
                  have hb8 := hf8.use (by omega) (by omega) (show hget _ n4 = some (.ints [-1, 6, 4611686018427387904] 3) by simp [hget_cons])
                  obtain ⟨X, rfl⟩ : ∃ X : Nat, x = X := ⟨x.toNat, by omega⟩
                  have x6 : (X : Int) < 6 := by omega
                  simp -implicitDefEqProofs only [x6, g0, ZB, Int.reduceToNat, Nat.reduceLT, Nat.reduceLeDiff, Int.reduceLE, Int.reduceLT, Nat.reduceEqDiff, Nat.reduceSub, SB, SV.known, packR, ne_eq, reduceCtorEq, Nat.reduceEqDiff, ↓reduceIte, if_true, if_false, eq_self, Nat.reduceAdd, Nat.reduceMul, Nat.reduceSub, forall_const, oneCellS, litOne, flat1, Kd.isSca, flat, TYB]
                  refine pick_use hS8.d hlt hm (by omega) fun y H9 k0 k1 hd9 hf9 => ?_
                  have hS9 := hS8.draw hd9 hf9 (Nat.le_refl _)
                  simp -implicitDefEqProofs only [ZB, Int.reduceToNat, Nat.reduceLT, Nat.reduceLeDiff, Int.reduceLE, Int.reduceLT, Nat.reduceEqDiff, Nat.reduceSub, SB, SV.known, packR, ne_eq, reduceCtorEq, Nat.reduceEqDiff, ↓reduceIte, if_true, if_false, eq_self, Nat.reduceAdd, Nat.reduceMul, Nat.reduceSub, forall_const, oneCellS, litOne, flat1, Kd.isSca, flat, TYB]
                  refine among_use hS9.d hlt hm (by omega) (L := [-1, 6, 4611686018427387904]) (hf9.use (by omega) (by omega) hb8) (by omega) (by simp) fun z Hz hzl hdz hfz => ?_
                  have hSz := hS9.draw hdz hfz (Nat.le_refl _)
                  obtain ⟨Y, rfl⟩ : ∃ Y : Nat, y = Y := ⟨y.toNat, by omega⟩
                  have y4 : (Y : Int) < 4 := by omega
                  have xy : X * 4 + Y < 24 := by omega
                  have hz : In64 z := by simp at hzl; unfold In64; omega
                  have hrz := hSz.r
                  have lz := hSz.l
                  have hqz := hSz.lt
                  have hSw := (hSz.set hlt (R' := R2.set (X * 4 + Y) z) (by rw [List.length_set]; exact lz) (in64_set hSz.i hz)).more (k' := 300) (by omega)
                  simp -implicitDefEqProofs only [lk_normal, hrz, lz, x6, y4, xy, g0, k0, ZB, Int.reduceToNat, Nat.reduceLT, Nat.reduceLeDiff, Int.reduceLE, Int.reduceLT, Nat.reduceEqDiff, Nat.reduceSub, SB, SV.known, packR, ne_eq, reduceCtorEq, Nat.reduceEqDiff, ↓reduceIte, if_true, if_false, eq_self, Nat.reduceAdd, Nat.reduceMul, Nat.reduceSub, forall_const, oneCellS, litOne, flat1, Kd.isSca, flat, TYB]
                  exact ⟨by omega, ⟨(R2.set (X * 4 + Y) z, _, _), hSw⟩, Sub.same (by simp only [LB, subS, subH, wfS, wfH, SV.ren, renL, SObj.ren, SV.wf, SObj.wf, wfL, SV.known, Nat.reduceEqDiff, ↓reduceIte, if_true, if_false, eq_self, Nat.reduceAdd, Nat.reduceLT, Nat.reduceLeDiff, implies_true, reduceCtorEq, forall_const]; try rfl) (by simp [subS, subH, wfS, wfH, SV.ren, renL, SObj.ren, SV.wf, SObj.wf, wfL, sget_cons, hget_cons] <;> omega) hSw.d.wf hSw.d.le⟩
              · rintro ⟨⟨R9, H9, n9⟩, hS9⟩
                simp only at hS9
                have hr9 := hS9.r
                have l9 := hS9.l
                have hz9 := hS9.z
                have hq9 := hS9.lt
                have tk9 : R9.take 24 = R9 := List.take_of_length_le (by omega)
                simp -implicitDefEqProofs only [lk_normal, hr9, hz9, l9, tk9, ZB, Int.reduceToNat, Nat.reduceLT, Nat.reduceLeDiff, Int.reduceLE, Int.reduceLT, Nat.reduceEqDiff, Nat.reduceSub, SB, SV.known, packR, ne_eq, reduceCtorEq, Nat.reduceEqDiff, ↓reduceIte, if_true, if_false, eq_self, Nat.reduceAdd, Nat.reduceMul, Nat.reduceSub, forall_const, oneCellS, litOne, flat1, Kd.isSca, flat, TYB]
                exact ⟨hmn, fin R9 _ H9 n9 hS9.l hS9.i hS9.d (by omega) (by omega)⟩
            by_cases w1 : w = 1
            · have w1' : (w = 1) = True := eq_true w1
              simp -implicitDefEqProofs only [lk_normal, w0, w1', ZB, Int.reduceToNat, Nat.reduceLT, Nat.reduceLeDiff, Int.reduceLE, Int.reduceLT, Nat.reduceEqDiff, Nat.reduceSub, SB, SV.known, packR, ne_eq, reduceCtorEq, Nat.reduceEqDiff, ↓reduceIte, if_true, if_false, eq_self, Nat.reduceAdd, Nat.reduceMul, Nat.reduceSub, forall_const, oneCellS, litOne, flat1, Kd.isSca, flat, TYB]
              refine pick_use hS7.d hlt hm (by omega) fun x H8 g0 g1 hd8 hf8 => ?_
              have hS8 := hS7.draw hd8 hf8 (Nat.le_refl _)
              have hr8 := hS8.r
              have l8 := hS8.l
              have hz8 := hS8.z
              have hq8 := hS8.lt
              obtain ⟨X, rfl⟩ : ∃ X : Nat, x = X := ⟨x.toNat, by omega⟩
              have x6 : (X : Int) < 6 := by omega
              have x4 : X * 4 + 4 ≤ 24 := by omega
              let V : List Int := ((((List.replicate 4 (0 : Int)).set 0 0).set 1 1).set 2 0).set 3 0
              have e3 : (n = n + 3) = False := by simp
              have lV : V.length = 4 := rfl
              have eV : (((((List.replicate 4 (0 : Int)).set 0 0).set 1 1).set 2 0).set 3 0) = V := rfl
              have hRl : (R2.take (X * 4) ++ V ++ R2.drop (X * 4 + 4)).length = 24 := by
                rw [List.length_append, List.length_append, List.length_take, List.length_drop, lV]; omega
              have hRi : ∀ y ∈ R2.take (X * 4) ++ V ++ R2.drop (X * 4 + 4), In64 y := fun y hy => by
                rcases List.mem_append.1 hy with hy | hy
                · rcases List.mem_append.1 hy with hy | hy
                  · exact hS8.i y (List.mem_of_mem_take hy)
                  · have hy' : y ∈ ([0, 1, 0, 0] : List Int) := hy
                    simp at hy'; unfold In64; omega
                · exact hS8.i y (List.mem_of_mem_drop hy)
              have hS9 := hS8.set hlt hRl hRi
              have tk8 : (R2.take (X * 4) ++ V ++ R2.drop (X * 4 + 4)).take 24 = R2.take (X * 4) ++ V ++ R2.drop (X * 4 + 4) := List.take_of_length_le (by omega)
              simp -implicitDefEqProofs only [lk_normal, hr8, l8, hz8, x6, x4, g0, eV, lV, tk8, hRl, e3, ZB, Int.reduceToNat, Nat.reduceLT, Nat.reduceLeDiff, Int.reduceLE, Int.reduceLT, Nat.reduceEqDiff, Nat.reduceSub, SB, SV.known, packR, ne_eq, reduceCtorEq, Nat.reduceEqDiff, ↓reduceIte, if_true, if_false, eq_self, Nat.reduceAdd, Nat.reduceMul, Nat.reduceSub, forall_const, oneCellS, litOne, flat1, Kd.isSca, flat, TYB]
              exact ⟨by omega, hmn, fin _ _ _ n4 hRl hRi hS9.d (by omega) (by omega)⟩
            by_cases w2 : w = 2
            · have w2' : (w = 2) = True := eq_true w2
              simp -implicitDefEqProofs only [lk_normal, hz7, w0, w1, w2', ZB, Int.reduceToNat, Nat.reduceLT, Nat.reduceLeDiff, Int.reduceLE, Int.reduceLT, Nat.reduceEqDiff, Nat.reduceSub, SB, SV.known, packR, ne_eq, reduceCtorEq, Nat.reduceEqDiff, ↓reduceIte, if_true, if_false, eq_self, Nat.reduceAdd, Nat.reduceMul, Nat.reduceSub, forall_const, oneCellS, litOne, flat1, Kd.isSca, flat, TYB]
              exact ⟨hmn, fin (List.replicate 24 0) _ H7 n4 (by simp) (fun x hx => by rw [List.eq_of_mem_replicate hx]; simp [In64]) hS7.d (by omega) (by omega)⟩
            · simp -implicitDefEqProofs only [lk_normal, hr7, hz7, l7, tk7, w0, w1, w2, ZB, Int.reduceToNat, Nat.reduceLT, Nat.reduceLeDiff, Int.reduceLE, Int.reduceLT, Nat.reduceEqDiff, Nat.reduceSub, SB, SV.known, packR, ne_eq, reduceCtorEq, Nat.reduceEqDiff, ↓reduceIte, if_true, if_false, eq_self, Nat.reduceAdd, Nat.reduceMul, Nat.reduceSub, forall_const, oneCellS, litOne, flat1, Kd.isSca, flat, TYB]
              exact ⟨hmn, fin R2 _ H7 n4 l7 hS7.i hS7.d (by omega) (by omega)⟩
          · simp -implicitDefEqProofs only [lk_normal, ZB, Int.reduceToNat, Nat.reduceLT, Nat.reduceLeDiff, Int.reduceLE, Int.reduceLT, Nat.reduceEqDiff, Nat.reduceSub, SB, SV.known, packR, ne_eq, reduceCtorEq, Nat.reduceEqDiff, ↓reduceIte, if_true, if_false, eq_self, Nat.reduceAdd, Nat.reduceMul, Nat.reduceSub, forall_const, oneCellS, litOne, flat1, Kd.isSca, flat, TYB]
            refine pick_use hS6.d hlt hm (by omega) fun x Ha x0 x1 hda hfa => ?_
            have hSa := hS6.draw hda hfa (Nat.le_refl _)
            simp -implicitDefEqProofs only [ZB, Int.reduceToNat, Nat.reduceLT, Nat.reduceLeDiff, Int.reduceLE, Int.reduceLT, Nat.reduceEqDiff, Nat.reduceSub, SB, SV.known, packR, ne_eq, reduceCtorEq, Nat.reduceEqDiff, ↓reduceIte, if_true, if_false, eq_self, Nat.reduceAdd, Nat.reduceMul, Nat.reduceSub, forall_const, oneCellS, litOne, flat1, Kd.isSca, flat, TYB]
            refine pick_use hSa.d hlt hm (by omega) fun y Hb y0 y1 hdb hfb => ?_
            have hSb := hSa.draw hdb hfb (Nat.le_refl _)
            obtain ⟨X, rfl⟩ : ∃ X : Nat, x = X := ⟨x.toNat, by omega⟩
            obtain ⟨Y, rfl⟩ : ∃ Y : Nat, y = Y := ⟨y.toNat, by omega⟩
            have x6 : (X : Int) < 6 := by omega
            have y6 : (Y : Int) < 6 := by omega
            have x4 : X * 4 + 4 ≤ 24 := by omega
            have y4 : Y * 4 + 4 ≤ 24 := by omega
            have hrb := hSb.r
            have lb := hSb.l
            have hqb := hSb.lt
            simp -implicitDefEqProofs only [ZB, Int.reduceToNat, Nat.reduceLT, Nat.reduceLeDiff, Int.reduceLE, Int.reduceLT, Nat.reduceEqDiff, Nat.reduceSub, SB, SV.known, packR, ne_eq, reduceCtorEq, Nat.reduceEqDiff, ↓reduceIte, if_true, if_false, eq_self, Nat.reduceAdd, Nat.reduceMul, Nat.reduceSub, forall_const, oneCellS, litOne, flat1, Kd.isSca, flat, TYB]
            refine ⟨{q : (Nat × Nat) × Heap × Nat // RkS c kc a n H (n + 3) R2 170 q.2.1 q.2.2 ∧ hget q.2.1 q.1.1 = some (.ints ((R2.drop (X * 4)).take 4) 24) ∧ hget q.2.1 q.1.2 = some (.ints ((R2.drop (Y * 4)).take 4) 24) ∧ n + 3 < q.1.1 ∧ n + 3 < q.1.2 ∧ q.1.1 < q.2.2 ∧ q.1.2 < q.2.2},
              fun q => [(13, .ptr q.1.1.2 0), (12, .ptr q.1.1.1 0), (11, .int Y), (10, .int X), (3, .ptr (n + 3) 0), (2, .ptr n 0), (0, .ptr c 0)], fun q => q.1.2.1, fun q => q.1.2.2, ?_, ?_⟩
            · have lA : ((R2.drop (X * 4)).take 4).length = 4 := by rw [List.length_take, List.length_drop]; omega
              have lB : ((R2.drop (Y * 4)).take 4).length = 4 := by rw [List.length_take, List.length_drop]; omega
              have tA : ((R2.drop (X * 4)).take 4).take 4 = (R2.drop (X * 4)).take 4 := List.take_of_length_le (by omega)
              have tB : ((R2.drop (Y * 4)).take 4).take 4 = (R2.drop (Y * 4)).take 4 := List.take_of_length_le (by omega)
              have e3 : ∀ i, (n4 + i = n + 3) = False := fun i => by simp; omega
              have e4 : ∀ i, (n + 3 = n4 + i) = False := fun i => by simp; omega
              have e5 : (n4 = n + 3) = False := by simp; omega
              have e6 : (n + 3 = n4) = False := by simp; omega
              simp -implicitDefEqProofs only [hrb, lb, x0, x6, x4, y0, y6, y4, Nat.add_assoc, add_self, self_add, add_add, e3, e4, e5, e6, lA, lB, tA, tB, ZB, Int.reduceToNat, Nat.reduceLT, Nat.reduceLeDiff, Int.reduceLE, Int.reduceLT, Nat.reduceEqDiff, Nat.reduceSub, SB, SV.known, packR, ne_eq, reduceCtorEq, Nat.reduceEqDiff, ↓reduceIte, if_true, if_false, eq_self, Nat.reduceAdd, Nat.reduceMul, Nat.reduceSub, forall_const, oneCellS, litOne, flat1, Kd.isSca, flat, TYB]
              have hwk : ∀ (L1 L2 L3 L4 : List Int) (e1 e2 e3 e4 k1 k2 k3 k4 : Nat), n4 ≤ k1 → n4 ≤ k2 → n4 ≤ k3 → n4 ≤ k4 → k1 < n4 + 2 → k2 < n4 + 2 → k3 < n4 + 2 → k4 < n4 + 2 →
                  RkS c kc a n H (n + 3) R2 170 ((k1, .ints L1 e1) :: (k2, .ints L2 e2) :: (k3, .ints L3 e3) :: (k4, .ints L4 e4) :: Hb) (n4 + 2) := fun L1 L2 L3 L4 e1 e2 e3 e4 k1 k2 k3 k4 h1 h2 h3 h4 g1 g2 g3 g4 =>
                (hSb.more (by omega)).ext (hwf_cons (hwf_cons (hwf_cons (hwf_cons (hwf_mono (by omega) hSb.d.wf) g4 trivial) g3 trivial) g2 trivial) g1 trivial) (by omega) fun j o hj ho => by
                  rw [hget_cons, if_neg (by omega), hget_cons, if_neg (by omega), hget_cons, if_neg (by omega), hget_cons, if_neg (by omega)]
                  exact ho
              have hwj := fun (L1 L2 L3 L4 : List Int) (e1 e2 e3 e4 k1 k2 k3 k4 : Nat) h1 h2 h3 h4 g1 g2 g3 g4 => (hwk L1 L2 L3 L4 e1 e2 e3 e4 k1 k2 k3 k4 h1 h2 h3 h4 g1 g2 g3 g4).d.wf
              repeat' first
                | apply And.intro
                | omega
                | refine ⟨⟨((n4, n4 + 1), _, n4 + 2), hwk _ _ _ _ _ _ _ _ _ _ _ _ (by omega) (by omega) (by omega) (by omega) (by omega) (by omega) (by omega) (by omega), ?_, ?_, by show n + 3 < n4; omega, by show n + 3 < n4 + 1; omega, by show n4 < n4 + 2; omega, by show n4 + 1 < n4 + 2; omega⟩, Sub.same ?_ ?_ (hwj _ _ _ _ _ _ _ _ _ _ _ _ (by omega) (by omega) (by omega) (by omega) (by omega) (by omega) (by omega) (by omega)) (by show n ≤ n4 + 2; omega)⟩ <;> first | (simp [hget_cons]; done) | (simp only [LB, subS, subH, wfS, wfH, SV.ren, renL, SObj.ren, SV.wf, SObj.wf, wfL, SV.known, Nat.reduceEqDiff, ↓reduceIte, if_true, if_false, eq_self, Nat.reduceAdd, Nat.reduceLT, Nat.reduceLeDiff, implies_true, reduceCtorEq, forall_const]; done) | (simp [subS, subH, wfS, wfH, SV.ren, renL, SObj.ren, SV.wf, SObj.wf, wfL, sget_cons, hget_cons] <;> omega)
                | refine ⟨⟨((n4 + 1, n4), _, n4 + 2), hwk _ _ _ _ _ _ _ _ _ _ _ _ (by omega) (by omega) (by omega) (by omega) (by omega) (by omega) (by omega) (by omega), ?_, ?_, by show n + 3 < n4 + 1; omega, by show n + 3 < n4; omega, by show n4 + 1 < n4 + 2; omega, by show n4 < n4 + 2; omega⟩, Sub.same ?_ ?_ (hwj _ _ _ _ _ _ _ _ _ _ _ _ (by omega) (by omega) (by omega) (by omega) (by omega) (by omega) (by omega) (by omega)) (by show n ≤ n4 + 2; omega)⟩ <;> first | (simp [hget_cons]; done) | (simp only [LB, subS, subH, wfS, wfH, SV.ren, renL, SObj.ren, SV.wf, SObj.wf, wfL, SV.known, Nat.reduceEqDiff, ↓reduceIte, if_true, if_false, eq_self, Nat.reduceAdd, Nat.reduceLT, Nat.reduceLeDiff, implies_true, reduceCtorEq, forall_const]; done) | (simp [subS, subH, wfS, wfH, SV.ren, renL, SObj.ren, SV.wf, SObj.wf, wfL, sget_cons, hget_cons] <;> omega)
            · rintro ⟨⟨⟨b1, b2⟩, Hc, nc⟩, hSc, g1, g2, g3, g4, g5, g6⟩
              simp only at hSc g1 g2 g3 g4 g5 g6
              have lA : ((R2.drop (X * 4)).take 4).length = 4 := by rw [List.length_take, List.length_drop]; omega
              have lB : ((R2.drop (Y * 4)).take 4).length = 4 := by rw [List.length_take, List.length_drop]; omega
              have tA : ((R2.drop (X * 4)).take 4).take 4 = (R2.drop (X * 4)).take 4 := List.take_of_length_le (by omega)
              have tB : ((R2.drop (Y * 4)).take 4).take 4 = (R2.drop (Y * 4)).take 4 := List.take_of_length_le (by omega)
              have hrc := hSc.r
              have e1 : (b1 = n + 3) = False := by simp; omega
              simp -implicitDefEqProofs only [lk_normal, g1, g2, hrc, lb, lA, lB, tA, tB, x0, x6, x4, y0, y6, y4, e1, ZB, Int.reduceToNat, Nat.reduceLT, Nat.reduceLeDiff, Int.reduceLE, Int.reduceLT, Nat.reduceEqDiff, Nat.reduceSub, SB, SV.known, packR, ne_eq, reduceCtorEq, Nat.reduceEqDiff, ↓reduceIte, if_true, if_false, eq_self, Nat.reduceAdd, Nat.reduceMul, Nat.reduceSub, forall_const, oneCellS, litOne, flat1, Kd.isSca, flat, TYB]
              have hl4 : (R2.take (X * 4) ++ (R2.drop (Y * 4)).take 4 ++ R2.drop (X * 4 + 4)).length = 24 := by
                rw [List.length_append, List.length_append, List.length_take, List.length_drop, lB]; omega
              have hi4 : ∀ z ∈ R2.take (X * 4) ++ (R2.drop (Y * 4)).take 4 ++ R2.drop (X * 4 + 4), In64 z := fun z hz => by
                rcases List.mem_append.1 hz with hz | hz
                · rcases List.mem_append.1 hz with hz | hz
                  · exact hSb.i z (List.mem_of_mem_take hz)
                  · exact hSb.i z (List.mem_of_mem_drop (List.mem_of_mem_take hz))
                · exact hSb.i z (List.mem_of_mem_drop hz)
              have hSc1 := hSc.set hlt hl4 hi4
              generalize R2.take (X * 4) ++ (R2.drop (Y * 4)).take 4 ++ R2.drop (X * 4 + 4) = R4 at *
              have hl5 : (R4.take (Y * 4) ++ (R2.drop (X * 4)).take 4 ++ R4.drop (Y * 4 + 4)).length = 24 := by
                rw [List.length_append, List.length_append, List.length_take, List.length_drop, lA]; omega
              have hi5 : ∀ z ∈ R4.take (Y * 4) ++ (R2.drop (X * 4)).take 4 ++ R4.drop (Y * 4 + 4), In64 z := fun z hz => by
                rcases List.mem_append.1 hz with hz | hz
                · rcases List.mem_append.1 hz with hz | hz
                  · exact hi4 z (List.mem_of_mem_take hz)
                  · exact hSb.i z (List.mem_of_mem_drop (List.mem_of_mem_take hz))
                · exact hi4 z (List.mem_of_mem_drop hz)
              have hSd := hSc1.set hlt hl5 hi5
              generalize R4.take (Y * 4) ++ (R2.drop (X * 4)).take 4 ++ R4.drop (Y * 4 + 4) = R5 at *
              refine ⟨by omega, by omega, by omega, ?_⟩
              refine pick_use hSd.d hlt hm (by omega) fun w H7 hw0 hw1 hd7 hf7 => ?_
              have hS7 := hSd.draw hd7 hf7 (Nat.le_refl _)
              have hr7 := hS7.r
              have hz7 := hS7.z
              have l7 := hS7.l
              have tk7 : R5.take 24 = R5 := List.take_of_length_le (by omega)
              have fin : ∀ (R' : List Int) (k' : Nat) (H' : Heap) (n' : Nat), R'.length = 24 → (∀ x ∈ R', In64 x) → Drawn c kc a k' n H H' n' → n < n' → k' ≤ 1000 → ∃ R : List Int, R' = R ∧ R.length = 24 ∧ (∀ x ∈ R, In64 x) ∧ Drawn c kc a 1000 n H ((n, .ints R' 27) :: H') n' := fun R' k' H' n' h1 h2 h3 h4 h5 => ⟨R', rfl, h1, h2, (h3.more h5).putI hlt (Nat.le_refl _) h4⟩
              have hq7 := hS7.lt
              by_cases w0 : w = 0
              · have w0' : (w = 0) = True := eq_true w0
                simp -implicitDefEqProofs only [lk_normal, w0', ZB, Int.reduceToNat, Nat.reduceLT, Nat.reduceLeDiff, Int.reduceLE, Int.reduceLT, Nat.reduceEqDiff, Nat.reduceSub, SB, SV.known, packR, ne_eq, reduceCtorEq, Nat.reduceEqDiff, ↓reduceIte, if_true, if_false, eq_self, Nat.reduceAdd, Nat.reduceMul, Nat.reduceSub, forall_const, oneCellS, litOne, flat1, Kd.isSca, flat, TYB]
                refine ⟨{q : List Int × Heap × Nat // RkS c kc a n H (n + 3) q.1 300 q.2.1 q.2.2}, fun q => [(3, .ptr (n + 3) 0), (2, .ptr n 0)], fun q => q.1.2.1, fun q => q.1.2.2, ?_, ?_⟩
                · simp -implicitDefEqProofs only [ZB, Int.reduceToNat, Nat.reduceLT, Nat.reduceLeDiff, Int.reduceLE, Int.reduceLT, Nat.reduceEqDiff, Nat.reduceSub, SB, SV.known, packR, ne_eq, reduceCtorEq, Nat.reduceEqDiff, ↓reduceIte, if_true, if_false, eq_self, Nat.reduceAdd, Nat.reduceMul, Nat.reduceSub, forall_const, oneCellS, litOne, flat1, Kd.isSca, flat, TYB]
                  refine ⟨?_, ?_⟩
                  · refine pick_use hS7.d hlt hm (by omega) fun x H8 g0 g1 hd8 hf8 => ?_
                    have hS8 := hS7.draw hd8 hf8 (Nat.le_refl _)
                    obtain ⟨X, rfl⟩ : ∃ X : Nat, x = X := ⟨x.toNat, by omega⟩
                    have x6 : (X : Int) < 6 := by omega
                    simp -implicitDefEqProofs only [x6, g0, ZB, Int.reduceToNat, Nat.reduceLT, Nat.reduceLeDiff, Int.reduceLE, Int.reduceLT, Nat.reduceEqDiff, Nat.reduceSub, SB, SV.known, packR, ne_eq, reduceCtorEq, Nat.reduceEqDiff, ↓reduceIte, if_true, if_false, eq_self, Nat.reduceAdd, Nat.reduceMul, Nat.reduceSub, forall_const, oneCellS, litOne, flat1, Kd.isSca, flat, TYB]
                    refine ⟨?_, ?_⟩
                    · refine pick_use hS8.d hlt hm (by omega) fun y H9 k0 k1 hd9 hf9 => ?_
                      have hS9 := hS8.draw hd9 hf9 (Nat.le_refl _)
                      simp -implicitDefEqProofs only [ZB, Int.reduceToNat, Nat.reduceLT, Nat.reduceLeDiff, Int.reduceLE, Int.reduceLT, Nat.reduceEqDiff, Nat.reduceSub, SB, SV.known, packR, ne_eq, reduceCtorEq, Nat.reduceEqDiff, ↓reduceIte, if_true, if_false, eq_self, Nat.reduceAdd, Nat.reduceMul, Nat.reduceSub, forall_const, oneCellS, litOne, flat1, Kd.isSca, flat, TYB]
                      refine among_use (hS9.d.pushI hlt) hlt hm (by omega) (L := [-1, 6, 4611686018427387904]) (by simp [hget_cons]; rfl) (by omega) (by simp) fun z Hz hzl hdz hfz => ?_
                      have hSz := (hS9.pushI hlt).draw hdz hfz (Nat.le_refl _)
                      obtain ⟨Y, rfl⟩ : ∃ Y : Nat, y = Y := ⟨y.toNat, by omega⟩
                      have y4 : (Y : Int) < 4 := by omega
                      have xy : X * 4 + Y < 24 := by omega
                      have hz : In64 z := by simp at hzl; unfold In64; omega
                      have hrz := hSz.r
                      have lz := hSz.l
                      have hqz := hSz.lt
                      have hSw := (hSz.set hlt (R' := R5.set (X * 4 + Y) z) (by rw [List.length_set]; exact lz) (in64_set hSz.i hz)).more (k' := 300) (by omega)
                      simp -implicitDefEqProofs only [lk_normal, hrz, lz, x6, y4, xy, g0, k0, ZB, Int.reduceToNat, Nat.reduceLT, Nat.reduceLeDiff, Int.reduceLE, Int.reduceLT, Nat.reduceEqDiff, Nat.reduceSub, SB, SV.known, packR, ne_eq, reduceCtorEq, Nat.reduceEqDiff, ↓reduceIte, if_true, if_false, eq_self, Nat.reduceAdd, Nat.reduceMul, Nat.reduceSub, forall_const, oneCellS, litOne, flat1, Kd.isSca, flat, TYB]
                      exact ⟨by omega, ⟨(R5.set (X * 4 + Y) z, _, _), hSw⟩, Sub.same (by simp only [LB, subS, subH, wfS, wfH, SV.ren, renL, SObj.ren, SV.wf, SObj.wf, wfL, SV.known, Nat.reduceEqDiff, ↓reduceIte, if_true, if_false, eq_self, Nat.reduceAdd, Nat.reduceLT, Nat.reduceLeDiff, implies_true, reduceCtorEq, forall_const]; try rfl) (by simp [subS, subH, wfS, wfH, SV.ren, renL, SObj.ren, SV.wf, SObj.wf, wfL, sget_cons, hget_cons] <;> omega) hSw.d.wf hSw.d.le⟩
                    · refine pick_use (hS8.pushI hlt).d hlt hm (by omega) fun y H9 k0 k1 hd9 hf9 => ?_
                      have hS9 := (hS8.pushI hlt).draw hd9 hf9 (Nat.le_refl _)
                      simp -implicitDefEqProofs only [ZB, Int.reduceToNat, Nat.reduceLT, Nat.reduceLeDiff, Int.reduceLE, Int.reduceLT, Nat.reduceEqDiff, Nat.reduceSub, SB, SV.known, packR, ne_eq, reduceCtorEq, Nat.reduceEqDiff, ↓reduceIte, if_true, if_false, eq_self, Nat.reduceAdd, Nat.reduceMul, Nat.reduceSub, forall_const, oneCellS, litOne, flat1, Kd.isSca, flat, TYB]
                      refine among_use hS9.d hlt hm (by omega) (L := [-1, 6, 4611686018427387904]) (hf9.use (by omega) (by omega) (by simp [hget_cons]; rfl)) (by omega) (by simp) fun z Hz hzl hdz hfz => ?_
                      have hSz := hS9.draw hdz hfz (Nat.le_refl _)
                      obtain ⟨Y, rfl⟩ : ∃ Y : Nat, y = Y := ⟨y.toNat, by omega⟩
                      have y4 : (Y : Int) < 4 := by omega
                      have xy : X * 4 + Y < 24 := by omega
                      have hz : In64 z := by simp at hzl; unfold In64; omega
                      have hrz := hSz.r
                      have lz := hSz.l
                      have hqz := hSz.lt
                      have hSw := (hSz.set hlt (R' := R5.set (X * 4 + Y) z) (by rw [List.length_set]; exact lz) (in64_set hSz.i hz)).more (k' := 300) (by omega)
                      simp -implicitDefEqProofs only [lk_normal, hrz, lz, x6, y4, xy, g0, k0, ZB, Int.reduceToNat, Nat.reduceLT, Nat.reduceLeDiff, Int.reduceLE, Int.reduceLT, Nat.reduceEqDiff, Nat.reduceSub, SB, SV.known, packR, ne_eq, reduceCtorEq, Nat.reduceEqDiff, ↓reduceIte, if_true, if_false, eq_self, Nat.reduceAdd, Nat.reduceMul, Nat.reduceSub, forall_const, oneCellS, litOne, flat1, Kd.isSca, flat, TYB]
                      exact ⟨by omega, ⟨(R5.set (X * 4 + Y) z, _, _), hSw⟩, Sub.same (by simp only [LB, subS, subH, wfS, wfH, SV.ren, renL, SObj.ren, SV.wf, SObj.wf, wfL, SV.known, Nat.reduceEqDiff, ↓reduceIte, if_true, if_false, eq_self, Nat.reduceAdd, Nat.reduceLT, Nat.reduceLeDiff, implies_true, reduceCtorEq, forall_const]; try rfl) (by simp [subS, subH, wfS, wfH, SV.ren, renL, SObj.ren, SV.wf, SObj.wf, wfL, sget_cons, hget_cons] <;> omega) hSw.d.wf hSw.d.le⟩
                  · refine pick_use (hS7.pushI hlt).d hlt hm (by omega) fun x H8 g0 g1 hd8 hf8 => ?_
                    have hS8 := (hS7.pushI hlt).draw hd8 hf8 (Nat.le_refl _)
                    have hb8 := hf8.use (by omega) (by omega) (show hget _ nc = some (.ints [-1, 6, 4611686018427387904] 3) by simp [hget_cons])
                    obtain ⟨X, rfl⟩ : ∃ X : Nat, x = X := ⟨x.toNat, by omega⟩
                    have x6 : (X : Int) < 6 := by omega
                    simp -implicitDefEqProofs only [x6, g0, ZB, Int.reduceToNat, Nat.reduceLT, Nat.reduceLeDiff, Int.reduceLE, Int.reduceLT, Nat.reduceEqDiff, Nat.reduceSub, SB, SV.known, packR, ne_eq, reduceCtorEq, Nat.reduceEqDiff, ↓reduceIte, if_true, if_false, eq_self, Nat.reduceAdd, Nat.reduceMul, Nat.reduceSub, forall_const, oneCellS, litOne, flat1, Kd.isSca, flat, TYB]
                    refine pick_use hS8.d hlt hm (by omega) fun y H9 k0 k1 hd9 hf9 => ?_
                    have hS9 := hS8.draw hd9 hf9 (Nat.le_refl _)
                    simp -implicitDefEqProofs only [ZB, Int.reduceToNat, Nat.reduceLT, Nat.reduceLeDiff, Int.reduceLE, Int.reduceLT, Nat.reduceEqDiff, Nat.reduceSub, SB, SV.known, packR, ne_eq, reduceCtorEq, Nat.reduceEqDiff, ↓reduceIte, if_true, if_false, eq_self, Nat.reduceAdd, Nat.reduceMul, Nat.reduceSub, forall_const, oneCellS, litOne, flat1, Kd.isSca, flat, TYB]
                    refine among_use hS9.d hlt hm (by omega) (L := [-1, 6, 4611686018427387904]) (hf9.use (by omega) (by omega) hb8) (by omega) (by simp) fun z Hz hzl hdz hfz => ?_
                    have hSz := hS9.draw hdz hfz (Nat.le_refl _)
                    obtain ⟨Y, rfl⟩ : ∃ Y : Nat, y = Y := ⟨y.toNat, by omega⟩
                    have y4 : (Y : Int) < 4 := by omega
                    have xy : X * 4 + Y < 24 := by omega
                    have hz : In64 z := by simp at hzl; unfold In64; omega
                    have hrz := hSz.r
                    have lz := hSz.l
                    have hqz := hSz.lt
                    have hSw := (hSz.set hlt (R' := R5.set (X * 4 + Y) z) (by rw [List.length_set]; exact lz) (in64_set hSz.i hz)).more (k' := 300) (by omega)
                    simp -implicitDefEqProofs only [lk_normal, hrz, lz, x6, y4, xy, g0, k0, ZB, Int.reduceToNat, Nat.reduceLT, Nat.reduceLeDiff, Int.reduceLE, Int.reduceLT, Nat.reduceEqDiff, Nat.reduceSub, SB, SV.known, packR, ne_eq, reduceCtorEq, Nat.reduceEqDiff, ↓reduceIte, if_true, if_false, eq_self, Nat.reduceAdd, Nat.reduceMul, Nat.reduceSub, forall_const, oneCellS, litOne, flat1, Kd.isSca, flat, TYB]
                    exact ⟨by omega, ⟨(R5.set (X * 4 + Y) z, _, _), hSw⟩, Sub.same (by simp only [LB, subS, subH, wfS, wfH, SV.ren, renL, SObj.ren, SV.wf, SObj.wf, wfL, SV.known, Nat.reduceEqDiff, ↓reduceIte, if_true, if_false, eq_self, Nat.reduceAdd, Nat.reduceLT, Nat.reduceLeDiff, implies_true, reduceCtorEq, forall_const]; try rfl) (by simp [subS, subH, wfS, wfH, SV.ren, renL, SObj.ren, SV.wf, SObj.wf, wfL, sget_cons, hget_cons] <;> omega) hSw.d.wf hSw.d.le⟩
                · rintro ⟨⟨R9, H9, n9⟩, hS9⟩
                  simp only at hS9
                  have hr9 := hS9.r
                  have l9 := hS9.l
                  have hz9 := hS9.z
                  have hq9 := hS9.lt
                  have tk9 : R9.take 24 = R9 := List.take_of_length_le (by omega)
                  simp -implicitDefEqProofs only [lk_normal, hr9, hz9, l9, tk9, ZB, Int.reduceToNat, Nat.reduceLT, Nat.reduceLeDiff, Int.reduceLE, Int.reduceLT, Nat.reduceEqDiff, Nat.reduceSub, SB, SV.known, packR, ne_eq, reduceCtorEq, Nat.reduceEqDiff, ↓reduceIte, if_true, if_false, eq_self, Nat.reduceAdd, Nat.reduceMul, Nat.reduceSub, forall_const, oneCellS, litOne, flat1, Kd.isSca, flat, TYB]
                  exact ⟨hmn, fin R9 _ H9 n9 hS9.l hS9.i hS9.d (by omega) (by omega)⟩
              by_cases w1 : w = 1
              · have w1' : (w = 1) = True := eq_true w1
                simp -implicitDefEqProofs only [lk_normal, w0, w1', ZB, Int.reduceToNat, Nat.reduceLT, Nat.reduceLeDiff, Int.reduceLE, Int.reduceLT, Nat.reduceEqDiff, Nat.reduceSub, SB, SV.known, packR, ne_eq, reduceCtorEq, Nat.reduceEqDiff, ↓reduceIte, if_true, if_false, eq_self, Nat.reduceAdd, Nat.reduceMul, Nat.reduceSub, forall_const, oneCellS, litOne, flat1, Kd.isSca, flat, TYB]
                refine pick_use hS7.d hlt hm (by omega) fun x H8 g0 g1 hd8 hf8 => ?_
                have hS8 := hS7.draw hd8 hf8 (Nat.le_refl _)
                have hr8 := hS8.r
                have l8 := hS8.l
                have hz8 := hS8.z
                have hq8 := hS8.lt
                obtain ⟨X, rfl⟩ : ∃ X : Nat, x = X := ⟨x.toNat, by omega⟩
                have x6 : (X : Int) < 6 := by omega
                have x4 : X * 4 + 4 ≤ 24 := by omega
                let V : List Int := ((((List.replicate 4 (0 : Int)).set 0 0).set 1 1).set 2 0).set 3 0
                have e3 : (n = n + 3) = False := by simp
                have lV : V.length = 4 := rfl
                have eV : (((((List.replicate 4 (0 : Int)).set 0 0).set 1 1).set 2 0).set 3 0) = V := rfl
                have hRl : (R5.take (X * 4) ++ V ++ R5.drop (X * 4 + 4)).length = 24 := by
                  rw [List.length_append, List.length_append, List.length_take, List.length_drop, lV]; omega
                have hRi : ∀ y ∈ R5.take (X * 4) ++ V ++ R5.drop (X * 4 + 4), In64 y := fun y hy => by
                  rcases List.mem_append.1 hy with hy | hy
                  · rcases List.mem_append.1 hy with hy | hy
                    · exact hS8.i y (List.mem_of_mem_take hy)
                    · have hy' : y ∈ ([0, 1, 0, 0] : List Int) := hy
                      simp at hy'; unfold In64; omega
                  · exact hS8.i y (List.mem_of_mem_drop hy)
                have hS9 := hS8.set hlt hRl hRi
                have tk8 : (R5.take (X * 4) ++ V ++ R5.drop (X * 4 + 4)).take 24 = R5.take (X * 4) ++ V ++ R5.drop (X * 4 + 4) := List.take_of_length_le (by omega)
                simp -implicitDefEqProofs only [lk_normal, hr8, l8, hz8, x6, x4, g0, eV, lV, tk8, hRl, e3, ZB, Int.reduceToNat, Nat.reduceLT, Nat.reduceLeDiff, Int.reduceLE, Int.reduceLT, Nat.reduceEqDiff, Nat.reduceSub, SB, SV.known, packR, ne_eq, reduceCtorEq, Nat.reduceEqDiff, ↓reduceIte, if_true, if_false, eq_self, Nat.reduceAdd, Nat.reduceMul, Nat.reduceSub, forall_const, oneCellS, litOne, flat1, Kd.isSca, flat, TYB]
                exact ⟨by omega, hmn, fin _ _ _ nc hRl hRi hS9.d (by omega) (by omega)⟩
              by_cases w2 : w = 2
              · have w2' : (w = 2) = True := eq_true w2
                simp -implicitDefEqProofs only [lk_normal, hz7, w0, w1, w2', ZB, Int.reduceToNat, Nat.reduceLT, Nat.reduceLeDiff, Int.reduceLE, Int.reduceLT, Nat.reduceEqDiff, Nat.reduceSub, SB, SV.known, packR, ne_eq, reduceCtorEq, Nat.reduceEqDiff, ↓reduceIte, if_true, if_false, eq_self, Nat.reduceAdd, Nat.reduceMul, Nat.reduceSub, forall_const, oneCellS, litOne, flat1, Kd.isSca, flat, TYB]
                exact ⟨hmn, fin (List.replicate 24 0) _ H7 nc (by simp) (fun x hx => by rw [List.eq_of_mem_replicate hx]; simp [In64]) hS7.d (by omega) (by omega)⟩
              · simp -implicitDefEqProofs only [lk_normal, hr7, hz7, l7, tk7, w0, w1, w2, ZB, Int.reduceToNat, Nat.reduceLT, Nat.reduceLeDiff, Int.reduceLE, Int.reduceLT, Nat.reduceEqDiff, Nat.reduceSub, SB, SV.known, packR, ne_eq, reduceCtorEq, Nat.reduceEqDiff, ↓reduceIte, if_true, if_false, eq_self, Nat.reduceAdd, Nat.reduceMul, Nat.reduceSub, forall_const, oneCellS, litOne, flat1, Kd.isSca, flat, TYB]
                exact ⟨hmn, fin R5 _ H7 nc l7 hS7.i hS7.d (by omega) (by omega)⟩
def rack_F : List SV → Heap → Nat → Nat → K1 → Prop
  | [.ptr c 0], H, n, m, κ => ∃ kc a, CurH c kc a H ∧ m ≤ c ∧ m ≤ n ∧ a ≤ 990000 ∧ ∀ (R : List Int) H' n', R.length = 24 → (∀ x ∈ R, In64 x) → Drawn c kc a 1000 n H H' n' → κ (.arr R) H' n'
  | _, _, _, _, _ => False
theorem rack_T : ∀ args H n m κ, rack_F args H n m κ → GenOK Try.prog 77 args H n m κ := by
  intro args H n m κ h
  unfold rack_F at h
  split at h
  · rename_i c
    obtain ⟨kc, a, hC, hm, hmn, ha, h1⟩ := h
    exact gen_direct (X := ⟨Try.prog, tys, [], [(94, pick_F), (92, one_F), (119, among_F)], true, true, m, [94, 92, 119], [(21, .tree (.one 0 (.one 1 (.one 2 (.one 3 (.one 4 (.one 5 (.one 6 (.alt 7 (.alt 8 (.one 9 (.one 10 (.one 11 .done))) (.alt 9 (.one 8 (.one 10 (.one 11 .done))) .stop)) (.alt 8 (.alt 7 (.one 9 (.one 10 (.one 11 .done))) (.alt 9 (.alt 7 (.one 10 (.one 11 .done)) (.alt 10 (.one 7 (.one 11 .done)) .stop)) .stop)) (.alt 9 (.alt 7 (.one 8 (.one 10 (.one 11 .done))) (.alt 8 (.alt 7 (.one 10 (.one 11 .done)) (.alt 10 (.one 7 (.one 11 .done)) .stop)) .stop)) .stop))))))))))), (26, .tree (.one 0 (.one 2 (.one 4 (.one 7 (.alt 1 (.one 8 (.alt 3 (.one 5 (.one 6 (.one 9 (.one 10 .done)))) (.alt 5 (.one 3 (.one 6 (.one 9 (.one 10 .done)))) .stop))) (.alt 5 (.one 1 (.one 3 (.one 6 (.one 8 (.one 9 (.one 10 .done)))))) .stop)))))))]⟩) fnx_rack ⟨tys_ok, .nil, .cons pick_T (.cons one_T (.cons among_T .nil)), mixed⟩ rfl (Nat.le_of_ble_eq_true rfl) (fun hwH hwa => rack_vc c kc a m n H hC hm hmn ha hwH) fun hwH v H' n' hψ h3 h4 h5 => by
      obtain ⟨R, rfl, g1, g2, g3⟩ := hψ
      exact h1 R H' n' g1 g2 g3
  · exact h.elim
theorem rack_use {c kc a k n0 n m : Nat} {H0 H : Heap} {κ : K1} (h : Drawn c kc a k n0 H0 H n) (hc : c < n0 ∧ kc < n0 ∧ kc ≠ c) (hm : m ≤ c) (hmn : m ≤ n) (ha : a + k ≤ 990000)
    (hκ : ∀ (R : List Int) H' n', R.length = 24 → (∀ x ∈ R, In64 x) → Drawn c kc a (k + 1000) n0 H0 H' n' → n ≤ n' → Fr n0 n H H' → κ (.arr R) H' n') : rack_F [.ptr c 0] H n m κ := by
  obtain ⟨b', g1, g2, g3⟩ := h.cur
  exact ⟨kc, b', g3, hm, hmn, by omega, fun R H' n' h1 h2 hd => hκ R H' n' h1 h2 (h.trans hd g2 g1) hd.le (hd.own hc.1)⟩
/-- A pour of a rack, or any two places. -/
theorem fnx_pour : FnOK Try.prog 90 Try.f90 (Try.f90.body.getD .skip) [94, 92, 146] [] := ⟨Try.func90, rfl, by kernel_rfl, by kernel_rfl⟩
theorem dpour_vc (c kc a m n : Nat) (H : Heap) (R : List Int) (hR : R.length = 24) (hC : CurH c kc a H) (hm : m ≤ c) (hmn : m ≤ n) (ha : a ≤ 995000) (hwH : hwf n H) :
    codeVC (⟨Try.prog, tys, [(72, l2Rack_F)], [(94, pick_F), (92, one_F), (146, place_F), (85, l2Pours_F)], true, true, m, [94, 92, 146], []⟩ : Cx) n (Try.f90.body.getD .skip) (argS 0 [.ptr c 0, .arr R]) H n
      (retK tys Try.f90.results.toList fun v H' n' => ∃ x y : Int, v = .arr [x, y] ∧ In64 x ∧ In64 y ∧ Drawn c kc a 100 n H H' n') := by
  have hlt := hC.lt hwH
  have tkR : R.take 24 = R := List.take_of_length_le (by omega)
  simp -implicitDefEqProofs only [Try.f90, Option.getD_some, argS, l2Rack_F, hR, tkR, Nat.add_assoc, add_self, self_add, add_add, ZB, Int.reduceToNat, Nat.reduceLT, Nat.reduceLeDiff, Int.reduceLE, Int.reduceLT, Nat.reduceEqDiff, Nat.reduceSub, SB, SV.known, packR, ne_eq, reduceCtorEq, Nat.reduceEqDiff, ↓reduceIte, if_true, if_false, eq_self, Nat.reduceAdd, Nat.reduceMul, Nat.reduceSub, forall_const, oneCellS, litOne, flat1, Kd.isSca, flat, TYB]
  have d0 : Drawn c kc a 0 n H ((n + 1, .ints (List.replicate 2 0) 44) :: (n, .ints R 27) :: H) (n + 2) := ((Drawn.start hC hwH).pushI hlt).pushI hlt
  have hb0 : hget ((n + 1, .ints (List.replicate 2 0) 44) :: (n, .ints R 27) :: H) (n + 1) = some (.ints (List.replicate 2 0) 44) := by simp [hget_cons]
  have hr0 : hget ((n + 1, .ints (List.replicate 2 0) 44) :: (n, .ints R 27) :: H) n = some (.ints R 27) := by simp [hget_cons]
  cases hr : rackB R
  · simp -implicitDefEqProofs only [lk_normal, Nat.add_assoc, add_self, self_add, add_add, ZB, Int.reduceToNat, Nat.reduceLT, Nat.reduceLeDiff, Int.reduceLE, Int.reduceLT, Nat.reduceEqDiff, Nat.reduceSub, SB, SV.known, packR, ne_eq, reduceCtorEq, Nat.reduceEqDiff, ↓reduceIte, if_true, if_false, eq_self, Nat.reduceAdd, Nat.reduceMul, Nat.reduceSub, forall_const, oneCellS, litOne, flat1, Kd.isSca, flat, TYB]
    refine place_use d0 hlt hm (by omega) fun x H1 n1 hx hd1 hle1 hf1 => ?_
    have hb1 := hf1.use (by omega) (by omega) hb0
    simp -implicitDefEqProofs only [lk_normal, ZB, Int.reduceToNat, Nat.reduceLT, Nat.reduceLeDiff, Int.reduceLE, Int.reduceLT, Nat.reduceEqDiff, Nat.reduceSub, SB, SV.known, packR, ne_eq, reduceCtorEq, Nat.reduceEqDiff, ↓reduceIte, if_true, if_false, eq_self, Nat.reduceAdd, Nat.reduceMul, Nat.reduceSub, forall_const, oneCellS, litOne, flat1, Kd.isSca, flat, TYB]
    refine place_use hd1 hlt hm (by omega) fun y H2 n2 hy hd2 hle2 hf2 => ?_
    have hb2 := hf2.use (by omega) (by omega) hb1
    simp -implicitDefEqProofs only [hb2, ZB, Int.reduceToNat, Nat.reduceLT, Nat.reduceLeDiff, Int.reduceLE, Int.reduceLT, Nat.reduceEqDiff, Nat.reduceSub, SB, SV.known, packR, ne_eq, reduceCtorEq, Nat.reduceEqDiff, ↓reduceIte, if_true, if_false, eq_self, Nat.reduceAdd, Nat.reduceMul, Nat.reduceSub, forall_const, oneCellS, litOne, flat1, Kd.isSca, flat, TYB]
    exact ⟨by omega, x, y, ⟨rfl, rfl⟩, hx, hy, (hd2.more (by omega)).putI hlt (by omega) (by omega)⟩
  · simp -implicitDefEqProofs only [lk_normal, Nat.add_assoc, add_self, self_add, add_add, ZB, Int.reduceToNat, Nat.reduceLT, Nat.reduceLeDiff, Int.reduceLE, Int.reduceLT, Nat.reduceEqDiff, Nat.reduceSub, SB, SV.known, packR, ne_eq, reduceCtorEq, Nat.reduceEqDiff, ↓reduceIte, if_true, if_false, eq_self, Nat.reduceAdd, Nat.reduceMul, Nat.reduceSub, forall_const, oneCellS, litOne, flat1, Kd.isSca, flat, TYB]
    refine one_use d0 hlt hm (by omega) fun o H0 hd0 hf0 => ?_
    have hb := hf0.use (by omega) (by omega) hb0
    have hrb := hf0.use (by omega) (by omega) hr0
    cases o
    · obtain ⟨np, hnp, hnp36⟩ := PL_even R 36
      have ehp : (PL R 36).length / 2 = np := by omega
      have hbd := PL_bd R 36 (Nat.le_refl _)
      simp -implicitDefEqProofs only [lk_normal, l2Pours_F, freshK, Wrap.ap, hrb, hR, tkR, hr, ehp, ZB, Int.reduceToNat, Nat.reduceLT, Nat.reduceLeDiff, Int.reduceLE, Int.reduceLT, Nat.reduceEqDiff, Nat.reduceSub, SB, SV.known, packR, ne_eq, reduceCtorEq, Nat.reduceEqDiff, ↓reduceIte, if_true, if_false, eq_self, Nat.reduceAdd, Nat.reduceMul, Nat.reduceSub, forall_const, oneCellS, litOne, flat1, Kd.isSca, flat, TYB]
      intro cp jp hjp
      have hdp := hd0.pushI hlt (L := PL R 36 ++ jp) (e := 44)
      have hbp : hget ((n + 2, .ints (PL R 36 ++ jp) 44) :: H0) (n + 1) = some (.ints (List.replicate 2 0) 44) := by rw [hget_cons, if_neg (by omega)]; exact hb
      by_cases h0 : np = 0
      · have h0' : ¬ (0 : Int) < (np : Int) := by omega
        simp -implicitDefEqProofs only [lk_normal, h0', ZB, Int.reduceToNat, Nat.reduceLT, Nat.reduceLeDiff, Int.reduceLE, Int.reduceLT, Nat.reduceEqDiff, Nat.reduceSub, SB, SV.known, packR, ne_eq, reduceCtorEq, Nat.reduceEqDiff, ↓reduceIte, if_true, if_false, eq_self, Nat.reduceAdd, Nat.reduceMul, Nat.reduceSub, forall_const, oneCellS, litOne, flat1, Kd.isSca, flat, TYB]
        refine place_use hdp hlt hm (by omega) fun x H1 n1 hx hd1 hle1 hf1 => ?_
        have hb1 := hf1.use (by omega) (by omega) hbp
        simp -implicitDefEqProofs only [lk_normal, ZB, Int.reduceToNat, Nat.reduceLT, Nat.reduceLeDiff, Int.reduceLE, Int.reduceLT, Nat.reduceEqDiff, Nat.reduceSub, SB, SV.known, packR, ne_eq, reduceCtorEq, Nat.reduceEqDiff, ↓reduceIte, if_true, if_false, eq_self, Nat.reduceAdd, Nat.reduceMul, Nat.reduceSub, forall_const, oneCellS, litOne, flat1, Kd.isSca, flat, TYB]
        refine place_use hd1 hlt hm (by omega) fun y H2 n2 hy hd2 hle2 hf2 => ?_
        have hb2 := hf2.use (by omega) (by omega) hb1
        simp -implicitDefEqProofs only [hb2, ZB, Int.reduceToNat, Nat.reduceLT, Nat.reduceLeDiff, Int.reduceLE, Int.reduceLT, Nat.reduceEqDiff, Nat.reduceSub, SB, SV.known, packR, ne_eq, reduceCtorEq, Nat.reduceEqDiff, ↓reduceIte, if_true, if_false, eq_self, Nat.reduceAdd, Nat.reduceMul, Nat.reduceSub, forall_const, oneCellS, litOne, flat1, Kd.isSca, flat, TYB]
        exact ⟨by omega, x, y, ⟨rfl, rfl⟩, hx, hy, (hd2.more (by omega)).putI hlt (by omega) (by omega)⟩
      · have h0' : (0 : Int) < (np : Int) := by omega
        simp -implicitDefEqProofs only [lk_normal, h0', ZB, Int.reduceToNat, Nat.reduceLT, Nat.reduceLeDiff, Int.reduceLE, Int.reduceLT, Nat.reduceEqDiff, Nat.reduceSub, SB, SV.known, packR, ne_eq, reduceCtorEq, Nat.reduceEqDiff, ↓reduceIte, if_true, if_false, eq_self, Nat.reduceAdd, Nat.reduceMul, Nat.reduceSub, forall_const, oneCellS, litOne, flat1, Kd.isSca, flat, TYB]
        refine ⟨pick_use hdp hlt hm (by omega) fun q Hq q0 q1 hdq hfq => ?_, fun h => absurd trivial h⟩
        obtain ⟨Q, rfl⟩ : ∃ Q : Nat, q = Q := ⟨q.toNat, by omega⟩
        have qn : (Q : Int) < (np : Int) := by omega
        have hbq := hfq.use (by omega) (by omega) hbp
        have hlq := hfq.use (by omega) (by omega) (show hget _ (n + 2) = some (.ints (PL R 36 ++ jp) 44) by simp [hget_cons])
        have lQ : Q * 2 + 2 ≤ (PL R 36 ++ jp).length := by rw [List.length_append]; omega
        have e2 : ((PL R 36 ++ jp).drop (Q * 2)).take 2 = [(PL R 36).getD (Q * 2) 0, (PL R 36).getD (Q * 2 + 1) 0] := by
          rw [take2_drop _ _ lQ, getD_app _ _ _ (by omega), getD_app _ _ _ (by omega)]
        have b0 : In64 ((PL R 36).getD (Q * 2) 0) := by
          rw [List.getD_eq_getElem?_getD, List.getElem?_eq_getElem (by omega)]
          have := hbd _ (List.getElem_mem (l := PL R 36) (n := Q * 2) (by omega))
          unfold In64; simp only [Option.getD_some]; omega
        have b1 : In64 ((PL R 36).getD (Q * 2 + 1) 0) := by
          rw [List.getD_eq_getElem?_getD, List.getElem?_eq_getElem (by omega)]
          have := hbd _ (List.getElem_mem (l := PL R 36) (n := Q * 2 + 1) (by omega))
          unfold In64; simp only [Option.getD_some]; omega
        simp -implicitDefEqProofs only [lk_normal, hlq, hbq, qn, q0, lQ, e2, ZB, Int.reduceToNat, Nat.reduceLT, Nat.reduceLeDiff, Int.reduceLE, Int.reduceLT, Nat.reduceEqDiff, Nat.reduceSub, SB, SV.known, packR, ne_eq, reduceCtorEq, Nat.reduceEqDiff, ↓reduceIte, if_true, if_false, eq_self, Nat.reduceAdd, Nat.reduceMul, Nat.reduceSub, forall_const, oneCellS, litOne, flat1, Kd.isSca, flat, TYB]
        exact ⟨by omega, _, _, ⟨rfl, rfl⟩, b0, b1, (hdq.more (by omega)).putI hlt (by omega) (by omega)⟩
    · simp -implicitDefEqProofs only [lk_normal, ZB, Int.reduceToNat, Nat.reduceLT, Nat.reduceLeDiff, Int.reduceLE, Int.reduceLT, Nat.reduceEqDiff, Nat.reduceSub, SB, SV.known, packR, ne_eq, reduceCtorEq, Nat.reduceEqDiff, ↓reduceIte, if_true, if_false, eq_self, Nat.reduceAdd, Nat.reduceMul, Nat.reduceSub, forall_const, oneCellS, litOne, flat1, Kd.isSca, flat, TYB]
      refine place_use hd0 hlt hm (by omega) fun x H1 n1 hx hd1 hle1 hf1 => ?_
      have hb1 := hf1.use (by omega) (by omega) hb
      simp -implicitDefEqProofs only [lk_normal, ZB, Int.reduceToNat, Nat.reduceLT, Nat.reduceLeDiff, Int.reduceLE, Int.reduceLT, Nat.reduceEqDiff, Nat.reduceSub, SB, SV.known, packR, ne_eq, reduceCtorEq, Nat.reduceEqDiff, ↓reduceIte, if_true, if_false, eq_self, Nat.reduceAdd, Nat.reduceMul, Nat.reduceSub, forall_const, oneCellS, litOne, flat1, Kd.isSca, flat, TYB]
      refine place_use hd1 hlt hm (by omega) fun y H2 n2 hy hd2 hle2 hf2 => ?_
      have hb2 := hf2.use (by omega) (by omega) hb1
      simp -implicitDefEqProofs only [hb2, ZB, Int.reduceToNat, Nat.reduceLT, Nat.reduceLeDiff, Int.reduceLE, Int.reduceLT, Nat.reduceEqDiff, Nat.reduceSub, SB, SV.known, packR, ne_eq, reduceCtorEq, Nat.reduceEqDiff, ↓reduceIte, if_true, if_false, eq_self, Nat.reduceAdd, Nat.reduceMul, Nat.reduceSub, forall_const, oneCellS, litOne, flat1, Kd.isSca, flat, TYB]
      exact ⟨by omega, x, y, ⟨rfl, rfl⟩, hx, hy, (hd2.more (by omega)).putI hlt (by omega) (by omega)⟩
def dpour_F : List SV → Heap → Nat → Nat → K1 → Prop
  | [.ptr c 0, .arr R], H, n, m, κ => R.length = 24 ∧ ∃ kc a, CurH c kc a H ∧ m ≤ c ∧ m ≤ n ∧ a ≤ 995000 ∧ ∀ (x y : Int) H' n', In64 x → In64 y → Drawn c kc a 100 n H H' n' → κ (.arr [x, y]) H' n'
  | _, _, _, _, _ => False
theorem dpour_T : ∀ args H n m κ, dpour_F args H n m κ → GenOK Try.prog 90 args H n m κ := by
  intro args H n m κ h
  unfold dpour_F at h
  split at h
  · rename_i c R
    obtain ⟨hR, kc, a, hC, hm, hmn, ha, h1⟩ := h
    exact gen_direct (X := ⟨Try.prog, tys, [(72, l2Rack_F)], [(94, pick_F), (92, one_F), (146, place_F), (85, l2Pours_F)], true, true, m, [94, 92, 146], []⟩) fnx_pour ⟨tys_ok, .cons l2Rack_T .nil, .cons pick_T (.cons one_T (.cons place_T (.cons l2Pours_T .nil))), mixed⟩ rfl (Nat.le_of_ble_eq_true rfl) (fun hwH hwa => dpour_vc c kc a m n H R hR hC hm hmn ha hwH) fun hwH v H' n' hψ h3 h4 h5 => by
      obtain ⟨x, y, rfl, g1, g2, g3⟩ := hψ
      exact h1 x y H' n' g1 g2 g3
  · exact h.elim
theorem dpour_use {c kc a k n0 n m : Nat} {H0 H : Heap} {κ : K1} (h : Drawn c kc a k n0 H0 H n) (hc : c < n0 ∧ kc < n0 ∧ kc ≠ c) (hm : m ≤ c) (hmn : m ≤ n) (ha : a + k ≤ 995000) {R : List Int} (hR : R.length = 24)
    (hκ : ∀ (x y : Int) H' n', In64 x → In64 y → Drawn c kc a (k + 100) n0 H0 H' n' → n ≤ n' → Fr n0 n H H' → κ (.arr [x, y]) H' n') : dpour_F [.ptr c 0, .arr R] H n m κ := by
  obtain ⟨b', g1, g2, g3⟩ := h.cur
  exact ⟨hR, kc, b', g3, hm, hmn, by omega, fun x y H' n' h1 h2 hd => hκ x y H' n' h1 h2 (h.trans hd g2 g1) hd.le (hd.own hc.1)⟩
/-- The bytes that a law is given. -/
def BytA (v : SV) (H : Heap) : Prop := v = .nils ∨ ∃ (kc off len cap : Nat) (L : List Int), v = .slice kc off len cap ∧ hget H kc = some (.winU off L) ∧ L.length = len ∧ len ≤ 1000000000 ∧ ∀ x ∈ L, 0 ≤ x ∧ x ≤ 255
theorem BytA.put {v : SV} {H : Heap} {n k : Nat} (h : BytA v H) (hw : hwf n H) (hk : n ≤ k) (o : SObj) : BytA v ((k, o) :: H) := by
  rcases h with rfl | ⟨kc, off, len, cap, L, rfl, h, h2⟩
  · exact .inl rfl
  · have := (hw _ _ h).1
    exact .inr ⟨kc, off, len, cap, L, rfl, by rw [hget_cons, if_neg (by omega)]; exact h, h2⟩
theorem BytA.at {v : SV} {H : Heap} {n k : Nat} (h : BytA v H) (hw : hwf n H) (hk : k < n) (hx : ∃ o, hget H k = some o) : ∃ kc, kc < n ∧ BytV kc v H := by
  rcases h with rfl | ⟨kc, off, len, cap, L, rfl, h, h2⟩
  · exact ⟨k, hk, .inl ⟨rfl, hx⟩⟩
  · exact ⟨kc, (hw _ _ h).1, .inr ⟨off, len, cap, L, rfl, h, h2⟩⟩
/-- What a drawing function leaves: nothing that is not its own has changed. -/
structure Kpt (n : Nat) (H H' : Heap) (n' : Nat) : Prop where
  le : n ≤ n'
  wf : hwf n' H'
  fr : ∀ i o, i < n → hget H i = some o → hget H' i = some o
theorem fnx_DrawCanPour : FnOK Try.prog 122 Try.f122 (Try.f122.body.getD .skip) [77, 90] [(4, .tree (.one 0 (.one 1 (.one 3 (.alt 2 (.alt 4 (.one 5 (.one 6 (.one 7 .done))) (.alt 5 (.one 4 (.one 6 (.one 7 .done))) .stop)) (.alt 4 (.alt 2 (.one 5 (.one 6 (.one 7 .done))) (.alt 5 (.one 2 (.one 6 (.one 7 .done))) .stop)) (.alt 5 (.one 2 (.one 4 (.one 6 (.one 7 .done)))) .stop)))))))] := ⟨Try.func122, rfl, by kernel_rfl, by kernel_rfl⟩
theorem DrawCanPour_vc (cv : SV) (m n : Nat) (H : Heap) (hB : BytA cv H) (hmn : m ≤ n) (hwH : hwf n H) :
    codeVC (⟨Try.prog, tys, [], [(77, rack_F), (90, dpour_F)], true, true, m, [77, 90], [(4, .tree (.one 0 (.one 1 (.one 3 (.alt 2 (.alt 4 (.one 5 (.one 6 (.one 7 .done))) (.alt 5 (.one 4 (.one 6 (.one 7 .done))) .stop)) (.alt 4 (.alt 2 (.one 5 (.one 6 (.one 7 .done))) (.alt 5 (.one 2 (.one 6 (.one 7 .done))) .stop)) (.alt 5 (.one 2 (.one 4 (.one 6 (.one 7 .done)))) .stop)))))))]⟩ : Cx) n (Try.f122.body.getD .skip) (argS 0 [cv]) H n
      (retK tys Try.f122.results.toList fun v H' n' => ∃ (R : List Int) (x y : Int), v = .tup [.arr R, .int x, .int y] ∧ R.length = 24 ∧ (∀ z ∈ R, In64 z) ∧ In64 x ∧ In64 y ∧ Kpt n H H' n') := by
  have h1c : oneCellS cv = true := by
    rcases hB with rfl | ⟨kc, off, len, cap, L, rfl, _⟩ <;> rfl
  have hvw : cv.wf n := by
    rcases hB with rfl | ⟨kc, off, len, cap, L, rfl, h, _⟩
    · trivial
    · exact (hwH _ _ h).1
  have hB' := hB
  rcases hB with rfl | ⟨kc0, off0, len0, cap0, L0, rfl, hh0⟩
  all_goals
    simp -implicitDefEqProofs only [Try.f122, Option.getD_some, argS, h1c, Nat.add_assoc, add_self, self_add, add_add, ZB, Int.reduceToNat, Nat.reduceLT, Nat.reduceLeDiff, Int.reduceLE, Int.reduceLT, Nat.reduceEqDiff, Nat.reduceSub, SB, SV.known, packR, ne_eq, reduceCtorEq, Nat.reduceEqDiff, ↓reduceIte, if_true, if_false, eq_self, Nat.reduceAdd, Nat.reduceMul, Nat.reduceSub, forall_const, oneCellS, litOne, flat1, Kd.isSca, flat, TYB]
    have hw1 : hwf (n + 1) ((n, .ints (List.replicate 24 0) 27) :: H) := hwf_cons (hwf_mono (by omega) hwH) (by omega) trivial
    have hw0f : ∀ v : SV, v.wf n → hwf (n + 2) ((n + 1, .cells [v, .int 0, .lit (.int .u64 0)] 88) :: (n, .ints (List.replicate 24 0) 27) :: H) := fun v hv =>
      hwf_cons (hwf_mono (show n + 1 ≤ n + 2 by omega) hw1) (by omega) (by simp [SObj.wf, wfL, SV.wf]; exact SV.wf_mono (show n ≤ n + 2 by omega) v hv)
    obtain ⟨kc, hkn, hBv⟩ := (hB'.put hwH (Nat.le_refl n) (.ints (List.replicate 24 0) 27)).at hw1 (Nat.lt_succ_self n) ⟨_, by simp [hget_cons]; rfl⟩
    have hCf : ∀ v : SV, BytV kc v ((n, .ints (List.replicate 24 0) 27) :: H) → CurH (n + 1) kc 0 ((n + 1, .cells [v, .int 0, .lit (.int .u64 0)] 88) :: (n, .ints (List.replicate 24 0) 27) :: H) := fun v hv =>
      ⟨v, 0, by simp [hget_cons], hv.at (fun o ho => by rw [hget_cons, if_neg (show ¬ kc = n + 1 by omega)]; exact ho), by omega⟩
    have d0 := Drawn.start (hCf _ hBv) (hw0f _ hvw)
    have hz0 : ∀ o : SObj, hget ((n + 1, o) :: (n, .ints (List.replicate 24 0) 27) :: H) n = some (.ints (List.replicate 24 0) 27) := fun o => by simp [hget_cons]
    have hlt : n + 1 < n + 2 ∧ kc < n + 2 ∧ kc ≠ n + 1 := by omega
    refine rack_use d0 hlt (by omega) (by omega) (by omega) fun R H1 n1 hR hRi hd1 hle1 hf1 => ?_
    have hz1 := hd1.fr n _ (by omega) (by omega) (hz0 _)
    have tkR : R.take 24 = R := List.take_of_length_le (by omega)
    simp -implicitDefEqProofs only [hR, tkR, Nat.add_assoc, add_self, self_add, add_add, ZB, Int.reduceToNat, Nat.reduceLT, Nat.reduceLeDiff, Int.reduceLE, Int.reduceLT, Nat.reduceEqDiff, Nat.reduceSub, SB, SV.known, packR, ne_eq, reduceCtorEq, Nat.reduceEqDiff, ↓reduceIte, if_true, if_false, eq_self, Nat.reduceAdd, Nat.reduceMul, Nat.reduceSub, forall_const, oneCellS, litOne, flat1, Kd.isSca, flat, TYB]
    refine ⟨by omega, dpour_use ((hd1.pushI hlt (L := List.replicate 24 0) (e := 27)).putI hlt (by omega) (by omega)) hlt (by omega) (by omega) (by omega) hR fun x y H2 n2 hx hy hd2 hle2 hf2 => ?_⟩
    have hr2 := hf2.use (by omega) (by omega) (show hget _ n1 = some (.ints R 27) by simp [hget_cons])
    have hz2 := hd2.fr n _ (by omega) (by omega) (hz0 _)
    have e1 : (n1 = n2) = False := by simp; omega
    have e2 : (n = n2) = False := by simp; omega
    have e3 : (n2 = n) = False := by simp; omega
    simp -implicitDefEqProofs only [hr2, hz2, hR, tkR, e1, e2, Nat.add_assoc, add_self, self_add, add_add, ZB, Int.reduceToNat, Nat.reduceLT, Nat.reduceLeDiff, Int.reduceLE, Int.reduceLT, Nat.reduceEqDiff, Nat.reduceSub, SB, SV.known, packR, ne_eq, reduceCtorEq, Nat.reduceEqDiff, ↓reduceIte, if_true, if_false, eq_self, Nat.reduceAdd, Nat.reduceMul, Nat.reduceSub, forall_const, oneCellS, litOne, flat1, Kd.isSca, flat, TYB]
    have hwz : hwf (n2 + 1) ((n, .ints R 27) :: (n2, .ints [x, y] 44) :: (n2, .ints (List.replicate 2 0) 44) :: H2) :=
      hwf_cons (hwf_cons (hwf_cons (hwf_mono (by omega) hd2.wf) (by omega) trivial) (by omega) trivial) (by omega) trivial
    refine ⟨by omega, Unit, fun _ => [(4, .int y), (3, .int x), (2, .ptr n 0)], fun _ => (n, .ints R 27) :: (n2, .ints [x, y] 44) :: (n2, .ints (List.replicate 2 0) 44) :: H2, fun _ => n2 + 1, ?_, fun _ => ?_⟩
    · simp -implicitDefEqProofs only [hr2, hz2, hR, tkR, e1, e2, e3, Nat.add_assoc, add_self, self_add, add_add, List.getD_cons_zero, List.getD_cons_succ, ZB, Int.reduceToNat, Nat.reduceLT, Nat.reduceLeDiff, Int.reduceLE, Int.reduceLT, Nat.reduceEqDiff, Nat.reduceSub, SB, SV.known, packR, ne_eq, reduceCtorEq, Nat.reduceEqDiff, ↓reduceIte, if_true, if_false, eq_self, Nat.reduceAdd, Nat.reduceMul, Nat.reduceSub, forall_const, oneCellS, litOne, flat1, Kd.isSca, flat, TYB]
      repeat' first
        | apply And.intro
        | omega
        | exact ⟨(), Sub.same (by simp only [LB, subS, subH, wfS, wfH, SV.ren, renL, SObj.ren, SV.wf, SObj.wf, wfL, SV.known, Nat.reduceEqDiff, ↓reduceIte, if_true, if_false, eq_self, Nat.reduceAdd, Nat.reduceLT, Nat.reduceLeDiff, implies_true, reduceCtorEq, forall_const]; try rfl) (by simp [subS, subH, wfS, wfH, SV.ren, renL, SObj.ren, SV.wf, SObj.wf, wfL, sget_cons, hget_cons] <;> omega) hwz (by omega)⟩
    · simp -implicitDefEqProofs only [lk_normal, hR, tkR, ZB, Int.reduceToNat, Nat.reduceLT, Nat.reduceLeDiff, Int.reduceLE, Int.reduceLT, Nat.reduceEqDiff, Nat.reduceSub, SB, SV.known, packR, ne_eq, reduceCtorEq, Nat.reduceEqDiff, ↓reduceIte, if_true, if_false, eq_self, Nat.reduceAdd, Nat.reduceMul, Nat.reduceSub, forall_const, oneCellS, litOne, flat1, Kd.isSca, flat, TYB]
      exact ⟨R, x, y, ⟨rfl, rfl, rfl⟩, hR, hRi, hx, hy, by omega, hwz, fun i o hi ho => by
        rw [hget_cons, if_neg (by omega), hget_cons, if_neg (by omega), hget_cons, if_neg (by omega)]
        exact hd2.fr i o (by omega) (by omega) (by rw [hget_cons, if_neg (by omega), hget_cons, if_neg (by omega)]; exact ho)⟩
/-- A rack and two places. -/
def DrawCanPour_F : List SV → Heap → Nat → Nat → K1 → Prop
  | [cv], H, n, m, κ => BytA cv H ∧ m ≤ n ∧ ∀ (R : List Int) (x y : Int) H' n', R.length = 24 → (∀ z ∈ R, In64 z) → In64 x → In64 y → Kpt n H H' n' → κ (.tup [.arr R, .int x, .int y]) H' n'
  | _, _, _, _, _ => False
theorem DrawCanPour_T : ∀ args H n m κ, DrawCanPour_F args H n m κ → GenOK Try.prog 122 args H n m κ := by
  intro args H n m κ h
  unfold DrawCanPour_F at h
  split at h
  · rename_i cv
    obtain ⟨hB, hmn, h1⟩ := h
    exact gen_direct (X := ⟨Try.prog, tys, [], [(77, rack_F), (90, dpour_F)], true, true, m, [77, 90], [(4, .tree (.one 0 (.one 1 (.one 3 (.alt 2 (.alt 4 (.one 5 (.one 6 (.one 7 .done))) (.alt 5 (.one 4 (.one 6 (.one 7 .done))) .stop)) (.alt 4 (.alt 2 (.one 5 (.one 6 (.one 7 .done))) (.alt 5 (.one 2 (.one 6 (.one 7 .done))) .stop)) (.alt 5 (.one 2 (.one 4 (.one 6 (.one 7 .done)))) .stop)))))))]⟩) fnx_DrawCanPour ⟨tys_ok, .nil, .cons rack_T (.cons dpour_T .nil), mixed⟩ rfl (Nat.le_of_ble_eq_true rfl) (fun hwH hwa => DrawCanPour_vc cv m n H hB hmn hwH) fun hwH v H' n' hψ h3 h4 h5 => by
      obtain ⟨R, x, y, rfl, g1, g2, g3, g4, g5⟩ := hψ
      exact h1 R x y H' n' g1 g2 g3 g4 g5
  · exact h.elim
theorem Kpt.under {n n' k : Nat} {H H' : Heap} {o : SObj} (h : Kpt k ((n, o) :: H) H' n') (hn : n < k) : ∀ i o, i < n → hget H i = some o → hget H' i = some o := fun i o' hi ho => h.fr i o' (by omega) (by rw [hget_cons, if_neg (by omega)]; exact ho)
end Go.Proofs.Ytopfnkmlgcjpbaa
/- Walks: how racks that may be sorted are drawn. -/
set_option maxRecDepth 100000
set_option linter.unusedSimpArgs false
set_option linter.unusedVariables false
namespace Go.Proofs.Ytopfnkmlgcjpbaa
open Go Go.RowKit
theorem fnx_DrawPourChange : FnOK Try.prog 52 Try.f52 (Try.f52.body.getD .skip) [] [] := ⟨Try.func52, rfl, by kernel_rfl, by kernel_rfl⟩
theorem DrawPourChange_vc (cv : SV) (m n : Nat) (H : Heap) (hB : BytA cv H) (hmn : m ≤ n) (hwH : hwf n H) :
    codeVC (⟨Try.prog, tys, [], [(122, DrawCanPour_F)], true, true, m, [], []⟩ : Cx) n (Try.f52.body.getD .skip) (argS 0 [cv]) H n
      (retK tys Try.f52.results.toList fun v H' n' => ∃ (R : List Int) (x y : Int), v = .tup [.arr R, .int x, .int y] ∧ R.length = 24 ∧ (∀ z ∈ R, In64 z) ∧ In64 x ∧ In64 y ∧ Kpt n H H' n') := by
  have hB' := hB
  rcases hB with rfl | ⟨kc, off, len, cap, L, rfl, hh⟩
  all_goals
    simp -implicitDefEqProofs only [Try.f52, Option.getD_some, argS, DrawCanPour_F, Nat.add_assoc, add_self, self_add, add_add, ZB, Int.reduceToNat, Nat.reduceLT, Nat.reduceLeDiff, Int.reduceLE, Int.reduceLT, Nat.reduceEqDiff, Nat.reduceSub, SB, SV.known, packR, ne_eq, reduceCtorEq, Nat.reduceEqDiff, ↓reduceIte, if_true, if_false, eq_self, Nat.reduceAdd, Nat.reduceMul, Nat.reduceSub, forall_const, oneCellS, litOne, flat1, Kd.isSca, flat, TYB]
    refine ⟨hB'.put hwH (Nat.le_refl n) _, by omega, fun R x y H' n' hR hRi hx hy hK => ?_⟩
    have hz := hK.fr n _ (by omega) (show hget _ n = some (.ints (List.replicate 24 0) 27) by simp [hget_cons])
    have tkR : R.take 24 = R := List.take_of_length_le (by omega)
    have hle := hK.le
    simp -implicitDefEqProofs only [hz, hR, tkR, ZB, Int.reduceToNat, Nat.reduceLT, Nat.reduceLeDiff, Int.reduceLE, Int.reduceLT, Nat.reduceEqDiff, Nat.reduceSub, SB, SV.known, packR, ne_eq, reduceCtorEq, Nat.reduceEqDiff, ↓reduceIte, if_true, if_false, eq_self, Nat.reduceAdd, Nat.reduceMul, Nat.reduceSub, forall_const, oneCellS, litOne, flat1, Kd.isSca, flat, TYB]
    exact ⟨hmn, R, x, y, ⟨rfl, rfl, rfl⟩, hR, hRi, hx, hy, by omega, hwf_cons hK.wf (by omega) trivial, fun i o hi ho => by
      rw [hget_cons, if_neg (by omega)]
      exact hK.under (by omega) i o hi ho⟩
theorem DrawPourChange_T : ∀ args H n m κ, DrawCanPour_F args H n m κ → GenOK Try.prog 52 args H n m κ := by
  intro args H n m κ h
  unfold DrawCanPour_F at h
  split at h
  · rename_i cv
    obtain ⟨hB, hmn, h1⟩ := h
    exact gen_direct (X := ⟨Try.prog, tys, [], [(122, DrawCanPour_F)], true, true, m, [], []⟩) fnx_DrawPourChange ⟨tys_ok, .nil, .cons DrawCanPour_T .nil, mixed⟩ rfl (Nat.le_of_ble_eq_true rfl) (fun hwH hwa => DrawPourChange_vc cv m n H hB hmn hwH) fun hwH v H' n' hψ h3 h4 h5 => by
      obtain ⟨R, x, y, rfl, g1, g2, g3, g4, g5⟩ := hψ
      exact h1 R x y H' n' g1 g2 g3 g4 g5
  · exact h.elim
theorem fnx_DrawIsSorted : FnOK Try.prog 114 Try.f114 (Try.f114.body.getD .skip) [77, 92] [] := ⟨Try.func114, rfl, by kernel_rfl, by kernel_rfl⟩
/-- A rack of one's own, behind all draws. -/
structure SrS (n : Nat) (H : Heap) (b : Nat) (R : List Int) (H' : Heap) (n' : Nat) : Prop where
  lt : n < b ∧ b < n'
  wf : hwf n' H'
  r : hget H' b = some (.ints R 27)
  l : R.length = 24
  i : ∀ x ∈ R, In64 x
  z : hget H' n = some (.ints (List.replicate 24 0) 27)
  fr : ∀ i o, i < n → hget H i = some o → hget H' i = some o
theorem SrS.set {n b n' : Nat} {H H' : Heap} {R R' : List Int} (h : SrS n H b R H' n') (hl : R'.length = 24) (hi : ∀ x ∈ R', In64 x) : SrS n H b R' ((b, .ints R' 27) :: H') n' :=
  ⟨h.lt, hwf_cons h.wf h.lt.2 trivial, by simp [hget_cons], hl, hi, by rw [hget_cons, if_neg (Nat.ne_of_lt h.lt.1)]; exact h.z, fun i o hin ho => by
    rw [hget_cons, if_neg (by have := h.lt.1; omega)]
    exact h.fr i o hin ho⟩
theorem DrawIsSorted_vc (cv : SV) (m n : Nat) (H : Heap) (hB : BytA cv H) (hmn : m ≤ n) (hwH : hwf n H) :
    codeVC (⟨Try.prog, tys, [(72, l2Rack_F)], [(77, rack_F), (92, one_F)], true, true, m, [77, 92], []⟩ : Cx) n (Try.f114.body.getD .skip) (argS 0 [cv]) H n
      (retK tys Try.f114.results.toList fun v H' n' => ∃ R : List Int, v = .arr R ∧ R.length = 24 ∧ (∀ z ∈ R, In64 z) ∧ Kpt n H H' n') := by
  have h1c : oneCellS cv = true := by
    rcases hB with rfl | ⟨kc, off, len, cap, L, rfl, _⟩ <;> rfl
  have hvw : cv.wf n := by
    rcases hB with rfl | ⟨kc, off, len, cap, L, rfl, h, _⟩
    · trivial
    · exact (hwH _ _ h).1
  have hB' := hB
  rcases hB with rfl | ⟨kc0, off0, len0, cap0, L0, rfl, hh0⟩
  all_goals
    simp -implicitDefEqProofs only [Try.f114, Option.getD_some, argS, h1c, Nat.add_assoc, add_self, self_add, add_add, ZB, Int.reduceToNat, Nat.reduceLT, Nat.reduceLeDiff, Int.reduceLE, Int.reduceLT, Nat.reduceEqDiff, Nat.reduceSub, SB, SV.known, packR, ne_eq, reduceCtorEq, Nat.reduceEqDiff, ↓reduceIte, if_true, if_false, eq_self, Nat.reduceAdd, Nat.reduceMul, Nat.reduceSub, forall_const, oneCellS, litOne, flat1, Kd.isSca, flat, TYB]
    have hw1 : hwf (n + 1) ((n, .ints (List.replicate 24 0) 27) :: H) := hwf_cons (hwf_mono (by omega) hwH) (by omega) trivial
    have hw0f : ∀ v : SV, v.wf n → hwf (n + 2) ((n + 1, .cells [v, .int 0, .lit (.int .u64 0)] 88) :: (n, .ints (List.replicate 24 0) 27) :: H) := fun v hv =>
      hwf_cons (hwf_mono (show n + 1 ≤ n + 2 by omega) hw1) (by omega) (by simp [SObj.wf, wfL, SV.wf]; exact SV.wf_mono (show n ≤ n + 2 by omega) v hv)
    obtain ⟨kc, hkn, hBv⟩ := (hB'.put hwH (Nat.le_refl n) (.ints (List.replicate 24 0) 27)).at hw1 (Nat.lt_succ_self n) ⟨_, by simp [hget_cons]; rfl⟩
    have hCf : ∀ v : SV, BytV kc v ((n, .ints (List.replicate 24 0) 27) :: H) → CurH (n + 1) kc 0 ((n + 1, .cells [v, .int 0, .lit (.int .u64 0)] 88) :: (n, .ints (List.replicate 24 0) 27) :: H) := fun v hv =>
      ⟨v, 0, by simp [hget_cons], hv.at (fun o ho => by rw [hget_cons, if_neg (show ¬ kc = n + 1 by omega)]; exact ho), by omega⟩
    have d0 := Drawn.start (hCf _ hBv) (hw0f _ hvw)
    have hz0 : ∀ o : SObj, hget ((n + 1, o) :: (n, .ints (List.replicate 24 0) 27) :: H) n = some (.ints (List.replicate 24 0) 27) := fun o => by simp [hget_cons]
    have hlt : n + 1 < n + 2 ∧ kc < n + 2 ∧ kc ≠ n + 1 := by omega
    refine rack_use d0 hlt (by omega) (by omega) (by omega) fun R H1 n1 hR hRi hd1 hle1 hf1 => ?_
    have tkR : R.take 24 = R := List.take_of_length_le (by omega)
    simp -implicitDefEqProofs only [hR, tkR, Nat.add_assoc, add_self, self_add, add_add, ZB, Int.reduceToNat, Nat.reduceLT, Nat.reduceLeDiff, Int.reduceLE, Int.reduceLT, Nat.reduceEqDiff, Nat.reduceSub, SB, SV.known, packR, ne_eq, reduceCtorEq, Nat.reduceEqDiff, ↓reduceIte, if_true, if_false, eq_self, Nat.reduceAdd, Nat.reduceMul, Nat.reduceSub, forall_const, oneCellS, litOne, flat1, Kd.isSca, flat, TYB]
    refine ⟨by omega, one_use ((hd1.pushI hlt (L := List.replicate 24 0) (e := 27)).putI hlt (by omega) (by omega)) hlt (by omega) (by omega) fun o H2 hd2 hf2 => ?_⟩
    have hr2 := hf2.use (by omega) (by omega) (show hget _ n1 = some (.ints R 27) by simp [hget_cons])
    have hz2 := hd2.fr n _ (by omega) (by omega) (hz0 _)
    have hS : SrS n H n1 R H2 (n1 + 1) := ⟨by omega, hd2.wf, hr2, hR, hRi, hz2, fun i o hi ho => hd2.fr i o (by omega) (by omega) (by rw [hget_cons, if_neg (by omega), hget_cons, if_neg (by omega)]; exact ho)⟩
    have fin : ∀ (R' : List Int) (H' : Heap) (n' : Nat), SrS n H n1 R' H' n' → ∃ R : List Int, R' = R ∧ R.length = 24 ∧ (∀ x ∈ R, In64 x) ∧ Kpt n H ((n, .ints R' 27) :: H') n' := fun R' H' n' h => ⟨R', rfl, h.l, h.i, by have := h.lt; omega, hwf_cons h.wf (by have := h.lt; omega) trivial, fun i o hi ho => by
      rw [hget_cons, if_neg (by omega)]
      exact h.fr i o hi ho⟩
    cases o
    · simp -implicitDefEqProofs only [lk_normal, hr2, hz2, hR, tkR, ZB, Int.reduceToNat, Nat.reduceLT, Nat.reduceLeDiff, Int.reduceLE, Int.reduceLT, Nat.reduceEqDiff, Nat.reduceSub, SB, SV.known, packR, ne_eq, reduceCtorEq, Nat.reduceEqDiff, ↓reduceIte, if_true, if_false, eq_self, Nat.reduceAdd, Nat.reduceMul, Nat.reduceSub, forall_const, oneCellS, litOne, flat1, Kd.isSca, flat, TYB]
      exact ⟨hmn, fin R H2 (n1 + 1) hS⟩
    · cases hrb : rackB R
      · simp -implicitDefEqProofs only [lk_normal, l2Rack_F, hr2, hz2, hR, tkR, hrb, ZB, Int.reduceToNat, Nat.reduceLT, Nat.reduceLeDiff, Int.reduceLE, Int.reduceLT, Nat.reduceEqDiff, Nat.reduceSub, SB, SV.known, packR, ne_eq, reduceCtorEq, Nat.reduceEqDiff, ↓reduceIte, if_true, if_false, eq_self, Nat.reduceAdd, Nat.reduceMul, Nat.reduceSub, forall_const, oneCellS, litOne, flat1, Kd.isSca, flat, TYB]
        exact ⟨hmn, fin R H2 (n1 + 1) hS⟩
      · simp -implicitDefEqProofs only [lk_normal, l2Rack_F, hr2, hz2, hR, tkR, hrb, ZB, Int.reduceToNat, Nat.reduceLT, Nat.reduceLeDiff, Int.reduceLE, Int.reduceLT, Nat.reduceEqDiff, Nat.reduceSub, SB, SV.known, packR, ne_eq, reduceCtorEq, Nat.reduceEqDiff, ↓reduceIte, if_true, if_false, eq_self, Nat.reduceAdd, Nat.reduceMul, Nat.reduceSub, forall_const, oneCellS, litOne, flat1, Kd.isSca, flat, TYB]
        refine loop_introN (fun s : (Nat × List Int) × Heap × Nat => [(5, .int s.1.1), (4, .ptr n1 0), (2, .ptr n 0)]) (fun s => s.2.1) (fun s => s.2.2)
          (fun s => s.1.1 ≤ 6 ∧ SrS n H n1 s.1.2 s.2.1 s.2.2) (fun s => 6 - s.1.1) ?_ ?_
        · have hq := hS.lt
          exact ⟨((0, R), H2, n1 + 1), ⟨Nat.zero_le _, hS⟩, Sub.same (by simp only [LB, subS, subH, wfS, wfH, SV.ren, renL, SObj.ren, SV.wf, SObj.wf, wfL, SV.known, Nat.reduceEqDiff, ↓reduceIte, if_true, if_false, eq_self, Nat.reduceAdd, Nat.reduceLT, Nat.reduceLeDiff, implies_true, reduceCtorEq, forall_const]; try rfl) (by simp [subS, subH, wfS, wfH, SV.ren, renL, SObj.ren, SV.wf, SObj.wf, wfL, sget_cons, hget_cons] <;> omega) hS.wf (by show n ≤ n1 + 1; omega)⟩
        · rintro ⟨⟨k, R2⟩, H4, n4⟩ ⟨hk, hS2⟩
          simp only at hk hS2
          have hq := hS2.lt
          by_cases hk6 : (k : Int) < 6
          · simp -implicitDefEqProofs only [lk_normal, hk6, ZB, Int.reduceToNat, Nat.reduceLT, Nat.reduceLeDiff, Int.reduceLE, Int.reduceLT, Nat.reduceEqDiff, Nat.reduceSub, SB, SV.known, packR, ne_eq, reduceCtorEq, Nat.reduceEqDiff, ↓reduceIte, if_true, if_false, eq_self, Nat.reduceAdd, Nat.reduceMul, Nat.reduceSub, forall_const, oneCellS, litOne, flat1, Kd.isSca, flat, TYB]
            refine loop_introN (fun s : (Nat × List Int) × Heap × Nat => [(6, .int s.1.1), (5, .int k), (4, .ptr n1 0), (2, .ptr n 0)]) (fun s => s.2.1) (fun s => s.2.2)
              (fun s => (1 ≤ s.1.1 ∧ s.1.1 ≤ 4) ∧ SrS n H n1 s.1.2 s.2.1 s.2.2) (fun s => 4 - s.1.1) ?_ ?_
            · exact ⟨((1, R2), H4, n4), ⟨⟨Nat.le_refl _, by show 1 ≤ 4; omega⟩, hS2⟩, Sub.same (by simp only [LB, subS, subH, wfS, wfH, SV.ren, renL, SObj.ren, SV.wf, SObj.wf, wfL, SV.known, Nat.reduceEqDiff, ↓reduceIte, if_true, if_false, eq_self, Nat.reduceAdd, Nat.reduceLT, Nat.reduceLeDiff, implies_true, reduceCtorEq, forall_const]; try rfl) (by simp [subS, subH, wfS, wfH, SV.ren, renL, SObj.ren, SV.wf, SObj.wf, wfL, sget_cons, hget_cons] <;> omega) hS2.wf (by show n ≤ n4; omega)⟩
            · rintro ⟨⟨j, R3⟩, H5, n5⟩ ⟨hj, hS3⟩
              simp only at hj hS3
              have hq3 := hS3.lt
              by_cases hj4 : (j : Int) < 4
              · have hr3 := hS3.r
                have l3 := hS3.l
                have k0 : 0 ≤ (k : Int) := by omega
                have j0 : 0 ≤ (j : Int) := by omega
                have kj : k * 4 + j < 24 := by omega
                have kj1 : k * 4 < 24 := by omega
                simp -implicitDefEqProofs only [lk_normal, hr3, l3, hk6, hj4, k0, j0, kj, kj1, ZB, Int.reduceToNat, Nat.reduceLT, Nat.reduceLeDiff, Int.reduceLE, Int.reduceLT, Nat.reduceEqDiff, Nat.reduceSub, SB, SV.known, packR, ne_eq, reduceCtorEq, Nat.reduceEqDiff, ↓reduceIte, if_true, if_false, eq_self, Nat.reduceAdd, Nat.reduceMul, Nat.reduceSub, forall_const, oneCellS, litOne, flat1, Kd.isSca, flat, TYB]
                refine ⟨fun _ => ⟨by omega, ?_⟩, fun _ => ?_⟩
                · have hS4 := hS3.set (R' := R3.set (k * 4 + j) (R3.getD (k * 4) 0)) (by rw [List.length_set]; exact l3) (in64_set hS3.i (in64_getD hS3.i (by omega)))
                  exact ⟨by unfold In64; omega, ((j + 1, R3.set (k * 4 + j) (R3.getD (k * 4) 0)), _, n5), ⟨⟨by show 1 ≤ j + 1; omega, by show j + 1 ≤ 4; omega⟩, hS4⟩, by show 4 - (j + 1) < 4 - j; omega, Sub.same (by simp only [LB, subS, subH, wfS, wfH, SV.ren, renL, SObj.ren, SV.wf, SObj.wf, wfL, SV.known, Nat.reduceEqDiff, ↓reduceIte, if_true, if_false, eq_self, Nat.reduceAdd, Nat.reduceLT, Nat.reduceLeDiff, implies_true, reduceCtorEq, forall_const]; try rfl) (by simp [subS, subH, wfS, wfH, SV.ren, renL, SObj.ren, SV.wf, SObj.wf, wfL, sget_cons, hget_cons] <;> omega) hS4.wf (by show n ≤ n5; omega)⟩
                · exact ⟨by unfold In64; omega, ((j + 1, R3), _, n5), ⟨⟨by show 1 ≤ j + 1; omega, by show j + 1 ≤ 4; omega⟩, hS3⟩, by show 4 - (j + 1) < 4 - j; omega, Sub.same (by simp only [LB, subS, subH, wfS, wfH, SV.ren, renL, SObj.ren, SV.wf, SObj.wf, wfL, SV.known, Nat.reduceEqDiff, ↓reduceIte, if_true, if_false, eq_self, Nat.reduceAdd, Nat.reduceLT, Nat.reduceLeDiff, implies_true, reduceCtorEq, forall_const]; try rfl) (by simp [subS, subH, wfS, wfH, SV.ren, renL, SObj.ren, SV.wf, SObj.wf, wfL, sget_cons, hget_cons] <;> omega) hS3.wf (by show n ≤ n5; omega)⟩
              · simp -implicitDefEqProofs only [lk_normal, hj4, ZB, Int.reduceToNat, Nat.reduceLT, Nat.reduceLeDiff, Int.reduceLE, Int.reduceLT, Nat.reduceEqDiff, Nat.reduceSub, SB, SV.known, packR, ne_eq, reduceCtorEq, Nat.reduceEqDiff, ↓reduceIte, if_true, if_false, eq_self, Nat.reduceAdd, Nat.reduceMul, Nat.reduceSub, forall_const, oneCellS, litOne, flat1, Kd.isSca, flat, TYB]
                exact ⟨by unfold In64; omega, ((k + 1, R3), H5, n5), ⟨by show k + 1 ≤ 6; omega, hS3⟩, by show 6 - (k + 1) < 6 - k; omega, Sub.same (by simp only [LB, subS, subH, wfS, wfH, SV.ren, renL, SObj.ren, SV.wf, SObj.wf, wfL, SV.known, Nat.reduceEqDiff, ↓reduceIte, if_true, if_false, eq_self, Nat.reduceAdd, Nat.reduceLT, Nat.reduceLeDiff, implies_true, reduceCtorEq, forall_const]; try rfl) (by simp [subS, subH, wfS, wfH, SV.ren, renL, SObj.ren, SV.wf, SObj.wf, wfL, sget_cons, hget_cons] <;> omega) hS3.wf (by show n ≤ n5; omega)⟩
          · have hr9 := hS2.r
            have hz9 := hS2.z
            have l9 := hS2.l
            have tk9 : R2.take 24 = R2 := List.take_of_length_le (by omega)
            simp -implicitDefEqProofs only [lk_normal, hk6, hr9, hz9, l9, tk9, ZB, Int.reduceToNat, Nat.reduceLT, Nat.reduceLeDiff, Int.reduceLE, Int.reduceLT, Nat.reduceEqDiff, Nat.reduceSub, SB, SV.known, packR, ne_eq, reduceCtorEq, Nat.reduceEqDiff, ↓reduceIte, if_true, if_false, eq_self, Nat.reduceAdd, Nat.reduceMul, Nat.reduceSub, forall_const, oneCellS, litOne, flat1, Kd.isSca, flat, TYB]
            exact ⟨hmn, fin R2 H4 n4 hS2⟩
/-- Any rack. -/
def DrawIsSorted_F : List SV → Heap → Nat → Nat → K1 → Prop
  | [cv], H, n, m, κ => BytA cv H ∧ m ≤ n ∧ ∀ (R : List Int) H' n', R.length = 24 → (∀ z ∈ R, In64 z) → Kpt n H H' n' → κ (.arr R) H' n'
  | _, _, _, _, _ => False
theorem DrawIsSorted_T : ∀ args H n m κ, DrawIsSorted_F args H n m κ → GenOK Try.prog 114 args H n m κ := by
  intro args H n m κ h
  unfold DrawIsSorted_F at h
  split at h
  · rename_i cv
    obtain ⟨hB, hmn, h1⟩ := h
    exact gen_direct (X := ⟨Try.prog, tys, [(72, l2Rack_F)], [(77, rack_F), (92, one_F)], true, true, m, [77, 92], []⟩) fnx_DrawIsSorted ⟨tys_ok, .cons l2Rack_T .nil, .cons rack_T (.cons one_T .nil), mixed⟩ rfl (Nat.le_of_ble_eq_true rfl) (fun hwH hwa => DrawIsSorted_vc cv m n H hB hmn hwH) fun hwH v H' n' hψ h3 h4 h5 => by
      obtain ⟨R, rfl, g1, g2, g3⟩ := hψ
      exact h1 R H' n' g1 g2 g3
  · exact h.elim
theorem fnx_DrawBoundOf : FnOK Try.prog 68 Try.f68 (Try.f68.body.getD .skip) [] [] := ⟨Try.func68, rfl, by kernel_rfl, by kernel_rfl⟩
theorem DrawBoundOf_vc (cv : SV) (m n : Nat) (H : Heap) (hB : BytA cv H) (hmn : m ≤ n) (hwH : hwf n H) :
    codeVC (⟨Try.prog, tys, [], [(114, DrawIsSorted_F)], true, true, m, [], []⟩ : Cx) n (Try.f68.body.getD .skip) (argS 0 [cv]) H n
      (retK tys Try.f68.results.toList fun v H' n' => ∃ R : List Int, v = .arr R ∧ R.length = 24 ∧ (∀ z ∈ R, In64 z) ∧ Kpt n H H' n') := by
  have hB' := hB
  rcases hB with rfl | ⟨kc, off, len, cap, L, rfl, hh⟩
  all_goals
    simp -implicitDefEqProofs only [Try.f68, Option.getD_some, argS, DrawIsSorted_F, Nat.add_assoc, add_self, self_add, add_add, ZB, Int.reduceToNat, Nat.reduceLT, Nat.reduceLeDiff, Int.reduceLE, Int.reduceLT, Nat.reduceEqDiff, Nat.reduceSub, SB, SV.known, packR, ne_eq, reduceCtorEq, Nat.reduceEqDiff, ↓reduceIte, if_true, if_false, eq_self, Nat.reduceAdd, Nat.reduceMul, Nat.reduceSub, forall_const, oneCellS, litOne, flat1, Kd.isSca, flat, TYB]
    refine ⟨hB'.put hwH (Nat.le_refl n) _, by omega, fun R H' n' hR hRi hK => ?_⟩
    have hz := hK.fr n _ (by omega) (show hget _ n = some (.ints (List.replicate 24 0) 27) by simp [hget_cons])
    have tkR : R.take 24 = R := List.take_of_length_le (by omega)
    have hle := hK.le
    simp -implicitDefEqProofs only [hz, hR, tkR, ZB, Int.reduceToNat, Nat.reduceLT, Nat.reduceLeDiff, Int.reduceLE, Int.reduceLT, Nat.reduceEqDiff, Nat.reduceSub, SB, SV.known, packR, ne_eq, reduceCtorEq, Nat.reduceEqDiff, ↓reduceIte, if_true, if_false, eq_self, Nat.reduceAdd, Nat.reduceMul, Nat.reduceSub, forall_const, oneCellS, litOne, flat1, Kd.isSca, flat, TYB]
    exact ⟨hmn, R, rfl, hR, hRi, by omega, hwf_cons hK.wf (by omega) trivial, fun i o hi ho => by
      rw [hget_cons, if_neg (by omega)]
      exact hK.under (by omega) i o hi ho⟩
theorem DrawBoundOf_T : ∀ args H n m κ, DrawIsSorted_F args H n m κ → GenOK Try.prog 68 args H n m κ := by
  intro args H n m κ h
  unfold DrawIsSorted_F at h
  split at h
  · rename_i cv
    obtain ⟨hB, hmn, h1⟩ := h
    exact gen_direct (X := ⟨Try.prog, tys, [], [(114, DrawIsSorted_F)], true, true, m, [], []⟩) fnx_DrawBoundOf ⟨tys_ok, .nil, .cons DrawIsSorted_T .nil, mixed⟩ rfl (Nat.le_of_ble_eq_true rfl) (fun hwH hwa => DrawBoundOf_vc cv m n H hB hmn hwH) fun hwH v H' n' hψ h3 h4 h5 => by
      obtain ⟨R, rfl, g1, g2, g3⟩ := hψ
      exact h1 R H' n' g1 g2 g3
  · exact h.elim
end Go.Proofs.Ytopfnkmlgcjpbaa
/- Equality of values of int cells: arrays, racks, views. -/
set_option maxRecDepth 100000
set_option linter.unusedSimpArgs false
set_option linter.unusedVariables false
namespace Go.Proofs.Ytopfnkmlgcjpbaa
open Go Go.RowKit
theorem run_of_next {P : Program} {s : Sem Value} {x : Value} {w : World} (h : (do pure (Next.value (← s)) : Sem Next).run P w = .ok (.value x) w) : s.run P w = .ok x w := by
  simp only [Sem.run_bind] at h
  generalize s.run P w = r at h
  cases r with
  | ok y w1 => simp only [Result.andThen_ok, Sem.run_pure] at h; cases h; rfl
  | halt y w1 => simp only [Result.andThen_halt] at h; cases h
theorem runPart_int {t : TypeId} (hk : (tys t).k = .int) (L : List Int) (off : Nat) (h : off < L.length) (w : World) : (part t (ints L) off).run Try.prog w = .ok (.int .i64 (L.getD off 0)) w := by
  obtain ⟨v, x, _, h2, h3, h4⟩ := part_sound (B := fun _ => 0) (H := []) (n := 0) (κ := fun v _ _ => v = .int (L.getD off 0)) tys_ok (t := t) (L := L) (off := off) (by unfold partVC; rw [hk]; all_goals exact ⟨h, rfl⟩)
  subst h3
  have h5 := h4 w (HR.nil _ _)
  rw [h2 rfl] at h5
  exact run_of_next h5
theorem runPart_arr {t k e : Nat} (hk : (tys t).k = .arr k e) (L : List Int) (off : Nat) (h : off + (tys t).size ≤ L.length) (w : World) : (part t (ints L) off).run Try.prog w = .ok (.agg (ints ((L.drop off).take (tys t).size))) w := by
  obtain ⟨v, x, _, h2, h3, h4⟩ := part_sound (B := fun _ => 0) (H := []) (n := 0) (κ := fun v _ _ => v = .arr ((L.drop off).take (tys t).size)) tys_ok (t := t) (L := L) (off := off) (by unfold partVC; rw [hk]; all_goals exact ⟨h, rfl⟩)
  subst h3
  have h5 := h4 w (HR.nil _ _)
  rw [h2 rfl] at h5
  exact run_of_next h5
/-- Equality at a type, at every depth from some depth on. -/
def EqA (D : Nat) (t : TypeId) (s : Nat) : Prop := ∀ d, D ≤ d → ∀ (L M : List Int), L.length = s → M.length = s → ∀ w, (Op.equalIn d t (.agg (ints L)) (.agg (ints M))).run Try.prog w = .ok (decide (L = M)) w
theorem take_split (L : List Int) (c k : Nat) : L.take ((k + 1) * c) = L.take c ++ (L.drop c).take (k * c) := by
  rw [show (k + 1) * c = c + k * c by rw [Nat.add_mul, Nat.one_mul, Nat.add_comm], List.take_add]
theorem items_run {d : Nat} {e : TypeId} {c : Nat} (L M : List Int) (hst : ∀ a, (a + 1) * c ≤ L.length → (a + 1) * c ≤ M.length → ∀ w, ∃ x y, (part e (ints L) (a * c)).run Try.prog w = .ok x w ∧ (part e (ints M) (a * c)).run Try.prog w = .ok y w ∧
      (Op.equalIn d e x y).run Try.prog w = .ok (decide ((L.drop (a * c)).take c = (M.drop (a * c)).take c)) w) :
    ∀ (k a : Nat), (a + k) * c ≤ L.length → (a + k) * c ≤ M.length → ∀ w, (Op.eqItems d e c (ints L) (ints M) (List.range' a k)).run Try.prog w = .ok (decide ((L.drop (a * c)).take (k * c) = (M.drop (a * c)).take (k * c))) w
  | 0, a, _, _, w => by simp [Op.eqItems]
  | k + 1, a, h1, h2, w => by
    have le : (a + 1) * c ≤ (a + (k + 1)) * c := Nat.mul_le_mul_right c (by omega)
    obtain ⟨x, y, p1, p2, p3⟩ := hst a (by omega) (by omega) w
    have ih := items_run L M hst k (a + 1) (by rw [show a + 1 + k = a + (k + 1) by omega]; exact h1) (by rw [show a + 1 + k = a + (k + 1) by omega]; exact h2) w
    have hac : (a + 1) * c = a * c + c := by rw [Nat.add_mul, Nat.one_mul]
    have hkc : (a + (k + 1)) * c = a * c + c + k * c := by rw [Nat.add_mul, Nat.add_mul, Nat.one_mul]; omega
    rw [List.range'_succ]
    simp only [Op.eqItems, Sem.run_bind, p1, p2, p3, Result.andThen_ok]
    rw [take_split, take_split, List.drop_drop, List.drop_drop, ← hac]
    by_cases hd : (L.drop (a * c)).take c = (M.drop (a * c)).take c
    · simp only [hd, decide_true, Bool.not_true, Bool.false_eq_true, if_false]
      rw [ih]
      simp
    · have : ¬ ((L.drop (a * c)).take c ++ (L.drop ((a + 1) * c)).take (k * c) = (M.drop (a * c)).take c ++ (M.drop ((a + 1) * c)).take (k * c)) := fun h => hd (List.append_inj_left h (by rw [List.length_take, List.length_take, List.length_drop, List.length_drop]; omega))
      simp [hd, this]
theorem eqA_ints {t e n : Nat} {i : TypeInfo} (hu : Try.prog.underlying t = some (.array n e)) (hi : Try.prog.info? e = some i) (hc : Try.prog.cellsOf e = 1) (hk : (tys e).k = .int) (hue : Try.prog.underlying e = some (.int .i64)) : EqA 2 t n := by
  intro d hd L M hL hM w
  obtain ⟨d, rfl⟩ : ∃ d', d = d' + 1 + 1 := ⟨d - 2, by omega⟩
  rw [run_equalIn_array w (d + 1) (ints L) (ints M) hu hi, hc, List.range_eq_range', items_run L M (fun a h1 h2 w => ⟨_, _, runPart_int hk L (a * 1) (by omega) w, runPart_int hk M (a * 1) (by omega) w, ?_⟩) n 0 (by omega) (by omega) w]
  · simp [List.take_of_length_le, hL, hM]
  · rw [run_equalIn_int w d e .i64 .i64 _ _ hue]
    have one : ∀ N : List Int, a * 1 < N.length → (N.drop (a * 1)).take 1 = [N.getD (a * 1) 0] := fun N h => by
      rw [List.drop_eq_getElem_cons h, List.take_succ_cons, List.take_zero]
      simp only [List.getD, List.getElem?_eq_getElem h, Option.getD_some]
    rw [one L (by omega), one M (by omega)]
    have : (L.getD (a * 1) 0 == M.getD (a * 1) 0) = decide ([L.getD (a * 1) 0] = [M.getD (a * 1) 0]) := by
      simp only [List.cons.injEq, and_true]
      rfl
    rw [this]
theorem eqA_arr {t e n c D k e' : Nat} {i : TypeInfo} (hu : Try.prog.underlying t = some (.array n e)) (hi : Try.prog.info? e = some i) (hc : Try.prog.cellsOf e = c) (hs : (tys e).size = c) (hk : (tys e).k = .arr k e') (he : EqA D e c) : EqA (D + 1) t (n * c) := by
  intro d hd L M hL hM w
  obtain ⟨d, rfl⟩ : ∃ d', d = d' + 1 := ⟨d - 1, by omega⟩
  have mul1 : ∀ a, (a + 1) * c = a * c + c := fun a => by rw [Nat.add_mul, Nat.one_mul]
  rw [run_equalIn_array w d (ints L) (ints M) hu hi, hc, List.range_eq_range', items_run L M (fun a h1 h2 w => ⟨_, _, runPart_arr hk L (a * c) (by rw [hs]; have := mul1 a; omega) w, runPart_arr hk M (a * c) (by rw [hs]; have := mul1 a; omega) w, ?_⟩) n 0 (by rw [Nat.zero_add]; omega) (by rw [Nat.zero_add]; omega) w]
  · simp [List.take_of_length_le, hL, hM]
  · rw [hs]
    exact he d (by omega) _ _ (by rw [List.length_take, List.length_drop]; have := mul1 a; omega) (by rw [List.length_take, List.length_drop]; have := mul1 a; omega) w
theorem eqA_one {t e c D k e' : Nat} {f : Field} (hu : Try.prog.underlying t = some (.struct #[f])) (hf : f.name ≠ "_") (hft : f.type = e) (hfo : f.offset = 0) (hs : (tys e).size = c) (hk : (tys e).k = .arr k e') (hp : Try.prog.stoodInHeld t = false) (he : EqA D e c) : EqA (D + 1) t c := by
  intro d hd L M hL hM w
  obtain ⟨d, rfl⟩ : ∃ d', d = d' + 1 := ⟨d - 1, by omega⟩
  have hfs : Try.prog.fieldsOf t = #[f] := by simp [Program.fieldsOf, hu]
  rw [run_equalIn_struct w d t (ints L) (ints M) (by rw [hfs]; exact hu) hp, hfs]
  have p1 := runPart_arr hk L 0 (by omega) w
  have p2 := runPart_arr hk M 0 (by omega) w
  rw [hs, List.drop_zero, List.take_of_length_le (by omega)] at p1 p2
  have h3 := he d (by omega) L M hL hM w
  simp only [Op.eqFields, if_pos hf, hft, hfo, Sem.run_bind, p1, p2, h3, Result.andThen_ok]
  by_cases hx : L = M
  · simp [hx]
  · simp [hx]
theorem eqI_of {t s D : Nat} (hD : D ≤ 10000) (h : EqA D t s) (hg : Try.prog.eqGuardType Try.prog.depth t = false) : EqI Try.prog t s := by
  intro L M hL hM w
  refine ⟨fun x y => ?_, fun x y => ?_, h 10000 hD L M hL hM w⟩
  · simp [eqGuard, hg]
  · simp [eqGuard, hg]
theorem eqA_A4 : EqA 2 24 4 := eqA_ints (i := (Try.prog.info? 3).getD default) Try.underlying24 (by kernel_rfl) (by kernel_rfl) rfl Try.underlying3
theorem eqA_A64 : EqA 3 25 24 := eqA_arr (c := 4) (i := (Try.prog.info? 24).getD default) Try.underlying25 (by kernel_rfl) (by kernel_rfl) rfl rfl eqA_A4
theorem eqI_rack : EqI Try.prog 27 24 := eqI_of (by omega) (eqA_one Try.underlying27 (by decide) rfl rfl rfl rfl (by kernel_rfl) eqA_A64) (by kernel_rfl)
/-! Keys of maps. -/
def KeyA (D : Nat) (t s : Nat) : Prop := ∀ d, D ≤ d → ∀ L : List Int, L.length = s → ∀ em w, (Instr.checkKey em d t (.agg (ints L))).run Try.prog w = .ok () w
theorem keyA_ints {t e n : Nat} {i : TypeInfo} (hu : Try.prog.underlying t = some (.array n e)) (hi : Try.prog.info? e = some i) (hc : Try.prog.cellsOf e = 1) (hk : (tys e).k = .int) (hue : Try.prog.underlying e = some (.int .i64)) : KeyA 2 t n := by
  intro d hd L hL em w
  obtain ⟨d, rfl⟩ : ∃ d', d = d' + 1 + 1 := ⟨d - 2, by omega⟩
  rw [Instr.checkKey]
  simp only [Sem.run_bind, run_underlying hu, Result.andThen_ok]
  simp only [Std.Legacy.Range.forIn_eq_forIn_range', Std.Legacy.Range.size, Nat.sub_zero, Nat.add_one_sub_one, Nat.div_one]
  have each : ∀ j ∈ List.range' 0 n, j < L.length := fun j hj => by
    rw [List.mem_range'] at hj; omega
  generalize List.range' 0 n = is at each
  induction is with
  | nil => simp
  | cons j is ih =>
    have hj := each j (List.mem_cons_self ..)
    have p1 := runPart_int hk L (j * 1) (by omega) w
    have p2 : ∀ x : Int, (Instr.checkKey em (d + 1) e (.int .i64 x)).run Try.prog w = .ok () w := fun x => by
      unfold Instr.checkKey
      simp [run_underlying hue]
    simp only [List.forIn_cons, Sem.run_bind, run_sizeOf w hi, Result.andThen_ok, hc, p1, p2, Sem.run_pure]
    exact ih (fun y hy => each y (List.mem_cons_of_mem _ hy))
theorem keyA_arr {t e n c D k e' : Nat} {i : TypeInfo} (hu : Try.prog.underlying t = some (.array n e)) (hi : Try.prog.info? e = some i) (hc : Try.prog.cellsOf e = c) (hs : (tys e).size = c) (hk : (tys e).k = .arr k e') (he : KeyA D e c) : KeyA (D + 1) t (n * c) := by
  intro d hd L hL em w
  obtain ⟨d, rfl⟩ : ∃ d', d = d' + 1 := ⟨d - 1, by omega⟩
  rw [Instr.checkKey]
  simp only [Sem.run_bind, run_underlying hu, Result.andThen_ok]
  simp only [Std.Legacy.Range.forIn_eq_forIn_range', Std.Legacy.Range.size, Nat.sub_zero, Nat.add_one_sub_one, Nat.div_one]
  have each : ∀ j ∈ List.range' 0 n, j * c + c ≤ L.length := fun j hj => by
    have hjn : j + 1 ≤ n := by rw [List.mem_range'] at hj; omega
    have := Nat.mul_le_mul_right c hjn
    rw [Nat.add_mul, Nat.one_mul] at this
    omega
  generalize List.range' 0 n = is at each
  induction is with
  | nil => simp
  | cons j is ih =>
    have hj := each j (List.mem_cons_self ..)
    have p1 := runPart_arr hk L (j * c) (by rw [hs]; exact hj) w
    rw [hs] at p1
    have p2 := he d (by omega) ((L.drop (j * c)).take c) (by rw [List.length_take, List.length_drop]; omega) em w
    simp only [List.forIn_cons, Sem.run_bind, run_sizeOf w hi, Result.andThen_ok, hc, p1, p2, Sem.run_pure]
    exact ih (fun y hy => each y (List.mem_cons_of_mem _ hy))
theorem keyA_one {t e c D k e' : Nat} {f : Field} (hu : Try.prog.underlying t = some (.struct #[f])) (hf : f.name ≠ "_") (hft : f.type = e) (hfo : f.offset = 0) (hs : (tys e).size = c) (hk : (tys e).k = .arr k e') (he : KeyA D e c) : KeyA (D + 1) t c := by
  intro d hd L hL em w
  obtain ⟨d, rfl⟩ : ∃ d', d = d' + 1 := ⟨d - 1, by omega⟩
  rw [Instr.checkKey]
  have p1 := runPart_arr hk L 0 (by omega) w
  rw [hs, List.drop_zero, List.take_of_length_le (by omega)] at p1
  have p2 := he d (by omega) L hL em w
  simp only [Sem.run_bind, run_underlying hu, Result.andThen_ok]
  rw [← Array.forIn_toList]
  simp only [List.forIn_cons, List.forIn_nil, Sem.run_bind, hf, ne_eq, not_false_eq_true, if_true, hft, hfo, p1, p2, Result.andThen_ok, Sem.run_pure]
theorem keyA_A4 : KeyA 2 24 4 := keyA_ints (i := (Try.prog.info? 3).getD default) Try.underlying24 (by kernel_rfl) (by kernel_rfl) rfl Try.underlying3
theorem keyA_A64 : KeyA 3 25 24 := keyA_arr (c := 4) (i := (Try.prog.info? 24).getD default) Try.underlying25 (by kernel_rfl) (by kernel_rfl) rfl rfl keyA_A4
theorem keyA_rack : KeyA 4 27 24 := keyA_one Try.underlying27 (by decide) rfl rfl rfl rfl keyA_A64
theorem keyI_rack : KeyI Try.prog 27 24 := ⟨by rw [Try.underlying27], eqI_rack, fun L hL em w => keyA_rack 10000 (by omega) L hL em w⟩
end Go.Proofs.Ytopfnkmlgcjpbaa
/- Walks: what the laws of pours do with lists of pairs. -/
set_option maxRecDepth 100000
set_option linter.unusedSimpArgs false
set_option linter.unusedVariables false
namespace Go.Proofs.Ytopfnkmlgcjpbaa
open Go Go.RowKit
theorem eqI_p2 : EqI Try.prog 44 2 := eqI_of (D := 2) (by omega) (eqA_ints (i := (Try.prog.info? 3).getD default) Try.underlying44 (by kernel_rfl) (by kernel_rfl) rfl Try.underlying3) (by kernel_rfl)
--@tbl rPairs = laws.rPairs
--@tbl rIn = laws.rIn
--@tbl rPart = laws.rPart
theorem rPairs_ok (L1 L2 : List Int) (e1 e2 c1 c2 m : Nat) (h1 : m * 2 ≤ L1.length) (h2 : m * 2 ≤ L2.length) (h : L1.take (m * 2) = L2.take (m * 2)) (hm : m ≤ 4611686018427387903) :
    PureH Try.prog 12 [.slice 0 0 m c1, .slice 1 0 m c2] [(0, .ints L1 e1), (1, .ints L2 e2)] (.bool true) := by
  refine pure_of_vc (X := ⟨Try.prog, tys, [], [], true, true, 2, [], []⟩) fn_12 ⟨tys_ok, .nil, .nil, mixed⟩ (n0 := 2) (Nat.le_of_ble_eq_true rfl) (by simp [wfL, SV.wf]) (wfH_spec (by simp [wfH, SObj.wf])) (Nat.le_refl _) (fun _ => by simp [SV.wf, wfL]) ?_
  simp -implicitDefEqProofs only [Try.f12, Option.getD_some, argS, ZB, Int.reduceToNat, Nat.reduceLT, Nat.reduceLeDiff, Int.reduceLE, Int.reduceLT, Nat.reduceEqDiff, Nat.reduceSub, SB, SV.known, packR, ne_eq, reduceCtorEq, Nat.reduceEqDiff, ↓reduceIte, if_true, if_false, eq_self, Nat.reduceAdd, Nat.reduceMul, Nat.reduceSub, forall_const, oneCellS, litOne, flat1, Kd.isSca, flat, TYB]
  refine loop_intro (fun i : Nat => [(5, .int i), (0, .slice 0 0 m c1), (1, .slice 1 0 m c2)]) (fun _ => [(0, .ints L1 e1), (1, .ints L2 e2)]) 2 (fun i => i ≤ m) (fun i => m - i) ?_ ?_
  · refine ⟨0, ?_, Sub.mk_id ?_ ?_ ?_ ?_ ?_⟩
    all_goals (try (simp only [LB, subS, subH, wfS, wfH, SV.ren, renL, SObj.ren, SV.wf, SObj.wf, wfL, SV.known, Nat.reduceEqDiff, ↓reduceIte, if_true, if_false, eq_self, Nat.reduceAdd, Nat.reduceLT, Nat.reduceLeDiff, implies_true, reduceCtorEq, forall_const]; done))
    all_goals (try (simp only [LB, subS, subH, wfS, wfH, SV.ren, renL, SObj.ren, SV.wf, SObj.wf, wfL, SV.known, Nat.reduceEqDiff, ↓reduceIte, if_true, if_false, eq_self, Nat.reduceAdd, Nat.reduceLT, Nat.reduceLeDiff, implies_true, reduceCtorEq, forall_const]; simp; done))
    all_goals (try (simp only [LB, subS, subH, wfS, wfH, SV.ren, renL, SObj.ren, SV.wf, SObj.wf, wfL, SV.known, Nat.reduceEqDiff, ↓reduceIte, if_true, if_false, eq_self, Nat.reduceAdd, Nat.reduceLT, Nat.reduceLeDiff, implies_true, reduceCtorEq, forall_const]; (and_intros <;> (first | omega | rfl | (simp; done) | (simp; omega))); done))
    all_goals (try dsimp only)
    all_goals (and_intros <;> try (first | omega | (unfold In64; omega) | trivial | assumption))
  · intro i hi
    by_cases hlt : i < m
    · have hil : (i : Int) < m := by omega
      have ee : (L1.drop (i * 2)).take 2 = (L2.drop (i * 2)).take 2 := by
        have := congrArg (fun l => (List.drop (i * 2) l).take 2) h
        simp only [List.drop_take, List.take_take] at this
        rw [Nat.min_eq_left (by omega)] at this
        exact this
      have l2 : ((L2.drop (i * 2)).take 2).length = 2 := by rw [List.length_take, List.length_drop]; omega
      simp -implicitDefEqProofs only [lk_normal, hil, ee, l2, eqI_p2, ZB, Int.reduceToNat, Nat.reduceLT, Nat.reduceLeDiff, Int.reduceLE, Int.reduceLT, Nat.reduceEqDiff, Nat.reduceSub, SB, SV.known, packR, ne_eq, reduceCtorEq, Nat.reduceEqDiff, ↓reduceIte, if_true, if_false, eq_self, Nat.reduceAdd, Nat.reduceMul, Nat.reduceSub, forall_const, oneCellS, litOne, flat1, Kd.isSca, flat, TYB]
      (try (and_intros <;> try (first | omega | (unfold In64; omega) | trivial | assumption)))
      refine ⟨i + 1, ?_, ?_, Sub.mk_id ?_ ?_ ?_ ?_ ?_⟩
      all_goals (try (simp only [LB, subS, subH, wfS, wfH, SV.ren, renL, SObj.ren, SV.wf, SObj.wf, wfL, SV.known, Nat.reduceEqDiff, ↓reduceIte, if_true, if_false, eq_self, Nat.reduceAdd, Nat.reduceLT, Nat.reduceLeDiff, implies_true, reduceCtorEq, forall_const]; done))
      all_goals (try (simp only [LB, subS, subH, wfS, wfH, SV.ren, renL, SObj.ren, SV.wf, SObj.wf, wfL, SV.known, Nat.reduceEqDiff, ↓reduceIte, if_true, if_false, eq_self, Nat.reduceAdd, Nat.reduceLT, Nat.reduceLeDiff, implies_true, reduceCtorEq, forall_const]; simp; done))
      all_goals (try (simp only [LB, subS, subH, wfS, wfH, SV.ren, renL, SObj.ren, SV.wf, SObj.wf, wfL, SV.known, Nat.reduceEqDiff, ↓reduceIte, if_true, if_false, eq_self, Nat.reduceAdd, Nat.reduceLT, Nat.reduceLeDiff, implies_true, reduceCtorEq, forall_const]; (and_intros <;> (first | omega | rfl | (simp; done) | (simp; omega))); done))
      all_goals (try dsimp only)
      all_goals (and_intros <;> try (first | omega | (unfold In64; omega) | trivial | assumption))
    · have hil : ¬ (i : Int) < m := by omega
      simp -implicitDefEqProofs only [lk_normal, hil, ZB, Int.reduceToNat, Nat.reduceLT, Nat.reduceLeDiff, Int.reduceLE, Int.reduceLT, Nat.reduceEqDiff, Nat.reduceSub, SB, SV.known, packR, ne_eq, reduceCtorEq, Nat.reduceEqDiff, ↓reduceIte, if_true, if_false, eq_self, Nat.reduceAdd, Nat.reduceMul, Nat.reduceSub, forall_const, oneCellS, litOne, flat1, Kd.isSca, flat, TYB]
theorem rIn_ok (L p : List Int) (e c m : Nat) (h1 : m * 2 ≤ L.length) (hp : p.length = 2) (hm : m ≤ 4611686018427387903) :
    PureH Try.prog 113 [.slice 0 0 m c, .arr p] [(0, .ints L e)] (.bool (inP L m p)) := by
  have tkp : p.take 2 = p := List.take_of_length_le (by omega)
  refine pure_of_vc (X := ⟨Try.prog, tys, [], [], true, true, 1, [], []⟩) fn_113 ⟨tys_ok, .nil, .nil, mixed⟩ (n0 := 1) (Nat.le_of_ble_eq_true rfl) (by simp [wfL, SV.wf]) (wfH_spec (by simp [wfH, SObj.wf])) (Nat.le_refl _) (fun _ => by simp [SV.wf, wfL]) ?_
  simp -implicitDefEqProofs only [Try.f113, Option.getD_some, argS, hp, tkp, ZB, Int.reduceToNat, Nat.reduceLT, Nat.reduceLeDiff, Int.reduceLE, Int.reduceLT, Nat.reduceEqDiff, Nat.reduceSub, SB, SV.known, packR, ne_eq, reduceCtorEq, Nat.reduceEqDiff, ↓reduceIte, if_true, if_false, eq_self, Nat.reduceAdd, Nat.reduceMul, Nat.reduceSub, forall_const, oneCellS, litOne, flat1, Kd.isSca, flat, TYB]
  refine loop_intro (fun i : Nat => [(5, .int i), (3, .ptr 1 0), (0, .slice 0 0 m c)]) (fun _ => [(1, .ints p 44), (0, .ints L e)]) 2 (fun i => i ≤ m ∧ ∀ j, j < i → (L.drop (j * 2)).take 2 ≠ p) (fun i => m - i) ?_ ?_
  · refine ⟨0, ⟨Nat.zero_le _, fun j hj => absurd hj (by omega)⟩, ?_⟩
    refine Sub.mk_id ?_ ?_ ?_ ?_ ?_
    all_goals ((try simp only [LB, subS, subH, wfS, wfH, SV.ren, renL, SObj.ren, SV.wf, SObj.wf, wfL, SV.known, Nat.reduceEqDiff, ↓reduceIte, if_true, if_false, eq_self, Nat.reduceAdd, Nat.reduceLT, Nat.reduceLeDiff, implies_true, reduceCtorEq, forall_const]) <;> simp)
  · rintro i ⟨hi, hno⟩
    by_cases hlt : i < m
    · have hil : (i : Int) < m := by omega
      have l2 : ((L.drop (i * 2)).take 2).length = 2 := by rw [List.length_take, List.length_drop]; omega
      have hL : i * 2 + 2 ≤ L.length := by omega
      have tkx : ((L.drop (i * 2)).take 2).take 2 = (L.drop (i * 2)).take 2 := List.take_of_length_le (by omega)
      have hyes := inP_of (L := L) (p := p) hlt
      have hnx : (L.drop (i * 2)).take 2 ≠ p → ∀ j, j < i + 1 → (L.drop (j * 2)).take 2 ≠ p := fun h j hj => by
        by_cases hji : j = i
        · subst hji; exact h
        · exact hno j (by omega)
      simp -implicitDefEqProofs only [lk_normal, hil, l2, hp, tkp, hL, eqI_p2, ZB, Int.reduceToNat, Nat.reduceLT, Nat.reduceLeDiff, Int.reduceLE, Int.reduceLT, Nat.reduceEqDiff, Nat.reduceSub, SB, SV.known, packR, ne_eq, reduceCtorEq, Nat.reduceEqDiff, ↓reduceIte, if_true, if_false, eq_self, Nat.reduceAdd, Nat.reduceMul, Nat.reduceSub, forall_const, oneCellS, litOne, flat1, Kd.isSca, flat, TYB]
      refine ⟨by omega, fun h => (hyes h).symm, fun h => ⟨by unfold In64; omega, i + 1, ⟨by omega, hnx h⟩, by omega, Sub.mk_id ?_ ?_ ?_ ?_ ?_⟩⟩
      all_goals ((try simp only [LB, subS, subH, wfS, wfH, SV.ren, renL, SObj.ren, SV.wf, SObj.wf, wfL, SV.known, Nat.reduceEqDiff, ↓reduceIte, if_true, if_false, eq_self, Nat.reduceAdd, Nat.reduceLT, Nat.reduceLeDiff, implies_true, reduceCtorEq, forall_const]) <;> simp)
    · have hil : ¬ (i : Int) < m := by omega
      obtain rfl : i = m := by omega
      simp -implicitDefEqProofs only [lk_normal, hil, inP_not hno, ZB, Int.reduceToNat, Nat.reduceLT, Nat.reduceLeDiff, Int.reduceLE, Int.reduceLT, Nat.reduceEqDiff, Nat.reduceSub, SB, SV.known, packR, ne_eq, reduceCtorEq, Nat.reduceEqDiff, ↓reduceIte, if_true, if_false, eq_self, Nat.reduceAdd, Nat.reduceMul, Nat.reduceSub, forall_const, oneCellS, litOne, flat1, Kd.isSca, flat, TYB]
theorem rIn_nil (p : List Int) (H : Heap) (hp : p.length = 2) : PureH Try.prog 113 [.nils, .arr p] H (.bool false) := by
  refine PureH.any ?_ H
  have tkp : p.take 2 = p := List.take_of_length_le (by omega)
  refine pure_of_vc (X := ⟨Try.prog, tys, [], [], true, true, 0, [], []⟩) fn_113 ⟨tys_ok, .nil, .nil, mixed⟩ (n0 := 0) (Nat.le_of_ble_eq_true rfl) (by simp [wfL, SV.wf]) (wfH_spec (by simp [wfH, SObj.wf])) (Nat.le_refl _) (fun _ => by simp [SV.wf, wfL]) ?_
  simp -implicitDefEqProofs only [Try.f113, Option.getD_some, argS, hp, tkp, ZB, Int.reduceToNat, Nat.reduceLT, Nat.reduceLeDiff, Int.reduceLE, Int.reduceLT, Nat.reduceEqDiff, Nat.reduceSub, SB, SV.known, packR, ne_eq, reduceCtorEq, Nat.reduceEqDiff, ↓reduceIte, if_true, if_false, eq_self, Nat.reduceAdd, Nat.reduceMul, Nat.reduceSub, forall_const, oneCellS, litOne, flat1, Kd.isSca, flat, TYB]
  refine loop_intro (fun i : Nat => [(5, .int 0), (3, .ptr 0 0), (0, .nils)]) (fun _ => [(0, .ints p 44)]) 1 (fun i => True) (fun i => 0) ?_ ?_
  · refine ⟨0, trivial, Sub.mk_id ?_ ?_ ?_ ?_ ?_⟩
    all_goals ((try simp only [LB, subS, subH, wfS, wfH, SV.ren, renL, SObj.ren, SV.wf, SObj.wf, wfL, SV.known, Nat.reduceEqDiff, ↓reduceIte, if_true, if_false, eq_self, Nat.reduceAdd, Nat.reduceLT, Nat.reduceLeDiff, implies_true, reduceCtorEq, forall_const]) <;> simp)
  · intro i hi
    simp -implicitDefEqProofs only [lk_normal, ZB, Int.reduceToNat, Nat.reduceLT, Nat.reduceLeDiff, Int.reduceLE, Int.reduceLT, Nat.reduceEqDiff, Nat.reduceSub, SB, SV.known, packR, ne_eq, reduceCtorEq, Nat.reduceEqDiff, ↓reduceIte, if_true, if_false, eq_self, Nat.reduceAdd, Nat.reduceMul, Nat.reduceSub, forall_const, oneCellS, litOne, flat1, Kd.isSca, flat, TYB]
def rIn_F : List SV → Heap → Option (Prop × SV)
  | [.slice a 0 m _, .arr p], H => match hget H a with
    | some (.ints L _) => some (m * 2 ≤ L.length ∧ p.length = 2 ∧ m ≤ 4611686018427387903, .bool (inP L m p))
    | _ => none
  | [.nils, .arr p], _ => some (p.length = 2, .bool false)
  | _, _ => none
theorem rIn_T : ∀ args H p v, rIn_F args H = some (p, v) → p → PureH Try.prog 113 args H v := by
  intro args H p v h hp
  unfold rIn_F at h
  split at h
  · rename_i a m c q
    split at h
    · rename_i L e g
      cases h
      exact one_block (rIn_ok L q e c m hp.1 hp.2.1 hp.2.2) g rfl (fun _ => trivial)
    · cases h
  · cases h
    exact rIn_nil _ H hp
  · cases h
theorem rPairs_ns (L2 : List Int) (e2 c2 : Nat) : PureH Try.prog 12 [.nils, .slice 0 0 0 c2] [(0, .ints L2 e2)] (.bool true) := by
  refine pure_of_vc (X := ⟨Try.prog, tys, [], [], true, true, 1, [], []⟩) fn_12 ⟨tys_ok, .nil, .nil, mixed⟩ (n0 := 1) (Nat.le_of_ble_eq_true rfl) (by simp [wfL, SV.wf]) (wfH_spec (by simp [wfH, SObj.wf])) (Nat.le_refl _) (fun _ => by simp [SV.wf, wfL]) ?_
  simp -implicitDefEqProofs only [Try.f12, Option.getD_some, argS, ZB, Int.reduceToNat, Nat.reduceLT, Nat.reduceLeDiff, Int.reduceLE, Int.reduceLT, Nat.reduceEqDiff, Nat.reduceSub, SB, SV.known, packR, ne_eq, reduceCtorEq, Nat.reduceEqDiff, ↓reduceIte, if_true, if_false, eq_self, Nat.reduceAdd, Nat.reduceMul, Nat.reduceSub, forall_const, oneCellS, litOne, flat1, Kd.isSca, flat, TYB]
  refine loop_intro (fun i : Nat => [(5, .int 0), (0, .nils), (1, .slice 0 0 0 c2)]) (fun _ => [(0, .ints L2 e2)]) 1 (fun i => True) (fun i => 0) ?_ ?_
  · refine ⟨0, ?_, Sub.mk_id ?_ ?_ ?_ ?_ ?_⟩
    all_goals (try (simp only [LB, subS, subH, wfS, wfH, SV.ren, renL, SObj.ren, SV.wf, SObj.wf, wfL, SV.known, Nat.reduceEqDiff, ↓reduceIte, if_true, if_false, eq_self, Nat.reduceAdd, Nat.reduceLT, Nat.reduceLeDiff, implies_true, reduceCtorEq, forall_const]; done))
    all_goals (try (simp only [LB, subS, subH, wfS, wfH, SV.ren, renL, SObj.ren, SV.wf, SObj.wf, wfL, SV.known, Nat.reduceEqDiff, ↓reduceIte, if_true, if_false, eq_self, Nat.reduceAdd, Nat.reduceLT, Nat.reduceLeDiff, implies_true, reduceCtorEq, forall_const]; simp; done))
    all_goals (try (simp only [LB, subS, subH, wfS, wfH, SV.ren, renL, SObj.ren, SV.wf, SObj.wf, wfL, SV.known, Nat.reduceEqDiff, ↓reduceIte, if_true, if_false, eq_self, Nat.reduceAdd, Nat.reduceLT, Nat.reduceLeDiff, implies_true, reduceCtorEq, forall_const]; (and_intros <;> (first | omega | rfl | (simp; done) | (simp; omega))); done))
    all_goals (try dsimp only)
    all_goals (and_intros <;> try (first | omega | (unfold In64; omega) | trivial | assumption))
  · intro i hi
    simp -implicitDefEqProofs only [lk_normal, ZB, Int.reduceToNat, Nat.reduceLT, Nat.reduceLeDiff, Int.reduceLE, Int.reduceLT, Nat.reduceEqDiff, Nat.reduceSub, SB, SV.known, packR, ne_eq, reduceCtorEq, Nat.reduceEqDiff, ↓reduceIte, if_true, if_false, eq_self, Nat.reduceAdd, Nat.reduceMul, Nat.reduceSub, forall_const, oneCellS, litOne, flat1, Kd.isSca, flat, TYB]
def rPairs_F : List SV → Heap → Option (Prop × SV)
  | [.slice a 0 l1 _, .slice b 0 l2 _], H => match hget H a, hget H b with
    | some (.ints L1 _), some (.ints L2 _) => some (a ≠ b ∧ l1 = l2 ∧ l1 * 2 ≤ L1.length ∧ l2 * 2 ≤ L2.length ∧ L1.take (l1 * 2) = L2.take (l2 * 2) ∧ l1 ≤ 4611686018427387903, .bool true)
    | _, _ => none
  | [.nils, .slice b 0 l2 _], H => match hget H b with
    | some (.ints _ _) => some (l2 = 0, .bool true)
    | _ => none
  | _, _ => none
theorem rPairs_T : ∀ args H p v, rPairs_F args H = some (p, v) → p → PureH Try.prog 12 args H v := by
  intro args H p v h hp
  unfold rPairs_F at h
  split at h
  · rename_i a l1 c1 b l2 c2
    split at h
    · rename_i L1 e1 L2 e2 g1 g2
      cases h
      obtain ⟨hab, rfl, q1, q2, q3, q4⟩ := hp
      have := (rPairs_ok L1 L2 e1 e2 c1 c2 l1 q1 q2 q3 q4).sub (H := H) (fun j => if j = 0 then a else b) (fun j o hj => by
        simp only [hget_cons] at hj
        split at hj
        · rename_i hj0; cases hj; refine ⟨?_, fun _ => by omega, by simp [hj0]⟩; show hget H (if j = 0 then a else b) = _; rw [if_pos hj0]; exact g1
        · rename_i hj0
          split at hj
          · rename_i hj1; cases hj; refine ⟨?_, fun _ => by omega, by simp [hj1]⟩; show hget H (if j = 0 then a else b) = _; rw [if_neg hj0]; exact g2
          · cases hj) (fun x hx y hy he => by
        simp at hx hy
        rcases hx with rfl | rfl <;> rcases hy with rfl | rfl <;> simp at he <;> omega) (fun _ => trivial)
      simpa [renL, SV.ren] using this
    · cases h
  · rename_i b l2 c2
    split at h
    · rename_i L2 e2 g2
      cases h
      subst hp
      exact one_block (rPairs_ns L2 e2 c2) g2 rfl (fun _ => trivial)
    · cases h
  · cases h
theorem rPart_ok (L1 L2 : List Int) (e1 e2 c1 c2 m1 m2 : Nat) (h1 : m1 * 2 ≤ L1.length) (h2 : m2 * 2 ≤ L2.length) (h : ∀ i, i < m1 → inP L2 m2 ((L1.drop (i * 2)).take 2) = true) (hm : m1 ≤ 4611686018427387903 ∧ m2 ≤ 4611686018427387903) :
    PureH Try.prog 42 [.slice 0 0 m1 c1, .slice 1 0 m2 c2] [(0, .ints L1 e1), (1, .ints L2 e2)] (.bool true) := by
  refine pure_of_vc (X := ⟨Try.prog, tys, [(113, rIn_F)], [], true, true, 2, [], []⟩) fn_42 ⟨tys_ok, (.cons rIn_T .nil), .nil, mixed⟩ (n0 := 2) (Nat.le_of_ble_eq_true rfl) (by simp [wfL, SV.wf]) (wfH_spec (by simp [wfH, SObj.wf])) (Nat.le_refl _) (fun _ => by simp [SV.wf, wfL]) ?_
  simp -implicitDefEqProofs only [Try.f42, Option.getD_some, argS, rIn_F, ZB, Int.reduceToNat, Nat.reduceLT, Nat.reduceLeDiff, Int.reduceLE, Int.reduceLT, Nat.reduceEqDiff, Nat.reduceSub, SB, SV.known, packR, ne_eq, reduceCtorEq, Nat.reduceEqDiff, ↓reduceIte, if_true, if_false, eq_self, Nat.reduceAdd, Nat.reduceMul, Nat.reduceSub, forall_const, oneCellS, litOne, flat1, Kd.isSca, flat, TYB]
  refine loop_intro (fun i : Nat => [(5, .int i), (0, .slice 0 0 m1 c1), (1, .slice 1 0 m2 c2)]) (fun _ => [(0, .ints L1 e1), (1, .ints L2 e2)]) 2 (fun i => i ≤ m1) (fun i => m1 - i) ?_ ?_
  · refine ⟨0, ?_, Sub.mk_id ?_ ?_ ?_ ?_ ?_⟩
    all_goals (try (simp only [LB, subS, subH, wfS, wfH, SV.ren, renL, SObj.ren, SV.wf, SObj.wf, wfL, SV.known, Nat.reduceEqDiff, ↓reduceIte, if_true, if_false, eq_self, Nat.reduceAdd, Nat.reduceLT, Nat.reduceLeDiff, implies_true, reduceCtorEq, forall_const]; done))
    all_goals (try (simp only [LB, subS, subH, wfS, wfH, SV.ren, renL, SObj.ren, SV.wf, SObj.wf, wfL, SV.known, Nat.reduceEqDiff, ↓reduceIte, if_true, if_false, eq_self, Nat.reduceAdd, Nat.reduceLT, Nat.reduceLeDiff, implies_true, reduceCtorEq, forall_const]; simp; done))
    all_goals (try (simp only [LB, subS, subH, wfS, wfH, SV.ren, renL, SObj.ren, SV.wf, SObj.wf, wfL, SV.known, Nat.reduceEqDiff, ↓reduceIte, if_true, if_false, eq_self, Nat.reduceAdd, Nat.reduceLT, Nat.reduceLeDiff, implies_true, reduceCtorEq, forall_const]; (and_intros <;> (first | omega | rfl | (simp; done) | (simp; omega))); done))
    all_goals (try dsimp only)
    all_goals (and_intros <;> try (first | omega | (unfold In64; omega) | trivial | assumption))
  · intro i hi
    by_cases hlt : i < m1
    · have hil : (i : Int) < m1 := by omega
      have l2 : ((L1.drop (i * 2)).take 2).length = 2 := by rw [List.length_take, List.length_drop]; omega
      have hin := h i hlt
      simp -implicitDefEqProofs only [lk_normal, rIn_F, hil, l2, hin, ZB, Int.reduceToNat, Nat.reduceLT, Nat.reduceLeDiff, Int.reduceLE, Int.reduceLT, Nat.reduceEqDiff, Nat.reduceSub, SB, SV.known, packR, ne_eq, reduceCtorEq, Nat.reduceEqDiff, ↓reduceIte, if_true, if_false, eq_self, Nat.reduceAdd, Nat.reduceMul, Nat.reduceSub, forall_const, oneCellS, litOne, flat1, Kd.isSca, flat, TYB]
      (try (and_intros <;> try (first | omega | (unfold In64; omega) | trivial | assumption)))
      refine ⟨i + 1, ?_, ?_, Sub.mk_id ?_ ?_ ?_ ?_ ?_⟩
      all_goals (try (simp only [LB, subS, subH, wfS, wfH, SV.ren, renL, SObj.ren, SV.wf, SObj.wf, wfL, SV.known, Nat.reduceEqDiff, ↓reduceIte, if_true, if_false, eq_self, Nat.reduceAdd, Nat.reduceLT, Nat.reduceLeDiff, implies_true, reduceCtorEq, forall_const]; done))
      all_goals (try (simp only [LB, subS, subH, wfS, wfH, SV.ren, renL, SObj.ren, SV.wf, SObj.wf, wfL, SV.known, Nat.reduceEqDiff, ↓reduceIte, if_true, if_false, eq_self, Nat.reduceAdd, Nat.reduceLT, Nat.reduceLeDiff, implies_true, reduceCtorEq, forall_const]; simp; done))
      all_goals (try (simp only [LB, subS, subH, wfS, wfH, SV.ren, renL, SObj.ren, SV.wf, SObj.wf, wfL, SV.known, Nat.reduceEqDiff, ↓reduceIte, if_true, if_false, eq_self, Nat.reduceAdd, Nat.reduceLT, Nat.reduceLeDiff, implies_true, reduceCtorEq, forall_const]; (and_intros <;> (first | omega | rfl | (simp; done) | (simp; omega))); done))
      all_goals (try dsimp only)
      all_goals (and_intros <;> try (first | omega | (unfold In64; omega) | trivial | assumption))
    · have hil : ¬ (i : Int) < m1 := by omega
      simp -implicitDefEqProofs only [lk_normal, hil, ZB, Int.reduceToNat, Nat.reduceLT, Nat.reduceLeDiff, Int.reduceLE, Int.reduceLT, Nat.reduceEqDiff, Nat.reduceSub, SB, SV.known, packR, ne_eq, reduceCtorEq, Nat.reduceEqDiff, ↓reduceIte, if_true, if_false, eq_self, Nat.reduceAdd, Nat.reduceMul, Nat.reduceSub, forall_const, oneCellS, litOne, flat1, Kd.isSca, flat, TYB]
theorem rPart_nn (H : Heap) : PureH Try.prog 42 [.nils, .nils] H (.bool true) := by
  refine PureH.any ?_ H
  refine pure_of_vc (X := ⟨Try.prog, tys, [(113, rIn_F)], [], true, true, 0, [], []⟩) fn_42 ⟨tys_ok, (.cons rIn_T .nil), .nil, mixed⟩ (n0 := 0) (Nat.le_of_ble_eq_true rfl) (by simp [wfL, SV.wf]) (wfH_spec (by simp [wfH, SObj.wf])) (Nat.le_refl _) (fun _ => by simp [SV.wf, wfL]) ?_
  simp -implicitDefEqProofs only [Try.f42, Option.getD_some, argS, rIn_F, ZB, Int.reduceToNat, Nat.reduceLT, Nat.reduceLeDiff, Int.reduceLE, Int.reduceLT, Nat.reduceEqDiff, Nat.reduceSub, SB, SV.known, packR, ne_eq, reduceCtorEq, Nat.reduceEqDiff, ↓reduceIte, if_true, if_false, eq_self, Nat.reduceAdd, Nat.reduceMul, Nat.reduceSub, forall_const, oneCellS, litOne, flat1, Kd.isSca, flat, TYB]
  refine loop_intro (fun i : Nat => [(5, .int 0), (0, .nils), (1, .nils)]) (fun _ => []) 0 (fun i => True) (fun i => 0) ?_ ?_
  · refine ⟨0, ?_, Sub.mk_id ?_ ?_ ?_ ?_ ?_⟩
    all_goals (try (simp only [LB, subS, subH, wfS, wfH, SV.ren, renL, SObj.ren, SV.wf, SObj.wf, wfL, SV.known, Nat.reduceEqDiff, ↓reduceIte, if_true, if_false, eq_self, Nat.reduceAdd, Nat.reduceLT, Nat.reduceLeDiff, implies_true, reduceCtorEq, forall_const]; done))
    all_goals (try (simp only [LB, subS, subH, wfS, wfH, SV.ren, renL, SObj.ren, SV.wf, SObj.wf, wfL, SV.known, Nat.reduceEqDiff, ↓reduceIte, if_true, if_false, eq_self, Nat.reduceAdd, Nat.reduceLT, Nat.reduceLeDiff, implies_true, reduceCtorEq, forall_const]; simp; done))
    all_goals (try (simp only [LB, subS, subH, wfS, wfH, SV.ren, renL, SObj.ren, SV.wf, SObj.wf, wfL, SV.known, Nat.reduceEqDiff, ↓reduceIte, if_true, if_false, eq_self, Nat.reduceAdd, Nat.reduceLT, Nat.reduceLeDiff, implies_true, reduceCtorEq, forall_const]; (and_intros <;> (first | omega | rfl | (simp; done) | (simp; omega))); done))
    all_goals (try dsimp only)
    all_goals (and_intros <;> try (first | omega | (unfold In64; omega) | trivial | assumption))
  · intro i hi
    simp -implicitDefEqProofs only [lk_normal, ZB, Int.reduceToNat, Nat.reduceLT, Nat.reduceLeDiff, Int.reduceLE, Int.reduceLT, Nat.reduceEqDiff, Nat.reduceSub, SB, SV.known, packR, ne_eq, reduceCtorEq, Nat.reduceEqDiff, ↓reduceIte, if_true, if_false, eq_self, Nat.reduceAdd, Nat.reduceMul, Nat.reduceSub, forall_const, oneCellS, litOne, flat1, Kd.isSca, flat, TYB]
def rPart_F : List SV → Heap → Option (Prop × SV)
  | [.slice a 0 l1 _, .slice b 0 l2 _], H => match hget H a, hget H b with
    | some (.ints L1 _), some (.ints L2 _) => some (a ≠ b ∧ l1 * 2 ≤ L1.length ∧ l2 * 2 ≤ L2.length ∧ (∀ i, i < l1 → inP L2 l2 ((L1.drop (i * 2)).take 2) = true) ∧ l1 ≤ 4611686018427387903 ∧ l2 ≤ 4611686018427387903, .bool true)
    | _, _ => none
  | [.nils, .nils], _ => some (True, .bool true)
  | _, _ => none
theorem rPart_T : ∀ args H p v, rPart_F args H = some (p, v) → p → PureH Try.prog 42 args H v := by
  intro args H p v h hp
  unfold rPart_F at h
  split at h
  · rename_i a l1 c1 b l2 c2
    split at h
    · rename_i L1 e1 L2 e2 g1 g2
      cases h
      obtain ⟨hab, q1, q2, q3, q4, q5⟩ := hp
      have := (rPart_ok L1 L2 e1 e2 c1 c2 l1 l2 q1 q2 q3 ⟨q4, q5⟩).sub (H := H) (fun j => if j = 0 then a else b) (fun j o hj => by
        simp only [hget_cons] at hj
        split at hj
        · rename_i hj0; cases hj; refine ⟨?_, fun _ => by omega, by simp [hj0]⟩; show hget H (if j = 0 then a else b) = _; rw [if_pos hj0]; exact g1
        · rename_i hj0
          split at hj
          · rename_i hj1; cases hj; refine ⟨?_, fun _ => by omega, by simp [hj1]⟩; show hget H (if j = 0 then a else b) = _; rw [if_neg hj0]; exact g2
          · cases hj) (fun x hx y hy he => by
        simp at hx hy
        rcases hx with rfl | rfl <;> rcases hy with rfl | rfl <;> simp at he <;> omega) (fun _ => trivial)
      simpa [renL, SV.ren] using this
    · cases h
  · cases h
    exact rPart_nn H
  · cases h
end Go.Proofs.Ytopfnkmlgcjpbaa
/- The law of pours, walked. -/
set_option maxRecDepth 100000
set_option linter.unusedSimpArgs false
set_option linter.unusedVariables false
namespace Go.Proofs.Ytopfnkmlgcjpbaa
open Go Go.RowKit
theorem eqI_a6 : EqI Try.prog 51 6 := eqI_of (D := 2) (by omega) (eqA_ints (i := (Try.prog.info? 3).getD default) Try.underlying51 (by kernel_rfl) (by kernel_rfl) rfl Try.underlying3) (by kernel_rfl)
--@tbl rBig = laws.rBig
theorem rBig_ok (L : List Int) (off len cap : Nat) : PureH Try.prog 7 [.slice 0 off len cap] [(0, .winU off L)] (.bool (decide (65536 < (len : Int)))) := by
  refine pure_of_vc (X := ⟨Try.prog, tys, [], [], true, true, 1, [], []⟩) fn_7 ⟨tys_ok, .nil, .nil, mixed⟩ (n0 := 1) (Nat.le_of_ble_eq_true rfl) (by simp [wfL, SV.wf]) (wfH_spec (by simp [wfH, SObj.wf])) (Nat.le_refl _) (fun _ => by simp [SV.wf, wfL]) ?_
  simp -implicitDefEqProofs only [Try.f7, Option.getD_some, argS, ZB, Int.reduceToNat, Nat.reduceLT, Nat.reduceLeDiff, Int.reduceLE, Int.reduceLT, Nat.reduceEqDiff, Nat.reduceSub, SB, SV.known, packR, ne_eq, reduceCtorEq, Nat.reduceEqDiff, ↓reduceIte, if_true, if_false, eq_self, Nat.reduceAdd, Nat.reduceMul, Nat.reduceSub, forall_const, oneCellS, litOne, flat1, Kd.isSca, flat, TYB]
theorem rBig_nil (H : Heap) : PureH Try.prog 7 [.nils] H (.bool false) := by
  refine PureH.any ?_ H
  refine pure_of_vc (X := ⟨Try.prog, tys, [], [], true, true, 0, [], []⟩) fn_7 ⟨tys_ok, .nil, .nil, mixed⟩ (n0 := 0) (Nat.le_of_ble_eq_true rfl) (by simp [wfL, SV.wf]) (wfH_spec (by simp [wfH, SObj.wf])) (Nat.le_refl _) (fun _ => by simp [SV.wf, wfL]) ?_
  simp -implicitDefEqProofs only [Try.f7, Option.getD_some, argS, ZB, Int.reduceToNat, Nat.reduceLT, Nat.reduceLeDiff, Int.reduceLE, Int.reduceLT, Nat.reduceEqDiff, Nat.reduceSub, SB, SV.known, packR, ne_eq, reduceCtorEq, Nat.reduceEqDiff, ↓reduceIte, if_true, if_false, eq_self, Nat.reduceAdd, Nat.reduceMul, Nat.reduceSub, forall_const, oneCellS, litOne, flat1, Kd.isSca, flat, TYB]
def rBig_F : List SV → Heap → Option (Prop × SV)
  | [.slice a o len _], H => match hget H a with
    | some (.winU off _) => some (o = off, .bool (decide (65536 < (len : Int))))
    | _ => none
  | [.nils], _ => some (True, .bool false)
  | _, _ => none
theorem rBig_T : ∀ args H p v, rBig_F args H = some (p, v) → p → PureH Try.prog 7 args H v := by
  intro args H p v h hp
  unfold rBig_F at h
  split at h
  · rename_i a o len cap
    split at h
    · rename_i off L g
      cases h
      subst hp
      exact one_block (rBig_ok L o len cap) g rfl (fun _ => trivial)
    · cases h
  · cases h
    exact rBig_nil H
  · cases h
theorem pour_out {R : List Int} {x y : Int} (h : cpO R x y = false) : pourB R x y = false := by
  unfold cpO at h
  unfold pourB canF
  by_cases hxy : x = y
  · simp [hxy]
  · simp only [hxy, decide_false, Bool.not_false, Bool.and_true] at h
    rw [h]; rfl
theorem pour_in {R : List Int} {x y : Int} (h : cpO R x y = true) : pourB R x y = canF R x y := by
  unfold cpO at h
  simp only [Bool.and_eq_true] at h
  unfold pourB
  rw [h.1.1.1, h.1.1.2, h.1.2]; rfl
theorem cpO_flip {R N : List Int} {x y : Int} (ho : cpO R x y = true) (hr : rackB N = true) : cpO N y x = true := by
  unfold cpO at ho ⊢
  simp only [Bool.and_eq_true] at ho ⊢
  refine ⟨⟨⟨hr, ho.1.2⟩, ho.1.1.2⟩, ?_⟩
  have := ho.2
  simp only [Bool.not_eq_true', decide_eq_false_iff_not] at this ⊢
  exact fun e => this e.symm
--@tbl DrawPour = spec.DrawPour
def DrawPour_F := DrawCanPour_F
end Go.Proofs.Ytopfnkmlgcjpbaa
