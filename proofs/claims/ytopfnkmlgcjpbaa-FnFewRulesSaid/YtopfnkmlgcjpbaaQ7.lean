/- Texts of this claim, joined (DrawR, DrawB, DrawP, PBy, DrawO). -/
import Derived.Test.YtopfnkmlgcjpbaaQ1
import Derived.Test.YtopfnkmlgcjpbaaQ2
import Derived.Test.YtopfnkmlgcjpbaaQ3
import Derived.Test.YtopfnkmlgcjpbaaQ4
import Derived.Test.YtopfnkmlgcjpbaaQ5
import Derived.Test.YtopfnkmlgcjpbaaQ6
set_option maxRecDepth 100000
set_option linter.unusedSimpArgs false
set_option linter.unusedVariables false
namespace Go.Proofs.Ytopfnkmlgcjpbaa
open Go Go.RowKit
theorem fnx_rack : FnOK Try.prog 77 Try.f77 (Try.f77.body.getD .skip) [94, 92, 119] [(21, .tree (.one 0 (.one 1 (.one 2 (.one 3 (.one 4 (.one 5 (.one 6 (.alt 7 (.alt 8 (.one 9 (.one 10 (.one 11 .done))) (.alt 9 (.one 8 (.one 10 (.one 11 .done))) .stop)) (.alt 8 (.alt 7 (.one 9 (.one 10 (.one 11 .done))) (.alt 9 (.alt 7 (.one 10 (.one 11 .done)) (.alt 10 (.one 7 (.one 11 .done)) .stop)) .stop)) (.alt 9 (.alt 7 (.one 8 (.one 10 (.one 11 .done))) (.alt 8 (.alt 7 (.one 10 (.one 11 .done)) (.alt 10 (.one 7 (.one 11 .done)) .stop)) .stop)) .stop))))))))))), (26, .tree (.one 0 (.one 2 (.one 4 (.one 7 (.alt 1 (.one 8 (.alt 3 (.one 5 (.one 6 (.one 9 (.one 10 .done)))) (.alt 5 (.one 3 (.one 6 (.one 9 (.one 10 .done)))) .stop))) (.alt 5 (.one 1 (.one 3 (.one 6 (.one 8 (.one 9 (.one 10 .done)))))) .stop)))))))] := ⟨Try.func77, rfl, by kernel_rfl, by kernel_rfl⟩
/-- A rack that is being drawn. -/
structure RkS (c kc a n : Nat) (H : Heap) (b : Nat) (R : List Int) (k : Nat) (H' : Heap) (n' : Nat) : Prop where
  d : Drawn c kc a k n H H' n'
  lt : n < b ∧ b < n'
  r : hget H' b = some (.ints R 27)
  l : R.length = 24
  i : ∀ x ∈ R, In64 x
  z : hget H' n = some (.ints (List.replicate 24 0) 27)
theorem RkS.set {c kc a n b k n' : Nat} {H H' : Heap} {R : List Int} (h : RkS c kc a n H b R k H' n') (hlt : c < n ∧ kc < n ∧ kc ≠ c) {R' : List Int} (hl : R'.length = 24) (hi : ∀ x ∈ R', In64 x) : RkS c kc a n H b R' k ((b, .ints R' 27) :: H') n' :=
  ⟨h.d.put hlt _ (Nat.le_of_lt h.lt.1) h.lt.2 (Nat.le_refl _) trivial, h.lt, by simp [hget_cons], hl, hi, by rw [hget_cons, if_neg (Nat.ne_of_lt h.lt.1)]; exact h.z⟩
theorem RkS.push {c kc a n b k n' : Nat} {H H' : Heap} {R : List Int} (h : RkS c kc a n H b R k H' n') (hlt : c < n ∧ kc < n ∧ kc ≠ c) (o : SObj) (ho : o.wf (n' + 1)) : RkS c kc a n H b R k ((n', o) :: H') (n' + 1) :=
  ⟨h.d.push hlt o ho, ⟨h.lt.1, Nat.lt_succ_of_lt h.lt.2⟩, by rw [hget_cons, if_neg (Nat.ne_of_lt h.lt.2)]; exact h.r, h.l, h.i, by rw [hget_cons, if_neg (Nat.ne_of_lt (Nat.lt_trans h.lt.1 h.lt.2))]; exact h.z⟩
theorem RkS.pushI {c kc a n b k n' : Nat} {H H' : Heap} {R : List Int} (h : RkS c kc a n H b R k H' n') (hlt : c < n ∧ kc < n ∧ kc ≠ c) {L : List Int} {e : Nat} : RkS c kc a n H b R k ((n', .ints L e) :: H') (n' + 1) := h.push hlt _ trivial
theorem RkS.draw {c kc a n b k n' k2 n2 : Nat} {H H' H2 : Heap} {R : List Int} (h : RkS c kc a n H b R k H' n') (hd : Drawn c kc a k2 n H H2 n2) (hf : Fr n n' H' H2) (hn : n' ≤ n2) : RkS c kc a n H b R k2 H2 n2 :=
  ⟨hd, ⟨h.lt.1, Nat.lt_of_lt_of_le h.lt.2 hn⟩, hf.use (Nat.le_of_lt h.lt.1) h.lt.2 h.r, h.l, h.i, hf.use (Nat.le_refl _) (Nat.lt_trans h.lt.1 h.lt.2) h.z⟩
theorem RkS.more {c kc a n b k k' n' : Nat} {H H' : Heap} {R : List Int} (h : RkS c kc a n H b R k H' n') (hk : k ≤ k') : RkS c kc a n H b R k' H' n' := ⟨h.d.more hk, h.lt, h.r, h.l, h.i, h.z⟩
theorem CurH.frame {c kc a n : Nat} {H H' : Heap} (h : CurH c kc a H) (hw : hwf n H) (hf : ∀ j o, j < n → hget H j = some o → hget H' j = some o) : CurH c kc a H' := by
  obtain ⟨q1, q2, _⟩ := h.lt hw
  obtain ⟨v, s, h1, h2, h6⟩ := h
  exact ⟨v, s, hf _ _ q1 h1, h2.at (fun o ho => hf _ _ q2 ho), h6⟩
theorem RkS.ext {c kc a n b k n' n2 : Nat} {H H' Hc : Heap} {R : List Int} (h : RkS c kc a n H b R k H' n') (hw : hwf n2 Hc) (hn : n' ≤ n2) (hf : ∀ j o, j < n' → hget H' j = some o → hget Hc j = some o) : RkS c kc a n H b R k Hc n2 :=
  ⟨⟨Nat.le_trans h.d.le hn, hw, by
    obtain ⟨b', g1, g2, g3⟩ := h.d.cur
    exact ⟨b', g1, g2, g3.frame h.d.wf hf⟩, fun i o hi hc ho => hf i o (Nat.lt_of_lt_of_le hi h.d.le) (h.d.fr i o hi hc ho)⟩,
   ⟨h.lt.1, Nat.lt_of_lt_of_le h.lt.2 hn⟩, hf _ _ h.lt.2 h.r, h.l, h.i, hf _ _ (Nat.lt_trans h.lt.1 h.lt.2) h.z⟩
theorem in64_set {R : List Int} (h : ∀ x ∈ R, In64 x) {i : Nat} {v : Int} (hv : In64 v) : ∀ x ∈ R.set i v, In64 x := fun x hx => by
  rcases List.mem_or_eq_of_mem_set hx with hx | hx
  · exact h x hx
  · exact hx ▸ hv
theorem in64_getD {R : List Int} (h : ∀ x ∈ R, In64 x) {i : Nat} (hi : i < R.length) : In64 (R.getD i 0) := by
  rw [List.getD_eq_getElem?_getD, List.getElem?_eq_getElem hi]
  exact h _ (List.getElem_mem _)
theorem rack_vc (c kc a m n : Nat) (H : Heap) (hC : CurH c kc a H) (hm : m ≤ c) (hmn : m ≤ n) (ha : a ≤ 990000) (hwH : hwf n H) :
    codeVC (⟨Try.prog, tys, [], [(94, pick_F), (92, one_F), (119, among_F)], true, true, m, [94, 92, 119], [(21, .tree (.one 0 (.one 1 (.one 2 (.one 3 (.one 4 (.one 5 (.one 6 (.alt 7 (.alt 8 (.one 9 (.one 10 (.one 11 .done))) (.alt 9 (.one 8 (.one 10 (.one 11 .done))) .stop)) (.alt 8 (.alt 7 (.one 9 (.one 10 (.one 11 .done))) (.alt 9 (.alt 7 (.one 10 (.one 11 .done)) (.alt 10 (.one 7 (.one 11 .done)) .stop)) .stop)) (.alt 9 (.alt 7 (.one 8 (.one 10 (.one 11 .done))) (.alt 8 (.alt 7 (.one 10 (.one 11 .done)) (.alt 10 (.one 7 (.one 11 .done)) .stop)) .stop)) .stop))))))))))), (26, .tree (.one 0 (.one 2 (.one 4 (.one 7 (.alt 1 (.one 8 (.alt 3 (.one 5 (.one 6 (.one 9 (.one 10 .done)))) (.alt 5 (.one 3 (.one 6 (.one 9 (.one 10 .done)))) .stop))) (.alt 5 (.one 1 (.one 3 (.one 6 (.one 8 (.one 9 (.one 10 .done)))))) .stop)))))))]⟩ : Cx) n (Try.f77.body.getD .skip) (argS 0 [.ptr c 0]) H n
      (retK tys Try.f77.results.toList fun v H' n' => ∃ R : List Int, v = .arr R ∧ R.length = 24 ∧ (∀ x ∈ R, In64 x) ∧ Drawn c kc a 1000 n H H' n') := by
  have hlt := hC.lt hwH
  have xne : ∀ i, (n + (i + 1) = n) = False := fun i => by simp
  simp -implicitDefEqProofs only [Try.f77, Option.getD_some, argS, Nat.add_assoc, add_self, self_add, add_add, ZB, Int.reduceToNat, Nat.reduceLT, Nat.reduceLeDiff, Int.reduceLE, Int.reduceLT, Nat.reduceEqDiff, Nat.reduceSub, SB, SV.known, packR, ne_eq, reduceCtorEq, Nat.reduceEqDiff, ↓reduceIte, if_true, if_false, eq_self, Nat.reduceAdd, Nat.reduceMul, Nat.reduceSub, forall_const, oneCellS, litOne, flat1, Kd.isSca, flat, TYB]
  have d0 : Drawn c kc a 0 n H ((n, .ints (List.replicate 24 0) 27) :: H) (n + 1) := (Drawn.start hC hwH).push hlt _ trivial
  refine among_use (d0.pushI hlt) hlt hm (by omega) (L := [2, 3, 2, 4, 5, 1]) (by simp [hget_cons]; rfl) (by omega) (by simp) fun col H1 hx1 hd1 hf1 => ?_
  have hc1 : 1 ≤ col ∧ col ≤ 5 := by simp at hx1; omega
  have hz1 := hf1.use (Nat.le_refl _) (by omega) (show hget _ n = some (.ints (List.replicate 24 0) 27) by simp [hget_cons])
  simp -implicitDefEqProofs only [Nat.add_assoc, add_self, self_add, add_add, ZB, Int.reduceToNat, Nat.reduceLT, Nat.reduceLeDiff, Int.reduceLE, Int.reduceLT, Nat.reduceEqDiff, Nat.reduceSub, SB, SV.known, packR, ne_eq, reduceCtorEq, Nat.reduceEqDiff, ↓reduceIte, if_true, if_false, eq_self, Nat.reduceAdd, Nat.reduceMul, Nat.reduceSub, forall_const, oneCellS, litOne, flat1, Kd.isSca, flat, TYB]
  refine among_use (hd1.pushI hlt) hlt hm (by omega) (L := [3, 4, 2, 5, 6]) (by simp [hget_cons]; rfl) (by omega) (by simp) fun tub H2 hx2 hd2 hf2 => ?_
  have ht1 : 2 ≤ tub ∧ tub ≤ 6 := by simp at hx2; omega
  have hz2 := hf2.use (Nat.le_refl _) (by omega) (show hget _ n = some (.ints (List.replicate 24 0) 27) by simp [hget_cons, hz1])
  have hS0 : RkS c kc a n H (n + 3) (List.replicate 24 0) 4 ((n + 3, .ints (List.replicate 24 0) 27) :: (n + 3, .ints (List.replicate 24 0) 27) :: H2) (n + 4) :=
    ⟨(hd2.pushI hlt).putI hlt (by omega) (by omega), by omega, by simp [hget_cons], by simp, fun x hx => by rw [List.eq_of_mem_replicate hx]; simp [In64], by simp [hget_cons]; exact hz2⟩
  clear hf1 hf2 hd1 hd2 hz1 hz2
  simp -implicitDefEqProofs only [Nat.add_assoc, add_self, self_add, add_add, ZB, Int.reduceToNat, Nat.reduceLT, Nat.reduceLeDiff, Int.reduceLE, Int.reduceLT, Nat.reduceEqDiff, Nat.reduceSub, SB, SV.known, packR, ne_eq, reduceCtorEq, Nat.reduceEqDiff, ↓reduceIte, if_true, if_false, eq_self, Nat.reduceAdd, Nat.reduceMul, Nat.reduceSub, forall_const, oneCellS, litOne, flat1, Kd.isSca, flat, TYB]
  refine ⟨by omega, ?_⟩
  refine loop_introN (fun s : (Nat × List Int) × Heap × Nat => [(6, .int s.1.1), (5, .int tub), (4, .int col), (3, .ptr (n + 3) 0), (2, .ptr n 0), (0, .ptr c 0)]) (fun s => s.2.1) (fun s => s.2.2)
    (fun s => s.1.1 ≤ 6 ∧ RkS c kc a n H (n + 3) s.1.2 (4 + 26 * s.1.1) s.2.1 s.2.2) (fun s => 6 - s.1.1) ?_ ?_
  · exact ⟨((0, List.replicate 24 0), _, n + 4), ⟨Nat.zero_le _, hS0⟩, Sub.same (by simp only [LB, subS, subH, wfS, wfH, SV.ren, renL, SObj.ren, SV.wf, SObj.wf, wfL, SV.known, Nat.reduceEqDiff, ↓reduceIte, if_true, if_false, eq_self, Nat.reduceAdd, Nat.reduceLT, Nat.reduceLeDiff, implies_true, reduceCtorEq, forall_const]; try rfl) (by simp [subS, subH, wfS, wfH, SV.ren, renL, SObj.ren, SV.wf, SObj.wf, wfL, sget_cons, hget_cons] <;> omega) hS0.d.wf hS0.d.le⟩
  · rintro ⟨⟨i, R⟩, H3, n3⟩ ⟨hi, hS⟩
    simp only at hi hS
    by_cases hit : (i : Int) < tub
    · simp -implicitDefEqProofs only [lk_normal, hit, ZB, Int.reduceToNat, Nat.reduceLT, Nat.reduceLeDiff, Int.reduceLE, Int.reduceLT, Nat.reduceEqDiff, Nat.reduceSub, SB, SV.known, packR, ne_eq, reduceCtorEq, Nat.reduceEqDiff, ↓reduceIte, if_true, if_false, eq_self, Nat.reduceAdd, Nat.reduceMul, Nat.reduceSub, forall_const, oneCellS, litOne, flat1, Kd.isSca, flat, TYB]
      refine loop_introN (fun s : (Nat × List Int) × Heap × Nat => [(7, .int s.1.1), (6, .int i), (5, .int tub), (4, .int col), (3, .ptr (n + 3) 0), (2, .ptr n 0), (0, .ptr c 0)]) (fun s => s.2.1) (fun s => s.2.2)
        (fun s => s.1.1 ≤ 4 ∧ RkS c kc a n H (n + 3) s.1.2 (4 + 26 * i + 6 * s.1.1) s.2.1 s.2.2) (fun s => 4 - s.1.1) ?_ ?_
      · have hq := hS.lt
        exact ⟨((0, R), H3, n3), ⟨Nat.zero_le _, hS⟩, Sub.same (by simp only [LB, subS, subH, wfS, wfH, SV.ren, renL, SObj.ren, SV.wf, SObj.wf, wfL, SV.known, Nat.reduceEqDiff, ↓reduceIte, if_true, if_false, eq_self, Nat.reduceAdd, Nat.reduceLT, Nat.reduceLeDiff, implies_true, reduceCtorEq, forall_const]; try rfl) (by simp [subS, subH, wfS, wfH, SV.ren, renL, SObj.ren, SV.wf, SObj.wf, wfL, sget_cons, hget_cons] <;> omega) hS.d.wf hS.d.le⟩
      · rintro ⟨⟨j, R1⟩, H4, n4⟩ ⟨hj, hS1⟩
        simp only at hj hS1
        have hn4 := hS1.lt
        have e4 := ne_add' hn4.2
        simp -implicitDefEqProofs only [lk_normal, ZB, Int.reduceToNat, Nat.reduceLT, Nat.reduceLeDiff, Int.reduceLE, Int.reduceLT, Nat.reduceEqDiff, Nat.reduceSub, SB, SV.known, packR, ne_eq, reduceCtorEq, Nat.reduceEqDiff, ↓reduceIte, if_true, if_false, eq_self, Nat.reduceAdd, Nat.reduceMul, Nat.reduceSub, forall_const, oneCellS, litOne, flat1, Kd.isSca, flat, TYB]
        refine among_use (hS1.d.pushI hlt) hlt hm (by omega) (L := [4, 3, 4, 2, 1, 0]) (by simp [hget_cons]; rfl) (by omega) (by simp) fun x H5 hx hd5 hf5 => ?_
        have hx1 : 0 ≤ x ∧ x ≤ 4 := by simp at hx; omega
        have hS5 := (hS1.pushI hlt).draw hd5 hf5 (Nat.le_refl _)
        by_cases hjx : (j : Int) < x
        · have hr5 := hS5.r
          have l5 := hS5.l
          simp -implicitDefEqProofs only [lk_normal, hjx, ZB, Int.reduceToNat, Nat.reduceLT, Nat.reduceLeDiff, Int.reduceLE, Int.reduceLT, Nat.reduceEqDiff, Nat.reduceSub, SB, SV.known, packR, ne_eq, reduceCtorEq, Nat.reduceEqDiff, ↓reduceIte, if_true, if_false, eq_self, Nat.reduceAdd, Nat.reduceMul, Nat.reduceSub, forall_const, oneCellS, litOne, flat1, Kd.isSca, flat, TYB]
          refine pick_use hS5.d hlt hm (by omega) fun y H6 hy0 hy1 hd6 hf6 => ?_
          have hS6 := hS5.draw hd6 hf6 (Nat.le_refl _)
          have hr6 := hS6.r
          have hy : In64 (1 + y) := by unfold In64; omega
          have i0 : 0 ≤ (i : Int) := by omega
          have j0 : 0 ≤ (j : Int) := by omega
          have j4 : (j : Int) < 4 := by omega
          have i6 : (i : Int) < 6 := by omega
          have ij : i * 4 + j < 24 := by omega
          simp -implicitDefEqProofs only [hr6, hy, i0, j0, j4, i6, hS6.l, ij, ZB, Int.reduceToNat, Nat.reduceLT, Nat.reduceLeDiff, Int.reduceLE, Int.reduceLT, Nat.reduceEqDiff, Nat.reduceSub, SB, SV.known, packR, ne_eq, reduceCtorEq, Nat.reduceEqDiff, ↓reduceIte, if_true, if_false, eq_self, Nat.reduceAdd, Nat.reduceMul, Nat.reduceSub, forall_const, oneCellS, litOne, flat1, Kd.isSca, flat, TYB]
          have hS7 := hS6.set hlt (R' := R1.set (i * 4 + j) (1 + y)) (by rw [List.length_set]; exact hS6.l) (in64_set hS6.i hy)
          have hnext : ∀ (R' : List Int) (H8 : Heap), RkS c kc a n H (n + 3) R' (4 + 26 * i + 6 * (j + 1)) H8 (n4 + 1) → j + 1 ≤ 4 ∧ RkS c kc a n H (n + 3) R' (4 + 26 * i + 6 * (j + 1)) H8 (n4 + 1) := fun R' H8 h => ⟨by omega, h⟩
          refine ⟨by omega, fun hj0 => one_use hS7.d hlt hm (by omega) fun o H8 hd8 hf8 => ?_, fun hj0 => ?_⟩
          · have hS8 := hS7.draw hd8 hf8 (Nat.le_refl _)
            cases o
            · simp -implicitDefEqProofs only [lk_normal, ZB, Int.reduceToNat, Nat.reduceLT, Nat.reduceLeDiff, Int.reduceLE, Int.reduceLT, Nat.reduceEqDiff, Nat.reduceSub, SB, SV.known, packR, ne_eq, reduceCtorEq, Nat.reduceEqDiff, ↓reduceIte, if_true, if_false, eq_self, Nat.reduceAdd, Nat.reduceMul, Nat.reduceSub, forall_const, oneCellS, litOne, flat1, Kd.isSca, flat, TYB]
              have hq := hS8.lt
              exact ⟨by unfold In64; omega, ((j + 1, R1.set (i * 4 + j) (1 + y)), H8, n4 + 1), ⟨by show j + 1 ≤ 4; omega, RkS.more hS8 (by show _ ≤ 4 + 26 * i + 6 * (j + 1); omega)⟩, by show 4 - (j + 1) < 4 - j; omega, Sub.same (by simp only [LB, subS, subH, wfS, wfH, SV.ren, renL, SObj.ren, SV.wf, SObj.wf, wfL, SV.known, Nat.reduceEqDiff, ↓reduceIte, if_true, if_false, eq_self, Nat.reduceAdd, Nat.reduceLT, Nat.reduceLeDiff, implies_true, reduceCtorEq, forall_const]; try rfl) (by simp [subS, subH, wfS, wfH, SV.ren, renL, SObj.ren, SV.wf, SObj.wf, wfL, sget_cons, hget_cons] <;> omega) (RkS.d hS8).wf (RkS.d hS8).le⟩
            · have hr8 := hS8.r
              have l8 := hS8.l
              have j1 : 0 ≤ (j : Int) - 1 := by omega
              have j5 : (j : Int) - 1 < 4 := by omega
              have j6 : ((j : Int) - 1).toNat = j - 1 := by omega
              have j7 : In64 ((j : Int) - 1) := by unfold In64; omega
              have ij1 : i * 4 + (j - 1) < 24 := by omega
              simp -implicitDefEqProofs only [lk_normal, hr8, l8, j1, j5, j6, j7, i0, j0, j4, i6, ij, ij1, ZB, Int.reduceToNat, Nat.reduceLT, Nat.reduceLeDiff, Int.reduceLE, Int.reduceLT, Nat.reduceEqDiff, Nat.reduceSub, SB, SV.known, packR, ne_eq, reduceCtorEq, Nat.reduceEqDiff, ↓reduceIte, if_true, if_false, eq_self, Nat.reduceAdd, Nat.reduceMul, Nat.reduceSub, forall_const, oneCellS, litOne, flat1, Kd.isSca, flat, TYB]
              have hq := hS8.lt
              have hS9 := hS8.set hlt (R' := (R1.set (i * 4 + j) (1 + y)).set (i * 4 + j) ((R1.set (i * 4 + j) (1 + y)).getD (i * 4 + (j - 1)) 0)) (by rw [List.length_set]; exact hS8.l) (in64_set hS8.i (in64_getD hS8.i (by rw [l8]; exact ij1)))
              refine ⟨by omega, ?_⟩
              exact ⟨by unfold In64; omega, ((j + 1, _), _, n4 + 1), ⟨by show j + 1 ≤ 4; omega, RkS.more hS9 (by show _ ≤ 4 + 26 * i + 6 * (j + 1); omega)⟩, by show 4 - (j + 1) < 4 - j; omega, Sub.same (by simp only [LB, subS, subH, wfS, wfH, SV.ren, renL, SObj.ren, SV.wf, SObj.wf, wfL, SV.known, Nat.reduceEqDiff, ↓reduceIte, if_true, if_false, eq_self, Nat.reduceAdd, Nat.reduceLT, Nat.reduceLeDiff, implies_true, reduceCtorEq, forall_const]; try rfl) (by simp [subS, subH, wfS, wfH, SV.ren, renL, SObj.ren, SV.wf, SObj.wf, wfL, sget_cons, hget_cons] <;> omega) (RkS.d hS9).wf (RkS.d hS9).le⟩
          · simp -implicitDefEqProofs only [lk_normal, ZB, Int.reduceToNat, Nat.reduceLT, Nat.reduceLeDiff, Int.reduceLE, Int.reduceLT, Nat.reduceEqDiff, Nat.reduceSub, SB, SV.known, packR, ne_eq, reduceCtorEq, Nat.reduceEqDiff, ↓reduceIte, if_true, if_false, eq_self, Nat.reduceAdd, Nat.reduceMul, Nat.reduceSub, forall_const, oneCellS, litOne, flat1, Kd.isSca, flat, TYB]
            have hq := hS7.lt
            exact ⟨by unfold In64; omega, ((j + 1, _), _, n4 + 1), ⟨by show j + 1 ≤ 4; omega, RkS.more hS7 (by show _ ≤ 4 + 26 * i + 6 * (j + 1); omega)⟩, by show 4 - (j + 1) < 4 - j; omega, Sub.same (by simp only [LB, subS, subH, wfS, wfH, SV.ren, renL, SObj.ren, SV.wf, SObj.wf, wfL, SV.known, Nat.reduceEqDiff, ↓reduceIte, if_true, if_false, eq_self, Nat.reduceAdd, Nat.reduceLT, Nat.reduceLeDiff, implies_true, reduceCtorEq, forall_const]; try rfl) (by simp [subS, subH, wfS, wfH, SV.ren, renL, SObj.ren, SV.wf, SObj.wf, wfL, sget_cons, hget_cons] <;> omega) (RkS.d hS7).wf (RkS.d hS7).le⟩
        · simp -implicitDefEqProofs only [lk_normal, hjx, ZB, Int.reduceToNat, Nat.reduceLT, Nat.reduceLeDiff, Int.reduceLE, Int.reduceLT, Nat.reduceEqDiff, Nat.reduceSub, SB, SV.known, packR, ne_eq, reduceCtorEq, Nat.reduceEqDiff, ↓reduceIte, if_true, if_false, eq_self, Nat.reduceAdd, Nat.reduceMul, Nat.reduceSub, forall_const, oneCellS, litOne, flat1, Kd.isSca, flat, TYB]
          have hq := hS5.lt
          exact ⟨by unfold In64; omega, ((i + 1, R1), H5, n4 + 1), ⟨by show i + 1 ≤ 6; omega, hS5.more (by show _ ≤ 4 + 26 * (i + 1); omega)⟩, by show 6 - (i + 1) < 6 - i; omega, Sub.same (by simp only [LB, subS, subH, wfS, wfH, SV.ren, renL, SObj.ren, SV.wf, SObj.wf, wfL, SV.known, Nat.reduceEqDiff, ↓reduceIte, if_true, if_false, eq_self, Nat.reduceAdd, Nat.reduceLT, Nat.reduceLeDiff, implies_true, reduceCtorEq, forall_const]; try rfl) (by simp [subS, subH, wfS, wfH, SV.ren, renL, SObj.ren, SV.wf, SObj.wf, wfL, sget_cons, hget_cons] <;> omega) hS5.d.wf hS5.d.le⟩
    · simp -implicitDefEqProofs only [lk_normal, hit, ZB, Int.reduceToNat, Nat.reduceLT, Nat.reduceLeDiff, Int.reduceLE, Int.reduceLT, Nat.reduceEqDiff, Nat.reduceSub, SB, SV.known, packR, ne_eq, reduceCtorEq, Nat.reduceEqDiff, ↓reduceIte, if_true, if_false, eq_self, Nat.reduceAdd, Nat.reduceMul, Nat.reduceSub, forall_const, oneCellS, litOne, flat1, Kd.isSca, flat, TYB]
      have hS1 := hS.more (k' := 160) (by omega)
      clear hS hit
      refine loop_introN (fun s : (Nat × List Int) × Heap × Nat => [(8, .int s.1.1), (5, .int tub), (4, .int col), (3, .ptr (n + 3) 0), (2, .ptr n 0), (0, .ptr c 0)]) (fun s => s.2.1) (fun s => s.2.2)
        (fun s => s.1.1 ≤ 6 ∧ RkS c kc a n H (n + 3) s.1.2 160 s.2.1 s.2.2) (fun s => 6 - s.1.1) ?_ ?_
      · have hq := hS1.lt
        exact ⟨((0, R), H3, n3), ⟨Nat.zero_le _, hS1⟩, Sub.same (by simp only [LB, subS, subH, wfS, wfH, SV.ren, renL, SObj.ren, SV.wf, SObj.wf, wfL, SV.known, Nat.reduceEqDiff, ↓reduceIte, if_true, if_false, eq_self, Nat.reduceAdd, Nat.reduceLT, Nat.reduceLeDiff, implies_true, reduceCtorEq, forall_const]; try rfl) (by simp [subS, subH, wfS, wfH, SV.ren, renL, SObj.ren, SV.wf, SObj.wf, wfL, sget_cons, hget_cons] <;> omega) hS1.d.wf hS1.d.le⟩
      · rintro ⟨⟨k, R2⟩, H4, n4⟩ ⟨hk, hS2⟩
        simp only at hk hS2
        have hq := hS2.lt
        by_cases hk6 : (k : Int) < 6
        · simp -implicitDefEqProofs only [lk_normal, hk6, ZB, Int.reduceToNat, Nat.reduceLT, Nat.reduceLeDiff, Int.reduceLE, Int.reduceLT, Nat.reduceEqDiff, Nat.reduceSub, SB, SV.known, packR, ne_eq, reduceCtorEq, Nat.reduceEqDiff, ↓reduceIte, if_true, if_false, eq_self, Nat.reduceAdd, Nat.reduceMul, Nat.reduceSub, forall_const, oneCellS, litOne, flat1, Kd.isSca, flat, TYB]
          refine loop_introN (fun s : (Nat × List Int) × Heap × Nat => [(9, .int (s.1.1 : Nat)), (8, .int k), (5, .int tub), (4, .int col), (3, .ptr (n + 3) 0), (2, .ptr n 0), (0, .ptr c 0)]) (fun s => s.2.1) (fun s => s.2.2)
            (fun s => (1 ≤ s.1.1 ∧ s.1.1 ≤ 4) ∧ RkS c kc a n H (n + 3) s.1.2 160 s.2.1 s.2.2) (fun s => 4 - s.1.1) ?_ ?_
          · exact ⟨((1, R2), H4, n4), ⟨⟨Nat.le_refl _, by show 1 ≤ 4; omega⟩, hS2⟩, Sub.same (by simp only [LB, subS, subH, wfS, wfH, SV.ren, renL, SObj.ren, SV.wf, SObj.wf, wfL, SV.known, Nat.reduceEqDiff, ↓reduceIte, if_true, if_false, eq_self, Nat.reduceAdd, Nat.reduceLT, Nat.reduceLeDiff, implies_true, reduceCtorEq, forall_const]; try rfl) (by simp [subS, subH, wfS, wfH, SV.ren, renL, SObj.ren, SV.wf, SObj.wf, wfL, sget_cons, hget_cons] <;> omega) hS2.d.wf hS2.d.le⟩
          · rintro ⟨⟨j, R3⟩, H5, n5⟩ ⟨hj, hS3⟩
            simp only at hj hS3
            have hq3 := hS3.lt
            by_cases hj4 : (j : Int) < 4
            · have hr3 := hS3.r
              have l3 := hS3.l
              have k0 : 0 ≤ (k : Int) := by omega
              have j0 : 0 ≤ (j : Int) := by omega
              have j1 : 0 ≤ (j : Int) - 1 := by omega
              have j5 : (j : Int) - 1 < 4 := by omega
              have j6 : ((j : Int) - 1).toNat = j - 1 := by omega
              have j7 : In64 ((j : Int) - 1) := by unfold In64; omega
              have kj : k * 4 + j < 24 := by omega
              have kj1 : k * 4 + (j - 1) < 24 := by omega
              simp -implicitDefEqProofs only [lk_normal, hr3, l3, hk6, hj4, k0, j0, j1, j5, j6, j7, kj, kj1, ZB, Int.reduceToNat, Nat.reduceLT, Nat.reduceLeDiff, Int.reduceLE, Int.reduceLT, Nat.reduceEqDiff, Nat.reduceSub, SB, SV.known, packR, ne_eq, reduceCtorEq, Nat.reduceEqDiff, ↓reduceIte, if_true, if_false, eq_self, Nat.reduceAdd, Nat.reduceMul, Nat.reduceSub, forall_const, oneCellS, litOne, flat1, Kd.isSca, flat, TYB]
              refine ⟨fun _ => ⟨by omega, ?_⟩, fun _ => ?_⟩
              · have hS4 := hS3.set hlt (R' := R3.set (k * 4 + j) 0) (by rw [List.length_set]; exact l3) (in64_set hS3.i (by simp [In64]))
                exact ⟨by unfold In64; omega, ((j + 1, R3.set (k * 4 + j) 0), _, n5), ⟨⟨by show 1 ≤ j + 1; omega, by show j + 1 ≤ 4; omega⟩, hS4⟩, by show 4 - (j + 1) < 4 - j; omega, Sub.same (by simp only [LB, subS, subH, wfS, wfH, SV.ren, renL, SObj.ren, SV.wf, SObj.wf, wfL, SV.known, Nat.reduceEqDiff, ↓reduceIte, if_true, if_false, eq_self, Nat.reduceAdd, Nat.reduceLT, Nat.reduceLeDiff, implies_true, reduceCtorEq, forall_const]; try rfl) (by simp [subS, subH, wfS, wfH, SV.ren, renL, SObj.ren, SV.wf, SObj.wf, wfL, sget_cons, hget_cons] <;> omega) hS4.d.wf hS4.d.le⟩
              · exact ⟨by unfold In64; omega, ((j + 1, R3), _, n5), ⟨⟨by show 1 ≤ j + 1; omega, by show j + 1 ≤ 4; omega⟩, hS3⟩, by show 4 - (j + 1) < 4 - j; omega, Sub.same (by simp only [LB, subS, subH, wfS, wfH, SV.ren, renL, SObj.ren, SV.wf, SObj.wf, wfL, SV.known, Nat.reduceEqDiff, ↓reduceIte, if_true, if_false, eq_self, Nat.reduceAdd, Nat.reduceLT, Nat.reduceLeDiff, implies_true, reduceCtorEq, forall_const]; try rfl) (by simp [subS, subH, wfS, wfH, SV.ren, renL, SObj.ren, SV.wf, SObj.wf, wfL, sget_cons, hget_cons] <;> omega) hS3.d.wf hS3.d.le⟩
            · simp -implicitDefEqProofs only [lk_normal, hj4, ZB, Int.reduceToNat, Nat.reduceLT, Nat.reduceLeDiff, Int.reduceLE, Int.reduceLT, Nat.reduceEqDiff, Nat.reduceSub, SB, SV.known, packR, ne_eq, reduceCtorEq, Nat.reduceEqDiff, ↓reduceIte, if_true, if_false, eq_self, Nat.reduceAdd, Nat.reduceMul, Nat.reduceSub, forall_const, oneCellS, litOne, flat1, Kd.isSca, flat, TYB]
              exact ⟨by unfold In64; omega, ((k + 1, R3), H5, n5), ⟨by show k + 1 ≤ 6; omega, hS3⟩, by show 6 - (k + 1) < 6 - k; omega, Sub.same (by simp only [LB, subS, subH, wfS, wfH, SV.ren, renL, SObj.ren, SV.wf, SObj.wf, wfL, SV.known, Nat.reduceEqDiff, ↓reduceIte, if_true, if_false, eq_self, Nat.reduceAdd, Nat.reduceLT, Nat.reduceLeDiff, implies_true, reduceCtorEq, forall_const]; try rfl) (by simp [subS, subH, wfS, wfH, SV.ren, renL, SObj.ren, SV.wf, SObj.wf, wfL, sget_cons, hget_cons] <;> omega) hS3.d.wf hS3.d.le⟩
        · clear hS1
          simp -implicitDefEqProofs only [lk_normal, hk6, ZB, Int.reduceToNat, Nat.reduceLT, Nat.reduceLeDiff, Int.reduceLE, Int.reduceLT, Nat.reduceEqDiff, Nat.reduceSub, SB, SV.known, packR, ne_eq, reduceCtorEq, Nat.reduceEqDiff, ↓reduceIte, if_true, if_false, eq_self, Nat.reduceAdd, Nat.reduceMul, Nat.reduceSub, forall_const, oneCellS, litOne, flat1, Kd.isSca, flat, TYB]
          refine one_use hS2.d hlt hm (by omega) fun o H6 hd6 hf6 => ?_
          have hS6 := hS2.draw hd6 hf6 (Nat.le_refl _)
          cases o
          · simp -implicitDefEqProofs only [lk_normal, ZB, Int.reduceToNat, Nat.reduceLT, Nat.reduceLeDiff, Int.reduceLE, Int.reduceLT, Nat.reduceEqDiff, Nat.reduceSub, SB, SV.known, packR, ne_eq, reduceCtorEq, Nat.reduceEqDiff, ↓reduceIte, if_true, if_false, eq_self, Nat.reduceAdd, Nat.reduceMul, Nat.reduceSub, forall_const, oneCellS, litOne, flat1, Kd.isSca, flat, TYB]
            refine pick_use hS6.d hlt hm (by omega) fun w H7 hw0 hw1 hd7 hf7 => ?_
            have hS7 := hS6.draw hd7 hf7 (Nat.le_refl _)
            have hr7 := hS7.r
            have hz7 := hS7.z
            have l7 := hS7.l
            have tk7 : R2.take 24 = R2 := List.take_of_length_le (by omega)
            have fin : ∀ (R' : List Int) (k' : Nat) (H' : Heap) (n' : Nat), R'.length = 24 → (∀ x ∈ R', In64 x) → Drawn c kc a k' n H H' n' → n < n' → k' ≤ 1000 → ∃ R : List Int, R' = R ∧ R.length = 24 ∧ (∀ x ∈ R, In64 x) ∧ Drawn c kc a 1000 n H ((n, .ints R' 27) :: H') n' := fun R' k' H' n' h1 h2 h3 h4 h5 => ⟨R', rfl, h1, h2, (h3.more h5).putI hlt (Nat.le_refl _) h4⟩
            have hq7 := hS7.lt
            by_cases w0 : w = 0
            · have w0' : (w = 0) = True := eq_true w0
              simp -implicitDefEqProofs only [lk_normal, w0', ZB, Int.reduceToNat, Nat.reduceLT, Nat.reduceLeDiff, Int.reduceLE, Int.reduceLT, Nat.reduceEqDiff, Nat.reduceSub, SB, SV.known, packR, ne_eq, reduceCtorEq, Nat.reduceEqDiff, ↓reduceIte, if_true, if_false, eq_self, Nat.reduceAdd, Nat.reduceMul, Nat.reduceSub, forall_const, oneCellS, litOne, flat1, Kd.isSca, flat, TYB]
              refine ⟨{q : List Int × Heap × Nat // RkS c kc a n H (n + 3) q.1 300 q.2.1 q.2.2}, fun q => [(3, .ptr (n + 3) 0), (2, .ptr n 0)], fun q => q.1.2.1, fun q => q.1.2.2, ?_, ?_⟩
              · simp -implicitDefEqProofs only [ZB, Int.reduceToNat, Nat.reduceLT, Nat.reduceLeDiff, Int.reduceLE, Int.reduceLT, Nat.reduceEqDiff, Nat.reduceSub, SB, SV.known, packR, ne_eq, reduceCtorEq, Nat.reduceEqDiff, ↓reduceIte, if_true, if_false, eq_self, Nat.reduceAdd, Nat.reduceMul, Nat.reduceSub, forall_const, oneCellS, litOne, flat1, Kd.isSca, flat, TYB]
                refine ⟨?_, ?_⟩
                · refine pick_use hS7.d hlt hm (by omega) fun x H8 g0 g1 hd8 hf8 => ?_
                  have hS8 := hS7.draw hd8 hf8 (Nat.le_refl _)
                  obtain ⟨X, rfl⟩ : ∃ X : Nat, x = X := ⟨x.toNat, by omega⟩
                  have x6 : (X : Int) < 6 := by omega
                  simp -implicitDefEqProofs only [x6, g0, ZB, Int.reduceToNat, Nat.reduceLT, Nat.reduceLeDiff, Int.reduceLE, Int.reduceLT, Nat.reduceEqDiff, Nat.reduceSub, SB, SV.known, packR, ne_eq, reduceCtorEq, Nat.reduceEqDiff, ↓reduceIte, if_true, if_false, eq_self, Nat.reduceAdd, Nat.reduceMul, Nat.reduceSub, forall_const, oneCellS, litOne, flat1, Kd.isSca, flat, TYB]
                  refine ⟨?_, ?_⟩
                  · refine pick_use hS8.d hlt hm (by omega) fun y H9 k0 k1 hd9 hf9 => ?_
                    have hS9 := hS8.draw hd9 hf9 (Nat.le_refl _)
                    simp -implicitDefEqProofs only [ZB, Int.reduceToNat, Nat.reduceLT, Nat.reduceLeDiff, Int.reduceLE, Int.reduceLT, Nat.reduceEqDiff, Nat.reduceSub, SB, SV.known, packR, ne_eq, reduceCtorEq, Nat.reduceEqDiff, ↓reduceIte, if_true, if_false, eq_self, Nat.reduceAdd, Nat.reduceMul, Nat.reduceSub, forall_const, oneCellS, litOne, flat1, Kd.isSca, flat, TYB]
                    refine among_use (hS9.d.pushI hlt) hlt hm (by omega) (L := [-1, 6, 4611686018427387904]) (by simp [hget_cons]; rfl) (by omega) (by simp) fun z Hz hzl hdz hfz => ?_
                    have hSz := (hS9.pushI hlt).draw hdz hfz (Nat.le_refl _)
                    obtain ⟨Y, rfl⟩ : ∃ Y : Nat, y = Y := ⟨y.toNat, by omega⟩
                    have y4 : (Y : Int) < 4 := by omega
                    have xy : X * 4 + Y < 24 := by omega
                    have hz : In64 z := by simp at hzl; unfold In64; omega
                    have hrz := hSz.r
                    have lz := hSz.l
                    have hqz := hSz.lt
                    have hSw := (hSz.set hlt (R' := R2.set (X * 4 + Y) z) (by rw [List.length_set]; exact lz) (in64_set hSz.i hz)).more (k' := 300) (by omega)
                    simp -implicitDefEqProofs only [lk_normal, hrz, lz, x6, y4, xy, g0, k0, ZB, Int.reduceToNat, Nat.reduceLT, Nat.reduceLeDiff, Int.reduceLE, Int.reduceLT, Nat.reduceEqDiff, Nat.reduceSub, SB, SV.known, packR, ne_eq, reduceCtorEq, Nat.reduceEqDiff, ↓reduceIte, if_true, if_false, eq_self, Nat.reduceAdd, Nat.reduceMul, Nat.reduceSub, forall_const, oneCellS, litOne, flat1, Kd.isSca, flat, TYB]
                    exact ⟨by omega, ⟨(R2.set (X * 4 + Y) z, _, _), hSw⟩, Sub.same (by simp only [LB, subS, subH, wfS, wfH, SV.ren, renL, SObj.ren, SV.wf, SObj.wf, wfL, SV.known, Nat.reduceEqDiff, ↓reduceIte, if_true, if_false, eq_self, Nat.reduceAdd, Nat.reduceLT, Nat.reduceLeDiff, implies_true, reduceCtorEq, forall_const]; try rfl) (by simp [subS, subH, wfS, wfH, SV.ren, renL, SObj.ren, SV.wf, SObj.wf, wfL, sget_cons, hget_cons] <;> omega) hSw.d.wf hSw.d.le⟩
                  · refine pick_use (hS8.pushI hlt).d hlt hm (by omega) fun y H9 k0 k1 hd9 hf9 => ?_
                    have hS9 := (hS8.pushI hlt).draw hd9 hf9 (Nat.le_refl _)
                    simp -implicitDefEqProofs only [ZB, Int.reduceToNat, Nat.reduceLT, Nat.reduceLeDiff, Int.reduceLE, Int.reduceLT, Nat.reduceEqDiff, Nat.reduceSub, SB, SV.known, packR, ne_eq, reduceCtorEq, Nat.reduceEqDiff, ↓reduceIte, if_true, if_false, eq_self, Nat.reduceAdd, Nat.reduceMul, Nat.reduceSub, forall_const, oneCellS, litOne, flat1, Kd.isSca, flat, TYB]
                    refine among_use hS9.d hlt hm (by omega) (L := [-1, 6, 4611686018427387904]) (hf9.use (by omega) (by omega) (by simp [hget_cons]; rfl)) (by omega) (by simp) fun z Hz hzl hdz hfz => ?_
                    have hSz := hS9.draw hdz hfz (Nat.le_refl _)
                    obtain ⟨Y, rfl⟩ : ∃ Y : Nat, y = Y := ⟨y.toNat, by omega⟩
                    have y4 : (Y : Int) < 4 := by omega
                    have xy : X * 4 + Y < 24 := by omega
                    have hz : In64 z := by simp at hzl; unfold In64; omega
                    have hrz := hSz.r
                    have lz := hSz.l
                    have hqz := hSz.lt
                    have hSw := (hSz.set hlt (R' := R2.set (X * 4 + Y) z) (by rw [List.length_set]; exact lz) (in64_set hSz.i hz)).more (k' := 300) (by omega)
                    simp -implicitDefEqProofs only [lk_normal, hrz, lz, x6, y4, xy, g0, k0, ZB, Int.reduceToNat, Nat.reduceLT, Nat.reduceLeDiff, Int.reduceLE, Int.reduceLT, Nat.reduceEqDiff, Nat.reduceSub, SB, SV.known, packR, ne_eq, reduceCtorEq, Nat.reduceEqDiff, ↓reduceIte, if_true, if_false, eq_self, Nat.reduceAdd, Nat.reduceMul, Nat.reduceSub, forall_const, oneCellS, litOne, flat1, Kd.isSca, flat, TYB]
                    exact ⟨by omega, ⟨(R2.set (X * 4 + Y) z, _, _), hSw⟩, Sub.same (by simp only [LB, subS, subH, wfS, wfH, SV.ren, renL, SObj.ren, SV.wf, SObj.wf, wfL, SV.known, Nat.reduceEqDiff, ↓reduceIte, if_true, if_false, eq_self, Nat.reduceAdd, Nat.reduceLT, Nat.reduceLeDiff, implies_true, reduceCtorEq, forall_const]; try rfl) (by simp [subS, subH, wfS, wfH, SV.ren, renL, SObj.ren, SV.wf, SObj.wf, wfL, sget_cons, hget_cons] <;> omega) hSw.d.wf hSw.d.le⟩
                · refine pick_use (hS7.pushI hlt).d hlt hm (by omega) fun x H8 g0 g1 hd8 hf8 => ?_
                  have hS8 := (hS7.pushI hlt).draw hd8 hf8 (Nat.le_refl _)
                  have hb8 := hf8.use (by omega) (by omega) (show hget _ n4 = some (.ints [-1, 6, 4611686018427387904] 3) by simp [hget_cons])
                  obtain ⟨X, rfl⟩ : ∃ X : Nat, x = X := ⟨x.toNat, by omega⟩
                  have x6 : (X : Int) < 6 := by omega
                  simp -implicitDefEqProofs only [x6, g0, ZB, Int.reduceToNat, Nat.reduceLT, Nat.reduceLeDiff, Int.reduceLE, Int.reduceLT, Nat.reduceEqDiff, Nat.reduceSub, SB, SV.known, packR, ne_eq, reduceCtorEq, Nat.reduceEqDiff, ↓reduceIte, if_true, if_false, eq_self, Nat.reduceAdd, Nat.reduceMul, Nat.reduceSub, forall_const, oneCellS, litOne, flat1, Kd.isSca, flat, TYB]
                  refine pick_use hS8.d hlt hm (by omega) fun y H9 k0 k1 hd9 hf9 => ?_
                  have hS9 := hS8.draw hd9 hf9 (Nat.le_refl _)
                  simp -implicitDefEqProofs only [ZB, Int.reduceToNat, Nat.reduceLT, Nat.reduceLeDiff, Int.reduceLE, Int.reduceLT, Nat.reduceEqDiff, Nat.reduceSub, SB, SV.known, packR, ne_eq, reduceCtorEq, Nat.reduceEqDiff, ↓reduceIte, if_true, if_false, eq_self, Nat.reduceAdd, Nat.reduceMul, Nat.reduceSub, forall_const, oneCellS, litOne, flat1, Kd.isSca, flat, TYB]
                  refine among_use hS9.d hlt hm (by omega) (L := [-1, 6, 4611686018427387904]) (hf9.use (by omega) (by omega) hb8) (by omega) (by simp) fun z Hz hzl hdz hfz => ?_
                  have hSz := hS9.draw hdz hfz (Nat.le_refl _)
                  obtain ⟨Y, rfl⟩ : ∃ Y : Nat, y = Y := ⟨y.toNat, by omega⟩
                  have y4 : (Y : Int) < 4 := by omega
                  have xy : X * 4 + Y < 24 := by omega
                  have hz : In64 z := by simp at hzl; unfold In64; omega
                  have hrz := hSz.r
                  have lz := hSz.l
                  have hqz := hSz.lt
                  have hSw := (hSz.set hlt (R' := R2.set (X * 4 + Y) z) (by rw [List.length_set]; exact lz) (in64_set hSz.i hz)).more (k' := 300) (by omega)
                  simp -implicitDefEqProofs only [lk_normal, hrz, lz, x6, y4, xy, g0, k0, ZB, Int.reduceToNat, Nat.reduceLT, Nat.reduceLeDiff, Int.reduceLE, Int.reduceLT, Nat.reduceEqDiff, Nat.reduceSub, SB, SV.known, packR, ne_eq, reduceCtorEq, Nat.reduceEqDiff, ↓reduceIte, if_true, if_false, eq_self, Nat.reduceAdd, Nat.reduceMul, Nat.reduceSub, forall_const, oneCellS, litOne, flat1, Kd.isSca, flat, TYB]
                  exact ⟨by omega, ⟨(R2.set (X * 4 + Y) z, _, _), hSw⟩, Sub.same (by simp only [LB, subS, subH, wfS, wfH, SV.ren, renL, SObj.ren, SV.wf, SObj.wf, wfL, SV.known, Nat.reduceEqDiff, ↓reduceIte, if_true, if_false, eq_self, Nat.reduceAdd, Nat.reduceLT, Nat.reduceLeDiff, implies_true, reduceCtorEq, forall_const]; try rfl) (by simp [subS, subH, wfS, wfH, SV.ren, renL, SObj.ren, SV.wf, SObj.wf, wfL, sget_cons, hget_cons] <;> omega) hSw.d.wf hSw.d.le⟩
              · rintro ⟨⟨R9, H9, n9⟩, hS9⟩
                simp only at hS9
                have hr9 := hS9.r
                have l9 := hS9.l
                have hz9 := hS9.z
                have hq9 := hS9.lt
                have tk9 : R9.take 24 = R9 := List.take_of_length_le (by omega)
                simp -implicitDefEqProofs only [lk_normal, hr9, hz9, l9, tk9, ZB, Int.reduceToNat, Nat.reduceLT, Nat.reduceLeDiff, Int.reduceLE, Int.reduceLT, Nat.reduceEqDiff, Nat.reduceSub, SB, SV.known, packR, ne_eq, reduceCtorEq, Nat.reduceEqDiff, ↓reduceIte, if_true, if_false, eq_self, Nat.reduceAdd, Nat.reduceMul, Nat.reduceSub, forall_const, oneCellS, litOne, flat1, Kd.isSca, flat, TYB]
                exact ⟨hmn, fin R9 _ H9 n9 hS9.l hS9.i hS9.d (by omega) (by omega)⟩
            by_cases w1 : w = 1
            · have w1' : (w = 1) = True := eq_true w1
              simp -implicitDefEqProofs only [lk_normal, w0, w1', ZB, Int.reduceToNat, Nat.reduceLT, Nat.reduceLeDiff, Int.reduceLE, Int.reduceLT, Nat.reduceEqDiff, Nat.reduceSub, SB, SV.known, packR, ne_eq, reduceCtorEq, Nat.reduceEqDiff, ↓reduceIte, if_true, if_false, eq_self, Nat.reduceAdd, Nat.reduceMul, Nat.reduceSub, forall_const, oneCellS, litOne, flat1, Kd.isSca, flat, TYB]
              refine pick_use hS7.d hlt hm (by omega) fun x H8 g0 g1 hd8 hf8 => ?_
              have hS8 := hS7.draw hd8 hf8 (Nat.le_refl _)
              have hr8 := hS8.r
              have l8 := hS8.l
              have hz8 := hS8.z
              have hq8 := hS8.lt
              obtain ⟨X, rfl⟩ : ∃ X : Nat, x = X := ⟨x.toNat, by omega⟩
              have x6 : (X : Int) < 6 := by omega
              have x4 : X * 4 + 4 ≤ 24 := by omega
              let V : List Int := ((((List.replicate 4 (0 : Int)).set 0 0).set 1 1).set 2 0).set 3 0
              have e3 : (n = n + 3) = False := by simp
              have lV : V.length = 4 := rfl
              have eV : (((((List.replicate 4 (0 : Int)).set 0 0).set 1 1).set 2 0).set 3 0) = V := rfl
              have hRl : (R2.take (X * 4) ++ V ++ R2.drop (X * 4 + 4)).length = 24 := by
                rw [List.length_append, List.length_append, List.length_take, List.length_drop, lV]; omega
              have hRi : ∀ y ∈ R2.take (X * 4) ++ V ++ R2.drop (X * 4 + 4), In64 y := fun y hy => by
                rcases List.mem_append.1 hy with hy | hy
                · rcases List.mem_append.1 hy with hy | hy
                  · exact hS8.i y (List.mem_of_mem_take hy)
                  · have hy' : y ∈ ([0, 1, 0, 0] : List Int) := hy
                    simp at hy'; unfold In64; omega
                · exact hS8.i y (List.mem_of_mem_drop hy)
              have hS9 := hS8.set hlt hRl hRi
              have tk8 : (R2.take (X * 4) ++ V ++ R2.drop (X * 4 + 4)).take 24 = R2.take (X * 4) ++ V ++ R2.drop (X * 4 + 4) := List.take_of_length_le (by omega)
              simp -implicitDefEqProofs only [lk_normal, hr8, l8, hz8, x6, x4, g0, eV, lV, tk8, hRl, e3, ZB, Int.reduceToNat, Nat.reduceLT, Nat.reduceLeDiff, Int.reduceLE, Int.reduceLT, Nat.reduceEqDiff, Nat.reduceSub, SB, SV.known, packR, ne_eq, reduceCtorEq, Nat.reduceEqDiff, ↓reduceIte, if_true, if_false, eq_self, Nat.reduceAdd, Nat.reduceMul, Nat.reduceSub, forall_const, oneCellS, litOne, flat1, Kd.isSca, flat, TYB]
              exact ⟨by omega, hmn, fin _ _ _ n4 hRl hRi hS9.d (by omega) (by omega)⟩
            by_cases w2 : w = 2
            · have w2' : (w = 2) = True := eq_true w2
              simp -implicitDefEqProofs only [lk_normal, hz7, w0, w1, w2', ZB, Int.reduceToNat, Nat.reduceLT, Nat.reduceLeDiff, Int.reduceLE, Int.reduceLT, Nat.reduceEqDiff, Nat.reduceSub, SB, SV.known, packR, ne_eq, reduceCtorEq, Nat.reduceEqDiff, ↓reduceIte, if_true, if_false, eq_self, Nat.reduceAdd, Nat.reduceMul, Nat.reduceSub, forall_const, oneCellS, litOne, flat1, Kd.isSca, flat, TYB]
              exact ⟨hmn, fin (List.replicate 24 0) _ H7 n4 (by simp) (fun x hx => by rw [List.eq_of_mem_replicate hx]; simp [In64]) hS7.d (by omega) (by omega)⟩
            · simp -implicitDefEqProofs only [lk_normal, hr7, hz7, l7, tk7, w0, w1, w2, ZB, Int.reduceToNat, Nat.reduceLT, Nat.reduceLeDiff, Int.reduceLE, Int.reduceLT, Nat.reduceEqDiff, Nat.reduceSub, SB, SV.known, packR, ne_eq, reduceCtorEq, Nat.reduceEqDiff, ↓reduceIte, if_true, if_false, eq_self, Nat.reduceAdd, Nat.reduceMul, Nat.reduceSub, forall_const, oneCellS, litOne, flat1, Kd.isSca, flat, TYB]
              exact ⟨hmn, fin R2 _ H7 n4 l7 hS7.i hS7.d (by omega) (by omega)⟩
          · simp -implicitDefEqProofs only [lk_normal, ZB, Int.reduceToNat, Nat.reduceLT, Nat.reduceLeDiff, Int.reduceLE, Int.reduceLT, Nat.reduceEqDiff, Nat.reduceSub, SB, SV.known, packR, ne_eq, reduceCtorEq, Nat.reduceEqDiff, ↓reduceIte, if_true, if_false, eq_self, Nat.reduceAdd, Nat.reduceMul, Nat.reduceSub, forall_const, oneCellS, litOne, flat1, Kd.isSca, flat, TYB]
            refine pick_use hS6.d hlt hm (by omega) fun x Ha x0 x1 hda hfa => ?_
            have hSa := hS6.draw hda hfa (Nat.le_refl _)
            simp -implicitDefEqProofs only [ZB, Int.reduceToNat, Nat.reduceLT, Nat.reduceLeDiff, Int.reduceLE, Int.reduceLT, Nat.reduceEqDiff, Nat.reduceSub, SB, SV.known, packR, ne_eq, reduceCtorEq, Nat.reduceEqDiff, ↓reduceIte, if_true, if_false, eq_self, Nat.reduceAdd, Nat.reduceMul, Nat.reduceSub, forall_const, oneCellS, litOne, flat1, Kd.isSca, flat, TYB]
            refine pick_use hSa.d hlt hm (by omega) fun y Hb y0 y1 hdb hfb => ?_
            have hSb := hSa.draw hdb hfb (Nat.le_refl _)
            obtain ⟨X, rfl⟩ : ∃ X : Nat, x = X := ⟨x.toNat, by omega⟩
            obtain ⟨Y, rfl⟩ : ∃ Y : Nat, y = Y := ⟨y.toNat, by omega⟩
            have x6 : (X : Int) < 6 := by omega
            have y6 : (Y : Int) < 6 := by omega
            have x4 : X * 4 + 4 ≤ 24 := by omega
            have y4 : Y * 4 + 4 ≤ 24 := by omega
            have hrb := hSb.r
            have lb := hSb.l
            have hqb := hSb.lt
            simp -implicitDefEqProofs only [ZB, Int.reduceToNat, Nat.reduceLT, Nat.reduceLeDiff, Int.reduceLE, Int.reduceLT, Nat.reduceEqDiff, Nat.reduceSub, SB, SV.known, packR, ne_eq, reduceCtorEq, Nat.reduceEqDiff, ↓reduceIte, if_true, if_false, eq_self, Nat.reduceAdd, Nat.reduceMul, Nat.reduceSub, forall_const, oneCellS, litOne, flat1, Kd.isSca, flat, TYB]
            refine ⟨{q : (Nat × Nat) × Heap × Nat // RkS c kc a n H (n + 3) R2 170 q.2.1 q.2.2 ∧ hget q.2.1 q.1.1 = some (.ints ((R2.drop (X * 4)).take 4) 24) ∧ hget q.2.1 q.1.2 = some (.ints ((R2.drop (Y * 4)).take 4) 24) ∧ n + 3 < q.1.1 ∧ n + 3 < q.1.2 ∧ q.1.1 < q.2.2 ∧ q.1.2 < q.2.2},
              fun q => [(13, .ptr q.1.1.2 0), (12, .ptr q.1.1.1 0), (11, .int Y), (10, .int X), (3, .ptr (n + 3) 0), (2, .ptr n 0), (0, .ptr c 0)], fun q => q.1.2.1, fun q => q.1.2.2, ?_, ?_⟩
            · have lA : ((R2.drop (X * 4)).take 4).length = 4 := by rw [List.length_take, List.length_drop]; omega
              have lB : ((R2.drop (Y * 4)).take 4).length = 4 := by rw [List.length_take, List.length_drop]; omega
              have tA : ((R2.drop (X * 4)).take 4).take 4 = (R2.drop (X * 4)).take 4 := List.take_of_length_le (by omega)
              have tB : ((R2.drop (Y * 4)).take 4).take 4 = (R2.drop (Y * 4)).take 4 := List.take_of_length_le (by omega)
              have e3 : ∀ i, (n4 + i = n + 3) = False := fun i => by simp; omega
              have e4 : ∀ i, (n + 3 = n4 + i) = False := fun i => by simp; omega
              have e5 : (n4 = n + 3) = False := by simp; omega
              have e6 : (n + 3 = n4) = False := by simp; omega
              simp -implicitDefEqProofs only [hrb, lb, x0, x6, x4, y0, y6, y4, Nat.add_assoc, add_self, self_add, add_add, e3, e4, e5, e6, lA, lB, tA, tB, ZB, Int.reduceToNat, Nat.reduceLT, Nat.reduceLeDiff, Int.reduceLE, Int.reduceLT, Nat.reduceEqDiff, Nat.reduceSub, SB, SV.known, packR, ne_eq, reduceCtorEq, Nat.reduceEqDiff, ↓reduceIte, if_true, if_false, eq_self, Nat.reduceAdd, Nat.reduceMul, Nat.reduceSub, forall_const, oneCellS, litOne, flat1, Kd.isSca, flat, TYB]
              have hwk : ∀ (L1 L2 L3 L4 : List Int) (e1 e2 e3 e4 k1 k2 k3 k4 : Nat), n4 ≤ k1 → n4 ≤ k2 → n4 ≤ k3 → n4 ≤ k4 → k1 < n4 + 2 → k2 < n4 + 2 → k3 < n4 + 2 → k4 < n4 + 2 →
                  RkS c kc a n H (n + 3) R2 170 ((k1, .ints L1 e1) :: (k2, .ints L2 e2) :: (k3, .ints L3 e3) :: (k4, .ints L4 e4) :: Hb) (n4 + 2) := fun L1 L2 L3 L4 e1 e2 e3 e4 k1 k2 k3 k4 h1 h2 h3 h4 g1 g2 g3 g4 =>
                (hSb.more (by omega)).ext (hwf_cons (hwf_cons (hwf_cons (hwf_cons (hwf_mono (by omega) hSb.d.wf) g4 trivial) g3 trivial) g2 trivial) g1 trivial) (by omega) fun j o hj ho => by
                  rw [hget_cons, if_neg (by omega), hget_cons, if_neg (by omega), hget_cons, if_neg (by omega), hget_cons, if_neg (by omega)]
                  exact ho
              have hwj := fun (L1 L2 L3 L4 : List Int) (e1 e2 e3 e4 k1 k2 k3 k4 : Nat) h1 h2 h3 h4 g1 g2 g3 g4 => (hwk L1 L2 L3 L4 e1 e2 e3 e4 k1 k2 k3 k4 h1 h2 h3 h4 g1 g2 g3 g4).d.wf
              repeat' first
                | apply And.intro
                | omega
                | refine ⟨⟨((n4, n4 + 1), _, n4 + 2), hwk _ _ _ _ _ _ _ _ _ _ _ _ (by omega) (by omega) (by omega) (by omega) (by omega) (by omega) (by omega) (by omega), ?_, ?_, by show n + 3 < n4; omega, by show n + 3 < n4 + 1; omega, by show n4 < n4 + 2; omega, by show n4 + 1 < n4 + 2; omega⟩, Sub.same ?_ ?_ (hwj _ _ _ _ _ _ _ _ _ _ _ _ (by omega) (by omega) (by omega) (by omega) (by omega) (by omega) (by omega) (by omega)) (by show n ≤ n4 + 2; omega)⟩ <;> first | (simp [hget_cons]; done) | (simp only [LB, subS, subH, wfS, wfH, SV.ren, renL, SObj.ren, SV.wf, SObj.wf, wfL, SV.known, Nat.reduceEqDiff, ↓reduceIte, if_true, if_false, eq_self, Nat.reduceAdd, Nat.reduceLT, Nat.reduceLeDiff, implies_true, reduceCtorEq, forall_const]; done) | (simp [subS, subH, wfS, wfH, SV.ren, renL, SObj.ren, SV.wf, SObj.wf, wfL, sget_cons, hget_cons] <;> omega)
                | refine ⟨⟨((n4 + 1, n4), _, n4 + 2), hwk _ _ _ _ _ _ _ _ _ _ _ _ (by omega) (by omega) (by omega) (by omega) (by omega) (by omega) (by omega) (by omega), ?_, ?_, by show n + 3 < n4 + 1; omega, by show n + 3 < n4; omega, by show n4 + 1 < n4 + 2; omega, by show n4 < n4 + 2; omega⟩, Sub.same ?_ ?_ (hwj _ _ _ _ _ _ _ _ _ _ _ _ (by omega) (by omega) (by omega) (by omega) (by omega) (by omega) (by omega) (by omega)) (by show n ≤ n4 + 2; omega)⟩ <;> first | (simp [hget_cons]; done) | (simp only [LB, subS, subH, wfS, wfH, SV.ren, renL, SObj.ren, SV.wf, SObj.wf, wfL, SV.known, Nat.reduceEqDiff, ↓reduceIte, if_true, if_false, eq_self, Nat.reduceAdd, Nat.reduceLT, Nat.reduceLeDiff, implies_true, reduceCtorEq, forall_const]; done) | (simp [subS, subH, wfS, wfH, SV.ren, renL, SObj.ren, SV.wf, SObj.wf, wfL, sget_cons, hget_cons] <;> omega)
            · rintro ⟨⟨⟨b1, b2⟩, Hc, nc⟩, hSc, g1, g2, g3, g4, g5, g6⟩
              simp only at hSc g1 g2 g3 g4 g5 g6
              have lA : ((R2.drop (X * 4)).take 4).length = 4 := by rw [List.length_take, List.length_drop]; omega
              have lB : ((R2.drop (Y * 4)).take 4).length = 4 := by rw [List.length_take, List.length_drop]; omega
              have tA : ((R2.drop (X * 4)).take 4).take 4 = (R2.drop (X * 4)).take 4 := List.take_of_length_le (by omega)
              have tB : ((R2.drop (Y * 4)).take 4).take 4 = (R2.drop (Y * 4)).take 4 := List.take_of_length_le (by omega)
              have hrc := hSc.r
              have e1 : (b1 = n + 3) = False := by simp; omega
              simp -implicitDefEqProofs only [lk_normal, g1, g2, hrc, lb, lA, lB, tA, tB, x0, x6, x4, y0, y6, y4, e1, ZB, Int.reduceToNat, Nat.reduceLT, Nat.reduceLeDiff, Int.reduceLE, Int.reduceLT, Nat.reduceEqDiff, Nat.reduceSub, SB, SV.known, packR, ne_eq, reduceCtorEq, Nat.reduceEqDiff, ↓reduceIte, if_true, if_false, eq_self, Nat.reduceAdd, Nat.reduceMul, Nat.reduceSub, forall_const, oneCellS, litOne, flat1, Kd.isSca, flat, TYB]
              have hl4 : (R2.take (X * 4) ++ (R2.drop (Y * 4)).take 4 ++ R2.drop (X * 4 + 4)).length = 24 := by
                rw [List.length_append, List.length_append, List.length_take, List.length_drop, lB]; omega
              have hi4 : ∀ z ∈ R2.take (X * 4) ++ (R2.drop (Y * 4)).take 4 ++ R2.drop (X * 4 + 4), In64 z := fun z hz => by
                rcases List.mem_append.1 hz with hz | hz
                · rcases List.mem_append.1 hz with hz | hz
                  · exact hSb.i z (List.mem_of_mem_take hz)
                  · exact hSb.i z (List.mem_of_mem_drop (List.mem_of_mem_take hz))
                · exact hSb.i z (List.mem_of_mem_drop hz)
              have hSc1 := hSc.set hlt hl4 hi4
              generalize R2.take (X * 4) ++ (R2.drop (Y * 4)).take 4 ++ R2.drop (X * 4 + 4) = R4 at *
              have hl5 : (R4.take (Y * 4) ++ (R2.drop (X * 4)).take 4 ++ R4.drop (Y * 4 + 4)).length = 24 := by
                rw [List.length_append, List.length_append, List.length_take, List.length_drop, lA]; omega
              have hi5 : ∀ z ∈ R4.take (Y * 4) ++ (R2.drop (X * 4)).take 4 ++ R4.drop (Y * 4 + 4), In64 z := fun z hz => by
                rcases List.mem_append.1 hz with hz | hz
                · rcases List.mem_append.1 hz with hz | hz
                  · exact hi4 z (List.mem_of_mem_take hz)
                  · exact hSb.i z (List.mem_of_mem_drop (List.mem_of_mem_take hz))
                · exact hi4 z (List.mem_of_mem_drop hz)
              have hSd := hSc1.set hlt hl5 hi5
              generalize R4.take (Y * 4) ++ (R2.drop (X * 4)).take 4 ++ R4.drop (Y * 4 + 4) = R5 at *
              refine ⟨by omega, by omega, by omega, ?_⟩
              refine pick_use hSd.d hlt hm (by omega) fun w H7 hw0 hw1 hd7 hf7 => ?_
              have hS7 := hSd.draw hd7 hf7 (Nat.le_refl _)
              have hr7 := hS7.r
              have hz7 := hS7.z
              have l7 := hS7.l
              have tk7 : R5.take 24 = R5 := List.take_of_length_le (by omega)
              have fin : ∀ (R' : List Int) (k' : Nat) (H' : Heap) (n' : Nat), R'.length = 24 → (∀ x ∈ R', In64 x) → Drawn c kc a k' n H H' n' → n < n' → k' ≤ 1000 → ∃ R : List Int, R' = R ∧ R.length = 24 ∧ (∀ x ∈ R, In64 x) ∧ Drawn c kc a 1000 n H ((n, .ints R' 27) :: H') n' := fun R' k' H' n' h1 h2 h3 h4 h5 => ⟨R', rfl, h1, h2, (h3.more h5).putI hlt (Nat.le_refl _) h4⟩
              have hq7 := hS7.lt
              by_cases w0 : w = 0
              · have w0' : (w = 0) = True := eq_true w0
                simp -implicitDefEqProofs only [lk_normal, w0', ZB, Int.reduceToNat, Nat.reduceLT, Nat.reduceLeDiff, Int.reduceLE, Int.reduceLT, Nat.reduceEqDiff, Nat.reduceSub, SB, SV.known, packR, ne_eq, reduceCtorEq, Nat.reduceEqDiff, ↓reduceIte, if_true, if_false, eq_self, Nat.reduceAdd, Nat.reduceMul, Nat.reduceSub, forall_const, oneCellS, litOne, flat1, Kd.isSca, flat, TYB]
                refine ⟨{q : List Int × Heap × Nat // RkS c kc a n H (n + 3) q.1 300 q.2.1 q.2.2}, fun q => [(3, .ptr (n + 3) 0), (2, .ptr n 0)], fun q => q.1.2.1, fun q => q.1.2.2, ?_, ?_⟩
                · simp -implicitDefEqProofs only [ZB, Int.reduceToNat, Nat.reduceLT, Nat.reduceLeDiff, Int.reduceLE, Int.reduceLT, Nat.reduceEqDiff, Nat.reduceSub, SB, SV.known, packR, ne_eq, reduceCtorEq, Nat.reduceEqDiff, ↓reduceIte, if_true, if_false, eq_self, Nat.reduceAdd, Nat.reduceMul, Nat.reduceSub, forall_const, oneCellS, litOne, flat1, Kd.isSca, flat, TYB]
                  refine ⟨?_, ?_⟩
                  · refine pick_use hS7.d hlt hm (by omega) fun x H8 g0 g1 hd8 hf8 => ?_
                    have hS8 := hS7.draw hd8 hf8 (Nat.le_refl _)
                    obtain ⟨X, rfl⟩ : ∃ X : Nat, x = X := ⟨x.toNat, by omega⟩
                    have x6 : (X : Int) < 6 := by omega
                    simp -implicitDefEqProofs only [x6, g0, ZB, Int.reduceToNat, Nat.reduceLT, Nat.reduceLeDiff, Int.reduceLE, Int.reduceLT, Nat.reduceEqDiff, Nat.reduceSub, SB, SV.known, packR, ne_eq, reduceCtorEq, Nat.reduceEqDiff, ↓reduceIte, if_true, if_false, eq_self, Nat.reduceAdd, Nat.reduceMul, Nat.reduceSub, forall_const, oneCellS, litOne, flat1, Kd.isSca, flat, TYB]
                    refine ⟨?_, ?_⟩
                    · refine pick_use hS8.d hlt hm (by omega) fun y H9 k0 k1 hd9 hf9 => ?_
                      have hS9 := hS8.draw hd9 hf9 (Nat.le_refl _)
                      simp -implicitDefEqProofs only [ZB, Int.reduceToNat, Nat.reduceLT, Nat.reduceLeDiff, Int.reduceLE, Int.reduceLT, Nat.reduceEqDiff, Nat.reduceSub, SB, SV.known, packR, ne_eq, reduceCtorEq, Nat.reduceEqDiff, ↓reduceIte, if_true, if_false, eq_self, Nat.reduceAdd, Nat.reduceMul, Nat.reduceSub, forall_const, oneCellS, litOne, flat1, Kd.isSca, flat, TYB]
                      refine among_use (hS9.d.pushI hlt) hlt hm (by omega) (L := [-1, 6, 4611686018427387904]) (by simp [hget_cons]; rfl) (by omega) (by simp) fun z Hz hzl hdz hfz => ?_
                      have hSz := (hS9.pushI hlt).draw hdz hfz (Nat.le_refl _)
                      obtain ⟨Y, rfl⟩ : ∃ Y : Nat, y = Y := ⟨y.toNat, by omega⟩
                      have y4 : (Y : Int) < 4 := by omega
                      have xy : X * 4 + Y < 24 := by omega
                      have hz : In64 z := by simp at hzl; unfold In64; omega
                      have hrz := hSz.r
                      have lz := hSz.l
                      have hqz := hSz.lt
                      have hSw := (hSz.set hlt (R' := R5.set (X * 4 + Y) z) (by rw [List.length_set]; exact lz) (in64_set hSz.i hz)).more (k' := 300) (by omega)
                      simp -implicitDefEqProofs only [lk_normal, hrz, lz, x6, y4, xy, g0, k0, ZB, Int.reduceToNat, Nat.reduceLT, Nat.reduceLeDiff, Int.reduceLE, Int.reduceLT, Nat.reduceEqDiff, Nat.reduceSub, SB, SV.known, packR, ne_eq, reduceCtorEq, Nat.reduceEqDiff, ↓reduceIte, if_true, if_false, eq_self, Nat.reduceAdd, Nat.reduceMul, Nat.reduceSub, forall_const, oneCellS, litOne, flat1, Kd.isSca, flat, TYB]
                      exact ⟨by omega, ⟨(R5.set (X * 4 + Y) z, _, _), hSw⟩, Sub.same (by simp only [LB, subS, subH, wfS, wfH, SV.ren, renL, SObj.ren, SV.wf, SObj.wf, wfL, SV.known, Nat.reduceEqDiff, ↓reduceIte, if_true, if_false, eq_self, Nat.reduceAdd, Nat.reduceLT, Nat.reduceLeDiff, implies_true, reduceCtorEq, forall_const]; try rfl) (by simp [subS, subH, wfS, wfH, SV.ren, renL, SObj.ren, SV.wf, SObj.wf, wfL, sget_cons, hget_cons] <;> omega) hSw.d.wf hSw.d.le⟩
                    · refine pick_use (hS8.pushI hlt).d hlt hm (by omega) fun y H9 k0 k1 hd9 hf9 => ?_
                      have hS9 := (hS8.pushI hlt).draw hd9 hf9 (Nat.le_refl _)
                      simp -implicitDefEqProofs only [ZB, Int.reduceToNat, Nat.reduceLT, Nat.reduceLeDiff, Int.reduceLE, Int.reduceLT, Nat.reduceEqDiff, Nat.reduceSub, SB, SV.known, packR, ne_eq, reduceCtorEq, Nat.reduceEqDiff, ↓reduceIte, if_true, if_false, eq_self, Nat.reduceAdd, Nat.reduceMul, Nat.reduceSub, forall_const, oneCellS, litOne, flat1, Kd.isSca, flat, TYB]
                      refine among_use hS9.d hlt hm (by omega) (L := [-1, 6, 4611686018427387904]) (hf9.use (by omega) (by omega) (by simp [hget_cons]; rfl)) (by omega) (by simp) fun z Hz hzl hdz hfz => ?_
                      have hSz := hS9.draw hdz hfz (Nat.le_refl _)
                      obtain ⟨Y, rfl⟩ : ∃ Y : Nat, y = Y := ⟨y.toNat, by omega⟩
                      have y4 : (Y : Int) < 4 := by omega
                      have xy : X * 4 + Y < 24 := by omega
                      have hz : In64 z := by simp at hzl; unfold In64; omega
                      have hrz := hSz.r
                      have lz := hSz.l
                      have hqz := hSz.lt
                      have hSw := (hSz.set hlt (R' := R5.set (X * 4 + Y) z) (by rw [List.length_set]; exact lz) (in64_set hSz.i hz)).more (k' := 300) (by omega)
                      simp -implicitDefEqProofs only [lk_normal, hrz, lz, x6, y4, xy, g0, k0, ZB, Int.reduceToNat, Nat.reduceLT, Nat.reduceLeDiff, Int.reduceLE, Int.reduceLT, Nat.reduceEqDiff, Nat.reduceSub, SB, SV.known, packR, ne_eq, reduceCtorEq, Nat.reduceEqDiff, ↓reduceIte, if_true, if_false, eq_self, Nat.reduceAdd, Nat.reduceMul, Nat.reduceSub, forall_const, oneCellS, litOne, flat1, Kd.isSca, flat, TYB]
                      exact ⟨by omega, ⟨(R5.set (X * 4 + Y) z, _, _), hSw⟩, Sub.same (by simp only [LB, subS, subH, wfS, wfH, SV.ren, renL, SObj.ren, SV.wf, SObj.wf, wfL, SV.known, Nat.reduceEqDiff, ↓reduceIte, if_true, if_false, eq_self, Nat.reduceAdd, Nat.reduceLT, Nat.reduceLeDiff, implies_true, reduceCtorEq, forall_const]; try rfl) (by simp [subS, subH, wfS, wfH, SV.ren, renL, SObj.ren, SV.wf, SObj.wf, wfL, sget_cons, hget_cons] <;> omega) hSw.d.wf hSw.d.le⟩
                  · refine pick_use (hS7.pushI hlt).d hlt hm (by omega) fun x H8 g0 g1 hd8 hf8 => ?_
                    have hS8 := (hS7.pushI hlt).draw hd8 hf8 (Nat.le_refl _)
                    have hb8 := hf8.use (by omega) (by omega) (show hget _ nc = some (.ints [-1, 6, 4611686018427387904] 3) by simp [hget_cons])
                    obtain ⟨X, rfl⟩ : ∃ X : Nat, x = X := ⟨x.toNat, by omega⟩
                    have x6 : (X : Int) < 6 := by omega
                    simp -implicitDefEqProofs only [x6, g0, ZB, Int.reduceToNat, Nat.reduceLT, Nat.reduceLeDiff, Int.reduceLE, Int.reduceLT, Nat.reduceEqDiff, Nat.reduceSub, SB, SV.known, packR, ne_eq, reduceCtorEq, Nat.reduceEqDiff, ↓reduceIte, if_true, if_false, eq_self, Nat.reduceAdd, Nat.reduceMul, Nat.reduceSub, forall_const, oneCellS, litOne, flat1, Kd.isSca, flat, TYB]
                    refine pick_use hS8.d hlt hm (by omega) fun y H9 k0 k1 hd9 hf9 => ?_
                    have hS9 := hS8.draw hd9 hf9 (Nat.le_refl _)
                    simp -implicitDefEqProofs only [ZB, Int.reduceToNat, Nat.reduceLT, Nat.reduceLeDiff, Int.reduceLE, Int.reduceLT, Nat.reduceEqDiff, Nat.reduceSub, SB, SV.known, packR, ne_eq, reduceCtorEq, Nat.reduceEqDiff, ↓reduceIte, if_true, if_false, eq_self, Nat.reduceAdd, Nat.reduceMul, Nat.reduceSub, forall_const, oneCellS, litOne, flat1, Kd.isSca, flat, TYB]
                    refine among_use hS9.d hlt hm (by omega) (L := [-1, 6, 4611686018427387904]) (hf9.use (by omega) (by omega) hb8) (by omega) (by simp) fun z Hz hzl hdz hfz => ?_
                    have hSz := hS9.draw hdz hfz (Nat.le_refl _)
                    obtain ⟨Y, rfl⟩ : ∃ Y : Nat, y = Y := ⟨y.toNat, by omega⟩
                    have y4 : (Y : Int) < 4 := by omega
                    have xy : X * 4 + Y < 24 := by omega
                    have hz : In64 z := by simp at hzl; unfold In64; omega
                    have hrz := hSz.r
                    have lz := hSz.l
                    have hqz := hSz.lt
                    have hSw := (hSz.set hlt (R' := R5.set (X * 4 + Y) z) (by rw [List.length_set]; exact lz) (in64_set hSz.i hz)).more (k' := 300) (by omega)
                    simp -implicitDefEqProofs only [lk_normal, hrz, lz, x6, y4, xy, g0, k0, ZB, Int.reduceToNat, Nat.reduceLT, Nat.reduceLeDiff, Int.reduceLE, Int.reduceLT, Nat.reduceEqDiff, Nat.reduceSub, SB, SV.known, packR, ne_eq, reduceCtorEq, Nat.reduceEqDiff, ↓reduceIte, if_true, if_false, eq_self, Nat.reduceAdd, Nat.reduceMul, Nat.reduceSub, forall_const, oneCellS, litOne, flat1, Kd.isSca, flat, TYB]
                    exact ⟨by omega, ⟨(R5.set (X * 4 + Y) z, _, _), hSw⟩, Sub.same (by simp only [LB, subS, subH, wfS, wfH, SV.ren, renL, SObj.ren, SV.wf, SObj.wf, wfL, SV.known, Nat.reduceEqDiff, ↓reduceIte, if_true, if_false, eq_self, Nat.reduceAdd, Nat.reduceLT, Nat.reduceLeDiff, implies_true, reduceCtorEq, forall_const]; try rfl) (by simp [subS, subH, wfS, wfH, SV.ren, renL, SObj.ren, SV.wf, SObj.wf, wfL, sget_cons, hget_cons] <;> omega) hSw.d.wf hSw.d.le⟩
                · rintro ⟨⟨R9, H9, n9⟩, hS9⟩
                  simp only at hS9
                  have hr9 := hS9.r
                  have l9 := hS9.l
                  have hz9 := hS9.z
                  have hq9 := hS9.lt
                  have tk9 : R9.take 24 = R9 := List.take_of_length_le (by omega)
                  simp -implicitDefEqProofs only [lk_normal, hr9, hz9, l9, tk9, ZB, Int.reduceToNat, Nat.reduceLT, Nat.reduceLeDiff, Int.reduceLE, Int.reduceLT, Nat.reduceEqDiff, Nat.reduceSub, SB, SV.known, packR, ne_eq, reduceCtorEq, Nat.reduceEqDiff, ↓reduceIte, if_true, if_false, eq_self, Nat.reduceAdd, Nat.reduceMul, Nat.reduceSub, forall_const, oneCellS, litOne, flat1, Kd.isSca, flat, TYB]
                  exact ⟨hmn, fin R9 _ H9 n9 hS9.l hS9.i hS9.d (by omega) (by omega)⟩
              by_cases w1 : w = 1
              · have w1' : (w = 1) = True := eq_true w1
                simp -implicitDefEqProofs only [lk_normal, w0, w1', ZB, Int.reduceToNat, Nat.reduceLT, Nat.reduceLeDiff, Int.reduceLE, Int.reduceLT, Nat.reduceEqDiff, Nat.reduceSub, SB, SV.known, packR, ne_eq, reduceCtorEq, Nat.reduceEqDiff, ↓reduceIte, if_true, if_false, eq_self, Nat.reduceAdd, Nat.reduceMul, Nat.reduceSub, forall_const, oneCellS, litOne, flat1, Kd.isSca, flat, TYB]
                refine pick_use hS7.d hlt hm (by omega) fun x H8 g0 g1 hd8 hf8 => ?_
                have hS8 := hS7.draw hd8 hf8 (Nat.le_refl _)
                have hr8 := hS8.r
                have l8 := hS8.l
                have hz8 := hS8.z
                have hq8 := hS8.lt
                obtain ⟨X, rfl⟩ : ∃ X : Nat, x = X := ⟨x.toNat, by omega⟩
                have x6 : (X : Int) < 6 := by omega
                have x4 : X * 4 + 4 ≤ 24 := by omega
                let V : List Int := ((((List.replicate 4 (0 : Int)).set 0 0).set 1 1).set 2 0).set 3 0
                have e3 : (n = n + 3) = False := by simp
                have lV : V.length = 4 := rfl
                have eV : (((((List.replicate 4 (0 : Int)).set 0 0).set 1 1).set 2 0).set 3 0) = V := rfl
                have hRl : (R5.take (X * 4) ++ V ++ R5.drop (X * 4 + 4)).length = 24 := by
                  rw [List.length_append, List.length_append, List.length_take, List.length_drop, lV]; omega
                have hRi : ∀ y ∈ R5.take (X * 4) ++ V ++ R5.drop (X * 4 + 4), In64 y := fun y hy => by
                  rcases List.mem_append.1 hy with hy | hy
                  · rcases List.mem_append.1 hy with hy | hy
                    · exact hS8.i y (List.mem_of_mem_take hy)
                    · have hy' : y ∈ ([0, 1, 0, 0] : List Int) := hy
                      simp at hy'; unfold In64; omega
                  · exact hS8.i y (List.mem_of_mem_drop hy)
                have hS9 := hS8.set hlt hRl hRi
                have tk8 : (R5.take (X * 4) ++ V ++ R5.drop (X * 4 + 4)).take 24 = R5.take (X * 4) ++ V ++ R5.drop (X * 4 + 4) := List.take_of_length_le (by omega)
                simp -implicitDefEqProofs only [lk_normal, hr8, l8, hz8, x6, x4, g0, eV, lV, tk8, hRl, e3, ZB, Int.reduceToNat, Nat.reduceLT, Nat.reduceLeDiff, Int.reduceLE, Int.reduceLT, Nat.reduceEqDiff, Nat.reduceSub, SB, SV.known, packR, ne_eq, reduceCtorEq, Nat.reduceEqDiff, ↓reduceIte, if_true, if_false, eq_self, Nat.reduceAdd, Nat.reduceMul, Nat.reduceSub, forall_const, oneCellS, litOne, flat1, Kd.isSca, flat, TYB]
                exact ⟨by omega, hmn, fin _ _ _ nc hRl hRi hS9.d (by omega) (by omega)⟩
              by_cases w2 : w = 2
              · have w2' : (w = 2) = True := eq_true w2
                simp -implicitDefEqProofs only [lk_normal, hz7, w0, w1, w2', ZB, Int.reduceToNat, Nat.reduceLT, Nat.reduceLeDiff, Int.reduceLE, Int.reduceLT, Nat.reduceEqDiff, Nat.reduceSub, SB, SV.known, packR, ne_eq, reduceCtorEq, Nat.reduceEqDiff, ↓reduceIte, if_true, if_false, eq_self, Nat.reduceAdd, Nat.reduceMul, Nat.reduceSub, forall_const, oneCellS, litOne, flat1, Kd.isSca, flat, TYB]
                exact ⟨hmn, fin (List.replicate 24 0) _ H7 nc (by simp) (fun x hx => by rw [List.eq_of_mem_replicate hx]; simp [In64]) hS7.d (by omega) (by omega)⟩
              · simp -implicitDefEqProofs only [lk_normal, hr7, hz7, l7, tk7, w0, w1, w2, ZB, Int.reduceToNat, Nat.reduceLT, Nat.reduceLeDiff, Int.reduceLE, Int.reduceLT, Nat.reduceEqDiff, Nat.reduceSub, SB, SV.known, packR, ne_eq, reduceCtorEq, Nat.reduceEqDiff, ↓reduceIte, if_true, if_false, eq_self, Nat.reduceAdd, Nat.reduceMul, Nat.reduceSub, forall_const, oneCellS, litOne, flat1, Kd.isSca, flat, TYB]
                exact ⟨hmn, fin R5 _ H7 nc l7 hS7.i hS7.d (by omega) (by omega)⟩
def rack_F : List SV → Heap → Nat → Nat → K1 → Prop
  | [.ptr c 0], H, n, m, κ => ∃ kc a, CurH c kc a H ∧ m ≤ c ∧ m ≤ n ∧ a ≤ 990000 ∧ ∀ (R : List Int) H' n', R.length = 24 → (∀ x ∈ R, In64 x) → Drawn c kc a 1000 n H H' n' → κ (.arr R) H' n'
  | _, _, _, _, _ => False
theorem rack_T : ∀ args H n m κ, rack_F args H n m κ → GenOK Try.prog 77 args H n m κ := by
  intro args H n m κ h
  unfold rack_F at h
  split at h
  · rename_i c
    obtain ⟨kc, a, hC, hm, hmn, ha, h1⟩ := h
    exact gen_direct (X := ⟨Try.prog, tys, [], [(94, pick_F), (92, one_F), (119, among_F)], true, true, m, [94, 92, 119], [(21, .tree (.one 0 (.one 1 (.one 2 (.one 3 (.one 4 (.one 5 (.one 6 (.alt 7 (.alt 8 (.one 9 (.one 10 (.one 11 .done))) (.alt 9 (.one 8 (.one 10 (.one 11 .done))) .stop)) (.alt 8 (.alt 7 (.one 9 (.one 10 (.one 11 .done))) (.alt 9 (.alt 7 (.one 10 (.one 11 .done)) (.alt 10 (.one 7 (.one 11 .done)) .stop)) .stop)) (.alt 9 (.alt 7 (.one 8 (.one 10 (.one 11 .done))) (.alt 8 (.alt 7 (.one 10 (.one 11 .done)) (.alt 10 (.one 7 (.one 11 .done)) .stop)) .stop)) .stop))))))))))), (26, .tree (.one 0 (.one 2 (.one 4 (.one 7 (.alt 1 (.one 8 (.alt 3 (.one 5 (.one 6 (.one 9 (.one 10 .done)))) (.alt 5 (.one 3 (.one 6 (.one 9 (.one 10 .done)))) .stop))) (.alt 5 (.one 1 (.one 3 (.one 6 (.one 8 (.one 9 (.one 10 .done)))))) .stop)))))))]⟩) fnx_rack ⟨tys_ok, .nil, .cons pick_T (.cons one_T (.cons among_T .nil)), mixed⟩ rfl (Nat.le_of_ble_eq_true rfl) (fun hwH hwa => rack_vc c kc a m n H hC hm hmn ha hwH) fun hwH v H' n' hψ h3 h4 h5 => by
      obtain ⟨R, rfl, g1, g2, g3⟩ := hψ
      exact h1 R H' n' g1 g2 g3
  · exact h.elim
theorem rack_use {c kc a k n0 n m : Nat} {H0 H : Heap} {κ : K1} (h : Drawn c kc a k n0 H0 H n) (hc : c < n0 ∧ kc < n0 ∧ kc ≠ c) (hm : m ≤ c) (hmn : m ≤ n) (ha : a + k ≤ 990000)
    (hκ : ∀ (R : List Int) H' n', R.length = 24 → (∀ x ∈ R, In64 x) → Drawn c kc a (k + 1000) n0 H0 H' n' → n ≤ n' → Fr n0 n H H' → κ (.arr R) H' n') : rack_F [.ptr c 0] H n m κ := by
  obtain ⟨b', g1, g2, g3⟩ := h.cur
  exact ⟨kc, b', g3, hm, hmn, by omega, fun R H' n' h1 h2 hd => hκ R H' n' h1 h2 (h.trans hd g2 g1) hd.le (hd.own hc.1)⟩
/-- A pour of a rack, or any two places. -/
theorem fnx_pour : FnOK Try.prog 90 Try.f90 (Try.f90.body.getD .skip) [94, 92, 146] [] := ⟨Try.func90, rfl, by kernel_rfl, by kernel_rfl⟩
theorem dpour_vc (c kc a m n : Nat) (H : Heap) (R : List Int) (hR : R.length = 24) (hC : CurH c kc a H) (hm : m ≤ c) (hmn : m ≤ n) (ha : a ≤ 995000) (hwH : hwf n H) :
    codeVC (⟨Try.prog, tys, [(72, l2Rack_F)], [(94, pick_F), (92, one_F), (146, place_F), (85, l2Pours_F)], true, true, m, [94, 92, 146], []⟩ : Cx) n (Try.f90.body.getD .skip) (argS 0 [.ptr c 0, .arr R]) H n
      (retK tys Try.f90.results.toList fun v H' n' => ∃ x y : Int, v = .arr [x, y] ∧ In64 x ∧ In64 y ∧ Drawn c kc a 100 n H H' n') := by
  have hlt := hC.lt hwH
  have tkR : R.take 24 = R := List.take_of_length_le (by omega)
  simp -implicitDefEqProofs only [Try.f90, Option.getD_some, argS, l2Rack_F, hR, tkR, Nat.add_assoc, add_self, self_add, add_add, ZB, Int.reduceToNat, Nat.reduceLT, Nat.reduceLeDiff, Int.reduceLE, Int.reduceLT, Nat.reduceEqDiff, Nat.reduceSub, SB, SV.known, packR, ne_eq, reduceCtorEq, Nat.reduceEqDiff, ↓reduceIte, if_true, if_false, eq_self, Nat.reduceAdd, Nat.reduceMul, Nat.reduceSub, forall_const, oneCellS, litOne, flat1, Kd.isSca, flat, TYB]
  have d0 : Drawn c kc a 0 n H ((n + 1, .ints (List.replicate 2 0) 44) :: (n, .ints R 27) :: H) (n + 2) := ((Drawn.start hC hwH).pushI hlt).pushI hlt
  have hb0 : hget ((n + 1, .ints (List.replicate 2 0) 44) :: (n, .ints R 27) :: H) (n + 1) = some (.ints (List.replicate 2 0) 44) := by simp [hget_cons]
  have hr0 : hget ((n + 1, .ints (List.replicate 2 0) 44) :: (n, .ints R 27) :: H) n = some (.ints R 27) := by simp [hget_cons]
  cases hr : rackB R
  · simp -implicitDefEqProofs only [lk_normal, Nat.add_assoc, add_self, self_add, add_add, ZB, Int.reduceToNat, Nat.reduceLT, Nat.reduceLeDiff, Int.reduceLE, Int.reduceLT, Nat.reduceEqDiff, Nat.reduceSub, SB, SV.known, packR, ne_eq, reduceCtorEq, Nat.reduceEqDiff, ↓reduceIte, if_true, if_false, eq_self, Nat.reduceAdd, Nat.reduceMul, Nat.reduceSub, forall_const, oneCellS, litOne, flat1, Kd.isSca, flat, TYB]
    refine place_use d0 hlt hm (by omega) fun x H1 n1 hx hd1 hle1 hf1 => ?_
    have hb1 := hf1.use (by omega) (by omega) hb0
    simp -implicitDefEqProofs only [lk_normal, ZB, Int.reduceToNat, Nat.reduceLT, Nat.reduceLeDiff, Int.reduceLE, Int.reduceLT, Nat.reduceEqDiff, Nat.reduceSub, SB, SV.known, packR, ne_eq, reduceCtorEq, Nat.reduceEqDiff, ↓reduceIte, if_true, if_false, eq_self, Nat.reduceAdd, Nat.reduceMul, Nat.reduceSub, forall_const, oneCellS, litOne, flat1, Kd.isSca, flat, TYB]
    refine place_use hd1 hlt hm (by omega) fun y H2 n2 hy hd2 hle2 hf2 => ?_
    have hb2 := hf2.use (by omega) (by omega) hb1
    simp -implicitDefEqProofs only [hb2, ZB, Int.reduceToNat, Nat.reduceLT, Nat.reduceLeDiff, Int.reduceLE, Int.reduceLT, Nat.reduceEqDiff, Nat.reduceSub, SB, SV.known, packR, ne_eq, reduceCtorEq, Nat.reduceEqDiff, ↓reduceIte, if_true, if_false, eq_self, Nat.reduceAdd, Nat.reduceMul, Nat.reduceSub, forall_const, oneCellS, litOne, flat1, Kd.isSca, flat, TYB]
    exact ⟨by omega, x, y, ⟨rfl, rfl⟩, hx, hy, (hd2.more (by omega)).putI hlt (by omega) (by omega)⟩
  · simp -implicitDefEqProofs only [lk_normal, Nat.add_assoc, add_self, self_add, add_add, ZB, Int.reduceToNat, Nat.reduceLT, Nat.reduceLeDiff, Int.reduceLE, Int.reduceLT, Nat.reduceEqDiff, Nat.reduceSub, SB, SV.known, packR, ne_eq, reduceCtorEq, Nat.reduceEqDiff, ↓reduceIte, if_true, if_false, eq_self, Nat.reduceAdd, Nat.reduceMul, Nat.reduceSub, forall_const, oneCellS, litOne, flat1, Kd.isSca, flat, TYB]
    refine one_use d0 hlt hm (by omega) fun o H0 hd0 hf0 => ?_
    have hb := hf0.use (by omega) (by omega) hb0
    have hrb := hf0.use (by omega) (by omega) hr0
    cases o
    · obtain ⟨np, hnp, hnp36⟩ := PL_even R 36
      have ehp : (PL R 36).length / 2 = np := by omega
      have hbd := PL_bd R 36 (Nat.le_refl _)
      simp -implicitDefEqProofs only [lk_normal, l2Pours_F, freshK, Wrap.ap, hrb, hR, tkR, hr, ehp, ZB, Int.reduceToNat, Nat.reduceLT, Nat.reduceLeDiff, Int.reduceLE, Int.reduceLT, Nat.reduceEqDiff, Nat.reduceSub, SB, SV.known, packR, ne_eq, reduceCtorEq, Nat.reduceEqDiff, ↓reduceIte, if_true, if_false, eq_self, Nat.reduceAdd, Nat.reduceMul, Nat.reduceSub, forall_const, oneCellS, litOne, flat1, Kd.isSca, flat, TYB]
      intro cp jp hjp
      have hdp := hd0.pushI hlt (L := PL R 36 ++ jp) (e := 44)
      have hbp : hget ((n + 2, .ints (PL R 36 ++ jp) 44) :: H0) (n + 1) = some (.ints (List.replicate 2 0) 44) := by rw [hget_cons, if_neg (by omega)]; exact hb
      by_cases h0 : np = 0
      · have h0' : ¬ (0 : Int) < (np : Int) := by omega
        simp -implicitDefEqProofs only [lk_normal, h0', ZB, Int.reduceToNat, Nat.reduceLT, Nat.reduceLeDiff, Int.reduceLE, Int.reduceLT, Nat.reduceEqDiff, Nat.reduceSub, SB, SV.known, packR, ne_eq, reduceCtorEq, Nat.reduceEqDiff, ↓reduceIte, if_true, if_false, eq_self, Nat.reduceAdd, Nat.reduceMul, Nat.reduceSub, forall_const, oneCellS, litOne, flat1, Kd.isSca, flat, TYB]
        refine place_use hdp hlt hm (by omega) fun x H1 n1 hx hd1 hle1 hf1 => ?_
        have hb1 := hf1.use (by omega) (by omega) hbp
        simp -implicitDefEqProofs only [lk_normal, ZB, Int.reduceToNat, Nat.reduceLT, Nat.reduceLeDiff, Int.reduceLE, Int.reduceLT, Nat.reduceEqDiff, Nat.reduceSub, SB, SV.known, packR, ne_eq, reduceCtorEq, Nat.reduceEqDiff, ↓reduceIte, if_true, if_false, eq_self, Nat.reduceAdd, Nat.reduceMul, Nat.reduceSub, forall_const, oneCellS, litOne, flat1, Kd.isSca, flat, TYB]
        refine place_use hd1 hlt hm (by omega) fun y H2 n2 hy hd2 hle2 hf2 => ?_
        have hb2 := hf2.use (by omega) (by omega) hb1
        simp -implicitDefEqProofs only [hb2, ZB, Int.reduceToNat, Nat.reduceLT, Nat.reduceLeDiff, Int.reduceLE, Int.reduceLT, Nat.reduceEqDiff, Nat.reduceSub, SB, SV.known, packR, ne_eq, reduceCtorEq, Nat.reduceEqDiff, ↓reduceIte, if_true, if_false, eq_self, Nat.reduceAdd, Nat.reduceMul, Nat.reduceSub, forall_const, oneCellS, litOne, flat1, Kd.isSca, flat, TYB]
        exact ⟨by omega, x, y, ⟨rfl, rfl⟩, hx, hy, (hd2.more (by omega)).putI hlt (by omega) (by omega)⟩
      · have h0' : (0 : Int) < (np : Int) := by omega
        simp -implicitDefEqProofs only [lk_normal, h0', ZB, Int.reduceToNat, Nat.reduceLT, Nat.reduceLeDiff, Int.reduceLE, Int.reduceLT, Nat.reduceEqDiff, Nat.reduceSub, SB, SV.known, packR, ne_eq, reduceCtorEq, Nat.reduceEqDiff, ↓reduceIte, if_true, if_false, eq_self, Nat.reduceAdd, Nat.reduceMul, Nat.reduceSub, forall_const, oneCellS, litOne, flat1, Kd.isSca, flat, TYB]
        refine ⟨pick_use hdp hlt hm (by omega) fun q Hq q0 q1 hdq hfq => ?_, fun h => absurd trivial h⟩
        obtain ⟨Q, rfl⟩ : ∃ Q : Nat, q = Q := ⟨q.toNat, by omega⟩
        have qn : (Q : Int) < (np : Int) := by omega
        have hbq := hfq.use (by omega) (by omega) hbp
        have hlq := hfq.use (by omega) (by omega) (show hget _ (n + 2) = some (.ints (PL R 36 ++ jp) 44) by simp [hget_cons])
        have lQ : Q * 2 + 2 ≤ (PL R 36 ++ jp).length := by rw [List.length_append]; omega
        have e2 : ((PL R 36 ++ jp).drop (Q * 2)).take 2 = [(PL R 36).getD (Q * 2) 0, (PL R 36).getD (Q * 2 + 1) 0] := by
          rw [take2_drop _ _ lQ, getD_app _ _ _ (by omega), getD_app _ _ _ (by omega)]
        have b0 : In64 ((PL R 36).getD (Q * 2) 0) := by
          rw [List.getD_eq_getElem?_getD, List.getElem?_eq_getElem (by omega)]
          have := hbd _ (List.getElem_mem (l := PL R 36) (n := Q * 2) (by omega))
          unfold In64; simp only [Option.getD_some]; omega
        have b1 : In64 ((PL R 36).getD (Q * 2 + 1) 0) := by
          rw [List.getD_eq_getElem?_getD, List.getElem?_eq_getElem (by omega)]
          have := hbd _ (List.getElem_mem (l := PL R 36) (n := Q * 2 + 1) (by omega))
          unfold In64; simp only [Option.getD_some]; omega
        simp -implicitDefEqProofs only [lk_normal, hlq, hbq, qn, q0, lQ, e2, ZB, Int.reduceToNat, Nat.reduceLT, Nat.reduceLeDiff, Int.reduceLE, Int.reduceLT, Nat.reduceEqDiff, Nat.reduceSub, SB, SV.known, packR, ne_eq, reduceCtorEq, Nat.reduceEqDiff, ↓reduceIte, if_true, if_false, eq_self, Nat.reduceAdd, Nat.reduceMul, Nat.reduceSub, forall_const, oneCellS, litOne, flat1, Kd.isSca, flat, TYB]
        exact ⟨by omega, _, _, ⟨rfl, rfl⟩, b0, b1, (hdq.more (by omega)).putI hlt (by omega) (by omega)⟩
    · simp -implicitDefEqProofs only [lk_normal, ZB, Int.reduceToNat, Nat.reduceLT, Nat.reduceLeDiff, Int.reduceLE, Int.reduceLT, Nat.reduceEqDiff, Nat.reduceSub, SB, SV.known, packR, ne_eq, reduceCtorEq, Nat.reduceEqDiff, ↓reduceIte, if_true, if_false, eq_self, Nat.reduceAdd, Nat.reduceMul, Nat.reduceSub, forall_const, oneCellS, litOne, flat1, Kd.isSca, flat, TYB]
      refine place_use hd0 hlt hm (by omega) fun x H1 n1 hx hd1 hle1 hf1 => ?_
      have hb1 := hf1.use (by omega) (by omega) hb
      simp -implicitDefEqProofs only [lk_normal, ZB, Int.reduceToNat, Nat.reduceLT, Nat.reduceLeDiff, Int.reduceLE, Int.reduceLT, Nat.reduceEqDiff, Nat.reduceSub, SB, SV.known, packR, ne_eq, reduceCtorEq, Nat.reduceEqDiff, ↓reduceIte, if_true, if_false, eq_self, Nat.reduceAdd, Nat.reduceMul, Nat.reduceSub, forall_const, oneCellS, litOne, flat1, Kd.isSca, flat, TYB]
      refine place_use hd1 hlt hm (by omega) fun y H2 n2 hy hd2 hle2 hf2 => ?_
      have hb2 := hf2.use (by omega) (by omega) hb1
      simp -implicitDefEqProofs only [hb2, ZB, Int.reduceToNat, Nat.reduceLT, Nat.reduceLeDiff, Int.reduceLE, Int.reduceLT, Nat.reduceEqDiff, Nat.reduceSub, SB, SV.known, packR, ne_eq, reduceCtorEq, Nat.reduceEqDiff, ↓reduceIte, if_true, if_false, eq_self, Nat.reduceAdd, Nat.reduceMul, Nat.reduceSub, forall_const, oneCellS, litOne, flat1, Kd.isSca, flat, TYB]
      exact ⟨by omega, x, y, ⟨rfl, rfl⟩, hx, hy, (hd2.more (by omega)).putI hlt (by omega) (by omega)⟩
def dpour_F : List SV → Heap → Nat → Nat → K1 → Prop
  | [.ptr c 0, .arr R], H, n, m, κ => R.length = 24 ∧ ∃ kc a, CurH c kc a H ∧ m ≤ c ∧ m ≤ n ∧ a ≤ 995000 ∧ ∀ (x y : Int) H' n', In64 x → In64 y → Drawn c kc a 100 n H H' n' → κ (.arr [x, y]) H' n'
  | _, _, _, _, _ => False
theorem dpour_T : ∀ args H n m κ, dpour_F args H n m κ → GenOK Try.prog 90 args H n m κ := by
  intro args H n m κ h
  unfold dpour_F at h
  split at h
  · rename_i c R
    obtain ⟨hR, kc, a, hC, hm, hmn, ha, h1⟩ := h
    exact gen_direct (X := ⟨Try.prog, tys, [(72, l2Rack_F)], [(94, pick_F), (92, one_F), (146, place_F), (85, l2Pours_F)], true, true, m, [94, 92, 146], []⟩) fnx_pour ⟨tys_ok, .cons l2Rack_T .nil, .cons pick_T (.cons one_T (.cons place_T (.cons l2Pours_T .nil))), mixed⟩ rfl (Nat.le_of_ble_eq_true rfl) (fun hwH hwa => dpour_vc c kc a m n H R hR hC hm hmn ha hwH) fun hwH v H' n' hψ h3 h4 h5 => by
      obtain ⟨x, y, rfl, g1, g2, g3⟩ := hψ
      exact h1 x y H' n' g1 g2 g3
  · exact h.elim
theorem dpour_use {c kc a k n0 n m : Nat} {H0 H : Heap} {κ : K1} (h : Drawn c kc a k n0 H0 H n) (hc : c < n0 ∧ kc < n0 ∧ kc ≠ c) (hm : m ≤ c) (hmn : m ≤ n) (ha : a + k ≤ 995000) {R : List Int} (hR : R.length = 24)
    (hκ : ∀ (x y : Int) H' n', In64 x → In64 y → Drawn c kc a (k + 100) n0 H0 H' n' → n ≤ n' → Fr n0 n H H' → κ (.arr [x, y]) H' n') : dpour_F [.ptr c 0, .arr R] H n m κ := by
  obtain ⟨b', g1, g2, g3⟩ := h.cur
  exact ⟨hR, kc, b', g3, hm, hmn, by omega, fun x y H' n' h1 h2 hd => hκ x y H' n' h1 h2 (h.trans hd g2 g1) hd.le (hd.own hc.1)⟩
/-- The bytes that a law is given. -/
def BytA (v : SV) (H : Heap) : Prop := v = .nils ∨ ∃ (kc off len cap : Nat) (L : List Int), v = .slice kc off len cap ∧ hget H kc = some (.winU off L) ∧ L.length = len ∧ len ≤ 1000000000 ∧ ∀ x ∈ L, 0 ≤ x ∧ x ≤ 255
theorem BytA.put {v : SV} {H : Heap} {n k : Nat} (h : BytA v H) (hw : hwf n H) (hk : n ≤ k) (o : SObj) : BytA v ((k, o) :: H) := by
  rcases h with rfl | ⟨kc, off, len, cap, L, rfl, h, h2⟩
  · exact .inl rfl
  · have := (hw _ _ h).1
    exact .inr ⟨kc, off, len, cap, L, rfl, by rw [hget_cons, if_neg (by omega)]; exact h, h2⟩
theorem BytA.at {v : SV} {H : Heap} {n k : Nat} (h : BytA v H) (hw : hwf n H) (hk : k < n) (hx : ∃ o, hget H k = some o) : ∃ kc, kc < n ∧ BytV kc v H := by
  rcases h with rfl | ⟨kc, off, len, cap, L, rfl, h, h2⟩
  · exact ⟨k, hk, .inl ⟨rfl, hx⟩⟩
  · exact ⟨kc, (hw _ _ h).1, .inr ⟨off, len, cap, L, rfl, h, h2⟩⟩
/-- What a drawing function leaves: nothing that is not its own has changed. -/
structure Kpt (n : Nat) (H H' : Heap) (n' : Nat) : Prop where
  le : n ≤ n'
  wf : hwf n' H'
  fr : ∀ i o, i < n → hget H i = some o → hget H' i = some o
theorem Kpt.under {n n' k : Nat} {H H' : Heap} {o : SObj} (h : Kpt k ((n, o) :: H) H' n') (hn : n < k) : ∀ i o, i < n → hget H i = some o → hget H' i = some o := fun i o' hi ho => h.fr i o' (by omega) (by rw [hget_cons, if_neg (by omega)]; exact ho)
end Go.Proofs.Ytopfnkmlgcjpbaa
set_option maxRecDepth 100000
set_option linter.unusedSimpArgs false
set_option linter.unusedVariables false
namespace Go.Proofs.Ytopfnkmlgcjpbaa
open Go Go.RowKit
theorem fnx_DrawIsSorted : FnOK Try.prog 114 Try.f114 (Try.f114.body.getD .skip) [77, 92] [] := ⟨Try.func114, rfl, by kernel_rfl, by kernel_rfl⟩
/-- A rack of one's own, behind all draws. -/
structure SrS (n : Nat) (H : Heap) (b : Nat) (R : List Int) (H' : Heap) (n' : Nat) : Prop where
  lt : n < b ∧ b < n'
  wf : hwf n' H'
  r : hget H' b = some (.ints R 27)
  l : R.length = 24
  i : ∀ x ∈ R, In64 x
  z : hget H' n = some (.ints (List.replicate 24 0) 27)
  fr : ∀ i o, i < n → hget H i = some o → hget H' i = some o
theorem SrS.set {n b n' : Nat} {H H' : Heap} {R R' : List Int} (h : SrS n H b R H' n') (hl : R'.length = 24) (hi : ∀ x ∈ R', In64 x) : SrS n H b R' ((b, .ints R' 27) :: H') n' :=
  ⟨h.lt, hwf_cons h.wf h.lt.2 trivial, by simp [hget_cons], hl, hi, by rw [hget_cons, if_neg (Nat.ne_of_lt h.lt.1)]; exact h.z, fun i o hin ho => by
    rw [hget_cons, if_neg (by have := h.lt.1; omega)]
    exact h.fr i o hin ho⟩
theorem DrawIsSorted_vc (cv : SV) (m n : Nat) (H : Heap) (hB : BytA cv H) (hmn : m ≤ n) (hwH : hwf n H) :
    codeVC (⟨Try.prog, tys, [(72, l2Rack_F)], [(77, rack_F), (92, one_F)], true, true, m, [77, 92], []⟩ : Cx) n (Try.f114.body.getD .skip) (argS 0 [cv]) H n
      (retK tys Try.f114.results.toList fun v H' n' => ∃ R : List Int, v = .arr R ∧ R.length = 24 ∧ (∀ z ∈ R, In64 z) ∧ Kpt n H H' n') := by
  have h1c : oneCellS cv = true := by
    rcases hB with rfl | ⟨kc, off, len, cap, L, rfl, _⟩ <;> rfl
  have hvw : cv.wf n := by
    rcases hB with rfl | ⟨kc, off, len, cap, L, rfl, h, _⟩
    · trivial
    · exact (hwH _ _ h).1
  have hB' := hB
  rcases hB with rfl | ⟨kc0, off0, len0, cap0, L0, rfl, hh0⟩
  all_goals
    simp -implicitDefEqProofs only [Try.f114, Option.getD_some, argS, h1c, Nat.add_assoc, add_self, self_add, add_add, ZB, Int.reduceToNat, Nat.reduceLT, Nat.reduceLeDiff, Int.reduceLE, Int.reduceLT, Nat.reduceEqDiff, Nat.reduceSub, SB, SV.known, packR, ne_eq, reduceCtorEq, Nat.reduceEqDiff, ↓reduceIte, if_true, if_false, eq_self, Nat.reduceAdd, Nat.reduceMul, Nat.reduceSub, forall_const, oneCellS, litOne, flat1, Kd.isSca, flat, TYB]
    have hw1 : hwf (n + 1) ((n, .ints (List.replicate 24 0) 27) :: H) := hwf_cons (hwf_mono (by omega) hwH) (by omega) trivial
    have hw0f : ∀ v : SV, v.wf n → hwf (n + 2) ((n + 1, .cells [v, .int 0, .lit (.int .u64 0)] 88) :: (n, .ints (List.replicate 24 0) 27) :: H) := fun v hv =>
      hwf_cons (hwf_mono (show n + 1 ≤ n + 2 by omega) hw1) (by omega) (by simp [SObj.wf, wfL, SV.wf]; exact SV.wf_mono (show n ≤ n + 2 by omega) v hv)
    obtain ⟨kc, hkn, hBv⟩ := (hB'.put hwH (Nat.le_refl n) (.ints (List.replicate 24 0) 27)).at hw1 (Nat.lt_succ_self n) ⟨_, by simp [hget_cons]; rfl⟩
    have hCf : ∀ v : SV, BytV kc v ((n, .ints (List.replicate 24 0) 27) :: H) → CurH (n + 1) kc 0 ((n + 1, .cells [v, .int 0, .lit (.int .u64 0)] 88) :: (n, .ints (List.replicate 24 0) 27) :: H) := fun v hv =>
      ⟨v, 0, by simp [hget_cons], hv.at (fun o ho => by rw [hget_cons, if_neg (show ¬ kc = n + 1 by omega)]; exact ho), by omega⟩
    have d0 := Drawn.start (hCf _ hBv) (hw0f _ hvw)
    have hz0 : ∀ o : SObj, hget ((n + 1, o) :: (n, .ints (List.replicate 24 0) 27) :: H) n = some (.ints (List.replicate 24 0) 27) := fun o => by simp [hget_cons]
    have hlt : n + 1 < n + 2 ∧ kc < n + 2 ∧ kc ≠ n + 1 := by omega
    refine rack_use d0 hlt (by omega) (by omega) (by omega) fun R H1 n1 hR hRi hd1 hle1 hf1 => ?_
    have tkR : R.take 24 = R := List.take_of_length_le (by omega)
    simp -implicitDefEqProofs only [hR, tkR, Nat.add_assoc, add_self, self_add, add_add, ZB, Int.reduceToNat, Nat.reduceLT, Nat.reduceLeDiff, Int.reduceLE, Int.reduceLT, Nat.reduceEqDiff, Nat.reduceSub, SB, SV.known, packR, ne_eq, reduceCtorEq, Nat.reduceEqDiff, ↓reduceIte, if_true, if_false, eq_self, Nat.reduceAdd, Nat.reduceMul, Nat.reduceSub, forall_const, oneCellS, litOne, flat1, Kd.isSca, flat, TYB]
    refine ⟨by omega, one_use ((hd1.pushI hlt (L := List.replicate 24 0) (e := 27)).putI hlt (by omega) (by omega)) hlt (by omega) (by omega) fun o H2 hd2 hf2 => ?_⟩
    have hr2 := hf2.use (by omega) (by omega) (show hget _ n1 = some (.ints R 27) by simp [hget_cons])
    have hz2 := hd2.fr n _ (by omega) (by omega) (hz0 _)
    have hS : SrS n H n1 R H2 (n1 + 1) := ⟨by omega, hd2.wf, hr2, hR, hRi, hz2, fun i o hi ho => hd2.fr i o (by omega) (by omega) (by rw [hget_cons, if_neg (by omega), hget_cons, if_neg (by omega)]; exact ho)⟩
    have fin : ∀ (R' : List Int) (H' : Heap) (n' : Nat), SrS n H n1 R' H' n' → ∃ R : List Int, R' = R ∧ R.length = 24 ∧ (∀ x ∈ R, In64 x) ∧ Kpt n H ((n, .ints R' 27) :: H') n' := fun R' H' n' h => ⟨R', rfl, h.l, h.i, by have := h.lt; omega, hwf_cons h.wf (by have := h.lt; omega) trivial, fun i o hi ho => by
      rw [hget_cons, if_neg (by omega)]
      exact h.fr i o hi ho⟩
    cases o
    · simp -implicitDefEqProofs only [lk_normal, hr2, hz2, hR, tkR, ZB, Int.reduceToNat, Nat.reduceLT, Nat.reduceLeDiff, Int.reduceLE, Int.reduceLT, Nat.reduceEqDiff, Nat.reduceSub, SB, SV.known, packR, ne_eq, reduceCtorEq, Nat.reduceEqDiff, ↓reduceIte, if_true, if_false, eq_self, Nat.reduceAdd, Nat.reduceMul, Nat.reduceSub, forall_const, oneCellS, litOne, flat1, Kd.isSca, flat, TYB]
      exact ⟨hmn, fin R H2 (n1 + 1) hS⟩
    · cases hrb : rackB R
      · simp -implicitDefEqProofs only [lk_normal, l2Rack_F, hr2, hz2, hR, tkR, hrb, ZB, Int.reduceToNat, Nat.reduceLT, Nat.reduceLeDiff, Int.reduceLE, Int.reduceLT, Nat.reduceEqDiff, Nat.reduceSub, SB, SV.known, packR, ne_eq, reduceCtorEq, Nat.reduceEqDiff, ↓reduceIte, if_true, if_false, eq_self, Nat.reduceAdd, Nat.reduceMul, Nat.reduceSub, forall_const, oneCellS, litOne, flat1, Kd.isSca, flat, TYB]
        exact ⟨hmn, fin R H2 (n1 + 1) hS⟩
      · simp -implicitDefEqProofs only [lk_normal, l2Rack_F, hr2, hz2, hR, tkR, hrb, ZB, Int.reduceToNat, Nat.reduceLT, Nat.reduceLeDiff, Int.reduceLE, Int.reduceLT, Nat.reduceEqDiff, Nat.reduceSub, SB, SV.known, packR, ne_eq, reduceCtorEq, Nat.reduceEqDiff, ↓reduceIte, if_true, if_false, eq_self, Nat.reduceAdd, Nat.reduceMul, Nat.reduceSub, forall_const, oneCellS, litOne, flat1, Kd.isSca, flat, TYB]
        refine loop_introN (fun s : (Nat × List Int) × Heap × Nat => [(5, .int s.1.1), (4, .ptr n1 0), (2, .ptr n 0)]) (fun s => s.2.1) (fun s => s.2.2)
          (fun s => s.1.1 ≤ 6 ∧ SrS n H n1 s.1.2 s.2.1 s.2.2) (fun s => 6 - s.1.1) ?_ ?_
        · have hq := hS.lt
          exact ⟨((0, R), H2, n1 + 1), ⟨Nat.zero_le _, hS⟩, Sub.same (by simp only [LB, subS, subH, wfS, wfH, SV.ren, renL, SObj.ren, SV.wf, SObj.wf, wfL, SV.known, Nat.reduceEqDiff, ↓reduceIte, if_true, if_false, eq_self, Nat.reduceAdd, Nat.reduceLT, Nat.reduceLeDiff, implies_true, reduceCtorEq, forall_const]; try rfl) (by simp [subS, subH, wfS, wfH, SV.ren, renL, SObj.ren, SV.wf, SObj.wf, wfL, sget_cons, hget_cons] <;> omega) hS.wf (by show n ≤ n1 + 1; omega)⟩
        · rintro ⟨⟨k, R2⟩, H4, n4⟩ ⟨hk, hS2⟩
          simp only at hk hS2
          have hq := hS2.lt
          by_cases hk6 : (k : Int) < 6
          · simp -implicitDefEqProofs only [lk_normal, hk6, ZB, Int.reduceToNat, Nat.reduceLT, Nat.reduceLeDiff, Int.reduceLE, Int.reduceLT, Nat.reduceEqDiff, Nat.reduceSub, SB, SV.known, packR, ne_eq, reduceCtorEq, Nat.reduceEqDiff, ↓reduceIte, if_true, if_false, eq_self, Nat.reduceAdd, Nat.reduceMul, Nat.reduceSub, forall_const, oneCellS, litOne, flat1, Kd.isSca, flat, TYB]
            refine loop_introN (fun s : (Nat × List Int) × Heap × Nat => [(6, .int s.1.1), (5, .int k), (4, .ptr n1 0), (2, .ptr n 0)]) (fun s => s.2.1) (fun s => s.2.2)
              (fun s => (1 ≤ s.1.1 ∧ s.1.1 ≤ 4) ∧ SrS n H n1 s.1.2 s.2.1 s.2.2) (fun s => 4 - s.1.1) ?_ ?_
            · exact ⟨((1, R2), H4, n4), ⟨⟨Nat.le_refl _, by show 1 ≤ 4; omega⟩, hS2⟩, Sub.same (by simp only [LB, subS, subH, wfS, wfH, SV.ren, renL, SObj.ren, SV.wf, SObj.wf, wfL, SV.known, Nat.reduceEqDiff, ↓reduceIte, if_true, if_false, eq_self, Nat.reduceAdd, Nat.reduceLT, Nat.reduceLeDiff, implies_true, reduceCtorEq, forall_const]; try rfl) (by simp [subS, subH, wfS, wfH, SV.ren, renL, SObj.ren, SV.wf, SObj.wf, wfL, sget_cons, hget_cons] <;> omega) hS2.wf (by show n ≤ n4; omega)⟩
            · rintro ⟨⟨j, R3⟩, H5, n5⟩ ⟨hj, hS3⟩
              simp only at hj hS3
              have hq3 := hS3.lt
              by_cases hj4 : (j : Int) < 4
              · have hr3 := hS3.r
                have l3 := hS3.l
                have k0 : 0 ≤ (k : Int) := by omega
                have j0 : 0 ≤ (j : Int) := by omega
                have kj : k * 4 + j < 24 := by omega
                have kj1 : k * 4 < 24 := by omega
                simp -implicitDefEqProofs only [lk_normal, hr3, l3, hk6, hj4, k0, j0, kj, kj1, ZB, Int.reduceToNat, Nat.reduceLT, Nat.reduceLeDiff, Int.reduceLE, Int.reduceLT, Nat.reduceEqDiff, Nat.reduceSub, SB, SV.known, packR, ne_eq, reduceCtorEq, Nat.reduceEqDiff, ↓reduceIte, if_true, if_false, eq_self, Nat.reduceAdd, Nat.reduceMul, Nat.reduceSub, forall_const, oneCellS, litOne, flat1, Kd.isSca, flat, TYB]
                refine ⟨fun _ => ⟨by omega, ?_⟩, fun _ => ?_⟩
                · have hS4 := hS3.set (R' := R3.set (k * 4 + j) (R3.getD (k * 4) 0)) (by rw [List.length_set]; exact l3) (in64_set hS3.i (in64_getD hS3.i (by omega)))
                  exact ⟨by unfold In64; omega, ((j + 1, R3.set (k * 4 + j) (R3.getD (k * 4) 0)), _, n5), ⟨⟨by show 1 ≤ j + 1; omega, by show j + 1 ≤ 4; omega⟩, hS4⟩, by show 4 - (j + 1) < 4 - j; omega, Sub.same (by simp only [LB, subS, subH, wfS, wfH, SV.ren, renL, SObj.ren, SV.wf, SObj.wf, wfL, SV.known, Nat.reduceEqDiff, ↓reduceIte, if_true, if_false, eq_self, Nat.reduceAdd, Nat.reduceLT, Nat.reduceLeDiff, implies_true, reduceCtorEq, forall_const]; try rfl) (by simp [subS, subH, wfS, wfH, SV.ren, renL, SObj.ren, SV.wf, SObj.wf, wfL, sget_cons, hget_cons] <;> omega) hS4.wf (by show n ≤ n5; omega)⟩
                · exact ⟨by unfold In64; omega, ((j + 1, R3), _, n5), ⟨⟨by show 1 ≤ j + 1; omega, by show j + 1 ≤ 4; omega⟩, hS3⟩, by show 4 - (j + 1) < 4 - j; omega, Sub.same (by simp only [LB, subS, subH, wfS, wfH, SV.ren, renL, SObj.ren, SV.wf, SObj.wf, wfL, SV.known, Nat.reduceEqDiff, ↓reduceIte, if_true, if_false, eq_self, Nat.reduceAdd, Nat.reduceLT, Nat.reduceLeDiff, implies_true, reduceCtorEq, forall_const]; try rfl) (by simp [subS, subH, wfS, wfH, SV.ren, renL, SObj.ren, SV.wf, SObj.wf, wfL, sget_cons, hget_cons] <;> omega) hS3.wf (by show n ≤ n5; omega)⟩
              · simp -implicitDefEqProofs only [lk_normal, hj4, ZB, Int.reduceToNat, Nat.reduceLT, Nat.reduceLeDiff, Int.reduceLE, Int.reduceLT, Nat.reduceEqDiff, Nat.reduceSub, SB, SV.known, packR, ne_eq, reduceCtorEq, Nat.reduceEqDiff, ↓reduceIte, if_true, if_false, eq_self, Nat.reduceAdd, Nat.reduceMul, Nat.reduceSub, forall_const, oneCellS, litOne, flat1, Kd.isSca, flat, TYB]
                exact ⟨by unfold In64; omega, ((k + 1, R3), H5, n5), ⟨by show k + 1 ≤ 6; omega, hS3⟩, by show 6 - (k + 1) < 6 - k; omega, Sub.same (by simp only [LB, subS, subH, wfS, wfH, SV.ren, renL, SObj.ren, SV.wf, SObj.wf, wfL, SV.known, Nat.reduceEqDiff, ↓reduceIte, if_true, if_false, eq_self, Nat.reduceAdd, Nat.reduceLT, Nat.reduceLeDiff, implies_true, reduceCtorEq, forall_const]; try rfl) (by simp [subS, subH, wfS, wfH, SV.ren, renL, SObj.ren, SV.wf, SObj.wf, wfL, sget_cons, hget_cons] <;> omega) hS3.wf (by show n ≤ n5; omega)⟩
          · have hr9 := hS2.r
            have hz9 := hS2.z
            have l9 := hS2.l
            have tk9 : R2.take 24 = R2 := List.take_of_length_le (by omega)
            simp -implicitDefEqProofs only [lk_normal, hk6, hr9, hz9, l9, tk9, ZB, Int.reduceToNat, Nat.reduceLT, Nat.reduceLeDiff, Int.reduceLE, Int.reduceLT, Nat.reduceEqDiff, Nat.reduceSub, SB, SV.known, packR, ne_eq, reduceCtorEq, Nat.reduceEqDiff, ↓reduceIte, if_true, if_false, eq_self, Nat.reduceAdd, Nat.reduceMul, Nat.reduceSub, forall_const, oneCellS, litOne, flat1, Kd.isSca, flat, TYB]
            exact ⟨hmn, fin R2 H4 n4 hS2⟩
/-- Any rack. -/
def DrawIsSorted_F : List SV → Heap → Nat → Nat → K1 → Prop
  | [cv], H, n, m, κ => BytA cv H ∧ m ≤ n ∧ ∀ (R : List Int) H' n', R.length = 24 → (∀ z ∈ R, In64 z) → Kpt n H H' n' → κ (.arr R) H' n'
  | _, _, _, _, _ => False
theorem DrawIsSorted_T : ∀ args H n m κ, DrawIsSorted_F args H n m κ → GenOK Try.prog 114 args H n m κ := by
  intro args H n m κ h
  unfold DrawIsSorted_F at h
  split at h
  · rename_i cv
    obtain ⟨hB, hmn, h1⟩ := h
    exact gen_direct (X := ⟨Try.prog, tys, [(72, l2Rack_F)], [(77, rack_F), (92, one_F)], true, true, m, [77, 92], []⟩) fnx_DrawIsSorted ⟨tys_ok, .cons l2Rack_T .nil, .cons rack_T (.cons one_T .nil), mixed⟩ rfl (Nat.le_of_ble_eq_true rfl) (fun hwH hwa => DrawIsSorted_vc cv m n H hB hmn hwH) fun hwH v H' n' hψ h3 h4 h5 => by
      obtain ⟨R, rfl, g1, g2, g3⟩ := hψ
      exact h1 R H' n' g1 g2 g3
  · exact h.elim
end Go.Proofs.Ytopfnkmlgcjpbaa
set_option maxRecDepth 100000
set_option linter.unusedSimpArgs false
set_option linter.unusedVariables false
namespace Go.Proofs.Ytopfnkmlgcjpbaa
open Go Go.RowKit
theorem BytA.wfv {v : SV} {H : Heap} {n : Nat} (h : BytA v H) (hw : hwf n H) : v.wf n := by
  rcases h with rfl | ⟨kc, off, len, cap, L, rfl, h, _⟩
  · trivial
  · exact (hw _ _ h).1
/-- A cursor just made. -/
theorem cur_new {cv : SV} {H : Heap} {n k : Nat} (hB : BytA cv H) (hw : hwf n H) (hk : k < n) (hx : ∃ o, hget H k = some o) :
    ∃ kc, (n < n + 1 ∧ kc < n + 1 ∧ kc ≠ n) ∧ Drawn n kc 0 0 (n + 1) ((n, .cells [cv, .int 0, .lit (.int .u64 0)] 88) :: H) ((n, .cells [cv, .int 0, .lit (.int .u64 0)] 88) :: H) (n + 1) := by
  obtain ⟨kc, hkn, hBv⟩ := hB.at hw hk hx
  have hw1 : hwf (n + 1) ((n, .cells [cv, .int 0, .lit (.int .u64 0)] 88) :: H) := hwf_cons (hwf_mono (by omega) hw) (by omega) (by
    simp [SObj.wf, wfL, SV.wf]; exact SV.wf_mono (show n ≤ n + 1 by omega) cv (hB.wfv hw))
  refine ⟨kc, by omega, Drawn.start ⟨cv, 0, by simp [hget_cons], hBv.at (fun o ho => by rw [hget_cons, if_neg (show ¬ kc = n by omega)]; exact ho), by omega⟩ hw1⟩
/-! Paths. -/
/-- A path that is being drawn. -/
structure PtS (c kc a n : Nat) (H : Heap) (b len cap : Nat) (M Q : List Int) (k : Nat) (H' : Heap) (n' : Nat) : Prop where
  d : Drawn c kc a k n H H' n'
  lt : n < b ∧ b < n'
  o : hget H' b = some (.ints M 44)
  ml : M.length = cap * 2
  lc : len ≤ cap
  r : hget H' n = some (.ints Q 27)
  l : Q.length = 24
  v : rackB Q = true
structure PthR (H : Heap) (n : Nat) (p : Nat × Nat × Nat × List Int × Heap × Nat) : Prop where
  b : n + 2 ≤ p.1 ∧ p.1 < p.2.2.2.2.2
  o : hget p.2.2.2.2.1 p.1 = some (.ints p.2.2.2.1 44)
  l : p.2.1 * 2 ≤ p.2.2.2.1.length ∧ p.2.1 ≤ 61
  w : hwf p.2.2.2.2.2 p.2.2.2.2.1
  f : ∀ i o, i < n → hget H i = some o → hget p.2.2.2.2.1 i = some o
  z : hget p.2.2.2.2.1 n = some (.ints (List.replicate 24 0) 27)
end Go.Proofs.Ytopfnkmlgcjpbaa
set_option maxRecDepth 100000
set_option linter.unusedSimpArgs false
set_option linter.unusedVariables false
namespace Go.Proofs.Ytopfnkmlgcjpbaa
open Go Go.RowKit
def pbL (R D : List Int) (u : Int) : List Int := if forB R D = true ∧ ruF u = true then GL (pbB R D u) 36 else []
theorem PoursBy_ok (R D : List Int) (u : Int) (hR : R.length = 24) (hD : D.length = 6) : FreshP Try.prog 41 [.arr R, .arr D, .int u] [] (pbL R D u) ((pbL R D u).length / 2) 2 44 true (.more [.bool (forB R D && ruF u)]) := by
  have tkR : R.take 24 = R := List.take_of_length_le (by omega)
  have tkD : D.take 6 = D := List.take_of_length_le (by omega)
  unfold pbL
  cases hf : forB R D <;> cases hu : ruF u
  case true.true =>
    refine fresh_of_vc (X := ⟨Try.prog, tys, [(95, isFor_F), (96, isRule_F)], [(109, poursBy_F)], true, true, 0, [], []⟩) fn_41 ⟨tys_ok, (.cons isFor_T (.cons isRule_T .nil)), (.cons poursBy_T .nil), mixed⟩ (n0 := 0) rfl (Nat.le_of_ble_eq_true rfl) (by simp [wfL, SV.wf]) (wfH_spec (by simp [wfH, SObj.wf])) (Nat.le_refl _) ?_
    simp -implicitDefEqProofs only [Try.f41, Option.getD_some, argS, isFor_F, isRule_F, poursBy_F, hR, hD, tkR, tkD, hf, hu, freshK, Wrap.ap, ZB, Int.reduceToNat, Nat.reduceLT, Nat.reduceLeDiff, Int.reduceLE, Int.reduceLT, Nat.reduceEqDiff, Nat.reduceSub, SB, SV.known, packR, ne_eq, reduceCtorEq, Nat.reduceEqDiff, ↓reduceIte, if_true, if_false, eq_self, Nat.reduceAdd, Nat.reduceMul, Nat.reduceSub, forall_const, oneCellS, litOne, flat1, Kd.isSca, flat, TYB]
    exact ⟨fun h => .inl ⟨rfl, h, rfl⟩, fun h cap junk hj => .inr ⟨2, cap, junk, rfl, by simp [hget_cons], by omega, hj, by simpa using h⟩⟩
  all_goals
    refine fresh_of_vc (X := ⟨Try.prog, tys, [(95, isFor_F), (96, isRule_F)], [(109, poursBy_F)], true, true, 0, [], []⟩) fn_41 ⟨tys_ok, (.cons isFor_T (.cons isRule_T .nil)), (.cons poursBy_T .nil), mixed⟩ (n0 := 0) rfl (Nat.le_of_ble_eq_true rfl) (by simp [wfL, SV.wf]) (wfH_spec (by simp [wfH, SObj.wf])) (Nat.le_refl _) ?_
    simp -implicitDefEqProofs only [Try.f41, Option.getD_some, argS, isFor_F, isRule_F, poursBy_F, hR, hD, tkR, tkD, hf, hu, freshK, Wrap.ap, ZB, Int.reduceToNat, Nat.reduceLT, Nat.reduceLeDiff, Int.reduceLE, Int.reduceLT, Nat.reduceEqDiff, Nat.reduceSub, SB, SV.known, packR, ne_eq, reduceCtorEq, Nat.reduceEqDiff, ↓reduceIte, if_true, if_false, eq_self, Nat.reduceAdd, Nat.reduceMul, Nat.reduceSub, forall_const, oneCellS, litOne, flat1, Kd.isSca, flat, TYB]
    exact .inl ⟨rfl, rfl, rfl⟩
theorem sPoursBy_ok (R D : List Int) (u : Int) (hR : R.length = 24) (hD : D.length = 6) : FreshP Try.prog 50 [.arr R, .arr D, .int u] [] (pbL R D u) ((pbL R D u).length / 2) 2 44 false (.more [.bool (forB R D && ruF u)]) := by
  have tkR : R.take 24 = R := List.take_of_length_le (by omega)
  have tkD : D.take 6 = D := List.take_of_length_le (by omega)
  unfold pbL
  cases hf : forB R D <;> cases hu : ruF u
  case true.true =>
    refine fresh_of_vc (X := ⟨Try.prog, tys, [(91, l8Fits2_F), (100, l8Rule_F)], [(93, l8Pours_F)], true, true, 0, [], []⟩) fn_50 ⟨tys_ok, (.cons l8Fits2_T (.cons l8Rule_T .nil)), (.cons l8Pours_T .nil), mixed⟩ (n0 := 0) rfl (Nat.le_of_ble_eq_true rfl) (by simp [wfL, SV.wf]) (wfH_spec (by simp [wfH, SObj.wf])) (Nat.le_refl _) ?_
    simp -implicitDefEqProofs only [Try.f50, Option.getD_some, argS, l8Fits2_F, l8Rule_F, l8Pours_F, hR, hD, tkR, tkD, hf, hu, freshK, Wrap.ap, ZB, Int.reduceToNat, Nat.reduceLT, Nat.reduceLeDiff, Int.reduceLE, Int.reduceLT, Nat.reduceEqDiff, Nat.reduceSub, SB, SV.known, packR, ne_eq, reduceCtorEq, Nat.reduceEqDiff, ↓reduceIte, if_true, if_false, eq_self, Nat.reduceAdd, Nat.reduceMul, Nat.reduceSub, forall_const, oneCellS, litOne, flat1, Kd.isSca, flat, TYB]
    exact fun cap junk hj => .inr ⟨2, cap, junk, rfl, by simp [hget_cons], by omega, hj, by simp⟩
  all_goals
    refine fresh_of_vc (X := ⟨Try.prog, tys, [(91, l8Fits2_F), (100, l8Rule_F)], [(93, l8Pours_F)], true, true, 0, [], []⟩) fn_50 ⟨tys_ok, (.cons l8Fits2_T (.cons l8Rule_T .nil)), (.cons l8Pours_T .nil), mixed⟩ (n0 := 0) rfl (Nat.le_of_ble_eq_true rfl) (by simp [wfL, SV.wf]) (wfH_spec (by simp [wfH, SObj.wf])) (Nat.le_refl _) ?_
    simp -implicitDefEqProofs only [Try.f50, Option.getD_some, argS, l8Fits2_F, l8Rule_F, l8Pours_F, hR, hD, tkR, tkD, hf, hu, freshK, Wrap.ap, ZB, Int.reduceToNat, Nat.reduceLT, Nat.reduceLeDiff, Int.reduceLE, Int.reduceLT, Nat.reduceEqDiff, Nat.reduceSub, SB, SV.known, packR, ne_eq, reduceCtorEq, Nat.reduceEqDiff, ↓reduceIte, if_true, if_false, eq_self, Nat.reduceAdd, Nat.reduceMul, Nat.reduceSub, forall_const, oneCellS, litOne, flat1, Kd.isSca, flat, TYB]
    exact .inr ⟨2, 0, [], by simp [Wrap.ap], by simp [hget_cons], by omega, by simp, by simp⟩
def PoursBy_F : List SV → Heap → Nat → Nat → K1 → Prop
  | [.arr R, .arr D, .int u], H, n, _, κ => (R.length = 24 ∧ D.length = 6) ∧ freshK (.more [.bool (forB R D && ruF u)]) (pbL R D u) ((pbL R D u).length / 2) 2 44 (true) H n κ
  | _, _, _, _, _ => False
--@tbl PoursBy = impl.PoursBy
theorem PoursBy_T : ∀ args H n m κ, PoursBy_F args H n m κ → GenOK Try.prog 41 args H n m κ := by
  intro args H n m κ h
  unfold PoursBy_F at h
  split at h
  · exact gen_of_fresh (PoursBy_ok _ _ _ h.1.1 h.1.2) (fun k o hk => by cases hk) h.2
  · exact h.elim
def sPoursBy_F : List SV → Heap → Nat → Nat → K1 → Prop
  | [.arr R, .arr D, .int u], H, n, _, κ => (R.length = 24 ∧ D.length = 6) ∧ freshK (.more [.bool (forB R D && ruF u)]) (pbL R D u) ((pbL R D u).length / 2) 2 44 (false) H n κ
  | _, _, _, _, _ => False
--@tbl sPoursBy = spec.PoursBy
theorem sPoursBy_T : ∀ args H n m κ, sPoursBy_F args H n m κ → GenOK Try.prog 50 args H n m κ := by
  intro args H n m κ h
  unfold sPoursBy_F at h
  split at h
  · exact gen_of_fresh (sPoursBy_ok _ _ _ h.1.1 h.1.2) (fun k o hk => by cases hk) h.2
  · exact h.elim
end Go.Proofs.Ytopfnkmlgcjpbaa
set_option maxRecDepth 100000
set_option linter.unusedSimpArgs false
set_option linter.unusedVariables false
namespace Go.Proofs.Ytopfnkmlgcjpbaa
open Go Go.RowKit
theorem fnx_ruleOf : FnOK Try.prog 88 Try.f88 (Try.f88.body.getD .skip) [119] [] := ⟨Try.func88, rfl, by kernel_rfl, by kernel_rfl⟩
theorem ruleOf_vc (c kc a m n : Nat) (H : Heap) (hC : CurH c kc a H) (hm : m ≤ c) (ha : a ≤ 900000) (hwH : hwf n H) :
    codeVC (⟨Try.prog, tys, [], [(119, among_F)], true, true, m, [119], []⟩ : Cx) n (Try.f88.body.getD .skip) (argS 0 [.ptr c 0]) H n
      (retK tys Try.f88.results.toList fun v H' n' => ∃ x : Int, v = .int x ∧ In64 x ∧ Drawn c kc a 2 n H H' n') := by
  have hlt := hC.lt hwH
  simp -implicitDefEqProofs only [Try.f88, Option.getD_some, argS, ZB, Int.reduceToNat, Nat.reduceLT, Nat.reduceLeDiff, Int.reduceLE, Int.reduceLT, Nat.reduceEqDiff, Nat.reduceSub, SB, SV.known, packR, ne_eq, reduceCtorEq, Nat.reduceEqDiff, ↓reduceIte, if_true, if_false, eq_self, Nat.reduceAdd, Nat.reduceMul, Nat.reduceSub, forall_const, oneCellS, litOne, flat1, Kd.isSca, flat, TYB]
  have d0 := Drawn.start hC hwH
  refine among_use (d0.pushI hlt) hlt hm (by omega) (L := [1, 2, 3, 4, 1, 2, 3, 4, 2, 3, 0, 5]) (by simp [hget_cons]; rfl) (by omega) (by simp) fun x H1 hx1 hd1 hf1 => ?_
  have hI : In64 x := by simp at hx1; unfold In64; omega
  simp -implicitDefEqProofs only [ZB, Int.reduceToNat, Nat.reduceLT, Nat.reduceLeDiff, Int.reduceLE, Int.reduceLT, Nat.reduceEqDiff, Nat.reduceSub, SB, SV.known, packR, ne_eq, reduceCtorEq, Nat.reduceEqDiff, ↓reduceIte, if_true, if_false, eq_self, Nat.reduceAdd, Nat.reduceMul, Nat.reduceSub, forall_const, oneCellS, litOne, flat1, Kd.isSca, flat, TYB]
  exact ⟨x, rfl, hI, hd1⟩
def ruleOf_F : List SV → Heap → Nat → Nat → K1 → Prop
  | [.ptr c 0], H, n, m, κ => ∃ kc a, CurH c kc a H ∧ m ≤ c ∧ a ≤ 900000 ∧ ∀ (x : Int) H' n', In64 x → Drawn c kc a 2 n H H' n' → κ (.int x) H' n'
  | _, _, _, _, _ => False
theorem ruleOf_T : ∀ args H n m κ, ruleOf_F args H n m κ → GenOK Try.prog 88 args H n m κ := by
  intro args H n m κ h
  unfold ruleOf_F at h
  split at h
  · rename_i c
    obtain ⟨kc, a, hC, hm, ha, h1⟩ := h
    exact gen_direct (X := ⟨Try.prog, tys, [], [(119, among_F)], true, true, m, [119], []⟩) fnx_ruleOf ⟨tys_ok, .nil, .cons among_T .nil, mixed⟩ rfl (Nat.le_of_ble_eq_true rfl) (fun hwH hwa => ruleOf_vc c kc a m n H hC hm ha hwH) fun hwH v H' n' hψ h3 h4 h5 => by
      obtain ⟨x, rfl, g1, g2⟩ := hψ
      exact h1 x H' n' g1 g2
  · exact h.elim
theorem ruleOf_use {c kc a k n0 n m : Nat} {H0 H : Heap} {κ : K1} (h : Drawn c kc a k n0 H0 H n) (hc : c < n0 ∧ kc < n0 ∧ kc ≠ c) (hm : m ≤ c) (ha : a + k ≤ 900000)
    (hκ : ∀ (x : Int) H' n', In64 x → Drawn c kc a (k + 2) n0 H0 H' n' → n ≤ n' → Fr n0 n H H' → κ (.int x) H' n') : ruleOf_F [.ptr c 0] H n m κ := by
  obtain ⟨b', g1, g2, g3⟩ := h.cur
  exact ⟨kc, b', g3, hm, by omega, fun x H' n' hI hd => hκ x H' n' hI (h.trans hd g2 g1) hd.le (hd.own hc.1)⟩
/-! Depths. -/
/-- Depths that are being drawn: r at n, the result at n + 1, the depths at b. -/
structure DpS (c kc a n : Nat) (H : Heap) (R : List Int) (b : Nat) (D : List Int) (k : Nat) (H' : Heap) (n' : Nat) : Prop where
  d : Drawn c kc a k n H H' n'
  lt : n + 1 < b ∧ b < n'
  r : hget H' n = some (.ints R 27)
  z : hget H' (n + 1) = some (.ints (List.replicate 6 0) 51)
  o : hget H' b = some (.ints D 51)
  l : D.length = 6
  i : ∀ x ∈ D, In64 x
theorem DpS.draw {c kc a n b k n' k2 n2 : Nat} {H H' H2 : Heap} {R D : List Int} (h : DpS c kc a n H R b D k H' n') (hd : Drawn c kc a k2 n H H2 n2) (hf : Fr n n' H' H2) (hn : n' ≤ n2) : DpS c kc a n H R b D k2 H2 n2 :=
  ⟨hd, ⟨h.lt.1, Nat.lt_of_lt_of_le h.lt.2 hn⟩, hf.use (by omega) (by have := h.lt; omega) h.r, hf.use (by omega) (by have := h.lt; omega) h.z, hf.use (by have := h.lt; omega) h.lt.2 h.o, h.l, h.i⟩
theorem DpS.set {c kc a n b k n' : Nat} {H H' : Heap} {R D D' : List Int} (h : DpS c kc a n H R b D k H' n') (hlt : c < n ∧ kc < n ∧ kc ≠ c) (hl : D'.length = 6) (hi : ∀ x ∈ D', In64 x) : DpS c kc a n H R b D' k ((b, .ints D' 51) :: H') n' :=
  ⟨h.d.putI hlt (by have := h.lt; omega) h.lt.2, h.lt, by rw [hget_cons, if_neg (by have := h.lt; omega)]; exact h.r, by rw [hget_cons, if_neg (by have := h.lt; omega)]; exact h.z, by simp [hget_cons], hl, hi⟩
theorem DpS.push {c kc a n b k n' : Nat} {H H' : Heap} {R D : List Int} (h : DpS c kc a n H R b D k H' n') (hlt : c < n ∧ kc < n ∧ kc ≠ c) {L : List Int} {e : Nat} : DpS c kc a n H R b D k ((n', .ints L e) :: H') (n' + 1) :=
  ⟨h.d.pushI hlt, by have := h.lt; omega, by rw [hget_cons, if_neg (by have := h.lt; omega)]; exact h.r, by rw [hget_cons, if_neg (by have := h.lt; omega)]; exact h.z, by rw [hget_cons, if_neg (by have := h.lt; omega)]; exact h.o, h.l, h.i⟩
theorem fnx_depths : FnOK Try.prog 89 Try.f89 (Try.f89.body.getD .skip) [94, 92, 119] [] := ⟨Try.func89, rfl, by kernel_rfl, by kernel_rfl⟩
theorem depths_vc (c kc a m n : Nat) (H : Heap) (R : List Int) (hR : R.length = 24) (hC : CurH c kc a H) (hm : m ≤ c) (hmn : m ≤ n) (ha : a ≤ 900000) (hwH : hwf n H) :
    codeVC (⟨Try.prog, tys, [(135, l2Many_F), (145, l1Most_F), (139, l1Least_F)], [(94, pick_F), (92, one_F), (119, among_F)], true, true, m, [94, 92, 119], []⟩ : Cx) n (Try.f89.body.getD .skip) (argS 0 [.ptr c 0, .arr R]) H n
      (retK tys Try.f89.results.toList fun v H' n' => ∃ D : List Int, v = .arr D ∧ D.length = 6 ∧ (∀ x ∈ D, In64 x) ∧ Drawn c kc a 40 n H H' n') := by
  have hlt := hC.lt hwH
  have tkR : R.take 24 = R := List.take_of_length_le (by omega)
  simp -implicitDefEqProofs only [Try.f89, Option.getD_some, argS, hR, tkR, Nat.add_assoc, add_self, self_add, add_add, ZB, Int.reduceToNat, Nat.reduceLT, Nat.reduceLeDiff, Int.reduceLE, Int.reduceLT, Nat.reduceEqDiff, Nat.reduceSub, SB, SV.known, packR, ne_eq, reduceCtorEq, Nat.reduceEqDiff, ↓reduceIte, if_true, if_false, eq_self, Nat.reduceAdd, Nat.reduceMul, Nat.reduceSub, forall_const, oneCellS, litOne, flat1, Kd.isSca, flat, TYB]
  have d0 : Drawn c kc a 0 n H ((n + 1, .ints (List.replicate 6 0) 51) :: (n, .ints R 27) :: H) (n + 2) := ((Drawn.start hC hwH).pushI hlt).pushI hlt
  refine one_use d0 hlt hm (by omega) fun o H1 hd1 hf1 => ?_
  have hr1 := hf1.use (by omega) (by omega) (show hget _ n = some (.ints R 27) by simp [hget_cons])
  have hz1 := hf1.use (by omega) (by omega) (show hget _ (n + 1) = some (.ints (List.replicate 6 0) 51) by simp [hget_cons])
  simp -implicitDefEqProofs only [Nat.add_assoc, add_self, self_add, add_add, ZB, Int.reduceToNat, Nat.reduceLT, Nat.reduceLeDiff, Int.reduceLE, Int.reduceLT, Nat.reduceEqDiff, Nat.reduceSub, SB, SV.known, packR, ne_eq, reduceCtorEq, Nat.reduceEqDiff, ↓reduceIte, if_true, if_false, eq_self, Nat.reduceAdd, Nat.reduceMul, Nat.reduceSub, forall_const, oneCellS, litOne, flat1, Kd.isSca, flat, TYB]
  have hS0 : DpS c kc a n H R (n + 2) [4, 4, 4, 4, 4, 4] 2 ((n + 2, .ints [4, 4, 4, 4, 4, 4] 51) :: (n + 2, .ints (List.replicate 6 0) 51) :: H1) (n + 3) :=
    ⟨(hd1.pushI hlt).putI hlt (by omega) (by omega), by omega, by rw [hget_cons, if_neg (by omega), hget_cons, if_neg (by omega)]; exact hr1, by rw [hget_cons, if_neg (by omega), hget_cons, if_neg (by omega)]; exact hz1, by simp [hget_cons], rfl, fun x hx => by simp at hx; subst hx; simp [In64]⟩
  have e4 : ((((((List.replicate 6 (0 : Int)).set 0 4).set 1 4).set 2 4).set 3 4).set 4 4).set 5 4 = [4, 4, 4, 4, 4, 4] := rfl
  rw [e4]
  refine ⟨by omega, ?_⟩
  refine loop_introN (fun s : (Nat × List Int) × Heap × Nat => [(7, .int s.1.1), (6, .bool o), (5, .ptr (n + 2) 0), (4, .ptr (n + 1) 0), (3, .ptr n 0), (0, .ptr c 0)]) (fun s => s.2.1) (fun s => s.2.2)
    (fun s => s.1.1 ≤ 6 ∧ DpS c kc a n H R (n + 2) s.1.2 (2 + 2 * s.1.1) s.2.1 s.2.2) (fun s => 6 - s.1.1) ?_ ?_
  · have hle := hS0.d.le
    exact ⟨((0, [4, 4, 4, 4, 4, 4]), _, n + 3), ⟨Nat.zero_le _, hS0⟩, Sub.same (by simp only [LB, subS, subH, wfS, wfH, SV.ren, renL, SObj.ren, SV.wf, SObj.wf, wfL, SV.known, Nat.reduceEqDiff, ↓reduceIte, if_true, if_false, eq_self, Nat.reduceAdd, Nat.reduceLT, Nat.reduceLeDiff, implies_true, reduceCtorEq, forall_const]; try rfl) (by simp [subS, subH, wfS, wfH, SV.ren, renL, SObj.ren, SV.wf, SObj.wf, wfL, sget_cons, hget_cons] <;> omega) hS0.d.wf hle⟩
  · rintro ⟨⟨i, D⟩, H2, n2⟩ ⟨hi, hS⟩
    simp only at hi hS
    have hq := hS.lt
    have hD := hS.l
    have tkD : D.take 6 = D := List.take_of_length_le (by omega)
    have fin : ∀ (D' : List Int) (H' : Heap) (n' k : Nat), k ≤ 40 → DpS c kc a n H R (n + 2) D' k H' n' → ∃ E : List Int, D' = E ∧ E.length = 6 ∧ (∀ x ∈ E, In64 x) ∧ Drawn c kc a 40 n H ((n + 1, .ints D' 51) :: H') n' := fun D' H' n' k hk h =>
      ⟨D', rfl, h.l, h.i, (h.d.more hk).putI hlt (by omega) (by have := h.lt; omega)⟩
    by_cases hb : i < 6 ∧ o = false
    · obtain ⟨h6, rfl⟩ := hb
      have hil : (i : Int) < 6 := by omega
      have eT : List.take 4 (List.drop (i * 4) R) = tubeAt R i := rfl
      have hl := tubeAt_len hR h6
      have pb := posC_bd (tubeAt R i)
      have hr2 := hS.r
      have i24 : i * 4 + 4 ≤ 24 := by omega
      have i0 : 0 ≤ (i : Int) := by omega
      simp -implicitDefEqProofs only [lk_normal, l2Many_F, l1Most_F, l1Least_F, hil, hr2, hR, eT, hl, i24, i0, h6, ZB, Int.reduceToNat, Nat.reduceLT, Nat.reduceLeDiff, Int.reduceLE, Int.reduceLT, Nat.reduceEqDiff, Nat.reduceSub, SB, SV.known, packR, ne_eq, reduceCtorEq, Nat.reduceEqDiff, ↓reduceIte, if_true, if_false, eq_self, Nat.reduceAdd, Nat.reduceMul, Nat.reduceSub, forall_const, oneCellS, litOne, flat1, Kd.isSca, flat, TYB]
      refine pick_use hS.d hlt hm (by omega) fun x H3 hx0 hx1 hd3 hf3 => ?_
      have hS3 := hS.draw hd3 hf3 (Nat.le_refl _)
      have ho3 := hS3.o
      have hv : In64 (min 4 (max 1 (posC (tubeAt R i) + x))) := by unfold In64; omega
      have hS4 := hS3.set (D' := D.set i (min 4 (max 1 (posC (tubeAt R i) + x)))) hlt (by rw [List.length_set]; exact hD) (in64_set hS3.i hv)
      simp -implicitDefEqProofs only [lk_normal, l2Many_F, l1Most_F, l1Least_F, ho3, hD, i0, h6, ZB, Int.reduceToNat, Nat.reduceLT, Nat.reduceLeDiff, Int.reduceLE, Int.reduceLT, Nat.reduceEqDiff, Nat.reduceSub, SB, SV.known, packR, ne_eq, reduceCtorEq, Nat.reduceEqDiff, ↓reduceIte, if_true, if_false, eq_self, Nat.reduceAdd, Nat.reduceMul, Nat.reduceSub, forall_const, oneCellS, litOne, flat1, Kd.isSca, flat, TYB]
      exact ⟨by unfold In64; omega, by omega, by omega, by unfold In64; omega, ((i + 1, D.set i (min 4 (max 1 (posC (tubeAt R i) + x)))), _, n2), ⟨by show i + 1 ≤ 6; omega, hS4⟩, by show 6 - (i + 1) < 6 - i; omega, Sub.same (by simp only [LB, subS, subH, wfS, wfH, SV.ren, renL, SObj.ren, SV.wf, SObj.wf, wfL, SV.known, Nat.reduceEqDiff, ↓reduceIte, if_true, if_false, eq_self, Nat.reduceAdd, Nat.reduceLT, Nat.reduceLeDiff, implies_true, reduceCtorEq, forall_const]; try rfl) (by simp [subS, subH, wfS, wfH, SV.ren, renL, SObj.ren, SV.wf, SObj.wf, wfL, sget_cons, hget_cons] <;> omega) hS4.d.wf (show n ≤ n2 by omega)⟩
    · have hz2 := hS.z
      have ho2 := hS.o
      have eN : (n = n + 1) = False := by simp
      have hcond : ¬ (i : Int) < 6 ∨ o = true := by
        by_cases h6 : i < 6
        · right
          cases o
          · exact absurd ⟨h6, rfl⟩ hb
          · rfl
        · left; omega
      rcases hcond with hc | hc
      · simp -implicitDefEqProofs only [lk_normal, hc, ZB, Int.reduceToNat, Nat.reduceLT, Nat.reduceLeDiff, Int.reduceLE, Int.reduceLT, Nat.reduceEqDiff, Nat.reduceSub, SB, SV.known, packR, ne_eq, reduceCtorEq, Nat.reduceEqDiff, ↓reduceIte, if_true, if_false, eq_self, Nat.reduceAdd, Nat.reduceMul, Nat.reduceSub, forall_const, oneCellS, litOne, flat1, Kd.isSca, flat, TYB]
        refine one_use hS.d hlt hm (by omega) fun o2 H3 hd3 hf3 => ?_
        have hS3 := hS.draw hd3 hf3 (Nat.le_refl _)
        have ho3 := hS3.o
        have hz3 := hS3.z
        cases o2
        · simp -implicitDefEqProofs only [lk_normal, ho3, hz3, hD, tkD, ZB, Int.reduceToNat, Nat.reduceLT, Nat.reduceLeDiff, Int.reduceLE, Int.reduceLT, Nat.reduceEqDiff, Nat.reduceSub, SB, SV.known, packR, ne_eq, reduceCtorEq, Nat.reduceEqDiff, ↓reduceIte, if_true, if_false, eq_self, Nat.reduceAdd, Nat.reduceMul, Nat.reduceSub, forall_const, oneCellS, litOne, flat1, Kd.isSca, flat, TYB]
          exact ⟨by omega, fin D H3 n2 _ (by omega) hS3⟩
        · simp -implicitDefEqProofs only [lk_normal, ZB, Int.reduceToNat, Nat.reduceLT, Nat.reduceLeDiff, Int.reduceLE, Int.reduceLT, Nat.reduceEqDiff, Nat.reduceSub, SB, SV.known, packR, ne_eq, reduceCtorEq, Nat.reduceEqDiff, ↓reduceIte, if_true, if_false, eq_self, Nat.reduceAdd, Nat.reduceMul, Nat.reduceSub, forall_const, oneCellS, litOne, flat1, Kd.isSca, flat, TYB]
          refine pick_use hS3.d hlt hm (by omega) fun x H4 hx0 hx1 hd4 hf4 => ?_
          have hS4 := hS3.draw hd4 hf4 (Nat.le_refl _)
          obtain ⟨X, rfl⟩ : ∃ X : Nat, x = X := ⟨x.toNat, by omega⟩
          have hX : X < 6 := by omega
          simp -implicitDefEqProofs only [lk_normal, ZB, Int.reduceToNat, Nat.reduceLT, Nat.reduceLeDiff, Int.reduceLE, Int.reduceLT, Nat.reduceEqDiff, Nat.reduceSub, SB, SV.known, packR, ne_eq, reduceCtorEq, Nat.reduceEqDiff, ↓reduceIte, if_true, if_false, eq_self, Nat.reduceAdd, Nat.reduceMul, Nat.reduceSub, forall_const, oneCellS, litOne, flat1, Kd.isSca, flat, TYB]
          refine among_use (hS4.push hlt).d hlt hm (by omega) (L := [0, 5, 1, -1]) (by simp [hget_cons]; rfl) (by omega) (by simp) fun y H5 hy hd5 hf5 => ?_
          have hS5 := (hS4.push hlt (L := [0, 5, 1, -1]) (e := 3)).draw hd5 hf5 (Nat.le_refl _)
          have hyI : In64 y := by simp at hy; unfold In64; omega
          have hS6 := hS5.set (D' := D.set X y) hlt (by rw [List.length_set]; exact hD) (in64_set hS5.i hyI)
          have ho5 := hS5.o
          have hz6 := hS6.z
          have hz5 := hS5.z
          have lD : (D.set X y).length = 6 := by rw [List.length_set]; exact hD
          have tkD2 : (D.set X y).take 6 = D.set X y := List.take_of_length_le (by omega)
          have hXi : (X : Int) < 6 := by omega
          have hX0 : 0 ≤ (X : Int) := by omega
          simp -implicitDefEqProofs only [lk_normal, ho5, hz5, hD, hX, hXi, hX0, lD, tkD2, eN, ZB, Int.reduceToNat, Nat.reduceLT, Nat.reduceLeDiff, Int.reduceLE, Int.reduceLT, Nat.reduceEqDiff, Nat.reduceSub, SB, SV.known, packR, ne_eq, reduceCtorEq, Nat.reduceEqDiff, ↓reduceIte, if_true, if_false, eq_self, Nat.reduceAdd, Nat.reduceMul, Nat.reduceSub, forall_const, oneCellS, litOne, flat1, Kd.isSca, flat, TYB]
          exact ⟨by omega, by omega, fin _ _ _ _ (by omega) hS6⟩
      · subst hc
        by_cases h6 : (i : Int) < 6
        · simp -implicitDefEqProofs only [lk_normal, h6, ZB, Int.reduceToNat, Nat.reduceLT, Nat.reduceLeDiff, Int.reduceLE, Int.reduceLT, Nat.reduceEqDiff, Nat.reduceSub, SB, SV.known, packR, ne_eq, reduceCtorEq, Nat.reduceEqDiff, ↓reduceIte, if_true, if_false, eq_self, Nat.reduceAdd, Nat.reduceMul, Nat.reduceSub, forall_const, oneCellS, litOne, flat1, Kd.isSca, flat, TYB]
          refine one_use hS.d hlt hm (by omega) fun o2 H3 hd3 hf3 => ?_
          have hS3 := hS.draw hd3 hf3 (Nat.le_refl _)
          have ho3 := hS3.o
          have hz3 := hS3.z
          cases o2
          · simp -implicitDefEqProofs only [lk_normal, ho3, hz3, hD, tkD, ZB, Int.reduceToNat, Nat.reduceLT, Nat.reduceLeDiff, Int.reduceLE, Int.reduceLT, Nat.reduceEqDiff, Nat.reduceSub, SB, SV.known, packR, ne_eq, reduceCtorEq, Nat.reduceEqDiff, ↓reduceIte, if_true, if_false, eq_self, Nat.reduceAdd, Nat.reduceMul, Nat.reduceSub, forall_const, oneCellS, litOne, flat1, Kd.isSca, flat, TYB]
            exact ⟨by omega, fin D H3 n2 _ (by omega) hS3⟩
          · simp -implicitDefEqProofs only [lk_normal, ZB, Int.reduceToNat, Nat.reduceLT, Nat.reduceLeDiff, Int.reduceLE, Int.reduceLT, Nat.reduceEqDiff, Nat.reduceSub, SB, SV.known, packR, ne_eq, reduceCtorEq, Nat.reduceEqDiff, ↓reduceIte, if_true, if_false, eq_self, Nat.reduceAdd, Nat.reduceMul, Nat.reduceSub, forall_const, oneCellS, litOne, flat1, Kd.isSca, flat, TYB]
            refine pick_use hS3.d hlt hm (by omega) fun x H4 hx0 hx1 hd4 hf4 => ?_
            have hS4 := hS3.draw hd4 hf4 (Nat.le_refl _)
            obtain ⟨X, rfl⟩ : ∃ X : Nat, x = X := ⟨x.toNat, by omega⟩
            have hX : X < 6 := by omega
            simp -implicitDefEqProofs only [lk_normal, ZB, Int.reduceToNat, Nat.reduceLT, Nat.reduceLeDiff, Int.reduceLE, Int.reduceLT, Nat.reduceEqDiff, Nat.reduceSub, SB, SV.known, packR, ne_eq, reduceCtorEq, Nat.reduceEqDiff, ↓reduceIte, if_true, if_false, eq_self, Nat.reduceAdd, Nat.reduceMul, Nat.reduceSub, forall_const, oneCellS, litOne, flat1, Kd.isSca, flat, TYB]
            refine among_use (hS4.push hlt).d hlt hm (by omega) (L := [0, 5, 1, -1]) (by simp [hget_cons]; rfl) (by omega) (by simp) fun y H5 hy hd5 hf5 => ?_
            have hS5 := (hS4.push hlt (L := [0, 5, 1, -1]) (e := 3)).draw hd5 hf5 (Nat.le_refl _)
            have hyI : In64 y := by simp at hy; unfold In64; omega
            have hS6 := hS5.set (D' := D.set X y) hlt (by rw [List.length_set]; exact hD) (in64_set hS5.i hyI)
            have ho5 := hS5.o
            have hz6 := hS6.z
            have hz5 := hS5.z
            have lD : (D.set X y).length = 6 := by rw [List.length_set]; exact hD
            have tkD2 : (D.set X y).take 6 = D.set X y := List.take_of_length_le (by omega)
            have hXi : (X : Int) < 6 := by omega
            have hX0 : 0 ≤ (X : Int) := by omega
            simp -implicitDefEqProofs only [lk_normal, ho5, hz5, hD, hX, hXi, hX0, lD, tkD2, eN, ZB, Int.reduceToNat, Nat.reduceLT, Nat.reduceLeDiff, Int.reduceLE, Int.reduceLT, Nat.reduceEqDiff, Nat.reduceSub, SB, SV.known, packR, ne_eq, reduceCtorEq, Nat.reduceEqDiff, ↓reduceIte, if_true, if_false, eq_self, Nat.reduceAdd, Nat.reduceMul, Nat.reduceSub, forall_const, oneCellS, litOne, flat1, Kd.isSca, flat, TYB]
            exact ⟨by omega, by omega, fin _ _ _ _ (by omega) hS6⟩
        · simp -implicitDefEqProofs only [lk_normal, h6, ZB, Int.reduceToNat, Nat.reduceLT, Nat.reduceLeDiff, Int.reduceLE, Int.reduceLT, Nat.reduceEqDiff, Nat.reduceSub, SB, SV.known, packR, ne_eq, reduceCtorEq, Nat.reduceEqDiff, ↓reduceIte, if_true, if_false, eq_self, Nat.reduceAdd, Nat.reduceMul, Nat.reduceSub, forall_const, oneCellS, litOne, flat1, Kd.isSca, flat, TYB]
          refine one_use hS.d hlt hm (by omega) fun o2 H3 hd3 hf3 => ?_
          have hS3 := hS.draw hd3 hf3 (Nat.le_refl _)
          have ho3 := hS3.o
          have hz3 := hS3.z
          cases o2
          · simp -implicitDefEqProofs only [lk_normal, ho3, hz3, hD, tkD, ZB, Int.reduceToNat, Nat.reduceLT, Nat.reduceLeDiff, Int.reduceLE, Int.reduceLT, Nat.reduceEqDiff, Nat.reduceSub, SB, SV.known, packR, ne_eq, reduceCtorEq, Nat.reduceEqDiff, ↓reduceIte, if_true, if_false, eq_self, Nat.reduceAdd, Nat.reduceMul, Nat.reduceSub, forall_const, oneCellS, litOne, flat1, Kd.isSca, flat, TYB]
            exact ⟨by omega, fin D H3 n2 _ (by omega) hS3⟩
          · simp -implicitDefEqProofs only [lk_normal, ZB, Int.reduceToNat, Nat.reduceLT, Nat.reduceLeDiff, Int.reduceLE, Int.reduceLT, Nat.reduceEqDiff, Nat.reduceSub, SB, SV.known, packR, ne_eq, reduceCtorEq, Nat.reduceEqDiff, ↓reduceIte, if_true, if_false, eq_self, Nat.reduceAdd, Nat.reduceMul, Nat.reduceSub, forall_const, oneCellS, litOne, flat1, Kd.isSca, flat, TYB]
            refine pick_use hS3.d hlt hm (by omega) fun x H4 hx0 hx1 hd4 hf4 => ?_
            have hS4 := hS3.draw hd4 hf4 (Nat.le_refl _)
            obtain ⟨X, rfl⟩ : ∃ X : Nat, x = X := ⟨x.toNat, by omega⟩
            have hX : X < 6 := by omega
            simp -implicitDefEqProofs only [lk_normal, ZB, Int.reduceToNat, Nat.reduceLT, Nat.reduceLeDiff, Int.reduceLE, Int.reduceLT, Nat.reduceEqDiff, Nat.reduceSub, SB, SV.known, packR, ne_eq, reduceCtorEq, Nat.reduceEqDiff, ↓reduceIte, if_true, if_false, eq_self, Nat.reduceAdd, Nat.reduceMul, Nat.reduceSub, forall_const, oneCellS, litOne, flat1, Kd.isSca, flat, TYB]
            refine among_use (hS4.push hlt).d hlt hm (by omega) (L := [0, 5, 1, -1]) (by simp [hget_cons]; rfl) (by omega) (by simp) fun y H5 hy hd5 hf5 => ?_
            have hS5 := (hS4.push hlt (L := [0, 5, 1, -1]) (e := 3)).draw hd5 hf5 (Nat.le_refl _)
            have hyI : In64 y := by simp at hy; unfold In64; omega
            have hS6 := hS5.set (D' := D.set X y) hlt (by rw [List.length_set]; exact hD) (in64_set hS5.i hyI)
            have ho5 := hS5.o
            have hz6 := hS6.z
            have hz5 := hS5.z
            have lD : (D.set X y).length = 6 := by rw [List.length_set]; exact hD
            have tkD2 : (D.set X y).take 6 = D.set X y := List.take_of_length_le (by omega)
            have hXi : (X : Int) < 6 := by omega
            have hX0 : 0 ≤ (X : Int) := by omega
            simp -implicitDefEqProofs only [lk_normal, ho5, hz5, hD, hX, hXi, hX0, lD, tkD2, eN, ZB, Int.reduceToNat, Nat.reduceLT, Nat.reduceLeDiff, Int.reduceLE, Int.reduceLT, Nat.reduceEqDiff, Nat.reduceSub, SB, SV.known, packR, ne_eq, reduceCtorEq, Nat.reduceEqDiff, ↓reduceIte, if_true, if_false, eq_self, Nat.reduceAdd, Nat.reduceMul, Nat.reduceSub, forall_const, oneCellS, litOne, flat1, Kd.isSca, flat, TYB]
            exact ⟨by omega, by omega, fin _ _ _ _ (by omega) hS6⟩
def depths_F : List SV → Heap → Nat → Nat → K1 → Prop
  | [.ptr c 0, .arr R], H, n, m, κ => R.length = 24 ∧ ∃ kc a, CurH c kc a H ∧ m ≤ c ∧ m ≤ n ∧ a ≤ 900000 ∧ ∀ (D : List Int) H' n', D.length = 6 → (∀ x ∈ D, In64 x) → Drawn c kc a 40 n H H' n' → κ (.arr D) H' n'
  | _, _, _, _, _ => False
theorem depths_T : ∀ args H n m κ, depths_F args H n m κ → GenOK Try.prog 89 args H n m κ := by
  intro args H n m κ h
  unfold depths_F at h
  split at h
  · rename_i c R
    obtain ⟨hR, kc, a, hC, hm, hmn, ha, h1⟩ := h
    exact gen_direct (X := ⟨Try.prog, tys, [(135, l2Many_F), (145, l1Most_F), (139, l1Least_F)], [(94, pick_F), (92, one_F), (119, among_F)], true, true, m, [94, 92, 119], []⟩) fnx_depths ⟨tys_ok, .cons l2Many_T (.cons l1Most_T (.cons l1Least_T .nil)), .cons pick_T (.cons one_T (.cons among_T .nil)), mixed⟩ rfl (Nat.le_of_ble_eq_true rfl) (fun hwH hwa => depths_vc c kc a m n H R hR hC hm hmn ha hwH) fun hwH v H' n' hψ h3 h4 h5 => by
      obtain ⟨D, rfl, g1, g2, g3⟩ := hψ
      exact h1 D H' n' g1 g2 g3
  · exact h.elim
theorem depths_use {c kc a k n0 n m : Nat} {H0 H : Heap} {κ : K1} (h : Drawn c kc a k n0 H0 H n) (hc : c < n0 ∧ kc < n0 ∧ kc ≠ c) (hm : m ≤ c) (hmn : m ≤ n) (ha : a + k ≤ 900000) {R : List Int} (hR : R.length = 24)
    (hκ : ∀ (D : List Int) H' n', D.length = 6 → (∀ x ∈ D, In64 x) → Drawn c kc a (k + 40) n0 H0 H' n' → n ≤ n' → Fr n0 n H H' → κ (.arr D) H' n') : depths_F [.ptr c 0, .arr R] H n m κ := by
  obtain ⟨b', g1, g2, g3⟩ := h.cur
  exact ⟨hR, kc, b', g3, hm, hmn, by omega, fun D H' n' h1 h2 hd => hκ D H' n' h1 h2 (h.trans hd g2 g1) hd.le (hd.own hc.1)⟩
theorem pb_use {c kc a k n0 n m : Nat} {H0 H : Heap} {κ : K1} (h : Drawn c kc a k n0 H0 H n) (hc : c < n0 ∧ kc < n0 ∧ kc ≠ c) {R D : List Int} {u : Int} (hR : R.length = 24) (hD : D.length = 6) (hf : forB R D = true) (hu : ruF u = true)
    (hκ : ∀ (cap : Nat) (junk : List Int) H', junk.length + (GL (pbB R D u) 36).length = cap * 2 → Drawn c kc a k n0 H0 H' (n + 1) → Fr n0 n H H' → hget H' n = some (.ints (GL (pbB R D u) 36 ++ junk) 44) → κ (.slice n 0 ((GL (pbB R D u) 36).length / 2) cap) H' (n + 1)) : l8Pours_F [.arr R, .arr D, .int u] H n m κ := by
  refine ⟨⟨hR, hD, hf, hu⟩, ?_⟩
  unfold freshK
  exact ⟨(fun h => by cases h), fun _ cap junk hj => hκ cap junk _ hj (h.pushI hc) (fun j o h1 h2 h3 => by rw [hget_cons, if_neg (by omega)]; exact h3) (by simp [hget_cons])⟩
theorem fnx_DrawPourBy : FnOK Try.prog 25 Try.f25 (Try.f25.body.getD .skip) [88, 77, 89, 90, 92, 94] [(10, .tree (.one 0 (.one 2 (.one 3 (.one 5 (.alt 1 (.alt 4 (.alt 6 (.one 7 (.one 8 (.one 9 (.one 10 (.one 11 .done))))) (.alt 7 (.alt 6 (.one 8 (.one 9 (.one 10 (.one 11 .done)))) (.alt 8 (.one 6 (.one 9 (.one 10 (.one 11 .done)))) .stop)) .stop)) (.alt 6 (.alt 4 (.one 7 (.one 8 (.one 9 (.one 10 (.one 11 .done))))) (.alt 7 (.alt 4 (.one 8 (.one 9 (.one 10 (.one 11 .done)))) (.alt 8 (.one 4 (.one 9 (.one 10 (.one 11 .done)))) .stop)) .stop)) (.alt 7 (.alt 4 (.alt 6 (.one 8 (.one 9 (.one 10 (.one 11 .done)))) (.alt 8 (.one 6 (.one 9 (.one 10 (.one 11 .done)))) .stop)) (.alt 6 (.alt 4 (.one 8 (.one 9 (.one 10 (.one 11 .done)))) (.alt 8 (.one 4 (.one 9 (.one 10 (.one 11 .done)))) .stop)) (.alt 8 (.one 4 (.one 6 (.one 9 (.one 10 (.one 11 .done))))) .stop))) .stop))) (.alt 4 (.alt 1 (.alt 6 (.one 7 (.one 8 (.one 9 (.one 10 (.one 11 .done))))) (.alt 7 (.alt 6 (.one 8 (.one 9 (.one 10 (.one 11 .done)))) (.alt 8 (.one 6 (.one 9 (.one 10 (.one 11 .done)))) .stop)) .stop)) (.alt 6 (.alt 1 (.one 7 (.one 8 (.one 9 (.one 10 (.one 11 .done))))) (.alt 7 (.one 1 (.one 8 (.one 9 (.one 10 (.one 11 .done))))) .stop)) (.alt 7 (.one 1 (.alt 6 (.one 8 (.one 9 (.one 10 (.one 11 .done)))) (.alt 8 (.one 6 (.one 9 (.one 10 (.one 11 .done)))) .stop))) .stop))) (.alt 6 (.alt 1 (.alt 4 (.one 7 (.one 8 (.one 9 (.one 10 (.one 11 .done))))) (.alt 7 (.alt 4 (.one 8 (.one 9 (.one 10 (.one 11 .done)))) (.alt 8 (.one 4 (.one 9 (.one 10 (.one 11 .done)))) .stop)) .stop)) (.alt 4 (.alt 1 (.one 7 (.one 8 (.one 9 (.one 10 (.one 11 .done))))) (.alt 7 (.one 1 (.one 8 (.one 9 (.one 10 (.one 11 .done))))) .stop)) (.alt 7 (.one 1 (.alt 4 (.one 8 (.one 9 (.one 10 (.one 11 .done)))) (.alt 8 (.one 4 (.one 9 (.one 10 (.one 11 .done)))) .stop))) .stop))) (.alt 7 (.one 1 (.alt 4 (.alt 6 (.one 8 (.one 9 (.one 10 (.one 11 .done)))) (.alt 8 (.one 6 (.one 9 (.one 10 (.one 11 .done)))) .stop)) (.alt 6 (.alt 4 (.one 8 (.one 9 (.one 10 (.one 11 .done)))) (.alt 8 (.one 4 (.one 9 (.one 10 (.one 11 .done)))) .stop)) (.alt 8 (.one 4 (.one 6 (.one 9 (.one 10 (.one 11 .done))))) .stop)))) .stop)))))))))] := ⟨Try.func25, rfl, by kernel_rfl, by kernel_rfl⟩
set_option maxHeartbeats 4000000 in
theorem DrawPourBy_vc (cv : SV) (m n : Nat) (H : Heap) (hB : BytA cv H) (hmn : m ≤ n) (hwH : hwf n H) :
    codeVC (⟨Try.prog, tys, [(91, l8Fits2_F)], [(88, ruleOf_F), (77, rack_F), (89, depths_F), (90, dpour_F), (92, one_F), (94, pick_F), (93, l8Pours_F)], true, true, m, [88, 77, 89, 90, 92, 94], [(10, .tree (.one 0 (.one 2 (.one 3 (.one 5 (.alt 1 (.alt 4 (.alt 6 (.one 7 (.one 8 (.one 9 (.one 10 (.one 11 .done))))) (.alt 7 (.alt 6 (.one 8 (.one 9 (.one 10 (.one 11 .done)))) (.alt 8 (.one 6 (.one 9 (.one 10 (.one 11 .done)))) .stop)) .stop)) (.alt 6 (.alt 4 (.one 7 (.one 8 (.one 9 (.one 10 (.one 11 .done))))) (.alt 7 (.alt 4 (.one 8 (.one 9 (.one 10 (.one 11 .done)))) (.alt 8 (.one 4 (.one 9 (.one 10 (.one 11 .done)))) .stop)) .stop)) (.alt 7 (.alt 4 (.alt 6 (.one 8 (.one 9 (.one 10 (.one 11 .done)))) (.alt 8 (.one 6 (.one 9 (.one 10 (.one 11 .done)))) .stop)) (.alt 6 (.alt 4 (.one 8 (.one 9 (.one 10 (.one 11 .done)))) (.alt 8 (.one 4 (.one 9 (.one 10 (.one 11 .done)))) .stop)) (.alt 8 (.one 4 (.one 6 (.one 9 (.one 10 (.one 11 .done))))) .stop))) .stop))) (.alt 4 (.alt 1 (.alt 6 (.one 7 (.one 8 (.one 9 (.one 10 (.one 11 .done))))) (.alt 7 (.alt 6 (.one 8 (.one 9 (.one 10 (.one 11 .done)))) (.alt 8 (.one 6 (.one 9 (.one 10 (.one 11 .done)))) .stop)) .stop)) (.alt 6 (.alt 1 (.one 7 (.one 8 (.one 9 (.one 10 (.one 11 .done))))) (.alt 7 (.one 1 (.one 8 (.one 9 (.one 10 (.one 11 .done))))) .stop)) (.alt 7 (.one 1 (.alt 6 (.one 8 (.one 9 (.one 10 (.one 11 .done)))) (.alt 8 (.one 6 (.one 9 (.one 10 (.one 11 .done)))) .stop))) .stop))) (.alt 6 (.alt 1 (.alt 4 (.one 7 (.one 8 (.one 9 (.one 10 (.one 11 .done))))) (.alt 7 (.alt 4 (.one 8 (.one 9 (.one 10 (.one 11 .done)))) (.alt 8 (.one 4 (.one 9 (.one 10 (.one 11 .done)))) .stop)) .stop)) (.alt 4 (.alt 1 (.one 7 (.one 8 (.one 9 (.one 10 (.one 11 .done))))) (.alt 7 (.one 1 (.one 8 (.one 9 (.one 10 (.one 11 .done))))) .stop)) (.alt 7 (.one 1 (.alt 4 (.one 8 (.one 9 (.one 10 (.one 11 .done)))) (.alt 8 (.one 4 (.one 9 (.one 10 (.one 11 .done)))) .stop))) .stop))) (.alt 7 (.one 1 (.alt 4 (.alt 6 (.one 8 (.one 9 (.one 10 (.one 11 .done)))) (.alt 8 (.one 6 (.one 9 (.one 10 (.one 11 .done)))) .stop)) (.alt 6 (.alt 4 (.one 8 (.one 9 (.one 10 (.one 11 .done)))) (.alt 8 (.one 4 (.one 9 (.one 10 (.one 11 .done)))) .stop)) (.alt 8 (.one 4 (.one 6 (.one 9 (.one 10 (.one 11 .done))))) .stop)))) .stop)))))))))]⟩ : Cx) n (Try.f25.body.getD .skip) (argS 0 [cv]) H n
      (retK tys Try.f25.results.toList fun v H' n' => ∃ (R D : List Int) (u x y : Int), v = .tup [.arr R, .arr D, .int u, .int x, .int y] ∧ R.length = 24 ∧ (∀ z ∈ R, In64 z) ∧ D.length = 6 ∧ (∀ z ∈ D, In64 z) ∧ In64 u ∧ In64 x ∧ In64 y ∧ Kpt n H H' n') := by
  have hB' := hB
  rcases hB with rfl | ⟨kc0, off0, len0, cap0, L0, rfl, hh0⟩
  all_goals
    simp -implicitDefEqProofs only [Try.f25, Option.getD_some, argS, Nat.add_assoc, add_self, self_add, add_add, ZB, Int.reduceToNat, Nat.reduceLT, Nat.reduceLeDiff, Int.reduceLE, Int.reduceLT, Nat.reduceEqDiff, Nat.reduceSub, SB, SV.known, packR, ne_eq, reduceCtorEq, Nat.reduceEqDiff, ↓reduceIte, if_true, if_false, eq_self, Nat.reduceAdd, Nat.reduceMul, Nat.reduceSub, forall_const, oneCellS, litOne, flat1, Kd.isSca, flat, TYB]
    have hw1 : hwf (n + 1) ((n, .ints (List.replicate 24 0) 27) :: H) := hwf_cons (hwf_mono (by omega) hwH) (Nat.lt_succ_self n) trivial
    obtain ⟨kc, hlt, d0⟩ := cur_new ((hB'.put hwH (Nat.le_refl n) (.ints (List.replicate 24 0) 27)).put hw1 (Nat.le_refl (n + 1)) (.ints (List.replicate 6 0) 51)) (hwf_cons (hwf_mono (by omega) hw1) (Nat.lt_succ_self (n + 1)) trivial) (Nat.lt_succ_self (n + 1)) ⟨_, by simp [hget_cons]; rfl⟩
    refine ruleOf_use d0 hlt (by omega) (by omega) fun u H1 n1 hu hd1 hle1 hf1 => ?_
    simp -implicitDefEqProofs only [Nat.add_assoc, add_self, self_add, add_add, ZB, Int.reduceToNat, Nat.reduceLT, Nat.reduceLeDiff, Int.reduceLE, Int.reduceLT, Nat.reduceEqDiff, Nat.reduceSub, SB, SV.known, packR, ne_eq, reduceCtorEq, Nat.reduceEqDiff, ↓reduceIte, if_true, if_false, eq_self, Nat.reduceAdd, Nat.reduceMul, Nat.reduceSub, forall_const, oneCellS, litOne, flat1, Kd.isSca, flat, TYB]
    refine rack_use hd1 hlt (by omega) (by omega) (by omega) fun R H2 n2 hR hRi hd2 hle2 hf2 => ?_
    have tkR : R.take 24 = R := List.take_of_length_le (by omega)
    have hd2' := (hd2.pushI hlt (L := List.replicate 24 0) (e := 27)).putI hlt (L := R) (e := 27) (k0 := n2) (by omega) (by omega)
    simp -implicitDefEqProofs only [hR, tkR, Nat.add_assoc, add_self, self_add, add_add, ZB, Int.reduceToNat, Nat.reduceLT, Nat.reduceLeDiff, Int.reduceLE, Int.reduceLT, Nat.reduceEqDiff, Nat.reduceSub, SB, SV.known, packR, ne_eq, reduceCtorEq, Nat.reduceEqDiff, ↓reduceIte, if_true, if_false, eq_self, Nat.reduceAdd, Nat.reduceMul, Nat.reduceSub, forall_const, oneCellS, litOne, flat1, Kd.isSca, flat, TYB]
    refine ⟨by omega, depths_use hd2' hlt (by omega) (by omega) (by omega) hR fun D H3 n3 hD hDi hd3 hle3 hf3 => ?_⟩
    have hr3 := hf3.use (by omega) (by omega) (show hget _ n2 = some (.ints R 27) by simp [hget_cons])
    have tkD : D.take 6 = D := List.take_of_length_le (by omega)
    have hd3' := (hd3.pushI hlt (L := List.replicate 6 0) (e := 51)).putI hlt (L := D) (e := 51) (k0 := n3) (by omega) (by omega)
    have e23 : (n2 = n3) = False := by simp; omega
    simp -implicitDefEqProofs only [hR, tkR, hD, tkD, hr3, e23, Nat.add_assoc, add_self, self_add, add_add, ZB, Int.reduceToNat, Nat.reduceLT, Nat.reduceLeDiff, Int.reduceLE, Int.reduceLT, Nat.reduceEqDiff, Nat.reduceSub, SB, SV.known, packR, ne_eq, reduceCtorEq, Nat.reduceEqDiff, ↓reduceIte, if_true, if_false, eq_self, Nat.reduceAdd, Nat.reduceMul, Nat.reduceSub, forall_const, oneCellS, litOne, flat1, Kd.isSca, flat, TYB]
    refine ⟨by omega, dpour_use hd3' hlt (by omega) (by omega) (by omega) hR fun x y H4 n4 hx hy hd4 hle4 hf4 => ?_⟩
    have hr4 := hf4.use (by omega) (by omega) (show hget _ n2 = some (.ints R 27) by rw [hget_cons, if_neg (by omega), hget_cons, if_neg (by omega)]; exact hr3)
    have hD4 := hf4.use (by omega) (by omega) (show hget _ n3 = some (.ints D 51) by simp [hget_cons])
    have hd4' := (hd4.pushI hlt (L := List.replicate 2 0) (e := 44)).putI hlt (L := [x, y]) (e := 44) (k0 := n4) (by omega) (by omega)
    have e24 : (n2 = n4) = False := by simp; omega
    have e34 : (n3 = n4) = False := by simp; omega
    have hz4 := hd4.fr n _ (by omega) (by omega) (show hget _ n = some (.ints (List.replicate 24 0) 27) by simp [hget_cons] <;> omega)
    have hy4 := hd4.fr (n + 1) _ (by omega) (by omega) (show hget _ (n + 1) = some (.ints (List.replicate 6 0) 51) by simp [hget_cons] <;> omega)
    have e4 : (n = n4) = False := by simp; omega
    have e5 : (n + 1 = n4) = False := by simp; omega
    have e6 : (n2 = n) = False := by simp; omega
    have e7 : (n3 = n) = False := by simp; omega
    have e8 : (n4 = n) = False := by simp; omega
    have e9 : (n4 = n + 1) = False := by simp; omega
    have e10 : (n3 = n + 1) = False := by simp; omega
    have e11 : (n2 = n + 1) = False := by simp; omega
    have e12 : (n = n + 1) = False := by simp
    have fr4 : ∀ i o, i < n → hget H i = some o → hget H4 i = some o := fun i o hi ho => hd4.fr i o (by omega) (by omega) (by rw [hget_cons, if_neg (by omega), hget_cons, if_neg (by omega), hget_cons, if_neg (by omega)]; exact ho)
    have frP : ∀ i o, i < n → hget H i = some o → hget ((n4, SObj.ints [x, y] 44) :: (n4, SObj.ints (List.replicate 2 0) 44) :: H4) i = some o := fun i o hi ho => by
      rw [hget_cons, if_neg (by omega), hget_cons, if_neg (by omega)]
      exact fr4 i o hi ho
    cases hf : forB R D
    · simp -implicitDefEqProofs only [l8Fits2_F, hR, tkR, hD, tkD, hr4, hD4, e24, e34, hf, Nat.add_assoc, add_self, self_add, add_add, ZB, Int.reduceToNat, Nat.reduceLT, Nat.reduceLeDiff, Int.reduceLE, Int.reduceLT, Nat.reduceEqDiff, Nat.reduceSub, SB, SV.known, packR, ne_eq, reduceCtorEq, Nat.reduceEqDiff, ↓reduceIte, if_true, if_false, eq_self, Nat.reduceAdd, Nat.reduceMul, Nat.reduceSub, forall_const, oneCellS, litOne, flat1, Kd.isSca, flat, TYB]
      refine ⟨by omega, ?_⟩
      have hwz : hwf (n4 + 1) ((n + 1, .ints D 51) :: (n, .ints R 27) :: (n4, .ints [x, y] 44) :: (n4, .ints (List.replicate 2 0) 44) :: H4) := hwf_cons (hwf_cons hd4'.wf (by omega) trivial) (by omega) trivial
      refine ⟨Unit, fun _ => [(6, .int (y)), (5, .int (x)), (4, .int u), (3, .ptr (n + 1) 0), (2, .ptr n 0)], fun _ => (n + 1, .ints D 51) :: (n, .ints R 27) :: (n4, .ints [x, y] 44) :: (n4, .ints (List.replicate 2 0) 44) :: H4, fun _ => n4 + 1, ?_, fun _ => ?_⟩
      · simp -implicitDefEqProofs only [hr4, hD4, hz4, hy4, hR, tkR, hD, tkD, e24, e34, e4, e5, e6, e7, e8, e9, e10, e11, e12, Nat.add_assoc, add_self, self_add, add_add, List.getD_cons_zero, List.getD_cons_succ, ZB, Int.reduceToNat, Nat.reduceLT, Nat.reduceLeDiff, Int.reduceLE, Int.reduceLT, Nat.reduceEqDiff, Nat.reduceSub, SB, SV.known, packR, ne_eq, reduceCtorEq, Nat.reduceEqDiff, ↓reduceIte, if_true, if_false, eq_self, Nat.reduceAdd, Nat.reduceMul, Nat.reduceSub, forall_const, oneCellS, litOne, flat1, Kd.isSca, flat, TYB]
        repeat' first
          | apply And.intro
          | omega
          | exact ⟨(), Sub.same (by simp only [LB, subS, subH, wfS, wfH, SV.ren, renL, SObj.ren, SV.wf, SObj.wf, wfL, SV.known, Nat.reduceEqDiff, ↓reduceIte, if_true, if_false, eq_self, Nat.reduceAdd, Nat.reduceLT, Nat.reduceLeDiff, implies_true, reduceCtorEq, forall_const]; try rfl) (by simp [subS, subH, wfS, wfH, SV.ren, renL, SObj.ren, SV.wf, SObj.wf, wfL, sget_cons, hget_cons] <;> omega) hwz (by omega)⟩
      · simp -implicitDefEqProofs only [lk_normal, hR, tkR, hD, tkD, e12, ZB, Int.reduceToNat, Nat.reduceLT, Nat.reduceLeDiff, Int.reduceLE, Int.reduceLT, Nat.reduceEqDiff, Nat.reduceSub, SB, SV.known, packR, ne_eq, reduceCtorEq, Nat.reduceEqDiff, ↓reduceIte, if_true, if_false, eq_self, Nat.reduceAdd, Nat.reduceMul, Nat.reduceSub, forall_const, oneCellS, litOne, flat1, Kd.isSca, flat, TYB]
        exact ⟨R, D, u, _, _, ⟨rfl, rfl, rfl, rfl, rfl⟩, hR, hRi, hD, hDi, hu, hx, hy, by omega, hwz, fun i o hi ho => by
          rw [hget_cons, if_neg (by omega), hget_cons, if_neg (by omega)]
          exact frP i o hi ho⟩
    · simp -implicitDefEqProofs only [l8Fits2_F, hR, tkR, hD, tkD, hr4, hD4, e24, e34, hf, Nat.add_assoc, add_self, self_add, add_add, ZB, Int.reduceToNat, Nat.reduceLT, Nat.reduceLeDiff, Int.reduceLE, Int.reduceLT, Nat.reduceEqDiff, Nat.reduceSub, SB, SV.known, packR, ne_eq, reduceCtorEq, Nat.reduceEqDiff, ↓reduceIte, if_true, if_false, eq_self, Nat.reduceAdd, Nat.reduceMul, Nat.reduceSub, forall_const, oneCellS, litOne, flat1, Kd.isSca, flat, TYB]
      refine ⟨by omega, one_use hd4' hlt (by omega) (by omega) fun o H5 hd5 hf5 => ?_⟩
      have hr5 := hf5.use (by omega) (by omega) (show hget _ n2 = some (.ints R 27) by rw [hget_cons, if_neg (by omega), hget_cons, if_neg (by omega)]; exact hr4)
      have hD5 := hf5.use (by omega) (by omega) (show hget _ n3 = some (.ints D 51) by rw [hget_cons, if_neg (by omega), hget_cons, if_neg (by omega)]; exact hD4)
      have hp5 := hf5.use (by omega) (by omega) (show hget _ n4 = some (.ints [x, y] 44) by simp [hget_cons])
      have hz5 := hd5.fr n _ (by omega) (by omega) (show hget _ n = some (.ints (List.replicate 24 0) 27) by simp [hget_cons] <;> omega)
      have hy5 := hd5.fr (n + 1) _ (by omega) (by omega) (show hget _ (n + 1) = some (.ints (List.replicate 6 0) 51) by simp [hget_cons] <;> omega)
      have fr5 : ∀ i o, i < n → hget H i = some o → hget H5 i = some o := fun i o hi ho => hd5.fr i o (by omega) (by omega) (by rw [hget_cons, if_neg (by omega), hget_cons, if_neg (by omega), hget_cons, if_neg (by omega)]; exact ho)
      cases o
      · simp -implicitDefEqProofs only [lk_normal, ZB, Int.reduceToNat, Nat.reduceLT, Nat.reduceLeDiff, Int.reduceLE, Int.reduceLT, Nat.reduceEqDiff, Nat.reduceSub, SB, SV.known, packR, ne_eq, reduceCtorEq, Nat.reduceEqDiff, ↓reduceIte, if_true, if_false, eq_self, Nat.reduceAdd, Nat.reduceMul, Nat.reduceSub, forall_const, oneCellS, litOne, flat1, Kd.isSca, flat, TYB]
        have hwz : hwf (n4 + 1) ((n + 1, .ints D 51) :: (n, .ints R 27) :: H5) := hwf_cons (hwf_cons hd5.wf (by omega) trivial) (by omega) trivial
        refine ⟨Unit, fun _ => [(6, .int (y)), (5, .int (x)), (4, .int u), (3, .ptr (n + 1) 0), (2, .ptr n 0)], fun _ => (n + 1, .ints D 51) :: (n, .ints R 27) :: H5, fun _ => n4 + 1, ?_, fun _ => ?_⟩
        · simp -implicitDefEqProofs only [hr5, hD5, hz5, hy5, hp5, hR, tkR, hD, tkD, e24, e34, e4, e5, e6, e7, e8, e9, e10, e11, e12, Nat.add_assoc, add_self, self_add, add_add, List.getD_cons_zero, List.getD_cons_succ, ZB, Int.reduceToNat, Nat.reduceLT, Nat.reduceLeDiff, Int.reduceLE, Int.reduceLT, Nat.reduceEqDiff, Nat.reduceSub, SB, SV.known, packR, ne_eq, reduceCtorEq, Nat.reduceEqDiff, ↓reduceIte, if_true, if_false, eq_self, Nat.reduceAdd, Nat.reduceMul, Nat.reduceSub, forall_const, oneCellS, litOne, flat1, Kd.isSca, flat, TYB]
          repeat' first
            | apply And.intro
            | omega
            | exact ⟨(), Sub.same (by simp only [LB, subS, subH, wfS, wfH, SV.ren, renL, SObj.ren, SV.wf, SObj.wf, wfL, SV.known, Nat.reduceEqDiff, ↓reduceIte, if_true, if_false, eq_self, Nat.reduceAdd, Nat.reduceLT, Nat.reduceLeDiff, implies_true, reduceCtorEq, forall_const]; try rfl) (by simp [subS, subH, wfS, wfH, SV.ren, renL, SObj.ren, SV.wf, SObj.wf, wfL, sget_cons, hget_cons] <;> omega) hwz (by omega)⟩
        · simp -implicitDefEqProofs only [lk_normal, hR, tkR, hD, tkD, e12, ZB, Int.reduceToNat, Nat.reduceLT, Nat.reduceLeDiff, Int.reduceLE, Int.reduceLT, Nat.reduceEqDiff, Nat.reduceSub, SB, SV.known, packR, ne_eq, reduceCtorEq, Nat.reduceEqDiff, ↓reduceIte, if_true, if_false, eq_self, Nat.reduceAdd, Nat.reduceMul, Nat.reduceSub, forall_const, oneCellS, litOne, flat1, Kd.isSca, flat, TYB]
          exact ⟨R, D, u, _, _, ⟨rfl, rfl, rfl, rfl, rfl⟩, hR, hRi, hD, hDi, hu, hx, hy, by omega, hwz, fun i o hi ho => by
            rw [hget_cons, if_neg (by omega), hget_cons, if_neg (by omega)]
            exact fr5 i o hi ho⟩
      · simp -implicitDefEqProofs only [lk_normal, hr5, hD5, hR, tkR, hD, tkD, ZB, Int.reduceToNat, Nat.reduceLT, Nat.reduceLeDiff, Int.reduceLE, Int.reduceLT, Nat.reduceEqDiff, Nat.reduceSub, SB, SV.known, packR, ne_eq, reduceCtorEq, Nat.reduceEqDiff, ↓reduceIte, if_true, if_false, eq_self, Nat.reduceAdd, Nat.reduceMul, Nat.reduceSub, forall_const, oneCellS, litOne, flat1, Kd.isSca, flat, TYB]
        refine pb_use hd5 hlt hR hD hf rfl fun cg jg H6 hjg hd6 hf6 hg6 => ?_
        have hr6 := hf6.use (by omega) (by omega) hr5
        have hD6 := hf6.use (by omega) (by omega) hD5
        have hp6 := hf6.use (by omega) (by omega) hp5
        have hz6 := hd6.fr n _ (by omega) (by omega) (show hget _ n = some (.ints (List.replicate 24 0) 27) by simp [hget_cons] <;> omega)
        have hy6 := hd6.fr (n + 1) _ (by omega) (by omega) (show hget _ (n + 1) = some (.ints (List.replicate 6 0) 51) by simp [hget_cons] <;> omega)
        have fr6 : ∀ i o, i < n → hget H i = some o → hget H6 i = some o := fun i o hi ho => hd6.fr i o (by omega) (by omega) (by rw [hget_cons, if_neg (by omega), hget_cons, if_neg (by omega), hget_cons, if_neg (by omega)]; exact ho)
        obtain ⟨g, hg, hg36⟩ := GL_even (pbB R D 4) 36
        have eg : (GL (pbB R D 4) 36).length / 2 = g := by omega
        by_cases h0 : 0 < (g : Int)
        · simp -implicitDefEqProofs only [lk_normal, eg, h0, ZB, Int.reduceToNat, Nat.reduceLT, Nat.reduceLeDiff, Int.reduceLE, Int.reduceLT, Nat.reduceEqDiff, Nat.reduceSub, SB, SV.known, packR, ne_eq, reduceCtorEq, Nat.reduceEqDiff, ↓reduceIte, if_true, if_false, eq_self, Nat.reduceAdd, Nat.reduceMul, Nat.reduceSub, forall_const, oneCellS, litOne, flat1, Kd.isSca, flat, TYB]
          refine pick_use hd6 hlt (by omega) (by omega) fun q H7 q0 q1 hd7 hf7 => ?_
          obtain ⟨Q, rfl⟩ : ∃ Q : Nat, q = Q := ⟨q.toNat, by omega⟩
          have qn : (Q : Int) < (g : Int) := by omega
          have hr7 := hf7.use (by omega) (by omega) hr6
          have hD7 := hf7.use (by omega) (by omega) hD6
          have hp7 := hf7.use (by omega) (by omega) hp6
          have hg7 := hf7.use (by omega) (by omega) hg6
          have hz7 := hd7.fr n _ (by omega) (by omega) (show hget _ n = some (.ints (List.replicate 24 0) 27) by simp [hget_cons] <;> omega)
          have hy7 := hd7.fr (n + 1) _ (by omega) (by omega) (show hget _ (n + 1) = some (.ints (List.replicate 6 0) 51) by simp [hget_cons] <;> omega)
          have fr7 : ∀ i o, i < n → hget H i = some o → hget H7 i = some o := fun i o hi ho => hd7.fr i o (by omega) (by omega) (by rw [hget_cons, if_neg (by omega), hget_cons, if_neg (by omega), hget_cons, if_neg (by omega)]; exact ho)
          have lQ : Q * 2 + 2 ≤ (GL (pbB R D 4) 36 ++ jg).length := by rw [List.length_append]; omega
          have e2 : ((GL (pbB R D 4) 36 ++ jg).drop (Q * 2)).take 2 = [(GL (pbB R D 4) 36).getD (Q * 2) 0, (GL (pbB R D 4) 36).getD (Q * 2 + 1) 0] := by
            rw [take2_drop _ _ lQ, getD_app _ _ _ (by omega), getD_app _ _ _ (by omega)]
          have gb : ∀ k, In64 ((GL (pbB R D 4) 36).getD k 0) := fun k => by
            by_cases hk : k < (GL (pbB R D 4) 36).length
            · rw [List.getD_eq_getElem?_getD, List.getElem?_eq_getElem hk]
              have := GL_mem (Nat.le_refl 36) _ (List.getElem_mem hk)
              unfold In64; simp only [Option.getD_some]; omega
            · rw [List.getD_eq_getElem?_getD, List.getElem?_eq_none (by omega)]
              simp [In64]
          have b0 := gb (Q * 2)
          have b1 := gb (Q * 2 + 1)
          simp -implicitDefEqProofs only [lk_normal, hg7, hp7, qn, q0, lQ, e2, ZB, Int.reduceToNat, Nat.reduceLT, Nat.reduceLeDiff, Int.reduceLE, Int.reduceLT, Nat.reduceEqDiff, Nat.reduceSub, SB, SV.known, packR, ne_eq, reduceCtorEq, Nat.reduceEqDiff, ↓reduceIte, if_true, if_false, eq_self, Nat.reduceAdd, Nat.reduceMul, Nat.reduceSub, forall_const, oneCellS, litOne, flat1, Kd.isSca, flat, TYB]
          refine ⟨by omega, ?_⟩
          have hd8 := hd7.putI hlt (L := [(GL (pbB R D 4) 36).getD (Q * 2) 0, (GL (pbB R D 4) 36).getD (Q * 2 + 1) 0]) (e := 44) (k0 := n4) (by omega) (by omega)
          have fr8 : ∀ i o, i < n → hget H i = some o → hget ((n4, SObj.ints [(GL (pbB R D 4) 36).getD (Q * 2) 0, (GL (pbB R D 4) 36).getD (Q * 2 + 1) 0] 44) :: H7) i = some o := fun i o hi ho => by
            rw [hget_cons, if_neg (by omega)]
            exact fr7 i o hi ho
          have hwz : hwf (n4 + 1 + 1) ((n + 1, .ints D 51) :: (n, .ints R 27) :: (n4, .ints [(GL (pbB R D 4) 36).getD (Q * 2) 0, (GL (pbB R D 4) 36).getD (Q * 2 + 1) 0] 44) :: H7) := hwf_cons (hwf_cons hd8.wf (by omega) trivial) (by omega) trivial
          refine ⟨Unit, fun _ => [(6, .int ((GL (pbB R D 4) 36).getD (Q * 2 + 1) 0)), (5, .int ((GL (pbB R D 4) 36).getD (Q * 2) 0)), (4, .int u), (3, .ptr (n + 1) 0), (2, .ptr n 0)], fun _ => (n + 1, .ints D 51) :: (n, .ints R 27) :: (n4, .ints [(GL (pbB R D 4) 36).getD (Q * 2) 0, (GL (pbB R D 4) 36).getD (Q * 2 + 1) 0] 44) :: H7, fun _ => n4 + 1 + 1, ?_, fun _ => ?_⟩
          · simp -implicitDefEqProofs only [hr7, hD7, hz7, hy7, hp7, hR, tkR, hD, tkD, e24, e34, e4, e5, e6, e7, e8, e9, e10, e11, e12, Nat.add_assoc, add_self, self_add, add_add, List.getD_cons_zero, List.getD_cons_succ, ZB, Int.reduceToNat, Nat.reduceLT, Nat.reduceLeDiff, Int.reduceLE, Int.reduceLT, Nat.reduceEqDiff, Nat.reduceSub, SB, SV.known, packR, ne_eq, reduceCtorEq, Nat.reduceEqDiff, ↓reduceIte, if_true, if_false, eq_self, Nat.reduceAdd, Nat.reduceMul, Nat.reduceSub, forall_const, oneCellS, litOne, flat1, Kd.isSca, flat, TYB]
            repeat' first
              | apply And.intro
              | omega
              | exact ⟨(), Sub.same (by simp only [LB, subS, subH, wfS, wfH, SV.ren, renL, SObj.ren, SV.wf, SObj.wf, wfL, SV.known, Nat.reduceEqDiff, ↓reduceIte, if_true, if_false, eq_self, Nat.reduceAdd, Nat.reduceLT, Nat.reduceLeDiff, implies_true, reduceCtorEq, forall_const]; try rfl) (by simp [subS, subH, wfS, wfH, SV.ren, renL, SObj.ren, SV.wf, SObj.wf, wfL, sget_cons, hget_cons] <;> omega) hwz (by omega)⟩
          · simp -implicitDefEqProofs only [lk_normal, hR, tkR, hD, tkD, e12, ZB, Int.reduceToNat, Nat.reduceLT, Nat.reduceLeDiff, Int.reduceLE, Int.reduceLT, Nat.reduceEqDiff, Nat.reduceSub, SB, SV.known, packR, ne_eq, reduceCtorEq, Nat.reduceEqDiff, ↓reduceIte, if_true, if_false, eq_self, Nat.reduceAdd, Nat.reduceMul, Nat.reduceSub, forall_const, oneCellS, litOne, flat1, Kd.isSca, flat, TYB]
            exact ⟨R, D, u, _, _, ⟨rfl, rfl, rfl, rfl, rfl⟩, hR, hRi, hD, hDi, hu, b0, b1, by omega, hwz, fun i o hi ho => by
              rw [hget_cons, if_neg (by omega), hget_cons, if_neg (by omega)]
              exact fr8 i o hi ho⟩
        · simp -implicitDefEqProofs only [lk_normal, eg, h0, ZB, Int.reduceToNat, Nat.reduceLT, Nat.reduceLeDiff, Int.reduceLE, Int.reduceLT, Nat.reduceEqDiff, Nat.reduceSub, SB, SV.known, packR, ne_eq, reduceCtorEq, Nat.reduceEqDiff, ↓reduceIte, if_true, if_false, eq_self, Nat.reduceAdd, Nat.reduceMul, Nat.reduceSub, forall_const, oneCellS, litOne, flat1, Kd.isSca, flat, TYB]
          have hwz : hwf (n4 + 1 + 1) ((n + 1, .ints D 51) :: (n, .ints R 27) :: H6) := hwf_cons (hwf_cons hd6.wf (by omega) trivial) (by omega) trivial
          refine ⟨Unit, fun _ => [(6, .int (y)), (5, .int (x)), (4, .int u), (3, .ptr (n + 1) 0), (2, .ptr n 0)], fun _ => (n + 1, .ints D 51) :: (n, .ints R 27) :: H6, fun _ => n4 + 1 + 1, ?_, fun _ => ?_⟩
          · simp -implicitDefEqProofs only [hr6, hD6, hz6, hy6, hp6, hR, tkR, hD, tkD, e24, e34, e4, e5, e6, e7, e8, e9, e10, e11, e12, Nat.add_assoc, add_self, self_add, add_add, List.getD_cons_zero, List.getD_cons_succ, ZB, Int.reduceToNat, Nat.reduceLT, Nat.reduceLeDiff, Int.reduceLE, Int.reduceLT, Nat.reduceEqDiff, Nat.reduceSub, SB, SV.known, packR, ne_eq, reduceCtorEq, Nat.reduceEqDiff, ↓reduceIte, if_true, if_false, eq_self, Nat.reduceAdd, Nat.reduceMul, Nat.reduceSub, forall_const, oneCellS, litOne, flat1, Kd.isSca, flat, TYB]
            repeat' first
              | apply And.intro
              | omega
              | exact ⟨(), Sub.same (by simp only [LB, subS, subH, wfS, wfH, SV.ren, renL, SObj.ren, SV.wf, SObj.wf, wfL, SV.known, Nat.reduceEqDiff, ↓reduceIte, if_true, if_false, eq_self, Nat.reduceAdd, Nat.reduceLT, Nat.reduceLeDiff, implies_true, reduceCtorEq, forall_const]; try rfl) (by simp [subS, subH, wfS, wfH, SV.ren, renL, SObj.ren, SV.wf, SObj.wf, wfL, sget_cons, hget_cons] <;> omega) hwz (by omega)⟩
          · simp -implicitDefEqProofs only [lk_normal, hR, tkR, hD, tkD, e12, ZB, Int.reduceToNat, Nat.reduceLT, Nat.reduceLeDiff, Int.reduceLE, Int.reduceLT, Nat.reduceEqDiff, Nat.reduceSub, SB, SV.known, packR, ne_eq, reduceCtorEq, Nat.reduceEqDiff, ↓reduceIte, if_true, if_false, eq_self, Nat.reduceAdd, Nat.reduceMul, Nat.reduceSub, forall_const, oneCellS, litOne, flat1, Kd.isSca, flat, TYB]
            exact ⟨R, D, u, _, _, ⟨rfl, rfl, rfl, rfl, rfl⟩, hR, hRi, hD, hDi, hu, hx, hy, by omega, hwz, fun i o hi ho => by
              rw [hget_cons, if_neg (by omega), hget_cons, if_neg (by omega)]
              exact fr6 i o hi ho⟩
--@tbl DrawPourBy = spec.DrawPourBy
/-- Any rack, depths, rule and places. -/
def DrawPourBy_F : List SV → Heap → Nat → Nat → K1 → Prop
  | [cv], H, n, m, κ => BytA cv H ∧ m ≤ n ∧ ∀ (R D : List Int) (u x y : Int) H' n', R.length = 24 → (∀ z ∈ R, In64 z) → D.length = 6 → (∀ z ∈ D, In64 z) → In64 u → In64 x → In64 y → Kpt n H H' n' → κ (.tup [.arr R, .arr D, .int u, .int x, .int y]) H' n'
  | _, _, _, _, _ => False
theorem drawPB_use {cv : SV} {H : Heap} {n m : Nat} {κ : K1} (h1 : BytA cv H) (h2 : m ≤ n) (h3 : ∀ (R D : List Int) (u x y : Int) H' n', R.length = 24 → (∀ z ∈ R, In64 z) → D.length = 6 → (∀ z ∈ D, In64 z) → In64 u → In64 x → In64 y → Kpt n H H' n' → κ (.tup [.arr R, .arr D, .int u, .int x, .int y]) H' n') : DrawPourBy_F [cv] H n m κ := ⟨h1, h2, h3⟩
theorem DrawPourBy_T : ∀ args H n m κ, DrawPourBy_F args H n m κ → GenOK Try.prog 25 args H n m κ := by
  intro args H n m κ h
  unfold DrawPourBy_F at h
  split at h
  · rename_i cv
    obtain ⟨hB, hmn, h1⟩ := h
    exact gen_direct (X := ⟨Try.prog, tys, [(91, l8Fits2_F)], [(88, ruleOf_F), (77, rack_F), (89, depths_F), (90, dpour_F), (92, one_F), (94, pick_F), (93, l8Pours_F)], true, true, m, [88, 77, 89, 90, 92, 94], [(10, .tree (.one 0 (.one 2 (.one 3 (.one 5 (.alt 1 (.alt 4 (.alt 6 (.one 7 (.one 8 (.one 9 (.one 10 (.one 11 .done))))) (.alt 7 (.alt 6 (.one 8 (.one 9 (.one 10 (.one 11 .done)))) (.alt 8 (.one 6 (.one 9 (.one 10 (.one 11 .done)))) .stop)) .stop)) (.alt 6 (.alt 4 (.one 7 (.one 8 (.one 9 (.one 10 (.one 11 .done))))) (.alt 7 (.alt 4 (.one 8 (.one 9 (.one 10 (.one 11 .done)))) (.alt 8 (.one 4 (.one 9 (.one 10 (.one 11 .done)))) .stop)) .stop)) (.alt 7 (.alt 4 (.alt 6 (.one 8 (.one 9 (.one 10 (.one 11 .done)))) (.alt 8 (.one 6 (.one 9 (.one 10 (.one 11 .done)))) .stop)) (.alt 6 (.alt 4 (.one 8 (.one 9 (.one 10 (.one 11 .done)))) (.alt 8 (.one 4 (.one 9 (.one 10 (.one 11 .done)))) .stop)) (.alt 8 (.one 4 (.one 6 (.one 9 (.one 10 (.one 11 .done))))) .stop))) .stop))) (.alt 4 (.alt 1 (.alt 6 (.one 7 (.one 8 (.one 9 (.one 10 (.one 11 .done))))) (.alt 7 (.alt 6 (.one 8 (.one 9 (.one 10 (.one 11 .done)))) (.alt 8 (.one 6 (.one 9 (.one 10 (.one 11 .done)))) .stop)) .stop)) (.alt 6 (.alt 1 (.one 7 (.one 8 (.one 9 (.one 10 (.one 11 .done))))) (.alt 7 (.one 1 (.one 8 (.one 9 (.one 10 (.one 11 .done))))) .stop)) (.alt 7 (.one 1 (.alt 6 (.one 8 (.one 9 (.one 10 (.one 11 .done)))) (.alt 8 (.one 6 (.one 9 (.one 10 (.one 11 .done)))) .stop))) .stop))) (.alt 6 (.alt 1 (.alt 4 (.one 7 (.one 8 (.one 9 (.one 10 (.one 11 .done))))) (.alt 7 (.alt 4 (.one 8 (.one 9 (.one 10 (.one 11 .done)))) (.alt 8 (.one 4 (.one 9 (.one 10 (.one 11 .done)))) .stop)) .stop)) (.alt 4 (.alt 1 (.one 7 (.one 8 (.one 9 (.one 10 (.one 11 .done))))) (.alt 7 (.one 1 (.one 8 (.one 9 (.one 10 (.one 11 .done))))) .stop)) (.alt 7 (.one 1 (.alt 4 (.one 8 (.one 9 (.one 10 (.one 11 .done)))) (.alt 8 (.one 4 (.one 9 (.one 10 (.one 11 .done)))) .stop))) .stop))) (.alt 7 (.one 1 (.alt 4 (.alt 6 (.one 8 (.one 9 (.one 10 (.one 11 .done)))) (.alt 8 (.one 6 (.one 9 (.one 10 (.one 11 .done)))) .stop)) (.alt 6 (.alt 4 (.one 8 (.one 9 (.one 10 (.one 11 .done)))) (.alt 8 (.one 4 (.one 9 (.one 10 (.one 11 .done)))) .stop)) (.alt 8 (.one 4 (.one 6 (.one 9 (.one 10 (.one 11 .done))))) .stop)))) .stop)))))))))]⟩) fnx_DrawPourBy ⟨tys_ok, .cons l8Fits2_T .nil, .cons ruleOf_T (.cons rack_T (.cons depths_T (.cons dpour_T (.cons one_T (.cons pick_T (.cons l8Pours_T .nil)))))), mixed⟩ rfl (Nat.le_of_ble_eq_true rfl) (fun hwH hwa => DrawPourBy_vc cv m n H hB hmn hwH) fun hwH v H' n' hψ h3 h4 h5 => by
      obtain ⟨R, D, u, x, y, rfl, g1, g2, g3, g4, g5, g6, g7, g8⟩ := hψ
      exact h1 R D u x y H' n' g1 g2 g3 g4 g5 g6 g7 g8
  · exact h.elim
end Go.Proofs.Ytopfnkmlgcjpbaa
