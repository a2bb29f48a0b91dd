/- Texts of this claim, joined (DrawY, VS, SlA, Byt, BytW, VCut, VBig). -/
import Derived.Test.YtmccafjblhbmkaaGreatQ1
import Derived.Test.YtmccafjblhbmkaaGreatQ2
import Derived.Test.YtmccafjblhbmkaaGreatQ3
import Derived.Test.YtmccafjblhbmkaaGreatQ4
import Derived.Test.YtmccafjblhbmkaaGreatQ5
import Derived.Test.YtmccafjblhbmkaaGreatQ6
import Derived.Test.YtmccafjblhbmkaaGreatQ7
import Derived.Test.YtmccafjblhbmkaaGreatQ8
import Derived.Test.YtmccafjblhbmkaaGreatQ9
set_option maxRecDepth 100000
set_option linter.unusedSimpArgs false
set_option linter.unusedVariables false
namespace Go.Proofs.YtmccafjblhbmkaaGreat
open Go Go.RowKit
/-- Counts that are being drawn, at p. -/
structure PcS (c kc n0 : Nat) (H0 : Heap) (C : List Int) (p k : Nat) (H : Heap) (n : Nat) : Prop where
  d : Drawn c kc 0 k n0 H0 H n
  lt : n0 ≤ p ∧ p < n
  o : hget H p = some (.ints C 40)
  l : C.length = 6
  i : ∀ z ∈ C, In64 z
theorem PcS.draw {c kc n0 p k n k2 n2 : Nat} {H0 H H2 : Heap} {C : List Int} (h : PcS c kc n0 H0 C p k H n) (hd : Drawn c kc 0 k2 n0 H0 H2 n2) (hf : Fr n0 n H H2) (hn : n ≤ n2) : PcS c kc n0 H0 C p k2 H2 n2 :=
  ⟨hd, by have := h.lt; omega, hf.use h.lt.1 h.lt.2 h.o, h.l, h.i⟩
theorem PcS.push {c kc n0 p k n : Nat} {H0 H : Heap} {C : List Int} (h : PcS c kc n0 H0 C p k H n) (hlt : c < n0 ∧ kc < n0 ∧ kc ≠ c) {L : List Int} {e : Nat} : PcS c kc n0 H0 C p k ((n, .ints L e) :: H) (n + 1) :=
  ⟨h.d.pushI hlt, by have := h.lt; omega, by rw [hget_cons, if_neg (by have := h.lt; omega)]; exact h.o, h.l, h.i⟩
theorem PcS.set {c kc n0 p k n : Nat} {H0 H : Heap} {C : List Int} (h : PcS c kc n0 H0 C p k H n) (hlt : c < n0 ∧ kc < n0 ∧ kc ≠ c) {j : Nat} {x : Int} (hx : In64 x) : PcS c kc n0 H0 (C.set j x) p k ((p, .ints (C.set j x) 40) :: H) n :=
  ⟨h.d.putI hlt h.lt.1 h.lt.2, h.lt, by simp [hget_cons], by rw [List.length_set]; exact h.l, in64_set h.i hx⟩
theorem PcS.more {c kc n0 p k k' n : Nat} {H0 H : Heap} {C : List Int} (h : PcS c kc n0 H0 C p k H n) (hk : k ≤ k') : PcS c kc n0 H0 C p k' H n := ⟨h.d.more hk, h.lt, h.o, h.l, h.i⟩
theorem fnx_DrawPlainRack : FnOK Tryz.prog 45 Tryz.f45 (Tryz.f45.body.getD .skip) [78, 68, 67] [] := ⟨Tryz.func45, rfl, by kernel_rfl, by kernel_rfl⟩
set_option maxHeartbeats 1000000 in
theorem DrawPlainRack_vc (cv : SV) (m n : Nat) (H : Heap) (hB : BytA cv H) (hmn : m ≤ n) (hwH : hwf n H) :
    codeVC (⟨Tryz.prog, tys, [], [(78, one_F), (68, pick_F), (67, among_F)], true, true, m, [78, 68, 67], []⟩ : Cx) n (Tryz.f45.body.getD .skip) (argS 0 [cv]) H n
      (retK tys Tryz.f45.results.toList fun v H' n' => ∃ C : List Int, v = .arr C ∧ C.length = 6 ∧ (∀ z ∈ C, In64 z) ∧ Kpt n H H' n') := by
  have hB' := hB
  rcases hB with rfl | ⟨kc0, off0, len0, cap0, L0, rfl, hh0⟩
  all_goals
    simp -implicitDefEqProofs only [Tryz.f45, Option.getD_some, argS, Nat.add_assoc, add_self, self_add, add_add, ZB, Int.reduceToNat, Nat.reduceLT, Nat.reduceLeDiff, Int.reduceLE, Int.reduceLT, Nat.reduceEqDiff, Nat.reduceSub, SB, SV.known, packR, ne_eq, reduceCtorEq, Nat.reduceEqDiff, ↓reduceIte, if_true, if_false, eq_self, Nat.reduceAdd, Nat.reduceMul, Nat.reduceSub, forall_const, oneCellS, litOne, flat1, Kd.isSca, flat, TYB]
    have hw1 : hwf (n + 1) ((n, .ints (List.replicate 6 0) 40) :: H) := hwf_cons (hwf_mono (by omega) hwH) (Nat.lt_succ_self n) trivial
    obtain ⟨kc, hlt, d0⟩ := cur_new (hB'.put hwH (Nat.le_refl n) (.ints (List.replicate 6 0) 40)) hw1 (Nat.lt_succ_self n) ⟨_, by simp [hget_cons]; rfl⟩
    obtain ⟨Hs, d0, fr0, z0⟩ : ∃ Hs, Drawn (n + 1) kc 0 0 (n + 1 + 1) Hs _ (n + 1 + 1) ∧ (∀ i o, i < n → hget H i = some o → hget Hs i = some o) ∧ hget Hs n = some (.ints (List.replicate 6 0) 40) := ⟨_, d0, fun i o hi ho => by (repeat rw [hget_cons, if_neg (by omega)]); exact ho, by simp [hget_cons] <;> omega⟩
    have hS0 : PcS (n + 1) kc (n + 1 + 1) Hs (List.replicate 6 0) (n + 2) (2 * (1 - 1)) _ (n + 3) := ⟨(d0.pushI hlt (L := List.replicate 6 0) (e := 40)).putI hlt (L := List.replicate 6 0) (e := 40) (k0 := n + 2) (by omega) (by omega), by omega, by simp [hget_cons], by simp, fun z hz => by rw [List.mem_replicate] at hz; rw [hz.2]; unfold In64; omega⟩
    refine ⟨by omega, ?_⟩
    refine loop_introN (fun s : (Nat × List Int) × Heap × Nat => [(5, .int s.1.1), (4, .ptr (n + 2) 0), (3, .ptr (n + 1) 0), (2, .ptr n 0)]) (fun s => s.2.1) (fun s => s.2.2)
      (fun s => (1 ≤ s.1.1 ∧ s.1.1 ≤ 6) ∧ PcS (n + 1) kc (n + 1 + 1) Hs s.1.2 (n + 2) (2 * (s.1.1 - 1)) s.2.1 s.2.2) (fun s => 6 - s.1.1) ?_ ?_
    · exact ⟨((1, List.replicate 6 0), _, n + 3), ⟨⟨by show 1 ≤ 1; omega, by show 1 ≤ 6; omega⟩, hS0⟩, Sub.same (by simp only [LB, subS, subH, wfS, wfH, SV.ren, renL, SObj.ren, SV.wf, SObj.wf, wfL, SV.known, Nat.reduceEqDiff, ↓reduceIte, if_true, if_false, eq_self, Nat.reduceAdd, Nat.reduceLT, Nat.reduceLeDiff, implies_true, reduceCtorEq, forall_const]; try rfl) (by simp [subS, subH, wfS, wfH, SV.ren, renL, SObj.ren, SV.wf, SObj.wf, wfL, sget_cons, hget_cons] <;> omega) hS0.d.wf (by show n ≤ n + 3; omega)⟩
    · rintro ⟨⟨i, C⟩, H1, n1⟩ ⟨⟨hi1, hi⟩, hS⟩
      simp only at hi1 hi hS
      have hq := hS.lt
      have hl := hS.l
      have ho := hS.o
      by_cases h6 : (i : Int) ≤ 5
      · have i6 : (i : Int) < 6 := by omega
        have i6' : i < 6 := by omega
        simp -implicitDefEqProofs only [lk_normal, h6, i6, Nat.add_assoc, add_self, self_add, add_add, ZB, Int.reduceToNat, Nat.reduceLT, Nat.reduceLeDiff, Int.reduceLE, Int.reduceLT, Nat.reduceEqDiff, Nat.reduceSub, SB, SV.known, packR, ne_eq, reduceCtorEq, Nat.reduceEqDiff, ↓reduceIte, if_true, if_false, eq_self, Nat.reduceAdd, Nat.reduceMul, Nat.reduceSub, forall_const, oneCellS, litOne, flat1, Kd.isSca, flat, TYB]
        have hS1 := hS.push hlt (L := [4, 3, 2, 0, 4, 1]) (e := 3)
        refine among_use hS1.d hlt (by omega) (by omega) (L := [4, 3, 2, 0, 4, 1]) (by simp [hget_cons]; rfl) (by omega) (by simp) fun x H2 hx hd2 hf2 => ?_
        have hxI : In64 x := by simp at hx; unfold In64; omega
        have hS2 := hS1.draw hd2 hf2 (Nat.le_refl _)
        have ho2 := hS2.o
        have hS3 := hS2.set hlt (j := i) hxI
        simp -implicitDefEqProofs only [lk_normal, ho2, i6, i6', hl, Nat.add_assoc, add_self, self_add, add_add, ZB, Int.reduceToNat, Nat.reduceLT, Nat.reduceLeDiff, Int.reduceLE, Int.reduceLT, Nat.reduceEqDiff, Nat.reduceSub, SB, SV.known, packR, ne_eq, reduceCtorEq, Nat.reduceEqDiff, ↓reduceIte, if_true, if_false, eq_self, Nat.reduceAdd, Nat.reduceMul, Nat.reduceSub, forall_const, oneCellS, litOne, flat1, Kd.isSca, flat, TYB]
        exact ⟨by omega, by omega, by unfold In64; omega, ((i + 1, C.set i x), _, n1 + 1), ⟨⟨by show 1 ≤ i + 1; omega, by show i + 1 ≤ 6; omega⟩, hS3.more (by show 2 * (i - 1) + 2 ≤ 2 * (i + 1 - 1); omega)⟩, by show 6 - (i + 1) < 6 - i; omega, Sub.same (by simp only [LB, subS, subH, wfS, wfH, SV.ren, renL, SObj.ren, SV.wf, SObj.wf, wfL, SV.known, Nat.reduceEqDiff, ↓reduceIte, if_true, if_false, eq_self, Nat.reduceAdd, Nat.reduceLT, Nat.reduceLeDiff, implies_true, reduceCtorEq, forall_const]; try rfl) (by simp [subS, subH, wfS, wfH, SV.ren, renL, SObj.ren, SV.wf, SObj.wf, wfL, sget_cons, hget_cons] <;> omega) hS3.d.wf (by show n ≤ n1 + 1; omega)⟩
      · simp -implicitDefEqProofs only [lk_normal, h6, Nat.add_assoc, add_self, self_add, add_add, ZB, Int.reduceToNat, Nat.reduceLT, Nat.reduceLeDiff, Int.reduceLE, Int.reduceLT, Nat.reduceEqDiff, Nat.reduceSub, SB, SV.known, packR, ne_eq, reduceCtorEq, Nat.reduceEqDiff, ↓reduceIte, if_true, if_false, eq_self, Nat.reduceAdd, Nat.reduceMul, Nat.reduceSub, forall_const, oneCellS, litOne, flat1, Kd.isSca, flat, TYB]
        refine one_use hS.d hlt (by omega) (by omega) fun o H2 hd2 hf2 => ?_
        have hS2 := hS.draw hd2 hf2 (Nat.le_refl _)
        have ho2 := hS2.o
        have tkC : C.take 6 = C := List.take_of_length_le (by omega)
        have e1 : (n = n + 2) = False := by simp
        have fin : ∀ (C' : List Int) (k : Nat) H' n', PcS (n + 1) kc (n + 1 + 1) Hs C' (n + 2) k H' n' → ∃ E : List Int, C' = E ∧ E.length = 6 ∧ (∀ z ∈ E, In64 z) ∧ Kpt n H ((n, .ints C' 40) :: H') n' := fun C' k H' n' h => ⟨C', rfl, h.l, h.i, by have := h.lt; omega, hwf_cons h.d.wf (by have := h.lt; omega) trivial, fun i o hi ho => by
          rw [hget_cons, if_neg (by omega)]
          exact h.d.fr i o (by omega) (by omega) (fr0 i o hi ho)⟩
        cases o
        · have hz2 := hS2.d.fr n _ (by omega) (by omega) z0
          simp -implicitDefEqProofs only [lk_normal, ho2, hz2, hl, tkC, e1, Nat.add_assoc, add_self, self_add, add_add, ZB, Int.reduceToNat, Nat.reduceLT, Nat.reduceLeDiff, Int.reduceLE, Int.reduceLT, Nat.reduceEqDiff, Nat.reduceSub, SB, SV.known, packR, ne_eq, reduceCtorEq, Nat.reduceEqDiff, ↓reduceIte, if_true, if_false, eq_self, Nat.reduceAdd, Nat.reduceMul, Nat.reduceSub, forall_const, oneCellS, litOne, flat1, Kd.isSca, flat, TYB]
          exact ⟨hmn, fin _ _ _ _ hS2⟩
        · simp -implicitDefEqProofs only [lk_normal, Nat.add_assoc, add_self, self_add, add_add, ZB, Int.reduceToNat, Nat.reduceLT, Nat.reduceLeDiff, Int.reduceLE, Int.reduceLT, Nat.reduceEqDiff, Nat.reduceSub, SB, SV.known, packR, ne_eq, reduceCtorEq, Nat.reduceEqDiff, ↓reduceIte, if_true, if_false, eq_self, Nat.reduceAdd, Nat.reduceMul, Nat.reduceSub, forall_const, oneCellS, litOne, flat1, Kd.isSca, flat, TYB]
          refine pick_use hS2.d hlt (by omega) (by omega) fun q H3 q0 q1 hd3 hf3 => ?_
          have hS3 := hS2.draw hd3 hf3 (Nat.le_refl _)
          have q6 : q < 6 := by omega
          obtain ⟨Q, rfl⟩ : ∃ Q : Nat, q = Q := ⟨q.toNat, by omega⟩
          have Q6 : Q < 6 := by omega
          simp -implicitDefEqProofs only [lk_normal, Nat.add_assoc, add_self, self_add, add_add, ZB, Int.reduceToNat, Nat.reduceLT, Nat.reduceLeDiff, Int.reduceLE, Int.reduceLT, Nat.reduceEqDiff, Nat.reduceSub, SB, SV.known, packR, ne_eq, reduceCtorEq, Nat.reduceEqDiff, ↓reduceIte, if_true, if_false, eq_self, Nat.reduceAdd, Nat.reduceMul, Nat.reduceSub, forall_const, oneCellS, litOne, flat1, Kd.isSca, flat, TYB]
          have hS4 := hS3.push hlt (L := [-1, 5, 1, 4611686018427387904]) (e := 3)
          refine among_use hS4.d hlt (by omega) (by omega) (L := [-1, 5, 1, 4611686018427387904]) (by simp [hget_cons]; rfl) (by omega) (by simp) fun x H4 hx hd4 hf4 => ?_
          have hxI : In64 x := by simp at hx; unfold In64; omega
          have hS5 := hS4.draw hd4 hf4 (Nat.le_refl _)
          have ho5 := hS5.o
          have hS6 := hS5.set hlt (j := Q) hxI
          have hz5 := hS5.d.fr n _ (by omega) (by omega) z0
          have lS : (C.set Q x).length = 6 := by rw [List.length_set]; exact hl
          have tkS : (C.set Q x).take 6 = C.set Q x := List.take_of_length_le (by omega)
          simp -implicitDefEqProofs only [lk_normal, ho5, hz5, hl, q0, q6, Q6, lS, tkS, e1, Nat.add_assoc, add_self, self_add, add_add, ZB, Int.reduceToNat, Nat.reduceLT, Nat.reduceLeDiff, Int.reduceLE, Int.reduceLT, Nat.reduceEqDiff, Nat.reduceSub, SB, SV.known, packR, ne_eq, reduceCtorEq, Nat.reduceEqDiff, ↓reduceIte, if_true, if_false, eq_self, Nat.reduceAdd, Nat.reduceMul, Nat.reduceSub, forall_const, oneCellS, litOne, flat1, Kd.isSca, flat, TYB]
          exact ⟨by omega, hmn, fin _ _ _ _ hS6⟩
--@tbl DrawPlainRack = spec.DrawPlainRack
def DrawPlainRack_F : List SV → Heap → Nat → Nat → K1 → Prop
  | [cv], H, n, m, κ => BytA cv H ∧ m ≤ n ∧ ∀ (C : List Int) H' n', C.length = 6 → (∀ z ∈ C, In64 z) → Kpt n H H' n' → κ (.arr C) H' n'
  | _, _, _, _, _ => False
theorem drawPR_use {cv : SV} {H : Heap} {n m : Nat} {κ : K1} (h1 : BytA cv H) (h2 : m ≤ n) (h3 : ∀ (C : List Int) H' n', C.length = 6 → (∀ z ∈ C, In64 z) → Kpt n H H' n' → κ (.arr C) H' n') : DrawPlainRack_F [cv] H n m κ := ⟨h1, h2, h3⟩
theorem DrawPlainRack_T : ∀ args H n m κ, DrawPlainRack_F args H n m κ → GenOK Tryz.prog 45 args H n m κ := by
  intro args H n m κ h
  unfold DrawPlainRack_F at h
  split at h
  · rename_i cv
    obtain ⟨hB, hmn, h1⟩ := h
    exact gen_direct (X := (⟨Tryz.prog, tys, [], [(78, one_F), (68, pick_F), (67, among_F)], true, true, m, [78, 68, 67], []⟩ : Cx)) fnx_DrawPlainRack ⟨tys_ok, .nil, .cons one_T (.cons pick_T (.cons among_T .nil)), mixed⟩ rfl (Nat.le_of_ble_eq_true rfl) (fun hwH hwa => DrawPlainRack_vc cv m n H hB hmn hwH) fun hwH v H' n' hψ h3 h4 h5 => by
      obtain ⟨C, rfl, g1, g2, g3⟩ := hψ
      exact h1 C H' n' g1 g2 g3
  · exact h.elim
theorem pfl_in {R : List Int} {a : Nat} {c : Int} (h : ∀ z ∈ R, In64 z) (hc : In64 c) : ∀ k, ∀ z ∈ pfl R a c k, In64 z
  | 0 => h
  | k + 1 => in64_set (pfl_in h hc k) hc
theorem pnK_in {C : List Int} : ∀ k, k ≤ 6 → ∀ z ∈ (pnK C k).1, In64 z
  | 0, _ => fun z hz => by
    have hz : z ∈ List.replicate 24 (0 : Int) := hz
    rw [List.mem_replicate] at hz; rw [hz.2]; unfold In64; omega
  | k + 1, hk => pfl_in (pnK_in k (by omega)) (by unfold In64; omega) _
theorem pnF_in {C : List Int} (_ : ∀ z ∈ C, In64 z) : ∀ z ∈ pnF C, In64 z := by
  unfold pnF
  split
  · exact pnK_in 6 (Nat.le_refl _)
  · intro z hz; rw [List.mem_replicate] at hz; rw [hz.2]; unfold In64; omega
/-! Choices. -/
structure MiS (c kc n0 : Nat) (H0 : Heap) (R : List Int) (r b len cap : Nat) (C : List Int) (k : Nat) (H : Heap) (n : Nat) : Prop where
  d : Drawn c kc 0 k n0 H0 H n
  lt : n0 ≤ r ∧ r < n ∧ n0 ≤ b ∧ b < n ∧ r ≠ b
  r : hget H r = some (.ints R 27)
  rl : R.length = 24
  ri : ∀ z ∈ R, In64 z
  o : hget H b = some (.ints C 3)
  ml : C.length = cap
  lc : len ≤ cap
theorem MiS.draw {c kc n0 r b len cap k n k2 n2 : Nat} {H0 H H2 : Heap} {R C : List Int} (h : MiS c kc n0 H0 R r b len cap C k H n) (hd : Drawn c kc 0 k2 n0 H0 H2 n2) (hf : Fr n0 n H H2) (hn : n ≤ n2) : MiS c kc n0 H0 R r b len cap C k2 H2 n2 :=
  ⟨hd, by have := h.lt; omega, hf.use h.lt.1 h.lt.2.1 h.r, h.rl, h.ri, hf.use h.lt.2.2.1 h.lt.2.2.2.1 h.o, h.ml, h.lc⟩
theorem MiS.push {c kc n0 r b len cap k n : Nat} {H0 H : Heap} {R C : List Int} (h : MiS c kc n0 H0 R r b len cap C k H n) (hlt : c < n0 ∧ kc < n0 ∧ kc ≠ c) {L : List Int} {e : Nat} : MiS c kc n0 H0 R r b len cap C k ((n, .ints L e) :: H) (n + 1) :=
  ⟨h.d.pushI hlt, by have := h.lt; omega, by rw [hget_cons, if_neg (by have := h.lt; omega)]; exact h.r, h.rl, h.ri, by rw [hget_cons, if_neg (by have := h.lt; omega)]; exact h.o, h.ml, h.lc⟩
theorem MiS.more {c kc n0 r b len cap k k' n : Nat} {H0 H : Heap} {R C : List Int} (h : MiS c kc n0 H0 R r b len cap C k H n) (hk : k ≤ k') : MiS c kc n0 H0 R r b len cap C k' H n := ⟨h.d.more hk, h.lt, h.r, h.rl, h.ri, h.o, h.ml, h.lc⟩
theorem fnx_DrawMixedBy : FnOK Tryz.prog 42 Tryz.f42 (Tryz.f42.body.getD .skip) [78, 68, 61, 67] [] := ⟨Tryz.func42, rfl, by kernel_rfl, by kernel_rfl⟩
def miP (n : Nat) (H : Heap) (v : SV) (H' : Heap) (n' : Nat) : Prop := ∃ (R : List Int) (b len cap : Nat) (C : List Int), v = .tup [.arr R, .slice b 0 len cap] ∧ R.length = 24 ∧ (∀ z ∈ R, In64 z) ∧ n ≤ b ∧ b < n' ∧ hget H' b = some (.ints C 3) ∧ len ≤ C.length ∧ len ≤ 21 ∧ Kpt n H H' n'
set_option maxHeartbeats 2000000 in
theorem mi_b4 (S : Env) (m n kc r k n1 : Nat) (H Hs H1 : Heap) (R : List Int) (hmn : m ≤ n) (hlt : n + 1 < n + 1 + 1 ∧ kc < n + 1 + 1 ∧ kc ≠ n + 1) (hd : Drawn (n + 1) kc 0 k (n + 1 + 1) Hs H1 n1) (hk : k ≤ 1010) (hr : n + 2 ≤ r ∧ r < n1) (hR : R.length = 24) (hRi : ∀ z ∈ R, In64 z) (gr : hget H1 r = some (.ints R 27))
    (fr0 : ∀ i o, i < n → hget H i = some o → hget Hs i = some o) (z0 : hget Hs n = some (.ints (List.replicate 24 0) 27)) (s2 : sget S 2 = .ptr n 0) (s4 : sget S 4 = .ptr (n + 1) 0) (s5 : sget S 5 = .ptr r 0) :
    codeVC (⟨Tryz.prog, tys, [(47, sPlainRack_F)], [(78, one_F), (68, pick_F), (61, rack_F), (67, among_F), (45, DrawPlainRack_F)], true, true, m, [78, 68, 61, 67], []⟩ : Cx) n (cdN 4 (Tryz.f42.body.getD .skip)) S H1 n1 (retK tys Tryz.f42.results.toList (miP n H)) := by
  have tkR : R.take 24 = R := List.take_of_length_le (by omega)
  simp only [cdN, cd2, Tryz.f42, Option.getD_some]
  have hle := hd.le
  simp -implicitDefEqProofs only [s2, s4, s5, Nat.add_assoc, add_self, self_add, add_add, ZB, Int.reduceToNat, Nat.reduceLT, Nat.reduceLeDiff, Int.reduceLE, Int.reduceLT, Nat.reduceEqDiff, Nat.reduceSub, SB, SV.known, packR, ne_eq, reduceCtorEq, Nat.reduceEqDiff, ↓reduceIte, if_true, if_false, eq_self, Nat.reduceAdd, Nat.reduceMul, Nat.reduceSub, forall_const, oneCellS, litOne, flat1, Kd.isSca, flat, TYB]
  refine pick_use (((hd.pushI hlt (L := []) (e := 3)).pushI hlt (L := [3, 5, 2, 8, 1, 0, 20, 21]) (e := 3))) hlt (by omega) (by omega) fun x H2 hx0 hx1 hd2 hf2 => ?_
  have hq0 : Int.tdiv x 22 = x / 22 := Int.tdiv_eq_ediv_of_nonneg hx0
  obtain ⟨q, hq, hq2⟩ : ∃ q : Nat, x / 22 = (q : Int) ∧ q ≤ 1 := ⟨(x / 22).toNat, by omega, by omega⟩
  rw [hq] at hq0
  have e7 : (7 + (q : Int)).toNat = 7 + q := by omega
  have i7 : In64 (7 + (q : Int)) := by unfold In64; omega
  have q0 : 0 ≤ 7 + (q : Int) := by omega
  have q8 : 7 + (q : Int) ≤ 8 := by omega
  have hb2 := hf2.use (by omega) (by omega) (show hget _ (n1 + 1) = some (.ints [3, 5, 2, 8, 1, 0, 20, 21] 3) by simp [hget_cons])
  have hc2 := hf2.use (by omega) (by omega) (show hget _ n1 = some (.ints [] 3) by simp [hget_cons])
  have hr2 := hf2.use (by omega) (by omega) (show hget _ r = some (.ints R 27) by rw [hget_cons, if_neg (by omega), hget_cons, if_neg (by omega)]; exact gr)
  simp -implicitDefEqProofs only [lk_normal, hq0, e7, i7, q0, q8, Nat.add_assoc, add_self, self_add, add_add, ZB, Int.reduceToNat, Nat.reduceLT, Nat.reduceLeDiff, Int.reduceLE, Int.reduceLT, Nat.reduceEqDiff, Nat.reduceSub, SB, SV.known, packR, ne_eq, reduceCtorEq, Nat.reduceEqDiff, ↓reduceIte, if_true, if_false, eq_self, Nat.reduceAdd, Nat.reduceMul, Nat.reduceSub, forall_const, oneCellS, litOne, flat1, Kd.isSca, flat, TYB]
  refine ⟨by omega, by unfold In64; omega, among_use hd2 hlt (by omega) (by omega) hb2 (by omega) ⟨by omega, by simp; omega, by omega⟩ fun y H3 hy hd3 hf3 => ?_⟩
  have hc3 := hf3.use (by omega) (by omega) hc2
  have hr3 := hf3.use (by omega) (by omega) hr2
  have hy0 : 0 ≤ y ∧ y ≤ 21 := by simp at hy; omega
  obtain ⟨N, rfl⟩ : ∃ N : Nat, y = N := ⟨y.toNat, by omega⟩
  have hS0 : MiS (n + 1) kc (n + 1 + 1) Hs R r n1 0 0 [] (k + 4 + 4 * (21 - N)) H3 (n1 + 2) := ⟨hd3.more (by omega), by omega, hr3, hR, hRi, hc3, rfl, by omega⟩
  simp -implicitDefEqProofs only [s2, s4, s5, lk_normal, Nat.add_assoc, add_self, self_add, add_add, ZB, Int.reduceToNat, Nat.reduceLT, Nat.reduceLeDiff, Int.reduceLE, Int.reduceLT, Nat.reduceEqDiff, Nat.reduceSub, SB, SV.known, packR, ne_eq, reduceCtorEq, Nat.reduceEqDiff, ↓reduceIte, if_true, if_false, eq_self, Nat.reduceAdd, Nat.reduceMul, Nat.reduceSub, forall_const, oneCellS, litOne, flat1, Kd.isSca, flat, TYB]
  refine loop_introN (fun s : (Nat × Nat × Nat × Nat × List Int) × Heap × Nat => [(8, .int s.1.1), (7, .slice s.1.2.1 0 s.1.2.2.1 s.1.2.2.2.1), (5, .ptr r 0), (4, .ptr (n + 1) 0), (2, .ptr n 0)]) (fun s => s.2.1) (fun s => s.2.2)
    (fun s => (s.1.1 ≤ 21 ∧ s.1.1 + s.1.2.2.1 ≤ 21) ∧ MiS (n + 1) kc (n + 1 + 1) Hs R r s.1.2.1 s.1.2.2.1 s.1.2.2.2.1 s.1.2.2.2.2 (k + 4 + 4 * (21 - s.1.1)) s.2.1 s.2.2) (fun s => s.1.1) ?_ ?_
  · exact ⟨((N, n1, 0, 0, []), H3, n1 + 2), ⟨⟨by show N ≤ 21; omega, by show N + 0 ≤ 21; omega⟩, hS0⟩, Sub.same (by simp only [s2, s4, s5, LB, subS, subH, wfS, wfH, SV.ren, renL, SObj.ren, SV.wf, SObj.wf, wfL, SV.known, Nat.reduceEqDiff, ↓reduceIte, if_true, if_false, eq_self, Nat.reduceAdd, Nat.reduceLT, Nat.reduceLeDiff, implies_true, reduceCtorEq, forall_const]; try rfl) (by simp [subS, subH, wfS, wfH, SV.ren, renL, SObj.ren, SV.wf, SObj.wf, wfL, sget_cons, hget_cons] <;> omega) hS0.d.wf (by show n ≤ n1 + 2; omega)⟩
  · rintro ⟨⟨N, b, len, cap, C⟩, H4, n4⟩ ⟨⟨hN, hNl⟩, hS⟩
    simp only at hN hNl hS
    have hq := hS.lt
    have hml := hS.ml
    have hlc := hS.lc
    have le4 := hS.d.le
    by_cases h0 : 0 < N
    · obtain ⟨N, rfl⟩ : ∃ k : Nat, N = k + 1 := ⟨N - 1, by omega⟩
      have hNi : 0 < ((N + 1 : Nat) : Int) := by omega
      have eN : ((N + 1 : Nat) : Int) - 1 = N := by omega
      simp -implicitDefEqProofs only [lk_normal, hNi, Nat.add_assoc, add_self, self_add, add_add, ZB, Int.reduceToNat, Nat.reduceLT, Nat.reduceLeDiff, Int.reduceLE, Int.reduceLT, Nat.reduceEqDiff, Nat.reduceSub, SB, SV.known, packR, ne_eq, reduceCtorEq, Nat.reduceEqDiff, ↓reduceIte, if_true, if_false, eq_self, Nat.reduceAdd, Nat.reduceMul, Nat.reduceSub, forall_const, oneCellS, litOne, flat1, Kd.isSca, flat, TYB]
      refine pick_use hS.d hlt (by omega) (by omega) fun z H5 hz0 hz1 hd5 hf5 => ?_
      have hS5 := hS.draw hd5 hf5 (Nat.le_refl _)
      have ho5 := hS5.o
      have e1 : (b = n4) = False := by simp; omega
      simp -implicitDefEqProofs only [lk_normal, ho5, hml, hlc, e1, eN, Nat.add_assoc, add_self, self_add, add_add, ZB, Int.reduceToNat, Nat.reduceLT, Nat.reduceLeDiff, Int.reduceLE, Int.reduceLT, Nat.reduceEqDiff, Nat.reduceSub, SB, SV.known, packR, ne_eq, reduceCtorEq, Nat.reduceEqDiff, ↓reduceIte, if_true, if_false, eq_self, Nat.reduceAdd, Nat.reduceMul, Nat.reduceSub, forall_const, oneCellS, litOne, flat1, Kd.isSca, flat, TYB]
      refine ⟨by omega, by omega, by omega, fun jp cp hjp => ?_⟩
      have hr5 := hS5.r
      have hS6 : MiS (n + 1) kc (n + 1 + 1) Hs R r (n4 + 1) (len + 1) cp (C.take len ++ List.take 1 ((List.replicate 1 (0 : Int)).set 0 z) ++ jp) (k + 4 + 4 * (21 - (N + 1)) + 2) ((n4 + 1, .ints (C.take len ++ List.take 1 ((List.replicate 1 (0 : Int)).set 0 z) ++ jp) 3) :: (b, .dead) :: (n4, .ints ((List.replicate 1 0).set 0 z) 3) :: H5) (n4 + 2) :=
        ⟨((hS5.d.pushI hlt).put hlt (k0 := b) .dead (by omega) (by omega) (Nat.le_refl _) trivial).pushI hlt, by omega, by rw [hget_cons, if_neg (by omega), hget_cons, if_neg (by omega), hget_cons, if_neg (by omega)]; exact hr5, hR, hRi, by simp [hget_cons], by simp; omega, by omega⟩
      exact ⟨by unfold In64; omega, ((N, n4 + 1, len + 1, cp, _), _, n4 + 2), ⟨⟨by show N ≤ 21; omega, by show N + (len + 1) ≤ 21; omega⟩, hS6.more (by show k + 4 + 4 * (21 - (N + 1)) + 2 ≤ k + (4 + 4 * (21 - N)); omega)⟩, by show N < N + 1; omega, Sub.same (by simp only [LB, subS, subH, wfS, wfH, SV.ren, renL, SObj.ren, SV.wf, SObj.wf, wfL, SV.known, Nat.reduceEqDiff, ↓reduceIte, if_true, if_false, eq_self, Nat.reduceAdd, Nat.reduceLT, Nat.reduceLeDiff, implies_true, reduceCtorEq, forall_const]; try rfl) (by simp [subS, subH, wfS, wfH, SV.ren, renL, SObj.ren, SV.wf, SObj.wf, wfL, sget_cons, hget_cons] <;> omega) hS6.d.wf (by show n ≤ n4 + 2; omega)⟩
    · have hNi : ¬ 0 < (N : Int) := by omega
      simp -implicitDefEqProofs only [lk_normal, hNi, Nat.add_assoc, add_self, self_add, add_add, ZB, Int.reduceToNat, Nat.reduceLT, Nat.reduceLeDiff, Int.reduceLE, Int.reduceLT, Nat.reduceEqDiff, Nat.reduceSub, SB, SV.known, packR, ne_eq, reduceCtorEq, Nat.reduceEqDiff, ↓reduceIte, if_true, if_false, eq_self, Nat.reduceAdd, Nat.reduceMul, Nat.reduceSub, forall_const, oneCellS, litOne, flat1, Kd.isSca, flat, TYB]
      have fin : ∀ (C' : List Int) (k' : Nat) H' n', MiS (n + 1) kc (n + 1 + 1) Hs R r b len cap C' k' H' n' → miP n H (.tup [.arr R, .slice b 0 len cap]) ((n, .ints R 27) :: H') n' := fun C' k' H' n' h => ⟨R, b, len, cap, C', rfl, hR, hRi, by omega, h.lt.2.2.2.1, by rw [hget_cons, if_neg (by omega)]; exact h.o, by have := h.ml; have := h.lc; omega, by omega, by have := h.lt; omega, hwf_cons h.d.wf (by have := h.lt; omega) trivial, fun i o hi ho => by
        rw [hget_cons, if_neg (by omega)]
        exact h.d.fr i o (by omega) (by omega) (fr0 i o hi ho)⟩
      have hr4 := hS.r
      have hz4 := hS.d.fr n _ (by omega) (by omega) z0
      have e1 : (n = r) = False := by simp; omega
      have e2 : (n = b) = False := by simp; omega
      have e3 : (r = b) = False := by simp; omega
      refine ⟨fun hl => one_use hS.d hlt (by omega) (by omega) fun o H5 hd5 hf5 => ?_, fun hl => ?_⟩
      · have hS5 := hS.draw hd5 hf5 (Nat.le_refl _)
        have hr5 := hS5.r
        have hz5 := hS5.d.fr n _ (by omega) (by omega) z0
        cases o
        · simp -implicitDefEqProofs only [lk_normal, hr5, hz5, hR, tkR, Nat.add_assoc, add_self, self_add, add_add, ZB, Int.reduceToNat, Nat.reduceLT, Nat.reduceLeDiff, Int.reduceLE, Int.reduceLT, Nat.reduceEqDiff, Nat.reduceSub, SB, SV.known, packR, ne_eq, reduceCtorEq, Nat.reduceEqDiff, ↓reduceIte, if_true, if_false, eq_self, Nat.reduceAdd, Nat.reduceMul, Nat.reduceSub, forall_const, oneCellS, litOne, flat1, Kd.isSca, flat, TYB]
          exact ⟨hmn, fin _ _ _ _ hS5⟩
        · simp -implicitDefEqProofs only [lk_normal, Nat.add_assoc, add_self, self_add, add_add, ZB, Int.reduceToNat, Nat.reduceLT, Nat.reduceLeDiff, Int.reduceLE, Int.reduceLT, Nat.reduceEqDiff, Nat.reduceSub, SB, SV.known, packR, ne_eq, reduceCtorEq, Nat.reduceEqDiff, ↓reduceIte, if_true, if_false, eq_self, Nat.reduceAdd, Nat.reduceMul, Nat.reduceSub, forall_const, oneCellS, litOne, flat1, Kd.isSca, flat, TYB]
          have hS6 := hS5.push hlt (L := [-1, 4611686018427387904]) (e := 3)
          refine among_use hS6.d hlt (by omega) (by omega) (L := [-1, 4611686018427387904]) (by simp [hget_cons]; rfl) (by omega) (by simp) fun x H6 hx hd6 hf6 => ?_
          have hS7 := hS6.draw hd6 hf6 (Nat.le_refl _)
          have ho7 := hS7.o
          have hr7 := hS7.r
          have hz7 := hS7.d.fr n _ (by omega) (by omega) z0
          have c0 : 0 < C.length := by omega
          have hS8 : MiS (n + 1) kc (n + 1 + 1) Hs R r b len cap (C.set 0 x) _ ((b, .ints (C.set 0 x) 3) :: H6) (n4 + 1) :=
            ⟨hS7.d.putI hlt (by omega) (by omega), hS7.lt, by rw [hget_cons, if_neg (by omega)]; exact hr7, hR, hRi, by simp [hget_cons], by rw [List.length_set]; exact hml, hlc⟩
          simp -implicitDefEqProofs only [lk_normal, ho7, hr7, hz7, hl, hR, tkR, c0, e1, e2, e3, Nat.add_assoc, add_self, self_add, add_add, ZB, Int.reduceToNat, Nat.reduceLT, Nat.reduceLeDiff, Int.reduceLE, Int.reduceLT, Nat.reduceEqDiff, Nat.reduceSub, SB, SV.known, packR, ne_eq, reduceCtorEq, Nat.reduceEqDiff, ↓reduceIte, if_true, if_false, eq_self, Nat.reduceAdd, Nat.reduceMul, Nat.reduceSub, forall_const, oneCellS, litOne, flat1, Kd.isSca, flat, TYB]
          exact ⟨by omega, hmn, fin _ _ _ _ hS8⟩
      · simp -implicitDefEqProofs only [lk_normal, hr4, hz4, hR, tkR, Nat.add_assoc, add_self, self_add, add_add, ZB, Int.reduceToNat, Nat.reduceLT, Nat.reduceLeDiff, Int.reduceLE, Int.reduceLT, Nat.reduceEqDiff, Nat.reduceSub, SB, SV.known, packR, ne_eq, reduceCtorEq, Nat.reduceEqDiff, ↓reduceIte, if_true, if_false, eq_self, Nat.reduceAdd, Nat.reduceMul, Nat.reduceSub, forall_const, oneCellS, litOne, flat1, Kd.isSca, flat, TYB]
        exact ⟨hmn, fin _ _ _ _ hS⟩
theorem DrawMixedBy_vc (cv : SV) (m n : Nat) (H : Heap) (hB : BytA cv H) (hmn : m ≤ n) (hwH : hwf n H) :
    codeVC (⟨Tryz.prog, tys, [(47, sPlainRack_F)], [(78, one_F), (68, pick_F), (61, rack_F), (67, among_F), (45, DrawPlainRack_F)], true, true, m, [78, 68, 61, 67], []⟩ : Cx) n (Tryz.f42.body.getD .skip) (argS 0 [cv]) H n (retK tys Tryz.f42.results.toList (miP n H)) := by
  have hB' := hB
  rw [show (Tryz.f42.body.getD .skip) = cdP 4 (Tryz.f42.body.getD .skip) (cdN 4 (Tryz.f42.body.getD .skip)) from rfl]
  have next := mi_b4
  obtain ⟨c4, e4⟩ : ∃ c, c = cdN 4 (Tryz.f42.body.getD .skip) := ⟨_, rfl⟩
  rw [← e4] at next ⊢
  simp only [cdP, Tryz.f42, Option.getD_some]
  rcases hB with rfl | ⟨kc0, off0, len0, cap0, L0, rfl, hh0⟩
  all_goals
    simp -implicitDefEqProofs only [argS, Nat.add_assoc, add_self, self_add, add_add, ZB, Int.reduceToNat, Nat.reduceLT, Nat.reduceLeDiff, Int.reduceLE, Int.reduceLT, Nat.reduceEqDiff, Nat.reduceSub, SB, SV.known, packR, ne_eq, reduceCtorEq, Nat.reduceEqDiff, ↓reduceIte, if_true, if_false, eq_self, Nat.reduceAdd, Nat.reduceMul, Nat.reduceSub, forall_const, oneCellS, litOne, flat1, Kd.isSca, flat, TYB]
    have hw1 : hwf (n + 1) ((n, .ints (List.replicate 24 0) 27) :: H) := hwf_cons (hwf_mono (by omega) hwH) (Nat.lt_succ_self n) trivial
    have hBp := hB'.put hwH (Nat.le_refl n) (.ints (List.replicate 24 0) 27)
    obtain ⟨kc, hlt, d0⟩ := cur_new hBp hw1 (Nat.lt_succ_self n) ⟨_, by simp [hget_cons]; rfl⟩
    obtain ⟨Hs, d0, fr0, z0⟩ : ∃ Hs, Drawn (n + 1) kc 0 0 (n + 1 + 1) Hs _ (n + 1 + 1) ∧ (∀ i o, i < n → hget H i = some o → hget Hs i = some o) ∧ hget Hs n = some (.ints (List.replicate 24 0) 27) := ⟨_, d0, fun i o hi ho => by (repeat rw [hget_cons, if_neg (by omega)]); exact ho, by simp [hget_cons] <;> omega⟩
    refine drawPR_use (hBp.put hw1 (Nat.le_refl _) _) (by omega) fun C0 H1 n1 hC0 hC0i hK1 => ?_
    have hd1 := d0.kpt hK1 hlt
    have hle1 := hK1.le
    have tkC : C0.take 6 = C0 := List.take_of_length_le (by omega)
    have lP := pnF_len C0
    have tkP : (pnF C0).take 24 = pnF C0 := List.take_of_length_le (by omega)
    simp -implicitDefEqProofs only [sPlainRack_F, hC0, tkC, lP, tkP, Nat.add_assoc, add_self, self_add, add_add, ZB, Int.reduceToNat, Nat.reduceLT, Nat.reduceLeDiff, Int.reduceLE, Int.reduceLT, Nat.reduceEqDiff, Nat.reduceSub, SB, SV.known, packR, ne_eq, reduceCtorEq, Nat.reduceEqDiff, ↓reduceIte, if_true, if_false, eq_self, Nat.reduceAdd, Nat.reduceMul, Nat.reduceSub, forall_const, oneCellS, litOne, flat1, Kd.isSca, flat, TYB]
    have hdA : Drawn (n + 1) kc 0 0 (n + 1 + 1) Hs ((n1, .ints (pnF C0) 27) :: (n1, .ints (List.replicate 24 0) 27) :: H1) (n1 + 1) := (hd1.pushI hlt).putI hlt (by omega) (by omega)
    have pi : ∀ z ∈ pnF C0, In64 z := pnF_in hC0i
    refine ⟨by omega, one_use hdA hlt (by omega) (by omega) fun o H2 hd2 hf2 => ?_⟩
    have hr2 := hf2.use (by omega) (by omega) (show hget _ n1 = some (.ints (pnF C0) 27) by simp [hget_cons])
    cases o
    · simp -implicitDefEqProofs only [lk_normal, Nat.add_assoc, add_self, self_add, add_add, ZB, Int.reduceToNat, Nat.reduceLT, Nat.reduceLeDiff, Int.reduceLE, Int.reduceLT, Nat.reduceEqDiff, Nat.reduceSub, SB, SV.known, packR, ne_eq, reduceCtorEq, Nat.reduceEqDiff, ↓reduceIte, if_true, if_false, eq_self, Nat.reduceAdd, Nat.reduceMul, Nat.reduceSub, forall_const, oneCellS, litOne, flat1, Kd.isSca, flat, TYB]
      exact next _ m n kc n1 _ _ H Hs _ (pnF C0) hmn hlt hd2 (by omega) (by omega) lP pi hr2 fr0 z0 rfl rfl rfl
    · simp -implicitDefEqProofs only [lk_normal, Nat.add_assoc, add_self, self_add, add_add, ZB, Int.reduceToNat, Nat.reduceLT, Nat.reduceLeDiff, Int.reduceLE, Int.reduceLT, Nat.reduceEqDiff, Nat.reduceSub, SB, SV.known, packR, ne_eq, reduceCtorEq, Nat.reduceEqDiff, ↓reduceIte, if_true, if_false, eq_self, Nat.reduceAdd, Nat.reduceMul, Nat.reduceSub, forall_const, oneCellS, litOne, flat1, Kd.isSca, flat, TYB]
      refine rack_use hd2 hlt (by omega) (by omega) (by omega) fun R H3 n3 hR hRi hd3 hle3 hf3 => ?_
      have hr3 := hf3.use (by omega) (by omega) hr2
      have tkR : R.take 24 = R := List.take_of_length_le (by omega)
      have dP : (pnF C0).drop 24 = [] := List.drop_eq_nil_of_le (by omega)
      simp -implicitDefEqProofs only [lk_normal, hr3, lP, hR, tkR, dP, List.append_nil, Nat.add_assoc, add_self, self_add, add_add, ZB, Int.reduceToNat, Nat.reduceLT, Nat.reduceLeDiff, Int.reduceLE, Int.reduceLT, Nat.reduceEqDiff, Nat.reduceSub, SB, SV.known, packR, ne_eq, reduceCtorEq, Nat.reduceEqDiff, ↓reduceIte, if_true, if_false, eq_self, Nat.reduceAdd, Nat.reduceMul, Nat.reduceSub, forall_const, oneCellS, litOne, flat1, Kd.isSca, flat, TYB]
      exact ⟨by omega, next _ m n kc n1 _ _ H Hs _ R hmn hlt (hd3.putI hlt (by omega) (by omega)) (by omega) (by omega) hR hRi (by simp [hget_cons]) fr0 z0 rfl rfl rfl⟩
--@tbl DrawMixedBy = spec.DrawMixedBy
def DrawMixedBy_F : List SV → Heap → Nat → Nat → K1 → Prop
  | [cv], H, n, m, κ => BytA cv H ∧ m ≤ n ∧ ∀ (R : List Int) (b len cap : Nat) (C : List Int) H' n', R.length = 24 → (∀ z ∈ R, In64 z) → n ≤ b → b < n' → hget H' b = some (.ints C 3) → len ≤ C.length → len ≤ 21 → Kpt n H H' n' → κ (.tup [.arr R, .slice b 0 len cap]) H' n'
  | _, _, _, _, _ => False
theorem drawMB_use {cv : SV} {H : Heap} {n m : Nat} {κ : K1} (h1 : BytA cv H) (h2 : m ≤ n) (h3 : ∀ (R : List Int) (b len cap : Nat) (C : List Int) H' n', R.length = 24 → (∀ z ∈ R, In64 z) → n ≤ b → b < n' → hget H' b = some (.ints C 3) → len ≤ C.length → len ≤ 21 → Kpt n H H' n' → κ (.tup [.arr R, .slice b 0 len cap]) H' n') : DrawMixedBy_F [cv] H n m κ := ⟨h1, h2, h3⟩
theorem DrawMixedBy_T : ∀ args H n m κ, DrawMixedBy_F args H n m κ → GenOK Tryz.prog 42 args H n m κ := by
  intro args H n m κ h
  unfold DrawMixedBy_F at h
  split at h
  · rename_i cv
    obtain ⟨hB, hmn, h1⟩ := h
    exact gen_direct (X := (⟨Tryz.prog, tys, [(47, sPlainRack_F)], [(78, one_F), (68, pick_F), (61, rack_F), (67, among_F), (45, DrawPlainRack_F)], true, true, m, [78, 68, 61, 67], []⟩ : Cx)) fnx_DrawMixedBy ⟨tys_ok, .cons sPlainRack_T .nil, .cons one_T (.cons pick_T (.cons rack_T (.cons among_T (.cons DrawPlainRack_T .nil)))), mixed⟩ rfl (Nat.le_of_ble_eq_true rfl) (fun hwH hwa => DrawMixedBy_vc cv m n H hB hmn hwH) fun hwH v H' n' hψ h3 h4 h5 => by
      obtain ⟨R, b, len, cap, C, rfl, g1, g2, g3, g4, g5, g6, g7, g8⟩ := hψ
      exact h1 R b len cap C H' n' g1 g2 g3 g4 g5 g6 g7 g8
  · exact h.elim
theorem fnx_DrawIsUndone : FnOK Tryz.prog 48 Tryz.f48 (Tryz.f48.body.getD .skip) [61, 107] [(4, .tree (.one 0 (.one 1 (.one 3 (.alt 2 (.alt 4 (.one 5 (.one 6 (.one 7 .done))) (.alt 5 (.one 4 (.one 6 (.one 7 .done))) .stop)) (.alt 4 (.alt 2 (.one 5 (.one 6 (.one 7 .done))) (.alt 5 (.one 2 (.one 6 (.one 7 .done))) .stop)) (.alt 5 (.one 2 (.one 4 (.one 6 (.one 7 .done)))) .stop)))))))] := ⟨Tryz.func48, rfl, by kernel_rfl, by kernel_rfl⟩
theorem DrawIsUndone_vc (cv : SV) (m n : Nat) (H : Heap) (hB : BytA cv H) (hmn : m ≤ n) (hwH : hwf n H) :
    codeVC (⟨Tryz.prog, tys, [], [(61, rack_F), (107, dpour_F)], true, true, m, [61, 107], [(4, .tree (.one 0 (.one 1 (.one 3 (.alt 2 (.alt 4 (.one 5 (.one 6 (.one 7 .done))) (.alt 5 (.one 4 (.one 6 (.one 7 .done))) .stop)) (.alt 4 (.alt 2 (.one 5 (.one 6 (.one 7 .done))) (.alt 5 (.one 2 (.one 6 (.one 7 .done))) .stop)) (.alt 5 (.one 2 (.one 4 (.one 6 (.one 7 .done)))) .stop)))))))]⟩ : Cx) n (Tryz.f48.body.getD .skip) (argS 0 [cv]) H n
      (retK tys Tryz.f48.results.toList fun v H' n' => ∃ (R : List Int) (x y : Int), v = .tup [.arr R, .int x, .int y] ∧ R.length = 24 ∧ (∀ z ∈ R, In64 z) ∧ In64 x ∧ In64 y ∧ Kpt n H H' n') := by
  have h1c : oneCellS cv = true := by
    rcases hB with rfl | ⟨kc, off, len, cap, L, rfl, _⟩ <;> rfl
  have hvw : cv.wf n := by
    rcases hB with rfl | ⟨kc, off, len, cap, L, rfl, h, _⟩
    · trivial
    · exact (hwH _ _ h).1
  have hB' := hB
  rcases hB with rfl | ⟨kc0, off0, len0, cap0, L0, rfl, hh0⟩
  all_goals
    simp -implicitDefEqProofs only [Tryz.f48, Option.getD_some, argS, h1c, Nat.add_assoc, add_self, self_add, add_add, ZB, Int.reduceToNat, Nat.reduceLT, Nat.reduceLeDiff, Int.reduceLE, Int.reduceLT, Nat.reduceEqDiff, Nat.reduceSub, SB, SV.known, packR, ne_eq, reduceCtorEq, Nat.reduceEqDiff, ↓reduceIte, if_true, if_false, eq_self, Nat.reduceAdd, Nat.reduceMul, Nat.reduceSub, forall_const, oneCellS, litOne, flat1, Kd.isSca, flat, TYB]
    have hw1 : hwf (n + 1) ((n, .ints (List.replicate 24 0) 27) :: H) := hwf_cons (hwf_mono (by omega) hwH) (by omega) trivial
    have hw0f : ∀ v : SV, v.wf n → hwf (n + 2) ((n + 1, .cells [v, .int 0, .lit (.int .u64 0)] 85) :: (n, .ints (List.replicate 24 0) 27) :: H) := fun v hv =>
      hwf_cons (hwf_mono (show n + 1 ≤ n + 2 by omega) hw1) (by omega) (by simp [SObj.wf, wfL, SV.wf]; exact SV.wf_mono (show n ≤ n + 2 by omega) v hv)
    obtain ⟨kc, hkn, hBv⟩ := (hB'.put hwH (Nat.le_refl n) (.ints (List.replicate 24 0) 27)).at hw1 (Nat.lt_succ_self n) ⟨_, by simp [hget_cons]; rfl⟩
    have hCf : ∀ v : SV, BytV kc v ((n, .ints (List.replicate 24 0) 27) :: H) → CurH (n + 1) kc 0 ((n + 1, .cells [v, .int 0, .lit (.int .u64 0)] 85) :: (n, .ints (List.replicate 24 0) 27) :: H) := fun v hv =>
      ⟨v, 0, by simp [hget_cons], hv.at (fun o ho => by rw [hget_cons, if_neg (show ¬ kc = n + 1 by omega)]; exact ho), by omega⟩
    have d0 := Drawn.start (hCf _ hBv) (hw0f _ hvw)
    have hz0 : ∀ o : SObj, hget ((n + 1, o) :: (n, .ints (List.replicate 24 0) 27) :: H) n = some (.ints (List.replicate 24 0) 27) := fun o => by simp [hget_cons]
    have hlt : n + 1 < n + 2 ∧ kc < n + 2 ∧ kc ≠ n + 1 := by omega
    refine rack_use d0 hlt (by omega) (by omega) (by omega) fun R H1 n1 hR hRi hd1 hle1 hf1 => ?_
    have hz1 := hd1.fr n _ (by omega) (by omega) (hz0 _)
    have tkR : R.take 24 = R := List.take_of_length_le (by omega)
    simp -implicitDefEqProofs only [hR, tkR, Nat.add_assoc, add_self, self_add, add_add, ZB, Int.reduceToNat, Nat.reduceLT, Nat.reduceLeDiff, Int.reduceLE, Int.reduceLT, Nat.reduceEqDiff, Nat.reduceSub, SB, SV.known, packR, ne_eq, reduceCtorEq, Nat.reduceEqDiff, ↓reduceIte, if_true, if_false, eq_self, Nat.reduceAdd, Nat.reduceMul, Nat.reduceSub, forall_const, oneCellS, litOne, flat1, Kd.isSca, flat, TYB]
    refine ⟨by omega, dpour_use ((hd1.pushI hlt (L := List.replicate 24 0) (e := 27)).putI hlt (by omega) (by omega)) hlt (by omega) (by omega) (by omega) hR fun x y H2 n2 hx hy hd2 hle2 hf2 => ?_⟩
    have hr2 := hf2.use (by omega) (by omega) (show hget _ n1 = some (.ints R 27) by simp [hget_cons])
    have hz2 := hd2.fr n _ (by omega) (by omega) (hz0 _)
    have e1 : (n1 = n2) = False := by simp; omega
    have e2 : (n = n2) = False := by simp; omega
    have e3 : (n2 = n) = False := by simp; omega
    simp -implicitDefEqProofs only [hr2, hz2, hR, tkR, e1, e2, Nat.add_assoc, add_self, self_add, add_add, ZB, Int.reduceToNat, Nat.reduceLT, Nat.reduceLeDiff, Int.reduceLE, Int.reduceLT, Nat.reduceEqDiff, Nat.reduceSub, SB, SV.known, packR, ne_eq, reduceCtorEq, Nat.reduceEqDiff, ↓reduceIte, if_true, if_false, eq_self, Nat.reduceAdd, Nat.reduceMul, Nat.reduceSub, forall_const, oneCellS, litOne, flat1, Kd.isSca, flat, TYB]
    have hwz : hwf (n2 + 1) ((n, .ints R 27) :: (n2, .ints [x, y] 65) :: (n2, .ints (List.replicate 2 0) 65) :: H2) :=
      hwf_cons (hwf_cons (hwf_cons (hwf_mono (by omega) hd2.wf) (by omega) trivial) (by omega) trivial) (by omega) trivial
    refine ⟨by omega, Unit, fun _ => [(4, .int y), (3, .int x), (2, .ptr n 0)], fun _ => (n, .ints R 27) :: (n2, .ints [x, y] 65) :: (n2, .ints (List.replicate 2 0) 65) :: H2, fun _ => n2 + 1, ?_, fun _ => ?_⟩
    · simp -implicitDefEqProofs only [hr2, hz2, hR, tkR, e1, e2, e3, Nat.add_assoc, add_self, self_add, add_add, List.getD_cons_zero, List.getD_cons_succ, ZB, Int.reduceToNat, Nat.reduceLT, Nat.reduceLeDiff, Int.reduceLE, Int.reduceLT, Nat.reduceEqDiff, Nat.reduceSub, SB, SV.known, packR, ne_eq, reduceCtorEq, Nat.reduceEqDiff, ↓reduceIte, if_true, if_false, eq_self, Nat.reduceAdd, Nat.reduceMul, Nat.reduceSub, forall_const, oneCellS, litOne, flat1, Kd.isSca, flat, TYB]
      repeat' first
        | apply And.intro
        | omega
        | exact ⟨(), Sub.same (by simp only [LB, subS, subH, wfS, wfH, SV.ren, renL, SObj.ren, SV.wf, SObj.wf, wfL, SV.known, Nat.reduceEqDiff, ↓reduceIte, if_true, if_false, eq_self, Nat.reduceAdd, Nat.reduceLT, Nat.reduceLeDiff, implies_true, reduceCtorEq, forall_const]; try rfl) (by simp [subS, subH, wfS, wfH, SV.ren, renL, SObj.ren, SV.wf, SObj.wf, wfL, sget_cons, hget_cons] <;> omega) hwz (by omega)⟩
    · simp -implicitDefEqProofs only [lk_normal, hR, tkR, ZB, Int.reduceToNat, Nat.reduceLT, Nat.reduceLeDiff, Int.reduceLE, Int.reduceLT, Nat.reduceEqDiff, Nat.reduceSub, SB, SV.known, packR, ne_eq, reduceCtorEq, Nat.reduceEqDiff, ↓reduceIte, if_true, if_false, eq_self, Nat.reduceAdd, Nat.reduceMul, Nat.reduceSub, forall_const, oneCellS, litOne, flat1, Kd.isSca, flat, TYB]
      exact ⟨R, x, y, ⟨rfl, rfl, rfl⟩, hR, hRi, hx, hy, by omega, hwz, fun i o hi ho => by
        rw [hget_cons, if_neg (by omega), hget_cons, if_neg (by omega), hget_cons, if_neg (by omega)]
        exact hd2.fr i o (by omega) (by omega) (by rw [hget_cons, if_neg (by omega), hget_cons, if_neg (by omega)]; exact ho)⟩
--@tbl DrawIsUndone = spec.DrawIsUndone
/-- A rack and two places. -/
def DrawIsUndone_F : List SV → Heap → Nat → Nat → K1 → Prop
  | [cv], H, n, m, κ => BytA cv H ∧ m ≤ n ∧ ∀ (R : List Int) (x y : Int) H' n', R.length = 24 → (∀ z ∈ R, In64 z) → In64 x → In64 y → Kpt n H H' n' → κ (.tup [.arr R, .int x, .int y]) H' n'
  | _, _, _, _, _ => False
theorem DrawIsUndone_T : ∀ args H n m κ, DrawIsUndone_F args H n m κ → GenOK Tryz.prog 48 args H n m κ := by
  intro args H n m κ h
  unfold DrawIsUndone_F at h
  split at h
  · rename_i cv
    obtain ⟨hB, hmn, h1⟩ := h
    exact gen_direct (X := ⟨Tryz.prog, tys, [], [(61, rack_F), (107, dpour_F)], true, true, m, [61, 107], [(4, .tree (.one 0 (.one 1 (.one 3 (.alt 2 (.alt 4 (.one 5 (.one 6 (.one 7 .done))) (.alt 5 (.one 4 (.one 6 (.one 7 .done))) .stop)) (.alt 4 (.alt 2 (.one 5 (.one 6 (.one 7 .done))) (.alt 5 (.one 2 (.one 6 (.one 7 .done))) .stop)) (.alt 5 (.one 2 (.one 4 (.one 6 (.one 7 .done)))) .stop)))))))]⟩) fnx_DrawIsUndone ⟨tys_ok, .nil, .cons rack_T (.cons dpour_T .nil), mixed⟩ rfl (Nat.le_of_ble_eq_true rfl) (fun hwH hwa => DrawIsUndone_vc cv m n H hB hmn hwH) fun hwH v H' n' hψ h3 h4 h5 => by
      obtain ⟨R, x, y, rfl, g1, g2, g3, g4, g5⟩ := hψ
      exact h1 R x y H' n' g1 g2 g3 g4 g5
  · exact h.elim
/-! Lists of sources. -/
structure PkS (c kc n0 : Nat) (H0 : Heap) (R Q : List Int) (r q b len cap : Nat) (M : List Int) (k : Nat) (H : Heap) (n : Nat) : Prop where
  d : Drawn c kc 0 k n0 H0 H n
  lt : n0 ≤ r ∧ r < n ∧ n0 ≤ b ∧ b < n ∧ r ≠ b ∧ n0 ≤ q ∧ q < n ∧ q ≠ r ∧ q ≠ b
  r : hget H r = some (.ints R 27)
  q : hget H q = some (.ints Q 27)
  ql : Q.length = 24
  o : hget H b = some (.ints M 48)
  ml : M.length = cap * 3
  lc : len ≤ cap
theorem PkS.draw {c kc n0 r q b len cap k n k2 n2 : Nat} {H0 H H2 : Heap} {R Q M : List Int} (h : PkS c kc n0 H0 R Q r q b len cap M k H n) (hd : Drawn c kc 0 k2 n0 H0 H2 n2) (hf : Fr n0 n H H2) (hn : n ≤ n2) : PkS c kc n0 H0 R Q r q b len cap M k2 H2 n2 :=
  ⟨hd, by have := h.lt; omega, hf.use h.lt.1 h.lt.2.1 h.r, hf.use h.lt.2.2.2.2.2.1 h.lt.2.2.2.2.2.2.1 h.q, h.ql, hf.use h.lt.2.2.1 h.lt.2.2.2.1 h.o, h.ml, h.lc⟩
theorem PkS.push {c kc n0 r q b len cap k n : Nat} {H0 H : Heap} {R Q M : List Int} (h : PkS c kc n0 H0 R Q r q b len cap M k H n) (hlt : c < n0 ∧ kc < n0 ∧ kc ≠ c) {L : List Int} {e : Nat} : PkS c kc n0 H0 R Q r q b len cap M k ((n, .ints L e) :: H) (n + 1) :=
  ⟨h.d.pushI hlt, by have := h.lt; omega, by rw [hget_cons, if_neg (by have := h.lt; omega)]; exact h.r, by rw [hget_cons, if_neg (by have := h.lt; omega)]; exact h.q, h.ql, by rw [hget_cons, if_neg (by have := h.lt; omega)]; exact h.o, h.ml, h.lc⟩
theorem PkS.more {c kc n0 r q b len cap k k' n : Nat} {H0 H : Heap} {R Q M : List Int} (h : PkS c kc n0 H0 R Q r q b len cap M k H n) (hk : k ≤ k') : PkS c kc n0 H0 R Q r q b len cap M k' H n := ⟨h.d.more hk, h.lt, h.r, h.q, h.ql, h.o, h.ml, h.lc⟩
theorem fnx_DrawPourBacks : FnOK Tryz.prog 53 Tryz.f53 (Tryz.f53.body.getD .skip) [68, 85, 86] [(3, .tree (.one 1 (.alt 0 (.one 2 (.one 3 (.one 4 .done))) (.alt 2 (.one 0 (.one 3 (.one 4 .done))) .stop))))] := ⟨Tryz.func53, rfl, by kernel_rfl, by kernel_rfl⟩
def pkP (n : Nat) (H : Heap) (v : SV) (H' : Heap) (n' : Nat) : Prop := ∃ (R : List Int) (b len cap : Nat) (M : List Int), v = .tup [.arr R, .slice b 0 len cap] ∧ R.length = 24 ∧ (∀ z ∈ R, In64 z) ∧ n ≤ b ∧ b < n' ∧ hget H' b = some (.ints M 48) ∧ len * 3 ≤ M.length ∧ len ≤ 5 ∧ Kpt n H H' n'
set_option maxHeartbeats 2000000 in
theorem pk_b4 (S : Env) (m n kc r q b k n1 : Nat) (H Hs H1 : Heap) (R : List Int) (hmn : m ≤ n) (hlt : n + 1 < n + 1 + 1 ∧ kc < n + 1 + 1 ∧ kc ≠ n + 1) (hk : k ≤ 1010) (hRi : ∀ z ∈ R, In64 z) (hS0 : PkS (n + 1) kc (n + 1 + 1) Hs R R r q b 0 0 [] k H1 n1)
    (fr0 : ∀ i o, i < n → hget H i = some o → hget Hs i = some o) (z0 : hget Hs n = some (.ints (List.replicate 24 0) 27)) (s2 : sget S 2 = .ptr n 0) (s4 : sget S 4 = .ptr (n + 1) 0) (s5 : sget S 5 = .ptr r 0) (s6 : sget S 6 = .slice b 0 0 0) (s7 : sget S 7 = .ptr q 0) :
    codeVC (⟨Tryz.prog, tys, [(24, sPourBack_F)], [(68, pick_F), (85, poured5_F), (86, source5_F)], true, true, m, [68, 85, 86], [(3, .tree (.one 1 (.alt 0 (.one 2 (.one 3 (.one 4 .done))) (.alt 2 (.one 0 (.one 3 (.one 4 .done))) .stop))))]⟩ : Cx) n (cdN 4 (Tryz.f53.body.getD .skip)) S H1 n1 (retK tys Tryz.f53.results.toList (pkP n H)) := by
  have hR := hS0.ql
  have tkR : R.take 24 = R := List.take_of_length_le (by omega)
  simp only [cdN, cd2, Tryz.f53, Option.getD_some]
  simp -implicitDefEqProofs only [s2, s4, s5, s6, s7, Nat.add_assoc, add_self, self_add, add_add, ZB, Int.reduceToNat, Nat.reduceLT, Nat.reduceLeDiff, Int.reduceLE, Int.reduceLT, Nat.reduceEqDiff, Nat.reduceSub, SB, SV.known, packR, ne_eq, reduceCtorEq, Nat.reduceEqDiff, ↓reduceIte, if_true, if_false, eq_self, Nat.reduceAdd, Nat.reduceMul, Nat.reduceSub, forall_const, oneCellS, litOne, flat1, Kd.isSca, flat, TYB]
  refine pick_use hS0.d hlt (by omega) (by omega) fun y H2 hy0 hy1 hd2 hf2 => ?_
  have hS1 := hS0.draw hd2 hf2 (Nat.le_refl _)
  obtain ⟨N, rfl⟩ : ∃ N : Nat, y = N := ⟨y.toNat, by omega⟩
  have hS2 := hS1.more (show k + 2 ≤ k + 2 + 100 * (5 - N) by omega)
  simp -implicitDefEqProofs only [s2, s4, s5, s6, s7, lk_normal, Nat.add_assoc, add_self, self_add, add_add, ZB, Int.reduceToNat, Nat.reduceLT, Nat.reduceLeDiff, Int.reduceLE, Int.reduceLT, Nat.reduceEqDiff, Nat.reduceSub, SB, SV.known, packR, ne_eq, reduceCtorEq, Nat.reduceEqDiff, ↓reduceIte, if_true, if_false, eq_self, Nat.reduceAdd, Nat.reduceMul, Nat.reduceSub, forall_const, oneCellS, litOne, flat1, Kd.isSca, flat, TYB]
  refine loop_introN (fun s : (Nat × Nat × Nat × Nat × List Int × List Int) × Heap × Nat => [(8, .int s.1.1), (7, .ptr q 0), (6, .slice s.1.2.1 0 s.1.2.2.1 s.1.2.2.2.1), (5, .ptr r 0), (4, .ptr (n + 1) 0), (2, .ptr n 0)]) (fun s => s.2.1) (fun s => s.2.2)
    (fun s => (s.1.1 ≤ 5 ∧ s.1.1 + s.1.2.2.1 ≤ 5) ∧ PkS (n + 1) kc (n + 1 + 1) Hs R s.1.2.2.2.2.2 r q s.1.2.1 s.1.2.2.1 s.1.2.2.2.1 s.1.2.2.2.2.1 (k + 2 + 100 * (5 - s.1.1)) s.2.1 s.2.2) (fun s => s.1.1) ?_ ?_
  · have := hS2.d.le
    exact ⟨((N, b, 0, 0, [], R), H2, n1), ⟨⟨by show N ≤ 5; omega, by show N + 0 ≤ 5; omega⟩, hS2⟩, Sub.same (by simp only [s2, s4, s5, s6, s7, LB, subS, subH, wfS, wfH, SV.ren, renL, SObj.ren, SV.wf, SObj.wf, wfL, SV.known, Nat.reduceEqDiff, ↓reduceIte, if_true, if_false, eq_self, Nat.reduceAdd, Nat.reduceLT, Nat.reduceLeDiff, implies_true, reduceCtorEq, forall_const]; try rfl) (by have := hS2.lt; simp [subS, subH, wfS, wfH, SV.ren, renL, SObj.ren, SV.wf, SObj.wf, wfL, sget_cons, hget_cons] <;> omega) hS2.d.wf (by show n ≤ n1; omega)⟩
  · clear hS0 hS1 hS2 hd2 hf2
    rintro ⟨⟨N, b, len, cap, M, Q⟩, H4, n4⟩ ⟨⟨hN, hNl⟩, hS⟩
    simp only at hN hNl hS
    have hq := hS.lt
    have hml := hS.ml
    have hlc := hS.lc
    have hQ := hS.ql
    have tkQ : Q.take 24 = Q := List.take_of_length_le (by omega)
    have le4 := hS.d.le
    have gq4 := hS.q
    by_cases h0 : 0 < N
    · obtain ⟨N, rfl⟩ : ∃ k : Nat, N = k + 1 := ⟨N - 1, by omega⟩
      have hNi : 0 < ((N + 1 : Nat) : Int) := by omega
      have eN : ((N + 1 : Nat) : Int) - 1 = N := by omega
      simp -implicitDefEqProofs only [lk_normal, hNi, gq4, hQ, tkQ, Nat.add_assoc, add_self, self_add, add_add, ZB, Int.reduceToNat, Nat.reduceLT, Nat.reduceLeDiff, Int.reduceLE, Int.reduceLT, Nat.reduceEqDiff, Nat.reduceSub, SB, SV.known, packR, ne_eq, reduceCtorEq, Nat.reduceEqDiff, ↓reduceIte, if_true, if_false, eq_self, Nat.reduceAdd, Nat.reduceMul, Nat.reduceSub, forall_const, oneCellS, litOne, flat1, Kd.isSca, flat, TYB]
      refine source5_use hS.d hlt (by omega) (by omega) (by omega) hQ fun s H5 n5 hs hsi hd5 hle5 hf5 => ?_
      have hS5 := hS.draw hd5 hf5 hle5
      have ho5 := hS5.o
      have gq5 := hS5.q
      have tks : s.take 3 = s := List.take_of_length_le (by omega)
      have e1 : (b = n5) = False := by simp; omega
      have e2 : (q = n5) = False := by simp; omega
      have e3 : ∀ i, (b = n5 + i) = False := fun i => by simp; omega
      have e4 : ∀ i, (q = n5 + i) = False := fun i => by simp; omega
      have e5 : (q = b) = False := by simp; omega
      have e6 : (n5 = b) = False := by simp; omega
      have lT := pbkT_len hQ s
      have tkT : (pbkT Q s).take 24 = pbkT Q s := List.take_of_length_le (by omega)
      have dQ : Q.drop 24 = [] := List.drop_eq_nil_of_le (by omega)
      simp -implicitDefEqProofs only [lk_normal, sPourBack_F, ho5, gq5, hml, hlc, hs, tks, hQ, tkQ, lT, tkT, dQ, List.append_nil, e1, e2, e3, e4, e5, e6, eN, Nat.add_assoc, add_self, self_add, add_add, ZB, Int.reduceToNat, Nat.reduceLT, Nat.reduceLeDiff, Int.reduceLE, Int.reduceLT, Nat.reduceEqDiff, Nat.reduceSub, SB, SV.known, packR, ne_eq, reduceCtorEq, Nat.reduceEqDiff, ↓reduceIte, if_true, if_false, eq_self, Nat.reduceAdd, Nat.reduceMul, Nat.reduceSub, forall_const, oneCellS, litOne, flat1, Kd.isSca, flat, TYB]
      refine ⟨by omega, by omega, by omega, by omega, fun jp cp hjp => ?_⟩
      have hr5 := hS5.r
      have lt5 := hS5.lt
      have hS6 : PkS (n + 1) kc (n + 1 + 1) Hs R Q r q (n5 + 2) (len + 1) cp (M.take (len * 3) ++ s ++ jp) (k + 2 + 100 * (5 - (N + 1)) + 100) ((n5 + 3, .ints (pbkT Q s) 27) :: (n5 + 3, .ints (List.replicate 24 0) 27) :: (n5 + 2, .ints (M.take (len * 3) ++ s ++ jp) 48) :: (b, .dead) :: (n5 + 1, .ints s 48) :: (n5, .ints s 48) :: (n5, .ints (List.replicate 3 0) 48) :: H5) (n5 + 4) :=
        ⟨((((((hS5.d.pushI hlt).putI hlt (by omega) (by omega)).pushI hlt).put hlt (k0 := b) .dead (by omega) (by omega) (Nat.le_refl _) trivial).pushI hlt).pushI hlt).putI hlt (by omega) (by omega), by omega, by (repeat rw [hget_cons, if_neg (by omega)]); exact hr5, by (repeat rw [hget_cons, if_neg (by omega)]); exact gq5, hQ, by simp [hget_cons], by simp [hs]; omega, by omega⟩
      have gq6 := hS6.q
      cases hok : pbkB Q s
      · simp -implicitDefEqProofs only [lk_normal, eN, Nat.add_assoc, add_self, self_add, add_add, ZB, Int.reduceToNat, Nat.reduceLT, Nat.reduceLeDiff, Int.reduceLE, Int.reduceLT, Nat.reduceEqDiff, Nat.reduceSub, SB, SV.known, packR, ne_eq, reduceCtorEq, Nat.reduceEqDiff, ↓reduceIte, if_true, if_false, eq_self, Nat.reduceAdd, Nat.reduceMul, Nat.reduceSub, forall_const, oneCellS, litOne, flat1, Kd.isSca, flat, TYB]
        exact ⟨by omega, by unfold In64; omega, ((N, n5 + 2, len + 1, cp, _, Q), _, n5 + 4), ⟨⟨by show N ≤ 5; omega, by show N + (len + 1) ≤ 5; omega⟩, hS6.more (by show k + 2 + 100 * (5 - (N + 1)) + 100 ≤ k + (2 + 100 * (5 - N)); omega)⟩, by show N < N + 1; omega, Sub.same (by simp only [LB, subS, subH, wfS, wfH, SV.ren, renL, SObj.ren, SV.wf, SObj.wf, wfL, SV.known, Nat.reduceEqDiff, ↓reduceIte, if_true, if_false, eq_self, Nat.reduceAdd, Nat.reduceLT, Nat.reduceLeDiff, implies_true, reduceCtorEq, forall_const]; try rfl) (by simp [subS, subH, wfS, wfH, SV.ren, renL, SObj.ren, SV.wf, SObj.wf, wfL, sget_cons, hget_cons] <;> omega) hS6.d.wf (by show n ≤ n5 + 4; omega)⟩
      · have hS7 : PkS (n + 1) kc (n + 1 + 1) Hs R (pbkT Q s) r q (n5 + 2) (len + 1) cp (M.take (len * 3) ++ s ++ jp) (k + 2 + 100 * (5 - (N + 1)) + 100) ((q, .ints (pbkT Q s) 27) :: ((n5 + 3, .ints (pbkT Q s) 27) :: (n5 + 3, .ints (List.replicate 24 0) 27) :: (n5 + 2, .ints (M.take (len * 3) ++ s ++ jp) 48) :: (b, .dead) :: (n5 + 1, .ints s 48) :: (n5, .ints s 48) :: (n5, .ints (List.replicate 3 0) 48) :: H5)) (n5 + 4) :=
          ⟨hS6.d.putI hlt (by omega) (by omega), hS6.lt, by rw [hget_cons, if_neg (by omega)]; exact hS6.r, by simp [hget_cons], lT, by rw [hget_cons, if_neg (by omega)]; exact hS6.o, hS6.ml, hS6.lc⟩
        have f1 : (q = n5 + 3) = False := by simp; omega
        have f2 : (q = n5 + 2) = False := by simp; omega
        have f3 : (q = n5 + 1) = False := by simp; omega
        simp -implicitDefEqProofs only [lk_normal, eN, gq5, hQ, tkT, lT, dQ, List.append_nil, e2, e5, f1, f2, f3, Nat.add_assoc, add_self, self_add, add_add, ZB, Int.reduceToNat, Nat.reduceLT, Nat.reduceLeDiff, Int.reduceLE, Int.reduceLT, Nat.reduceEqDiff, Nat.reduceSub, SB, SV.known, packR, ne_eq, reduceCtorEq, Nat.reduceEqDiff, ↓reduceIte, if_true, if_false, eq_self, Nat.reduceAdd, Nat.reduceMul, Nat.reduceSub, forall_const, oneCellS, litOne, flat1, Kd.isSca, flat, TYB]
        exact ⟨by omega, by omega, by unfold In64; omega, ((N, n5 + 2, len + 1, cp, _, pbkT Q s), _, n5 + 4), ⟨⟨by show N ≤ 5; omega, by show N + (len + 1) ≤ 5; omega⟩, hS7.more (by show k + 2 + 100 * (5 - (N + 1)) + 100 ≤ k + (2 + 100 * (5 - N)); omega)⟩, by show N < N + 1; omega, Sub.same (by simp only [LB, subS, subH, wfS, wfH, SV.ren, renL, SObj.ren, SV.wf, SObj.wf, wfL, SV.known, Nat.reduceEqDiff, ↓reduceIte, if_true, if_false, eq_self, Nat.reduceAdd, Nat.reduceLT, Nat.reduceLeDiff, implies_true, reduceCtorEq, forall_const]; try rfl) (by simp [subS, subH, wfS, wfH, SV.ren, renL, SObj.ren, SV.wf, SObj.wf, wfL, sget_cons, hget_cons] <;> omega) hS7.d.wf (by show n ≤ n5 + 4; omega)⟩
    · have hNi : ¬ 0 < (N : Int) := by omega
      have hr4 := hS.r
      have hz4 := hS.d.fr n _ (by omega) (by omega) z0
      simp -implicitDefEqProofs only [lk_normal, hNi, hr4, hz4, hR, tkR, Nat.add_assoc, add_self, self_add, add_add, ZB, Int.reduceToNat, Nat.reduceLT, Nat.reduceLeDiff, Int.reduceLE, Int.reduceLT, Nat.reduceEqDiff, Nat.reduceSub, SB, SV.known, packR, ne_eq, reduceCtorEq, Nat.reduceEqDiff, ↓reduceIte, if_true, if_false, eq_self, Nat.reduceAdd, Nat.reduceMul, Nat.reduceSub, forall_const, oneCellS, litOne, flat1, Kd.isSca, flat, TYB]
      exact ⟨by omega, R, b, len, cap, M, rfl, hR, hRi, by omega, by omega, by rw [hget_cons, if_neg (by omega)]; exact hS.o, by omega, by omega, by omega, hwf_cons hS.d.wf (by omega) trivial, fun i o hi ho => by
        rw [hget_cons, if_neg (by omega)]
        exact hS.d.fr i o (by omega) (by omega) (fr0 i o hi ho)⟩
set_option maxHeartbeats 2000000 in
theorem DrawPourBacks_vc (cv : SV) (m n : Nat) (H : Heap) (hB : BytA cv H) (hmn : m ≤ n) (hwH : hwf n H) :
    codeVC (⟨Tryz.prog, tys, [(24, sPourBack_F)], [(68, pick_F), (85, poured5_F), (86, source5_F)], true, true, m, [68, 85, 86], [(3, .tree (.one 1 (.alt 0 (.one 2 (.one 3 (.one 4 .done))) (.alt 2 (.one 0 (.one 3 (.one 4 .done))) .stop))))]⟩ : Cx) n (Tryz.f53.body.getD .skip) (argS 0 [cv]) H n (retK tys Tryz.f53.results.toList (pkP n H)) := by
  have hB' := hB
  rw [show (Tryz.f53.body.getD .skip) = cdP 4 (Tryz.f53.body.getD .skip) (cdN 4 (Tryz.f53.body.getD .skip)) from rfl]
  have next := pk_b4
  obtain ⟨c4, e4⟩ : ∃ c, c = cdN 4 (Tryz.f53.body.getD .skip) := ⟨_, rfl⟩
  rw [← e4] at next ⊢
  simp only [cdP, Tryz.f53, Option.getD_some]
  rcases hB with rfl | ⟨kc0, off0, len0, cap0, L0, rfl, hh0⟩
  all_goals
    simp -implicitDefEqProofs only [argS, Nat.add_assoc, add_self, self_add, add_add, ZB, Int.reduceToNat, Nat.reduceLT, Nat.reduceLeDiff, Int.reduceLE, Int.reduceLT, Nat.reduceEqDiff, Nat.reduceSub, SB, SV.known, packR, ne_eq, reduceCtorEq, Nat.reduceEqDiff, ↓reduceIte, if_true, if_false, eq_self, Nat.reduceAdd, Nat.reduceMul, Nat.reduceSub, forall_const, oneCellS, litOne, flat1, Kd.isSca, flat, TYB]
    have hw1 : hwf (n + 1) ((n, .ints (List.replicate 24 0) 27) :: H) := hwf_cons (hwf_mono (by omega) hwH) (Nat.lt_succ_self n) trivial
    obtain ⟨kc, hlt, d0⟩ := cur_new (hB'.put hwH (Nat.le_refl n) (.ints (List.replicate 24 0) 27)) hw1 (Nat.lt_succ_self n) ⟨_, by simp [hget_cons]; rfl⟩
    obtain ⟨Hs, d0, fr0, z0⟩ : ∃ Hs, Drawn (n + 1) kc 0 0 (n + 1 + 1) Hs _ (n + 1 + 1) ∧ (∀ i o, i < n → hget H i = some o → hget Hs i = some o) ∧ hget Hs n = some (.ints (List.replicate 24 0) 27) := ⟨_, d0, fun i o hi ho => by (repeat rw [hget_cons, if_neg (by omega)]); exact ho, by simp [hget_cons] <;> omega⟩
    refine poured5_use d0 hlt (by omega) (by omega) (by omega) fun R H1 n1 hR hRi hd1 hle1 hf1 => ?_
    have tkR : R.take 24 = R := List.take_of_length_le (by omega)
    have hdA : Drawn (n + 1) kc 0 1010 (n + 1 + 1) Hs ((n1, .ints R 27) :: (n1, .ints (List.replicate 24 0) 27) :: H1) (n1 + 1) := ((hd1.more (by omega)).pushI hlt).putI hlt (by omega) (by omega)
    have hzA := hdA.fr n _ (by omega) (by omega) z0
    have lA := hdA.le
    simp -implicitDefEqProofs only [hR, tkR, Nat.add_assoc, add_self, self_add, add_add, ZB, Int.reduceToNat, Nat.reduceLT, Nat.reduceLeDiff, Int.reduceLE, Int.reduceLT, Nat.reduceEqDiff, Nat.reduceSub, SB, SV.known, packR, ne_eq, reduceCtorEq, Nat.reduceEqDiff, ↓reduceIte, if_true, if_false, eq_self, Nat.reduceAdd, Nat.reduceMul, Nat.reduceSub, forall_const, oneCellS, litOne, flat1, Kd.isSca, flat, TYB]
    refine ⟨by omega, Bool, fun i => [(7, .ptr (if i then n1 + 2 else n1 + 1) 0), (6, .slice (if i then n1 + 1 else n1 + 2) 0 0 0), (5, .ptr n1 0), (4, .ptr (n + 1) 0), (2, .ptr n 0)], fun i => if i then (n1 + 2, .ints R 27) :: (n1 + 2, .ints (List.replicate 24 0) 27) :: (n1 + 1, .ints [] 48) :: (n1, .ints R 27) :: (n1, .ints (List.replicate 24 0) 27) :: H1
      else (n1 + 1, .ints R 27) :: (n1 + 2, .ints [] 48) :: (n1 + 1, .ints (List.replicate 24 0) 27) :: (n1, .ints R 27) :: (n1, .ints (List.replicate 24 0) 27) :: H1, fun _ => n1 + 3, ?_, ?_⟩
    · have e1 : (n1 = n1 + 1) = False := by simp
      have e2 : (n1 = n1 + 2) = False := by simp
      have wT : hwf (n1 + 3) ((n1 + 2, .ints R 27) :: (n1 + 2, .ints (List.replicate 24 0) 27) :: (n1 + 1, .ints [] 48) :: (n1, .ints R 27) :: (n1, .ints (List.replicate 24 0) 27) :: H1) := hwf_cons (hwf_cons (hwf_cons (hwf_mono (by omega) hdA.wf) (by omega) trivial) (by omega) trivial) (by omega) trivial
      have wF : hwf (n1 + 3) ((n1 + 1, .ints R 27) :: (n1 + 2, .ints [] 48) :: (n1 + 1, .ints (List.replicate 24 0) 27) :: (n1, .ints R 27) :: (n1, .ints (List.replicate 24 0) 27) :: H1) := hwf_cons (hwf_cons (hwf_cons (hwf_mono (by omega) hdA.wf) (by omega) trivial) (by omega) trivial) (by omega) trivial
      simp -implicitDefEqProofs only [hR, tkR, e1, e2, Nat.add_assoc, add_self, self_add, add_add, ZB, Int.reduceToNat, Nat.reduceLT, Nat.reduceLeDiff, Int.reduceLE, Int.reduceLT, Nat.reduceEqDiff, Nat.reduceSub, SB, SV.known, packR, ne_eq, reduceCtorEq, Nat.reduceEqDiff, ↓reduceIte, if_true, if_false, eq_self, Nat.reduceAdd, Nat.reduceMul, Nat.reduceSub, forall_const, oneCellS, litOne, flat1, Kd.isSca, flat, TYB]
      refine ⟨⟨by omega, true, ?_⟩, by omega, false, ?_⟩
      · simp only [↓reduceIte]
        exact Sub.same (by simp only [LB, subS, subH, wfS, wfH, SV.ren, renL, SObj.ren, SV.wf, SObj.wf, wfL, SV.known, Nat.reduceEqDiff, ↓reduceIte, if_true, if_false, eq_self, Nat.reduceAdd, Nat.reduceLT, Nat.reduceLeDiff, implies_true, reduceCtorEq, forall_const]; try rfl) (by simp [subS, subH, wfS, wfH, SV.ren, renL, SObj.ren, SV.wf, SObj.wf, wfL, sget_cons, hget_cons] <;> omega) wT (by omega)
      · simp only [Bool.false_eq_true, ↓reduceIte]
        exact Sub.same (by simp only [LB, subS, subH, wfS, wfH, SV.ren, renL, SObj.ren, SV.wf, SObj.wf, wfL, SV.known, Nat.reduceEqDiff, ↓reduceIte, if_true, if_false, eq_self, Nat.reduceAdd, Nat.reduceLT, Nat.reduceLeDiff, implies_true, reduceCtorEq, forall_const]; try rfl) (by simp [subS, subH, wfS, wfH, SV.ren, renL, SObj.ren, SV.wf, SObj.wf, wfL, sget_cons, hget_cons] <;> omega) wF (by omega)
    · intro i
      cases i
      · exact next _ m n kc n1 (n1 + 1) (n1 + 2) 1010 (n1 + 3) H Hs _ R hmn hlt (by omega) hRi ⟨((hdA.pushI hlt).push hlt (.ints [] 48) trivial).putI hlt (by omega) (by omega), by omega, by simp [hget_cons], by simp [hget_cons], hR, by simp [hget_cons], rfl, by omega⟩ fr0 z0 rfl rfl rfl rfl rfl
      · exact next _ m n kc n1 (n1 + 2) (n1 + 1) 1010 (n1 + 3) H Hs _ R hmn hlt (by omega) hRi ⟨((hdA.push hlt (.ints [] 48) trivial).pushI hlt).putI hlt (by omega) (by omega), by omega, by simp [hget_cons], by simp [hget_cons], hR, by simp [hget_cons], rfl, by omega⟩ fr0 z0 rfl rfl rfl rfl rfl
--@tbl DrawPourBacks = spec.DrawPourBacks
def DrawPourBacks_F : List SV → Heap → Nat → Nat → K1 → Prop
  | [cv], H, n, m, κ => BytA cv H ∧ m ≤ n ∧ ∀ (R : List Int) (b len cap : Nat) (M : List Int) H' n', R.length = 24 → (∀ z ∈ R, In64 z) → n ≤ b → b < n' → hget H' b = some (.ints M 48) → len * 3 ≤ M.length → len ≤ 5 → Kpt n H H' n' → κ (.tup [.arr R, .slice b 0 len cap]) H' n'
  | _, _, _, _, _ => False
theorem drawPBs_use {cv : SV} {H : Heap} {n m : Nat} {κ : K1} (h1 : BytA cv H) (h2 : m ≤ n) (h3 : ∀ (R : List Int) (b len cap : Nat) (M : List Int) H' n', R.length = 24 → (∀ z ∈ R, In64 z) → n ≤ b → b < n' → hget H' b = some (.ints M 48) → len * 3 ≤ M.length → len ≤ 5 → Kpt n H H' n' → κ (.tup [.arr R, .slice b 0 len cap]) H' n') : DrawPourBacks_F [cv] H n m κ := ⟨h1, h2, h3⟩
theorem DrawPourBacks_T : ∀ args H n m κ, DrawPourBacks_F args H n m κ → GenOK Tryz.prog 53 args H n m κ := by
  intro args H n m κ h
  unfold DrawPourBacks_F at h
  split at h
  · rename_i cv
    obtain ⟨hB, hmn, h1⟩ := h
    exact gen_direct (X := (⟨Tryz.prog, tys, [(24, sPourBack_F)], [(68, pick_F), (85, poured5_F), (86, source5_F)], true, true, m, [68, 85, 86], [(3, .tree (.one 1 (.alt 0 (.one 2 (.one 3 (.one 4 .done))) (.alt 2 (.one 0 (.one 3 (.one 4 .done))) .stop))))]⟩ : Cx)) fnx_DrawPourBacks ⟨tys_ok, .cons sPourBack_T .nil, .cons pick_T (.cons poured5_T (.cons source5_T .nil)), mixed⟩ rfl (Nat.le_of_ble_eq_true rfl) (fun hwH hwa => DrawPourBacks_vc cv m n H hB hmn hwH) fun hwH v H' n' hψ h3 h4 h5 => by
      obtain ⟨R, b, len, cap, M, rfl, g1, g2, g3, g4, g5, g6, g7, g8⟩ := hψ
      exact h1 R b len cap M H' n' g1 g2 g3 g4 g5 g6 g7 g8
  · exact h.elim
theorem drawIU_use {cv : SV} {H : Heap} {n m : Nat} {κ : K1} (h1 : BytA cv H) (h2 : m ≤ n) (h3 : ∀ (R : List Int) (x y : Int) H' n', R.length = 24 → (∀ z ∈ R, In64 z) → In64 x → In64 y → Kpt n H H' n' → κ (.tup [.arr R, .int x, .int y]) H' n') : DrawIsUndone_F [cv] H n m κ := ⟨h1, h2, h3⟩
end Go.Proofs.YtmccafjblhbmkaaGreat
set_option maxRecDepth 100000
set_option linter.unusedSimpArgs false
set_option linter.unusedVariables false
namespace Go.Proofs.YtmccafjblhbmkaaGreat
open Go Go.RowKit
/-! Sources. -/
--@tbl vSources = laws.vSources
/-! Racks. -/
--@tbl vRacks = laws.vRacks
/-! Pairs. -/
--@tbl vPairs = laws.vPairs
theorem vPairs_ok (L1 L2 : List Int) (e1 e2 c1 c2 m : Nat) (h1 : m * 2 ≤ L1.length) (h2 : m * 2 ≤ L2.length) (h : L1.take (m * 2) = L2.take (m * 2)) (hm : m ≤ 4611686018427387903) :
    PureH Tryz.prog 56 [.slice 0 0 m c1, .slice 1 0 m c2] [(0, .ints L1 e1), (1, .ints L2 e2)] (.bool true) := by
  refine pure_of_vc (X := ⟨Tryz.prog, tys, [], [], true, true, 2, [], []⟩) fn_56 ⟨tys_ok, .nil, .nil, mixed⟩ (n0 := 2) (Nat.le_of_ble_eq_true rfl) (by simp [wfL, SV.wf]) (wfH_spec (by simp [wfH, SObj.wf])) (Nat.le_refl _) (fun _ => by simp [SV.wf, wfL]) ?_
  simp -implicitDefEqProofs only [Tryz.f56, Option.getD_some, argS, ZB, Int.reduceToNat, Nat.reduceLT, Nat.reduceLeDiff, Int.reduceLE, Int.reduceLT, Nat.reduceEqDiff, Nat.reduceSub, SB, SV.known, packR, ne_eq, reduceCtorEq, Nat.reduceEqDiff, ↓reduceIte, if_true, if_false, eq_self, Nat.reduceAdd, Nat.reduceMul, Nat.reduceSub, forall_const, oneCellS, litOne, flat1, Kd.isSca, flat, TYB]
  refine loop_intro (fun i : Nat => [(5, .int i), (0, .slice 0 0 m c1), (1, .slice 1 0 m c2)]) (fun _ => [(0, .ints L1 e1), (1, .ints L2 e2)]) 2 (fun i => i ≤ m) (fun i => m - i) ?_ ?_
  · refine ⟨0, ?_, Sub.mk_id ?_ ?_ ?_ ?_ ?_⟩
    all_goals (try (simp only [LB, subS, subH, wfS, wfH, SV.ren, renL, SObj.ren, SV.wf, SObj.wf, wfL, SV.known, Nat.reduceEqDiff, ↓reduceIte, if_true, if_false, eq_self, Nat.reduceAdd, Nat.reduceLT, Nat.reduceLeDiff, implies_true, reduceCtorEq, forall_const]; done))
    all_goals (try (simp only [LB, subS, subH, wfS, wfH, SV.ren, renL, SObj.ren, SV.wf, SObj.wf, wfL, SV.known, Nat.reduceEqDiff, ↓reduceIte, if_true, if_false, eq_self, Nat.reduceAdd, Nat.reduceLT, Nat.reduceLeDiff, implies_true, reduceCtorEq, forall_const]; simp; done))
    all_goals (try (simp only [LB, subS, subH, wfS, wfH, SV.ren, renL, SObj.ren, SV.wf, SObj.wf, wfL, SV.known, Nat.reduceEqDiff, ↓reduceIte, if_true, if_false, eq_self, Nat.reduceAdd, Nat.reduceLT, Nat.reduceLeDiff, implies_true, reduceCtorEq, forall_const]; (and_intros <;> (first | omega | rfl | (simp; done) | (simp; omega))); done))
    all_goals (try dsimp only)
    all_goals (and_intros <;> try (first | omega | (unfold In64; omega) | trivial | assumption))
  · intro i hi
    by_cases hlt : i < m
    · have hil : (i : Int) < m := by omega
      have ee : (L1.drop (i * 2)).take 2 = (L2.drop (i * 2)).take 2 := by
        have := congrArg (fun l => (List.drop (i * 2) l).take 2) h
        simp only [List.drop_take, List.take_take] at this
        rw [Nat.min_eq_left (by omega)] at this
        exact this
      have l2 : ((L2.drop (i * 2)).take 2).length = 2 := by rw [List.length_take, List.length_drop]; omega
      simp -implicitDefEqProofs only [lk_normal, hil, ee, l2, eqI_p2, ZB, Int.reduceToNat, Nat.reduceLT, Nat.reduceLeDiff, Int.reduceLE, Int.reduceLT, Nat.reduceEqDiff, Nat.reduceSub, SB, SV.known, packR, ne_eq, reduceCtorEq, Nat.reduceEqDiff, ↓reduceIte, if_true, if_false, eq_self, Nat.reduceAdd, Nat.reduceMul, Nat.reduceSub, forall_const, oneCellS, litOne, flat1, Kd.isSca, flat, TYB]
      (try (and_intros <;> try (first | omega | (unfold In64; omega) | trivial | assumption)))
      refine ⟨i + 1, ?_, ?_, Sub.mk_id ?_ ?_ ?_ ?_ ?_⟩
      all_goals (try (simp only [LB, subS, subH, wfS, wfH, SV.ren, renL, SObj.ren, SV.wf, SObj.wf, wfL, SV.known, Nat.reduceEqDiff, ↓reduceIte, if_true, if_false, eq_self, Nat.reduceAdd, Nat.reduceLT, Nat.reduceLeDiff, implies_true, reduceCtorEq, forall_const]; done))
      all_goals (try (simp only [LB, subS, subH, wfS, wfH, SV.ren, renL, SObj.ren, SV.wf, SObj.wf, wfL, SV.known, Nat.reduceEqDiff, ↓reduceIte, if_true, if_false, eq_self, Nat.reduceAdd, Nat.reduceLT, Nat.reduceLeDiff, implies_true, reduceCtorEq, forall_const]; simp; done))
      all_goals (try (simp only [LB, subS, subH, wfS, wfH, SV.ren, renL, SObj.ren, SV.wf, SObj.wf, wfL, SV.known, Nat.reduceEqDiff, ↓reduceIte, if_true, if_false, eq_self, Nat.reduceAdd, Nat.reduceLT, Nat.reduceLeDiff, implies_true, reduceCtorEq, forall_const]; (and_intros <;> (first | omega | rfl | (simp; done) | (simp; omega))); done))
      all_goals (try dsimp only)
      all_goals (and_intros <;> try (first | omega | (unfold In64; omega) | trivial | assumption))
    · have hil : ¬ (i : Int) < m := by omega
      simp -implicitDefEqProofs only [lk_normal, hil, ZB, Int.reduceToNat, Nat.reduceLT, Nat.reduceLeDiff, Int.reduceLE, Int.reduceLT, Nat.reduceEqDiff, Nat.reduceSub, SB, SV.known, packR, ne_eq, reduceCtorEq, Nat.reduceEqDiff, ↓reduceIte, if_true, if_false, eq_self, Nat.reduceAdd, Nat.reduceMul, Nat.reduceSub, forall_const, oneCellS, litOne, flat1, Kd.isSca, flat, TYB]
theorem vPairs_ns (L2 : List Int) (e2 c2 : Nat) : PureH Tryz.prog 56 [.nils, .slice 0 0 0 c2] [(0, .ints L2 e2)] (.bool true) := by
  refine pure_of_vc (X := ⟨Tryz.prog, tys, [], [], true, true, 1, [], []⟩) fn_56 ⟨tys_ok, .nil, .nil, mixed⟩ (n0 := 1) (Nat.le_of_ble_eq_true rfl) (by simp [wfL, SV.wf]) (wfH_spec (by simp [wfH, SObj.wf])) (Nat.le_refl _) (fun _ => by simp [SV.wf, wfL]) ?_
  simp -implicitDefEqProofs only [Tryz.f56, Option.getD_some, argS, ZB, Int.reduceToNat, Nat.reduceLT, Nat.reduceLeDiff, Int.reduceLE, Int.reduceLT, Nat.reduceEqDiff, Nat.reduceSub, SB, SV.known, packR, ne_eq, reduceCtorEq, Nat.reduceEqDiff, ↓reduceIte, if_true, if_false, eq_self, Nat.reduceAdd, Nat.reduceMul, Nat.reduceSub, forall_const, oneCellS, litOne, flat1, Kd.isSca, flat, TYB]
  refine loop_intro (fun i : Nat => [(5, .int 0), (0, .nils), (1, .slice 0 0 0 c2)]) (fun _ => [(0, .ints L2 e2)]) 1 (fun i => True) (fun i => 0) ?_ ?_
  · refine ⟨0, ?_, Sub.mk_id ?_ ?_ ?_ ?_ ?_⟩
    all_goals (try (simp only [LB, subS, subH, wfS, wfH, SV.ren, renL, SObj.ren, SV.wf, SObj.wf, wfL, SV.known, Nat.reduceEqDiff, ↓reduceIte, if_true, if_false, eq_self, Nat.reduceAdd, Nat.reduceLT, Nat.reduceLeDiff, implies_true, reduceCtorEq, forall_const]; done))
    all_goals (try (simp only [LB, subS, subH, wfS, wfH, SV.ren, renL, SObj.ren, SV.wf, SObj.wf, wfL, SV.known, Nat.reduceEqDiff, ↓reduceIte, if_true, if_false, eq_self, Nat.reduceAdd, Nat.reduceLT, Nat.reduceLeDiff, implies_true, reduceCtorEq, forall_const]; simp; done))
    all_goals (try (simp only [LB, subS, subH, wfS, wfH, SV.ren, renL, SObj.ren, SV.wf, SObj.wf, wfL, SV.known, Nat.reduceEqDiff, ↓reduceIte, if_true, if_false, eq_self, Nat.reduceAdd, Nat.reduceLT, Nat.reduceLeDiff, implies_true, reduceCtorEq, forall_const]; (and_intros <;> (first | omega | rfl | (simp; done) | (simp; omega))); done))
    all_goals (try dsimp only)
    all_goals (and_intros <;> try (first | omega | (unfold In64; omega) | trivial | assumption))
  · intro i hi
    simp -implicitDefEqProofs only [lk_normal, ZB, Int.reduceToNat, Nat.reduceLT, Nat.reduceLeDiff, Int.reduceLE, Int.reduceLT, Nat.reduceEqDiff, Nat.reduceSub, SB, SV.known, packR, ne_eq, reduceCtorEq, Nat.reduceEqDiff, ↓reduceIte, if_true, if_false, eq_self, Nat.reduceAdd, Nat.reduceMul, Nat.reduceSub, forall_const, oneCellS, litOne, flat1, Kd.isSca, flat, TYB]
theorem vPairs_sn (L1 : List Int) (e1 c1 : Nat) : PureH Tryz.prog 56 [.slice 0 0 0 c1, .nils] [(0, .ints L1 e1)] (.bool true) := by
  refine pure_of_vc (X := ⟨Tryz.prog, tys, [], [], true, true, 1, [], []⟩) fn_56 ⟨tys_ok, .nil, .nil, mixed⟩ (n0 := 1) (Nat.le_of_ble_eq_true rfl) (by simp [wfL, SV.wf]) (wfH_spec (by simp [wfH, SObj.wf])) (Nat.le_refl _) (fun _ => by simp [SV.wf, wfL]) ?_
  simp -implicitDefEqProofs only [Tryz.f56, Option.getD_some, argS, ZB, Int.reduceToNat, Nat.reduceLT, Nat.reduceLeDiff, Int.reduceLE, Int.reduceLT, Nat.reduceEqDiff, Nat.reduceSub, SB, SV.known, packR, ne_eq, reduceCtorEq, Nat.reduceEqDiff, ↓reduceIte, if_true, if_false, eq_self, Nat.reduceAdd, Nat.reduceMul, Nat.reduceSub, forall_const, oneCellS, litOne, flat1, Kd.isSca, flat, TYB]
  refine loop_intro (fun i : Nat => [(5, .int 0), (0, .slice 0 0 0 c1), (1, .nils)]) (fun _ => [(0, .ints L1 e1)]) 1 (fun i => True) (fun i => 0) ?_ ?_
  · refine ⟨0, ?_, Sub.mk_id ?_ ?_ ?_ ?_ ?_⟩
    all_goals (try (simp only [LB, subS, subH, wfS, wfH, SV.ren, renL, SObj.ren, SV.wf, SObj.wf, wfL, SV.known, Nat.reduceEqDiff, ↓reduceIte, if_true, if_false, eq_self, Nat.reduceAdd, Nat.reduceLT, Nat.reduceLeDiff, implies_true, reduceCtorEq, forall_const]; done))
    all_goals (try (simp only [LB, subS, subH, wfS, wfH, SV.ren, renL, SObj.ren, SV.wf, SObj.wf, wfL, SV.known, Nat.reduceEqDiff, ↓reduceIte, if_true, if_false, eq_self, Nat.reduceAdd, Nat.reduceLT, Nat.reduceLeDiff, implies_true, reduceCtorEq, forall_const]; simp; done))
    all_goals (try (simp only [LB, subS, subH, wfS, wfH, SV.ren, renL, SObj.ren, SV.wf, SObj.wf, wfL, SV.known, Nat.reduceEqDiff, ↓reduceIte, if_true, if_false, eq_self, Nat.reduceAdd, Nat.reduceLT, Nat.reduceLeDiff, implies_true, reduceCtorEq, forall_const]; (and_intros <;> (first | omega | rfl | (simp; done) | (simp; omega))); done))
    all_goals (try dsimp only)
    all_goals (and_intros <;> try (first | omega | (unfold In64; omega) | trivial | assumption))
  · intro i hi
    simp -implicitDefEqProofs only [lk_normal, ZB, Int.reduceToNat, Nat.reduceLT, Nat.reduceLeDiff, Int.reduceLE, Int.reduceLT, Nat.reduceEqDiff, Nat.reduceSub, SB, SV.known, packR, ne_eq, reduceCtorEq, Nat.reduceEqDiff, ↓reduceIte, if_true, if_false, eq_self, Nat.reduceAdd, Nat.reduceMul, Nat.reduceSub, forall_const, oneCellS, litOne, flat1, Kd.isSca, flat, TYB]
theorem vPairs_nn (H : Heap) : PureH Tryz.prog 56 [.nils, .nils] H (.bool true) := by
  refine PureH.any ?_ H
  refine pure_of_vc (X := ⟨Tryz.prog, tys, [], [], true, true, 0, [], []⟩) fn_56 ⟨tys_ok, .nil, .nil, mixed⟩ (n0 := 0) (Nat.le_of_ble_eq_true rfl) (by simp [wfL, SV.wf]) (wfH_spec (by simp [wfH, SObj.wf])) (Nat.le_refl _) (fun _ => by simp [SV.wf, wfL]) ?_
  simp -implicitDefEqProofs only [Tryz.f56, Option.getD_some, argS, ZB, Int.reduceToNat, Nat.reduceLT, Nat.reduceLeDiff, Int.reduceLE, Int.reduceLT, Nat.reduceEqDiff, Nat.reduceSub, SB, SV.known, packR, ne_eq, reduceCtorEq, Nat.reduceEqDiff, ↓reduceIte, if_true, if_false, eq_self, Nat.reduceAdd, Nat.reduceMul, Nat.reduceSub, forall_const, oneCellS, litOne, flat1, Kd.isSca, flat, TYB]
  refine loop_intro (fun i : Nat => [(5, .int 0), (0, .nils), (1, .nils)]) (fun _ => []) 0 (fun i => True) (fun i => 0) ?_ ?_
  · refine ⟨0, ?_, Sub.mk_id ?_ ?_ ?_ ?_ ?_⟩
    all_goals (try (simp only [LB, subS, subH, wfS, wfH, SV.ren, renL, SObj.ren, SV.wf, SObj.wf, wfL, SV.known, Nat.reduceEqDiff, ↓reduceIte, if_true, if_false, eq_self, Nat.reduceAdd, Nat.reduceLT, Nat.reduceLeDiff, implies_true, reduceCtorEq, forall_const]; done))
    all_goals (try (simp only [LB, subS, subH, wfS, wfH, SV.ren, renL, SObj.ren, SV.wf, SObj.wf, wfL, SV.known, Nat.reduceEqDiff, ↓reduceIte, if_true, if_false, eq_self, Nat.reduceAdd, Nat.reduceLT, Nat.reduceLeDiff, implies_true, reduceCtorEq, forall_const]; simp; done))
    all_goals (try (simp only [LB, subS, subH, wfS, wfH, SV.ren, renL, SObj.ren, SV.wf, SObj.wf, wfL, SV.known, Nat.reduceEqDiff, ↓reduceIte, if_true, if_false, eq_self, Nat.reduceAdd, Nat.reduceLT, Nat.reduceLeDiff, implies_true, reduceCtorEq, forall_const]; (and_intros <;> (first | omega | rfl | (simp; done) | (simp; omega))); done))
    all_goals (try dsimp only)
    all_goals (and_intros <;> try (first | omega | (unfold In64; omega) | trivial | assumption))
  · intro i hi
    simp -implicitDefEqProofs only [lk_normal, ZB, Int.reduceToNat, Nat.reduceLT, Nat.reduceLeDiff, Int.reduceLE, Int.reduceLT, Nat.reduceEqDiff, Nat.reduceSub, SB, SV.known, packR, ne_eq, reduceCtorEq, Nat.reduceEqDiff, ↓reduceIte, if_true, if_false, eq_self, Nat.reduceAdd, Nat.reduceMul, Nat.reduceSub, forall_const, oneCellS, litOne, flat1, Kd.isSca, flat, TYB]
def vPairs_F : List SV → Heap → Option (Prop × SV)
  | [.slice a 0 l1 _, .slice b 0 l2 _], H => match hget H a, hget H b with
    | some (.ints L1 _), some (.ints L2 _) => some (a ≠ b ∧ l1 = l2 ∧ l1 * 2 ≤ L1.length ∧ l2 * 2 ≤ L2.length ∧ L1.take (l1 * 2) = L2.take (l2 * 2) ∧ l1 ≤ 4611686018427387903, .bool true)
    | _, _ => none
  | [.nils, .slice b 0 l2 _], H => match hget H b with
    | some (.ints _ _) => some (l2 = 0, .bool true)
    | _ => none
  | [.slice a 0 l1 _, .nils], H => match hget H a with
    | some (.ints _ _) => some (l1 = 0, .bool true)
    | _ => none
  | [.nils, .nils], _ => some (True, .bool true)
  | _, _ => none
theorem vPairs_T : ∀ args H p v, vPairs_F args H = some (p, v) → p → PureH Tryz.prog 56 args H v := by
  intro args H p v h hp
  unfold vPairs_F at h
  split at h
  · rename_i a l1 c1 b l2 c2
    split at h
    · rename_i L1 e1 L2 e2 g1 g2
      cases h
      obtain ⟨hab, rfl, q1, q2, q3, q4⟩ := hp
      have := (vPairs_ok L1 L2 e1 e2 c1 c2 l1 q1 q2 q3 q4).sub (H := H) (fun j => if j = 0 then a else b) (fun j o hj => by
        simp only [hget_cons] at hj
        split at hj
        · rename_i hj0; cases hj; refine ⟨?_, fun _ => by omega, by simp [hj0]⟩; show hget H (if j = 0 then a else b) = _; rw [if_pos hj0]; exact g1
        · rename_i hj0
          split at hj
          · rename_i hj1; cases hj; refine ⟨?_, fun _ => by omega, by simp [hj1]⟩; show hget H (if j = 0 then a else b) = _; rw [if_neg hj0]; exact g2
          · cases hj) (fun x hx y hy he => by
        simp at hx hy
        rcases hx with rfl | rfl <;> rcases hy with rfl | rfl <;> simp at he <;> omega) (fun _ => trivial)
      simpa [renL, SV.ren] using this
    · cases h
  · rename_i b l2 c2
    split at h
    · rename_i L2 e2 g2
      cases h
      subst hp
      exact one_block (vPairs_ns L2 e2 c2) g2 rfl (fun _ => trivial)
    · cases h
  · rename_i a l1 c1
    split at h
    · rename_i L1 e1 g1
      cases h
      subst hp
      exact one_block (vPairs_sn L1 e1 c1) g1 rfl (fun _ => trivial)
    · cases h
  · cases h
    exact vPairs_nn H
  · cases h
/-- Two fresh lists that are alike. -/
theorem vPairs_al {L j j' : List Int} {n : Nat} (h : L.length = n * 2) (hn : n ≤ 4611686018427387903) : n * 2 ≤ (L ++ j).length ∧ n * 2 ≤ (L ++ j').length ∧ List.take (n * 2) (L ++ j) = List.take (n * 2) (L ++ j') ∧ n ≤ 4611686018427387903 :=
  ⟨by rw [List.length_append]; omega, by rw [List.length_append]; omega, by rw [List.take_left' h, List.take_left' h], hn⟩
end Go.Proofs.YtmccafjblhbmkaaGreat
set_option maxRecDepth 100000
set_option linter.unusedSimpArgs false
set_option linter.unusedVariables false
namespace Go.Proofs.YtmccafjblhbmkaaGreat
open Go Go.RowKit
/-- A list of numbers L, len parts of es numbers, whose block (if there is one) lies from lo on and before hi. -/
structure SlA (v : SV) (L : List Int) (len es e lo hi : Nat) (H : Heap) : Prop where
  kn : v.known = true
  oc : oneCellS v = true
  ln : L.length = len * es
  at_ : (v = .nils ∧ len = 0) ∨ ∃ (b cap : Nat) (junk : List Int), v = .slice b 0 len cap ∧ lo ≤ b ∧ b < hi ∧ hget H b = some (.ints (L ++ junk) e)
theorem SlA.up {v : SV} {L : List Int} {len es e lo hi : Nat} {H H' : Heap} (h : SlA v L len es e lo hi H) (hf : ∀ i o, i < hi → hget H i = some o → hget H' i = some o) : SlA v L len es e lo hi H' :=
  ⟨h.kn, h.oc, h.ln, by
    rcases h.at_ with h1 | ⟨b, cap, junk, h1, h2, h3, h4⟩
    · exact .inl h1
    · exact .inr ⟨b, cap, junk, h1, h2, h3, hf _ _ h3 h4⟩⟩
theorem SlA.wk {v : SV} {L : List Int} {len es e lo hi lo' hi' : Nat} {H : Heap} (h : SlA v L len es e lo hi H) (h1 : lo' ≤ lo) (h2 : hi ≤ hi') : SlA v L len es e lo' hi' H :=
  ⟨h.kn, h.oc, h.ln, by
    rcases h.at_ with h3 | ⟨b, cap, junk, g1, g2, g3, g4⟩
    · exact .inl h3
    · exact .inr ⟨b, cap, junk, g1, by omega, by omega, g4⟩⟩
theorem SlA.wfv {v : SV} {L : List Int} {len es e lo hi n : Nat} {H : Heap} (h : SlA v L len es e lo hi H) (h2 : hi ≤ n) : v.wf n := by
  rcases h.at_ with ⟨rfl, _⟩ | ⟨b, cap, junk, rfl, g2, g3, g4⟩
  · trivial
  · show b < n; omega
theorem SlA.len {v : SV} {L : List Int} {len es e lo hi : Nat} {H0 : Heap} (h : SlA v L len es e lo hi H0) (e' s b : Nat) (z : SV) (H : Heap) (n : Nat) (κ : K1) : lenVC ⟨.sl e', s, b, z⟩ v H n κ = κ (.int (len : Int)) H n := by
  rcases h.at_ with ⟨rfl, rfl⟩ | ⟨b, cap, junk, rfl, g2, g3, g4⟩ <;> rfl
theorem freshK_sl {wr : Wrap} {L : List Int} {len es e : Nat} {nl : Bool} {H : Heap} {n : Nat} {κ : K1} (hw : hwf n H) (hl : L.length = len * es) (hes : 0 < es)
    (h : ∀ v H' n', SlA v L len es e n n' H' → Kpt n H H' n' → κ (wr.ap v) H' n') : freshK wr L len es e nl H n κ := by
  refine freshK_of (fun h0 => h _ _ _ ⟨rfl, rfl, hl, .inl ⟨rfl, ?_⟩⟩ ⟨Nat.le_refl _, hw, fun _ _ _ h => h⟩) fun cap junk hj => h _ _ _ ⟨rfl, rfl, hl, .inr ⟨n, cap, junk, rfl, Nat.le_refl _, Nat.lt_succ_self _, by simp [hget_cons]⟩⟩
    ⟨Nat.le_succ _, hwf_cons (hwf_mono (Nat.le_succ _) hw) (Nat.lt_succ_self _) trivial, fun i o hi ho => by rw [hget_cons, if_neg (by omega)]; exact ho⟩
  rw [h0] at hl
  rcases Nat.eq_zero_or_pos len with h1 | h1
  · exact h1
  · have := Nat.mul_pos h1 hes
    simp at hl; omega
theorem Kpt.trans {n n1 n2 : Nat} {H H1 H2 : Heap} (h : Kpt n H H1 n1) (h' : Kpt n1 H1 H2 n2) : Kpt n H H2 n2 := ⟨Nat.le_trans h.le h'.le, h'.wf, fun i o hi ho => h'.fr i o (by have := h.le; omega) (h.fr i o hi ho)⟩
theorem Kpt.push {n n1 : Nat} {H H1 : Heap} (h : Kpt n H H1 n1) {L : List Int} {e : Nat} : Kpt n H ((n1, .ints L e) :: H1) (n1 + 1) :=
  ⟨by have := h.le; omega, hwf_cons (hwf_mono (Nat.le_succ _) h.wf) (Nat.lt_succ_self _) trivial, fun i o hi ho => by rw [hget_cons, if_neg (by have := h.le; omega)]; exact h.fr i o hi ho⟩
theorem Kpt.put {n n1 b : Nat} {H H1 : Heap} (h : Kpt n H H1 n1) (hb : n ≤ b ∧ b < n1) {L : List Int} {e : Nat} : Kpt n H ((b, .ints L e) :: H1) n1 :=
  ⟨h.le, hwf_cons h.wf hb.2 trivial, fun i o hi ho => by rw [hget_cons, if_neg (by omega)]; exact h.fr i o hi ho⟩
theorem Kpt.refl {n : Nat} {H : Heap} (h : hwf n H) : Kpt n H H n := ⟨Nat.le_refl _, h, fun _ _ _ h => h⟩
theorem vP_use {v w : SV} {L : List Int} {len e e' lo hi lo' hi' : Nat} {H : Heap} (h1 : SlA v L len 2 e lo hi H) (h2 : SlA w L len 2 e' lo' hi' H) (hh : hi ≤ lo') (hn : len ≤ 4611686018427387903) : ∃ P, vPairs_F [v, w] H = some (P, .bool true) ∧ P = True := by
  rcases h1.at_ with ⟨rfl, h0⟩ | ⟨b, cap, junk, rfl, b1, b2, g1⟩ <;> rcases h2.at_ with ⟨rfl, h0'⟩ | ⟨b', cap', junk', rfl, b3, b4, g2⟩
  · exact ⟨_, rfl, rfl⟩
  · refine ⟨_, by simp only [vPairs_F, g2], eq_true h0⟩
  · refine ⟨_, by simp only [vPairs_F, g1], eq_true h0'⟩
  · have e : vPairs_F [.slice b 0 len cap, .slice b' 0 len cap'] H = some ((b ≠ b' ∧ len = len ∧ len * 2 ≤ (L ++ junk).length ∧ len * 2 ≤ (L ++ junk').length ∧ (L ++ junk).take (len * 2) = (L ++ junk').take (len * 2) ∧ len ≤ 4611686018427387903), .bool true) := by simp only [vPairs_F, g1, g2]
    exact ⟨_, e, eq_true ⟨by omega, rfl, vPairs_al h1.ln hn⟩⟩
end Go.Proofs.YtmccafjblhbmkaaGreat
set_option maxRecDepth 100000
set_option linter.unusedSimpArgs false
set_option linter.unusedVariables false
namespace Go.Proofs.YtmccafjblhbmkaaGreat
open Go Go.RowKit
section
variable {P : Program} {τ : Tys} {B : Nat → Nat} {M : Nat → Prop} {m n : Nat} {w : World} {H : Heap} {κ : K1}
def byV (L : List Int) : List SV := L.map fun x => .lit (.int .u8 x)
def byC (L : List Int) : Array Value := (L.map (Value.int .u8)).toArray
theorem byV_den (B : Nat → Nat) (L : List Int) (e : Nat) : (SObj.cells (byV L) e).den B = .cells (byC L) e (0, 0) := by
  simp [SObj.den, byV, byC, denL_map, SV.den, Function.comp_def]
theorem byV_wf (n : Nat) (L : List Int) (e : Nat) : (SObj.cells (byV L) e).wf n := by
  simp only [SObj.wf]
  rw [wfL_iff]
  intro v hv
  obtain ⟨x, _, rfl⟩ := List.mem_map.1 hv
  trivial
theorem zero_u8 (k : Nat) : Builtin.zeroCells ([Value.int .u8 0].toArray) k = byC (List.replicate k 0) := by
  unfold Builtin.zeroCells byC
  apply Array.ext'
  simp only [Array.toList_map, Array.toList_range, List.size_toArray, List.length_cons, List.length_nil, Nat.zero_add, Nat.mod_one, List.map_replicate]
  rw [List.eq_replicate_iff]
  refine ⟨by simp, fun b hb => ?_⟩
  obtain ⟨i, _, rfl⟩ := List.mem_map.1 hb
  rfl
/-- What is known of the type of bytes. -/
structure U8 (τ : Tys) (e : Nat) : Prop where
  k : (τ e).k ≠ .other
  z : (τ e).z = .lit (.int .u8 0)
  size : (τ e).size = 1
  bytes : (τ e).bytes = 1
theorem appU_sound {t ty e : TypeId} {x : SV} {a : Addr} {k c b len : Nat} {L news : List Int} (hτ : TysOK P τ) (hu : U8 τ e) (hk : (τ t).k = .sl e) (hH : HR B H w) (hw : hwf n H) (hown : Own M m B H) (hM : M w.heap.size)
    (hg : hget H b = some (.cells (byV L) e)) (hm : m ≤ b) (hlc : len ≤ L.length) (hx : x.den B = .slice (some a) k c) (hk0 : 0 < k) (hnl : news.length = k) (hnews : ∀ j u, (news.map (Value.int .u8))[j]? = some u → w.cell? (a.add j) = some u) (hsz : len + k ≤ 140737488355328)
    (hκ : ∀ junk : List Int, κ (.slice n 0 (len + k) (len + k + junk.length)) ((n, .cells (byV (L.take len ++ news ++ junk)) e) :: (b, .dead) :: H) (n + 1)) :
    EffRes P B M m n w (do pure (.value (← Builtin.append_ ([t, t].toArray) ty ([(SV.slice b 0 len L.length).den B, x.den B].toArray)))) κ := by
  obtain ⟨i, hi, his, hib, hzi⟩ := ty_info hτ hu.k
  rw [hu.size] at his
  rw [hu.bytes] at hib
  have hzi' := hzi (by rw [hu.z]; rfl)
  rw [hu.z] at hzi'
  have hsl := und_sl hτ hk
  have hb := hH.at_ b _ hg rfl
  have hb : w.heap[B b]? = some (.cells (byC L) e (0, 0)) := by rw [← byV_den B]; exact hb
  rw [hx]
  simp only [SV.den]
  by_cases hroom : len + k ≤ L.length
  · have hr := run_append_room (P := P) w t ty e i hsl hi (B b) len L.length (byC L) hb a k c (news.map (Value.int .u8)) (by simp [hnl, his]) hnews (by intro u hu; simp at hu; obtain ⟨x, _, rfl⟩ := hu; rfl) hroom (by rw [his]; simp [hnl, byC]; omega)
    have e1 : (((byC L).toList.take (len * i.size) ++ news.map (Value.int .u8) ++ (byC L).toList.drop (len * i.size + (news.map (Value.int .u8)).length)).toArray) = byC (L.take len ++ news ++ L.drop (len + k)) := by
      rw [his]; simp [byC, hnl, List.map_take, List.map_drop]
    rw [e1] at hr
    have hlen : len + k + (L.drop (len + k)).length = L.length := by rw [List.length_drop]; omega
    have h6 := hκ (L.drop (len + k))
    rw [hlen] at h6
    refine ⟨_, _, n + 1, upd B n (B b), .slice (some ⟨B b, 0, none⟩) (len + k) L.length, _, h6, by omega, by simp [SV.wf], ?_, upd_lt _ _ _, HR.move (cs := byC (L.take len ++ news ++ L.drop (len + k))) hH hw hg rfl hb (byV_den _ _ _) rfl, Kept.setRow w _ _ (hown b _ hg rfl hm), ?_, fun _ => by simp [SV.den, upd_self], .inl (by simp [hr])⟩
    · exact hwf_cons (hwf_cons (hwf_mono (by omega) hw) (by have := (hw b _ hg).1; omega) trivial) (by omega) (byV_wf _ _ _)
    · exact Own.new (hown.kill b) (hwf_cons hw (hw b _ hg).1 trivial) (hown b _ hg rfl hm)
  · have holds : ∀ j u, ((L.take len).map (Value.int .u8))[j]? = some u → w.cell? ((⟨B b, 0, none⟩ : Addr).add j) = some u := by
      intro j u hj
      rw [add_addr]
      refine cell_at hb ?_
      have hjl : j < len := by
        rcases Nat.lt_or_ge j len with h | h
        · exact h
        · rw [List.getElem?_eq_none (by simp; omega)] at hj; cases hj
      rw [List.getElem?_map, List.getElem?_take, if_pos hjl] at hj
      rw [Nat.zero_add]
      simpa [byC] using hj
    have hr := run_append_grow (P := P) w t ty e i _ hsl hi hzi' ⟨B b, 0, none⟩ len L.length ((L.take len).map (Value.int .u8)) (by simp [his]; omega) holds a k c (news.map (Value.int .u8)) (by simp [hnl, his]) hnews (by omega) (by omega) (by rw [hib]; exact growslice_fits (by omega) (by omega))
    have hc := grownCap_ge w (len + k) L.length e
    have e1 : ((L.take len).map (Value.int .u8)).toArray ++ (news.map (Value.int .u8)).toArray ++ Builtin.zeroCells (Value.cells ((SV.lit (.int .u8 0)).den fun _ => 0)) (grownCap w (len + k) L.length e - (len + k)) = byC (L.take len ++ news ++ List.replicate (grownCap w (len + k) L.length e - (len + k)) 0) := by
      have hzc : Value.cells ((SV.lit (.int .u8 0)).den fun _ => 0) = ([Value.int .u8 0].toArray) := rfl
      rw [hzc, zero_u8]; simp [byC, List.map_take]
    rw [e1] at hr
    have hlen : len + k + (List.replicate (grownCap w (len + k) L.length e - (len + k)) (0 : Int)).length = grownCap w (len + k) L.length e := by
      rw [List.length_replicate]; omega
    have h6 := hκ (List.replicate (grownCap w (len + k) L.length e - (len + k)) 0)
    rw [hlen] at h6
    refine res_new (o := .cells (byV (L.take len ++ news ++ List.replicate (grownCap w (len + k) L.length e - (len + k)) 0)) e) (x := .slice (some ⟨w.heap.size, 0, none⟩) (len + k) (grownCap w (len + k) L.length e)) (hH.kill b) (hwf_cons hw (hw b _ hg).1 trivial) (hown.kill b) hM rfl rfl (byV_wf _ _ _) h6 (by simp [SV.wf]) (by simp [SV.den, upd_self]) (w.drew.alloc (.cells (byC (L.take len ++ news ++ List.replicate (grownCap w (len + k) L.length e - (len + k)) 0)) e)) (by rw [byV_den]; rfl) ((Kept.drew w).trans (Kept.alloc _ _)) (by simp [hr])
/-- Nothing is appended. -/
theorem appE_sound {t ty e : TypeId} {x : SV} {b len cap : Nat} (hτ : TysOK P τ) (hu : U8 τ e) (hk : (τ t).k = .sl e) (hH : HR B H w) (hw : hwf n H) (hown : Own M m B H) (hs : (SV.slice b 0 len cap).wf n) (hlc : len ≤ cap)
    (hx0 : (∃ a c, x.den B = .slice (some a) 0 c) ∨ x.den B = .slice none 0 0) (hκ : κ (.slice b 0 len cap) H n) :
    EffRes P B M m n w (do pure (.value (← Builtin.append_ ([t, t].toArray) ty ([(SV.slice b 0 len cap).den B, x.den B].toArray)))) κ := by
  have hsl := und_sl hτ hk
  have hfc : ∀ w', (Builtin.firstCells (τ e).size 0 (x.den B)).run P w' = .ok ([].toArray) w' := fun w' => by
    rcases hx0 with ⟨a, c, e⟩ | e <;> rw [e] <;> simp [Builtin.firstCells, loadCells, loadCellsFrom]
  have hlo : ∀ w', (Builtin.lenOf (x.den B)).run P w' = .ok 0 w' := fun w' => by
    rcases hx0 with ⟨a, c, e⟩ | e <;> rw [e] <;> simp [Builtin.lenOf]
  refine ⟨.slice b 0 len cap, H, n, B, .slice (some ⟨B b, 0, none⟩) len cap, w, hκ, Nat.le_refl _, hs, hw, fun _ _ => rfl, hH, Kept.refl _ _, hown, fun _ => rfl, .inl ?_⟩
  simp [SV.den, Builtin.append_, run_underlying hsl, run_info hτ hu.k, hlo, hfc, hlc, storeCells]
theorem bs0_sound {t e : TypeId} (hτ : TysOK P τ) (hu : U8 τ e) (hk : (τ t).k = .sl e) (hH : HR B H w) (hw : hwf n H) (hown : Own M m B H) (hM : M w.heap.size) (hκ : κ (.slice n 0 0 0) ((n, .cells (byV []) e) :: H) (n + 1)) :
    EffRes P B M m n w (do pure (.value (← Instr.buildSlice t 0 ([].toArray)))) κ := by
  refine res_new (o := .cells (byV []) e) (x := .slice (some ⟨w.heap.size, 0, none⟩) 0 0) hH hw hown hM rfl rfl (byV_wf _ _ _) hκ (by simp [SV.wf]) (by simp [SV.den, upd_self]) (w.alloc (.cells ([].toArray) e)) (by rw [byV_den]; rfl) (Kept.alloc _ _) ?_
  have hr0 : ∀ f : Nat → Value, (Array.range 0).map f = ([].toArray) := fun f => by apply Array.ext'; simp
  simp [hr0, Instr.buildSlice, Sem.run_bind, run_underlying (und_sl hτ hk), run_info hτ hu.k, hu.size, run_newRow', Instr.fill]
theorem bs1_sound {t e : TypeId} {y : Int} (hτ : TysOK P τ) (hu : U8 τ e) (hk : (τ t).k = .sl e) (hH : HR B H w) (hw : hwf n H) (hown : Own M m B H) (hM : M w.heap.size) (hκ : κ (.slice n 0 1 1) ((n, .cells (byV [y]) e) :: H) (n + 1)) :
    EffRes P B M m n w (do pure (.value (← Instr.buildSlice t 1 ([(0, .int .u8 y)].toArray)))) κ := by
  refine res_new (o := .cells (byV [y]) e) (x := .slice (some ⟨w.heap.size, 0, none⟩) 1 1) hH hw hown hM rfl rfl (byV_wf _ _ _) hκ (by simp [SV.wf]) (by simp [SV.den, upd_self]) (w.alloc (.cells ([.int .u8 y].toArray) e)) (by rw [byV_den]; rfl) (Kept.alloc _ _) ?_
  obtain ⟨i, hi, his, hib, hzi⟩ := ty_info hτ hu.k
  have hz' := hzi (by rw [hu.z]; rfl)
  rw [hu.z] at hz'
  have hz : (zeroValue e).run P w = .ok (.int .u8 0) w := by simp [zeroValue, typeInfo, hi, hz', SV.den]
  have hrow : Builtin.zeroCells ([Value.int .u8 0].toArray) 1 = ([Value.int .u8 0].toArray) := by rw [zero_u8]; rfl
  have hrow : ([Value.int .u8 0].toArray) = (Array.range 1).map (fun i => ([Value.int .u8 0].toArray)[i % ([Value.int .u8 0].toArray).size]!) := by
    apply Array.ext'
    simp only [Array.toList_map, Array.toList_range, List.size_toArray, List.length_cons, List.length_nil, Nat.zero_add, Nat.mod_one]
    rfl
  have hf : Instr.fill (fun i => some (i * 1, 1)) ([Value.int .u8 0].toArray) [(0, Value.int .u8 y)] = some ([Value.int .u8 y].toArray) := by rfl
  have hzc : Value.cells (Value.int .u8 0) = ([Value.int .u8 0].toArray) := rfl
  have h1 : ¬ (1 * 1 > 2 ^ 24) := by simp
  have h2 : ¬ (1 * 1 = 0) := by simp
  simp only [Instr.buildSlice, Sem.run_bind, run_underlying (und_sl hτ hk), Result.andThen_ok, run_info hτ hu.k, hu.size, h1, h2, if_false, hz, Sem.run_pure, hzc, ← hrow, hf, run_newRow']
end
end Go.Proofs.YtmccafjblhbmkaaGreat
set_option maxRecDepth 100000
set_option linter.unusedSimpArgs false
set_option linter.unusedVariables false
namespace Go.Proofs.YtmccafjblhbmkaaGreat
open Go Go.RowKit
section
variable {X : Cx} {N p : Nat} {M : Nat → Prop} {S : Env} {H : Heap} {n : Nat} {B : Nat → Nat} {a : Act} {w : World} {κ : K1} {o : Oper} {rest : List Oper} {Q : Exit → Act → World → Prop}
theorem ops_eff (all : Array Oper) (hd : dstsOK N (o :: rest) = true) (hgd : o.guard = none) (hg : Gs X N p M S H n B a w) (he : EffRes X.P B M X.m n w (execOp a.eval o) κ)
    (hK : ∀ v H' n' B' a' w', κ v H' n' → Gs X N p M (sput S o.dst v) H' n' B' a' w' → Rel p M B w B' w' → wpList X.P all Q rest a' w') : wpList X.P all Q (o :: rest) a w := by
  obtain ⟨v, H', n', B', x, w', g1, g2, g3, g4, g5, g6, g7, g8, g9, g10⟩ := he
  obtain ⟨hg', hr⟩ := hg.put o.dst (dstsOK_head hd) (⟨g2, g3, g4, g5, g6, g8, g7⟩ : Aft B M X.m n w v H' n' B' w') g9
  have := hK v H' n' B' _ w' g1 hg' hr
  unfold wpList
  rw [if_pos (by simp [Region.wanted, hgd])]
  left
  unfold Oper.wp
  rcases g10 with g10 | ⟨g10, rfl⟩ <;> rw [g10] <;> exact this
theorem ops_norm (hX : CxOK X) (all : Array Oper) {q : Bool} (hd : dstsOK N (o :: rest) = true) (hgd : o.guard = none) (hg : Gs X N p M S H n B a w) (h : opVC X q o.op S H n κ)
    (hK : ∀ v H' n' B' a' w', κ v H' n' → Gs X N p M (sput S o.dst v) H' n' B' a' w' → Rel p M B w B' w' → wpList X.P all Q rest a' w') : wpList X.P all Q (o :: rest) a w := by
  unfold wpList
  rw [if_pos (by simp [Region.wanted, hgd])]
  left
  refine op_sound hX hg.sr hg.swf hg.hr hg.hwf hg.own hg.new h fun v H' n' B' w' x hκ ha hx => ?_
  obtain ⟨hg', hr⟩ := hg.put o.dst (dstsOK_head hd) ha hx
  exact hK v H' n' B' _ w' hκ hg' hr
theorem exec_app {P : Program} {m : Nat} {c : Call} {t : TypeId} {s x : Value} (ho : o.op = .call c) (hb : c.callee = .builtin .append) (hm : c.args.map a.eval = ([s, x].toArray)) (hts : c.argTypes = ([t, t].toArray))
    (h : EffRes P B M m n w (do pure (.value (← Builtin.append_ ([t, t].toArray) o.type ([s, x].toArray)))) κ) : EffRes P B M m n w (execOp a.eval o) κ := by
  obtain ⟨v, H', n', B', xx, w', g1, g2, g3, g4, g5, g6, g7, g8, g9, g10⟩ := h
  refine ⟨v, H', n', B', xx, w', g1, g2, g3, g4, g5, g6, g7, g8, g9, ?_⟩
  unfold execOp
  simp only [ho, resolve, hb, hm]
  rcases g10 with g10 | g10
  · refine .inl ?_
    simp only [Sem.run_bind] at g10
    simp [invoke, builtin, hts]
    exact g10
  · refine .inr ⟨?_, g10.2⟩
    have g10 := g10.1
    simp only [Sem.run_bind] at g10
    simp [invoke, builtin, hts]
    exact g10
theorem exec_bs {P : Program} {m : Nat} {t : TypeId} {len : Nat} {parts : Array (Nat × Operand)} {vs : Array (Nat × Value)} (ho : o.op = .buildSlice t len parts) (hv : (parts.map fun (x : Nat × Operand) => (x.1, a.eval x.2)) = vs)
    (h : EffRes P B M m n w (do pure (.value (← Instr.buildSlice t len vs))) κ) : EffRes P B M m n w (execOp a.eval o) κ := by
  unfold execOp
  simp only [ho, hv]
  exact h
end
end Go.Proofs.YtmccafjblhbmkaaGreat
set_option maxRecDepth 100000
set_option linter.unusedSimpArgs false
set_option linter.unusedVariables false
namespace Go.Proofs.YtmccafjblhbmkaaGreat
open Go Go.RowKit
theorem run_of_wp {X : Cx} {f : FuncId} {fn : Func} {c : Code} (hf : FnOK X.P f fn c X.sx X.hr) (hX : CxOK X) {p n0 : Nat} {args : List SV} {H0 : Heap} {κ : K1} (hN : args.length ≤ fn.ntmps) (hwa : wfL n0 args) (hwH : hwf n0 H0) (hp : p ≤ n0)
    (B : Nat → Nat) (M : Nat → Prop) (w : World) (hH : HR B H0 w) (hown : Own M X.m B H0) (hM : ∀ i, w.heap.size ≤ i → M i)
    (h : ∀ (a : Act) (Q : Exit → Act → World → Prop), Gs X fn.ntmps p M (argS 0 args) H0 n0 B a w → (∀ S' H' n' B' a' w', resVC X.τ S' H' n' κ fn.results.toList [] → Gs X fn.ntmps p M S' H' n' B' a' w' → Rel p M B w B' w' → Q .ret a' w') → c.wp X.P Q a w) :
    Calls X.P f (denL B args).toArray w fun e w' => ∃ v H' n' B', e = .returned (v.den B') ∧ κ v H' n' ∧ v.wf n' ∧ hwf n' H' ∧ HR B' H' w' ∧ Own M X.m B' H' ∧ Kept M w w' ∧ (∀ k, k < p → B' k = B k) ∧ p ≤ n' := by
  refine calls_of_wp hf.get hf.body ?_
  have hlen : (denL B args).toArray.size = args.length := by simp
  have hg : Gs X fn.ntmps p M (argS 0 args) H0 n0 B { tmps := (denL B args).toArray ++ Array.replicate (fn.ntmps - (denL B args).toArray.size) undef, defers := [] } w := by
    refine ⟨⟨by simp; omega, rfl, fun t v hl hk => ?_⟩, fun t v hl => ?_, hH, hwH, hown, hM, hp⟩
    · rw [argS_lookup] at hl
      simp at hl
      have ht : t < args.length := (List.getElem?_eq_some_iff.1 hl).1
      rw [Array.getElem?_append_left (by simpa using ht)]
      simp [denL_map, hl]
    · rw [argS_lookup] at hl
      simp at hl
      exact (wfL_iff n0 args).1 hwa v (List.mem_of_getElem? hl)
  refine h _ _ hg fun S' H' n' B' a' w' k g r => ?_
  obtain ⟨l, h1, h2, h3, h4⟩ := res_sound (P := X.P) hX.τ g.sr g.swf g.hr g.hwf _ [] k (by simp)
  have := results_run (fn := fn) h4 (by simpa using h1)
  refine ⟨g.sr.df, _, this, packR l, H', n', B', ?_, by simpa using h2, wf_packR fun v hv => (h3 v hv).1, g.hwf, g.hr, g.own, r.kept, r.ag, g.p⟩
  rw [den_packR]
/-- A slice's room is not less than its length. -/
def capOK : SV → Prop
  | .slice _ _ len cap => len ≤ cap
  | _ => True
/-- What is known of the code and the number of bytes that go. -/
def CutV (cv : SV) (H : Heap) (j : Nat) : Prop := (cv = .nils ∧ j = 0) ∨ ∃ (kc off len cap : Nat) (L : List Int), cv = .slice kc off len cap ∧ hget H kc = some (.winU off L) ∧ L.length = len ∧ len ≤ 1000000000 ∧ (∀ x ∈ L, 0 ≤ x ∧ x ≤ 255) ∧ len ≤ cap ∧ j ≤ len ∧ (j = 0 → len = 0)
/-- What comes of the cut. -/
def CutR (n : Nat) (H : Heap) (v : SV) (H' : Heap) (n' : Nat) : Prop := ∃ (b len : Nat) (L : List Int), v = .slice b 0 len L.length ∧ n ≤ b ∧ hget H' b = some (.cells (byV L) 5) ∧ len ≤ L.length ∧ len ≤ 1000000000 ∧ (∀ x ∈ L.take len, 0 ≤ x ∧ x ≤ 255) ∧ n ≤ n' ∧ ∀ i o, i < n → hget H i = some o → hget H' i = some o
theorem u8_tys : U8 tys 5 := ⟨fun h => (nomatch (show Kd.num .u8 = Kd.other from h)), rfl, rfl, rfl⟩
section
variable {X : Cx} {N p : Nat} {M : Nat → Prop} {S : Env} {H : Heap} {n : Nat} {B : Nat → Nat} {a : Act} {w : World}
/-- The middle state: what is left of the code lies in a block of its own. -/
def CutM (n : Nat) (H : Heap) (k : Nat) (v : SV) (H' : Heap) (n' : Nat) : Prop := ∃ (b : Nat) (L : List Int), v = .slice b 0 k L.length ∧ n ≤ b ∧ hget H' b = some (.cells (byV L) 5) ∧ k ≤ L.length ∧ (∀ x ∈ L.take k, 0 ≤ x ∧ x ≤ 255) ∧ n ≤ n' ∧ ∀ i o, i < n → hget H i = some o → hget H' i = some o
theorem fnx_vCut : FnOK Tryz.prog 11 Tryz.f11 (Tryz.f11.body.getD .skip) [] [] := ⟨Tryz.func11, rfl, by kernel_rfl, by kernel_rfl⟩
theorem win_src {kc off j k : Nat} {L : List Int} (hH : HR B H w) (hg : hget H kc = some (.winU off L)) (hk : j + k ≤ L.length) : ∀ i u, (((L.drop j).take k).map (Value.int .u8))[i]? = some u → w.cell? ((⟨B kc, off + j, none⟩ : Addr).add i) = some u := by
  obtain ⟨c, e, fz, h1, h2⟩ := hH.at_ kc _ hg rfl
  intro i u hu
  rw [add_addr]
  refine cell_at h1 ?_
  have hi : i < k := by
    rcases Nat.lt_or_ge i k with h | h
    · exact h
    · rw [List.getElem?_eq_none (by simp; omega)] at hu; cases hu
  have h3 := h2 (j + i) (by omega)
  rw [List.getElem?_map, List.getElem?_take, if_pos hi, List.getElem?_drop, List.getElem?_eq_getElem (by omega)] at hu
  rw [List.getD_eq_getElem?_getD, List.getElem?_eq_getElem (by omega)] at h3
  rw [Nat.add_assoc, h3]
  simpa using hu
theorem byt_src {b e : Nat} {y : Int} (hH : HR B H w) (hg : hget H b = some (.cells (byV [y]) e)) : ∀ i u, ([y].map (Value.int .u8))[i]? = some u → w.cell? ((⟨B b, 0, none⟩ : Addr).add i) = some u := by
  have hb := hH.at_ b _ hg rfl
  have hb : w.heap[B b]? = some (.cells (byC [y]) e (0, 0)) := by rw [← byV_den B]; exact hb
  intro i u hu
  rw [add_addr]
  refine cell_at hb ?_
  rw [Nat.zero_add]
  simpa [byC] using hu
/-- What is left of the code is laid into a new block. -/
theorem cut_app {P : Program} {ty : TypeId} {k j m : Nat} {x : SV} (hτ : TysOK P tys) {H0 : Heap} {n0 : Nat} (hH : HR B ((n0, .cells (byV []) 5) :: H0) w) (hw0 : hwf n0 H0) (hown : Own M m B ((n0, .cells (byV []) 5) :: H0)) (hM : M w.heap.size) (hm : m ≤ n0)
    (hc : (k = 0 ∧ (x = .nils ∨ ∃ b o c, x = .slice b o 0 c)) ∨ (0 < k ∧ ∃ (kc off c : Nat) (L : List Int), x = .slice kc (off + j) k c ∧ hget H0 kc = some (.winU off L) ∧ j + k = L.length ∧ (∀ x ∈ L, 0 ≤ x ∧ x ≤ 255) ∧ k ≤ 1000000000)) :
    EffRes P B M m (n0 + 1) w (do pure (.value (← Builtin.append_ ([22, 22].toArray) ty ([(SV.slice n0 0 0 0).den B, x.den B].toArray)))) (fun v H' n' => CutM n0 H0 k v H' n') := by
  have hw : hwf (n0 + 1) ((n0, .cells (byV []) 5) :: H0) := hwf_cons (hwf_mono (by omega) hw0) (by omega) (byV_wf _ _ _)
  have fr0 : ∀ i o, i < n0 → hget H0 i = some o → hget ((n0, SObj.cells (byV []) 5) :: H0) i = some o := fun i o hi ho => by rw [hget_cons, if_neg (by omega)]; exact ho
  rcases hc with ⟨rfl, hx⟩ | ⟨hk, kc, off, c, L, rfl, hg, hl, hb, hk9⟩
  · refine appE_sound (e := 5) hτ u8_tys rfl hH hw hown (by simp [SV.wf]) (Nat.le_refl 0) ?_ ?_
    · rcases hx with rfl | ⟨b, o, c, rfl⟩
      · exact .inr rfl
      · exact .inl ⟨_, _, rfl⟩
    · exact ⟨n0, [], rfl, Nat.le_refl _, by simp [hget_cons], Nat.zero_le _, fun x hx => by simp at hx, by omega, fr0⟩
  · have hkc := (hw0 _ _ hg).1
    have hl2 : ((L.drop j).take k).length = k := by rw [List.length_take, List.length_drop]; omega
    refine appU_sound (e := 5) (L := []) (news := (L.drop j).take k) (k := k) hτ u8_tys rfl hH hw hown hM (b := n0) (by simp [hget_cons]) hm (Nat.le_refl 0) rfl hk hl2 (win_src hH (fr0 _ _ hkc hg) (by omega)) (by omega) fun junk => ?_
    have e1 : (0 : Nat) + k = k := Nat.zero_add k
    rw [e1]
    refine ⟨n0 + 1, (L.drop j).take k ++ junk, ?_, by omega, by simp [hget_cons], by rw [List.length_append]; omega, fun x hx => ?_, by omega, fun i o hi ho => ?_⟩
    · rw [List.length_append, hl2]
    · rw [List.take_left' hl2] at hx
      exact hb x (List.mem_of_mem_drop (List.mem_of_mem_take hx))
    · rw [hget_cons, if_neg (by omega), hget_cons, if_neg (by omega)]
      exact fr0 i o hi ho
/-- One byte is laid behind. -/
theorem cut_one {P : Program} {ty : TypeId} {k m b b2 : Nat} {y : Int} {L : List Int} (hτ : TysOK P tys) {H0 H1 : Heap} {n0 n1 : Nat} (hH : HR B H1 w) (hw : hwf n1 H1) (hown : Own M m B H1) (hM : M w.heap.size) (hm : m ≤ n0) (hb : n0 ≤ b) (hn : n0 ≤ n1)
    (hg : hget H1 b = some (.cells (byV L) 5)) (hlc : k ≤ L.length) (hbs : ∀ x ∈ L.take k, 0 ≤ x ∧ x ≤ 255) (hg2 : hget H1 b2 = some (.cells (byV [y]) 5)) (hy : 0 ≤ y ∧ y ≤ 255) (hk9 : k + 1 ≤ 1000000000) (hfr : ∀ i o, i < n0 → hget H0 i = some o → hget H1 i = some o) :
    EffRes P B M m n1 w (do pure (.value (← Builtin.append_ ([22, 22].toArray) ty ([(SV.slice b 0 k L.length).den B, (SV.slice b2 0 1 1).den B].toArray)))) (fun v H' n' => CutR n0 H0 v H' n') := by
  refine appU_sound (e := 5) (L := L) (news := [y]) (k := 1) hτ u8_tys rfl hH hw hown hM (b := b) hg (by omega) hlc rfl (by omega) rfl (byt_src hH hg2) (by omega) fun junk => ?_
  have hl : (L.take k ++ [y]).length = k + 1 := by rw [List.length_append, List.length_take]; simp; omega
  refine ⟨n1, k + 1, L.take k ++ [y] ++ junk, ?_, hn, by simp [hget_cons], by rw [List.length_append]; omega, hk9, fun x hx => ?_, by omega, fun i o hi ho => ?_⟩
  · rw [List.length_append, hl]
  · rw [List.take_left' hl] at hx
    rcases List.mem_append.1 hx with hx | hx
    · exact hbs x hx
    · simp at hx; subst hx; exact hy
  · rw [hget_cons, if_neg (by omega), hget_cons, if_neg (by omega)]
    exact hfr i o hi ho
end
theorem HR.win {B : Nat → Nat} {H : Heap} {w : World} {b len e : Nat} {L : List Int} (h : HR B H w) (hg : hget H b = some (.cells (byV L) e)) (hl : len ≤ L.length) : HR B ((b, .winU 0 (L.take len)) :: H) w := by
  have hb := h.at_ b _ hg rfl
  have hb : w.heap[B b]? = some (.cells (byC L) e (0, 0)) := by rw [← byV_den B]; exact hb
  refine ⟨fun k o ho hk => ?_, fun k j o1 o2 h1 h2 h3 h4 he => ?_⟩
  · rw [hget_cons] at ho
    split at ho
    · rename_i hkb
      subst hkb
      cases ho
      refine ⟨_, _, _, hb, fun i hi => ?_⟩
      have hi2 : i < len ∧ i < L.length := by rw [List.length_take] at hi; omega
      rw [Nat.zero_add, List.getD_eq_getElem?_getD, List.getElem?_take, if_pos hi2.1, List.getElem?_eq_getElem hi2.2]
      simp [byC, List.getElem?_eq_getElem hi2.2]
    · exact h.at_ k o ho hk
  · rw [hget_cons] at h1 h3
    split at h1 <;> split at h3
    · omega
    · rename_i e1 _; subst e1; exact h.inj _ _ _ _ hg rfl h3 h4 he
    · rename_i _ e1; subst e1; exact h.inj _ _ _ _ h1 h2 hg rfl he
    · exact h.inj _ _ _ _ h1 h2 h3 h4 he
set_option maxHeartbeats 1000000 in
theorem vCut_ok {cv : SV} {z : Int} {H : Heap} {n m : Nat} {κ : K1} (hB : BytA cv H) (hcap : capOK cv) (hz : z = 1 ∨ z = 2) (hmn : m ≤ n) (hκ : ∀ (b len cap : Nat) H' n', BytA (.slice b 0 len cap) H' → Kpt n H H' n' → κ (.slice b 0 len cap) H' n') : GenOK Tryz.prog 11 [cv, .int z] H n m κ := by
  refine ⟨fnx_vCut.ent, fun B M w hH hwH hwa hown hM => ?_⟩
  have hX : CxOK (⟨Tryz.prog, tys, [], [], true, true, m, [], []⟩ : Cx) := ⟨tys_ok, .nil, .nil, mixed⟩
  refine (run_of_wp (X := ⟨Tryz.prog, tys, [], [], true, true, m, [], []⟩) (κ := fun v H' n' => CutR n H v H' n') fnx_vCut hX (Nat.le_of_ble_eq_true rfl) hwa hwH (Nat.le_refl n) B M w hH hown hM fun a Q hg hQ => ?_).mono fun e w' h => ?_
  · refine wp_seq (code_sound hX _ _ _ _ _ _ _ (fun e S' H' n' => e = .normal ∧ S' = [(4, .nils), (0, cv), (1, .int z)] ∧ H' = H ∧ n' = n) _ rfl hg ?_ ?_)
    · exact ⟨rfl, rfl, rfl, rfl⟩
    rintro e S1 H1 n1 B1 a1 w1 ⟨rfl, rfl, rfl, rfl⟩ g1 r1
    refine wp_seq (code_sound hX _ _ _ _ _ _ _ (fun e S' H' n' => e = .normal ∧ H' = H1 ∧ n' = n1 ∧ ∃ j : Nat, sget S' 0 = cv ∧ sget S' 1 = .int j ∧ CutV cv H1 j ∧ j ≤ 2) _ rfl g1 ?_ ?_)
    · rcases hB with rfl | ⟨kc, off, len, cap, L, rfl, hh, hl, h9, hb⟩
      · have hz0 : (0 : Int) < z := by omega
        simp -implicitDefEqProofs only [hz0, ZB, Int.reduceToNat, Nat.reduceLT, Nat.reduceLeDiff, Int.reduceLE, Int.reduceLT, Nat.reduceEqDiff, Nat.reduceSub, SB, SV.known, packR, ne_eq, reduceCtorEq, Nat.reduceEqDiff, ↓reduceIte, if_true, if_false, eq_self, Nat.reduceAdd, Nat.reduceMul, Nat.reduceSub, forall_const, oneCellS, litOne, flat1, Kd.isSca, flat, TYB]
        exact ⟨0, rfl, .inl ⟨rfl, rfl⟩, by omega⟩
      · have hcap' : len ≤ cap := hcap
        by_cases hzl : (len : Int) < z
        · simp -implicitDefEqProofs only [hzl, ZB, Int.reduceToNat, Nat.reduceLT, Nat.reduceLeDiff, Int.reduceLE, Int.reduceLT, Nat.reduceEqDiff, Nat.reduceSub, SB, SV.known, packR, ne_eq, reduceCtorEq, Nat.reduceEqDiff, ↓reduceIte, if_true, if_false, eq_self, Nat.reduceAdd, Nat.reduceMul, Nat.reduceSub, forall_const, oneCellS, litOne, flat1, Kd.isSca, flat, TYB]
          exact ⟨len, rfl, .inr ⟨kc, off, len, cap, L, rfl, hh, hl, h9, hb, hcap', Nat.le_refl _, fun h => h⟩, by omega⟩
        · simp -implicitDefEqProofs only [hzl, ZB, Int.reduceToNat, Nat.reduceLT, Nat.reduceLeDiff, Int.reduceLE, Int.reduceLT, Nat.reduceEqDiff, Nat.reduceSub, SB, SV.known, packR, ne_eq, reduceCtorEq, Nat.reduceEqDiff, ↓reduceIte, if_true, if_false, eq_self, Nat.reduceAdd, Nat.reduceMul, Nat.reduceSub, forall_const, oneCellS, litOne, flat1, Kd.isSca, flat, TYB]
          exact ⟨z.toNat, (Int.toNat_of_nonneg (by omega)).symm, .inr ⟨kc, off, len, cap, L, rfl, hh, hl, h9, hb, hcap', by omega, fun h => by omega⟩, by omega⟩
    rintro e S2 H2 n2 B2 a2 w2 ⟨rfl, rfl, rfl, j, s0, s1, hcut, hj⟩ g2 r2
    refine wp_seq (wp_region_list ?_)
    obtain ⟨k, hk9, hsl⟩ : ∃ k, k + 1 ≤ 1000000000 ∧ ∃ x, ((k = 0 ∧ (x = .nils ∨ ∃ b o c, x = .slice b o 0 c)) ∨ (0 < k ∧ ∃ (kc off c : Nat) (L : List Int), x = .slice kc (off + j) k c ∧ hget H2 kc = some (.winU off L) ∧ j + k = L.length ∧ (∀ x ∈ L, 0 ≤ x ∧ x ≤ 255) ∧ k ≤ 1000000000)) ∧
        ∀ (H' : Heap) (n' : Nat) (κ : K1), κ x H' n' → sliceVC tys (tys 22) cv (some (.int j)) none H' n' κ := by
      rcases hcut with ⟨rfl, rfl⟩ | ⟨kc, off, len, cap, L, rfl, hh, hl, h9, hb, hc, hjl, hj0⟩
      · exact ⟨0, by omega, .nils, .inl ⟨rfl, .inl rfl⟩, fun H' n' κ h => ⟨fun h => (nomatch (show Kd.num .u8 = Kd.other from h)), by omega, by omega, h⟩⟩
      · refine ⟨len - j, by omega, .slice kc (cutOff cap j off 1) (len - j) (cap - j), ?_, fun H' n' κ h => ⟨fun h => (nomatch (show Kd.num .u8 = Kd.other from h)), ?_⟩⟩
        · by_cases h0 : len - j = 0
          · exact .inl ⟨h0, .inr ⟨kc, _, _, by rw [h0]⟩⟩
          · refine .inr ⟨by omega, kc, off, cap - j, L, ?_, hh, by omega, hb, by omega⟩
            unfold cutOff
            rw [if_neg (by omega), Nat.mul_one]
        · exact ⟨by omega, by omega, h⟩
    obtain ⟨x, hx, hsl⟩ := hsl
    have y255 : 0 ≤ IntKind.u8.wrap (j : Int) ∧ IntKind.u8.wrap (j : Int) ≤ 255 := by
      rcases (show j = 0 ∨ j = 1 ∨ j = 2 by omega) with rfl | rfl | rfl <;> decide
    refine ops_eff (κ := fun v H' n' => v = .slice n2 0 0 0 ∧ H' = (n2, .cells (byV []) 5) :: H2 ∧ n' = n2 + 1) _ rfl rfl g2 (exec_bs (vs := ([] : List (Nat × Value)).toArray) rfl (by simp) (bs0_sound (e := 5) hX.τ u8_tys rfl g2.hr g2.hwf g2.own (g2.new _ (Nat.le_refl _)) ?_)) ?_
    · exact ⟨rfl, rfl, rfl⟩
    rintro v3 H3 n3 B3 a3 w3 ⟨rfl, rfl, rfl⟩ g3 r3
    refine ops_norm (κ := fun v H' n' => v = cv ∧ H' = (n2, .cells (byV []) 5) :: H2 ∧ n' = n2 + 1) hX _ (q := false) rfl rfl g3 ⟨s0, rfl, rfl⟩ ?_
    rintro v4 H4 n4 B4 a4 w4 ⟨rfl, rfl, rfl⟩ g4 r4
    refine ops_norm (κ := fun v H' n' => v = .int j ∧ H' = (n2, .cells (byV []) 5) :: H2 ∧ n' = n2 + 1) hX _ (q := false) rfl rfl g4 ⟨s1, rfl, rfl⟩ ?_
    rintro v5 H5 n5 B5 a5 w5 ⟨rfl, rfl, rfl⟩ g5 r5
    refine ops_norm (κ := fun v H' n' => v = x ∧ H' = (n2, .cells (byV []) 5) :: H2 ∧ n' = n2 + 1) hX _ (q := false) rfl rfl g5 ⟨rfl, hsl _ _ (fun v H' n' => v = x ∧ H' = (n2, .cells (byV []) 5) :: H2 ∧ n' = n2 + 1) ⟨rfl, rfl, rfl⟩⟩ ?_
    rintro v6 H6 n6 B6 a6 w6 ⟨rfl, rfl, rfl⟩ g6 r6
    have kx : v6.known = true := by
      rcases hx with ⟨_, rfl | ⟨_, _, _, rfl⟩⟩ | ⟨_, _, _, _, _, rfl, _⟩ <;> rfl
    have d1 : a6.eval (.tmp 11) = (SV.slice n2 0 0 0).den B6 := ev_den g6.sr (.tmp 11) rfl
    have d2 : a6.eval (.tmp 14) = v6.den B6 := ev_den g6.sr (.tmp 14) kx
    refine ops_eff (κ := fun v H' n' => CutM n2 H2 k v H' n') _ rfl rfl g6 (exec_app rfl rfl (by simp [d1, d2]) rfl (cut_app (j := j) hX.τ g6.hr g2.hwf g6.own (g6.new _ (Nat.le_refl _)) hmn hx)) ?_
    rintro v7 H7 n7 B7 a7 w7 ⟨b, L, rfl, hb, hg7, hlc, hbs, hn7, hfr⟩ g7 r7
    refine ops_norm (κ := fun v H' n' => v = .int j ∧ H' = H7 ∧ n' = n7) hX _ (q := false) rfl rfl g7 ⟨s1, rfl, rfl⟩ ?_
    rintro v8 H8 n8 B8 a8 w8 ⟨rfl, rfl, rfl⟩ g8 r8
    refine ops_norm (κ := fun v H' n' => v = .lit (.int .u8 (IntKind.u8.wrap j)) ∧ H' = H8 ∧ n' = n8) hX _ (q := false) rfl rfl g8 ⟨rfl, rfl, rfl, rfl⟩ ?_
    rintro v9 H9 n9 B9 a9 w9 ⟨rfl, rfl, rfl⟩ g9 r9
    have d3 : a9.eval (.tmp 17) = .int .u8 (IntKind.u8.wrap j) := ev_den g9.sr (.tmp 17) rfl
    refine ops_eff (κ := fun v H' n' => v = .slice n9 0 1 1 ∧ H' = (n9, .cells (byV [IntKind.u8.wrap j]) 5) :: H9 ∧ n' = n9 + 1) _ rfl rfl g9 (exec_bs (vs := ([(0, Value.int .u8 (IntKind.u8.wrap j))]).toArray) rfl (by simp [d3]) (bs1_sound (e := 5) hX.τ u8_tys rfl g9.hr g9.hwf g9.own (g9.new _ (Nat.le_refl _)) ?_)) ?_
    · exact ⟨rfl, rfl, rfl⟩
    rintro v10 H10 n10 B10 a10 w10 ⟨rfl, rfl, rfl⟩ g10 r10
    have d4 : a10.eval (.tmp 15) = (SV.slice b 0 k L.length).den B10 := ev_den g10.sr (.tmp 15) rfl
    have d5 : a10.eval (.tmp 18) = (SV.slice n9 0 1 1).den B10 := ev_den g10.sr (.tmp 18) rfl
    have hbn := (g9.hwf _ _ hg7).1
    refine ops_eff (κ := fun v H' n' => CutR n2 H2 v H' n') _ rfl rfl g10 (exec_app rfl rfl (by simp [d4, d5]) rfl (cut_one (b2 := n9) hX.τ g10.hr g10.hwf g10.own (g10.new _ (Nat.le_refl _)) hmn hb (by omega) (by rw [hget_cons, if_neg (by omega)]; exact hg7) hlc hbs (by simp [hget_cons]) y255 hk9 (fun i o hi ho => by rw [hget_cons, if_neg (by omega)]; exact hfr i o hi ho))) ?_
    rintro v11 H11 n11 B11 a11 w11 ⟨b', len', L', rfl, hrest⟩ g11 r11
    refine ops_norm (κ := fun v H' n' => v = .slice b' 0 len' L'.length ∧ H' = H11 ∧ n' = n11) hX _ (q := false) rfl rfl g11 ⟨rfl, rfl, rfl⟩ ?_
    rintro v12 H12 n12 B12 a12 w12 ⟨rfl, rfl, rfl⟩ g12 r12
    unfold wpList
    exact wp_ret (hQ _ _ _ _ _ _ ⟨rfl, b', len', L', rfl, hrest⟩ g12 (r1.trans (r2.trans (r3.trans (r4.trans (r5.trans (r6.trans (r7.trans (r8.trans (r9.trans (r10.trans (r11.trans r12)))))))))))) 
  · obtain ⟨v, H', n', B', rfl, ⟨b, len, L, rfl, hb, hg, hlc, h9, hbs, hn, hfr⟩, hwv, hwf', hH', hown', hkept, hag, hp⟩ := h
    have hbn := (hwf' _ _ hg).1
    have hwf2 : hwf n' ((b, .winU 0 (L.take len)) :: H') := hwf_cons hwf' hbn trivial
    refine ⟨_, (b, .winU 0 (L.take len)) :: H', n', B', rfl, hκ _ _ _ _ _ (.inr ⟨b, 0, len, L.length, L.take len, rfl, by simp [hget_cons], by rw [List.length_take]; omega, h9, hbs⟩) ⟨hn, hwf2, fun i o hi ho => by rw [hget_cons, if_neg (by omega)]; exact hfr i o hi ho⟩, hn, hwv, hwf2, hag, hH'.win hg hlc, fun k o ho hk hmk => ?_, hkept⟩
    rw [hget_cons] at ho
    split at ho
    · rename_i e1; subst e1; exact hown' _ _ hg rfl hmk
    · exact hown' _ _ ho hk hmk
--@tbl vCut = laws.vCut
def vCut_F : List SV → Heap → Nat → Nat → K1 → Prop
  | [cv, .int z], H, n, m, κ => BytA cv H ∧ capOK cv ∧ (z = 1 ∨ z = 2) ∧ m ≤ n ∧ ∀ (b len cap : Nat) H' n', BytA (.slice b 0 len cap) H' → Kpt n H H' n' → κ (.slice b 0 len cap) H' n'
  | _, _, _, _, _ => False
theorem vCut_T : ∀ args H n m κ, vCut_F args H n m κ → GenOK Tryz.prog 11 args H n m κ := by
  intro args H n m κ h
  unfold vCut_F at h
  split at h
  · obtain ⟨h1, h2, h3, h4, h5⟩ := h
    exact vCut_ok h1 h2 h3 h4 h5
  · exact h.elim
theorem cut_use {cv : SV} {z : Int} {H : Heap} {n m : Nat} {κ : K1} (h1 : BytA cv H) (h2 : capOK cv) (h3 : z = 1 ∨ z = 2) (h4 : m ≤ n) (h5 : ∀ (b len cap : Nat) H' n', BytA (.slice b 0 len cap) H' → Kpt n H H' n' → κ (.slice b 0 len cap) H' n') : vCut_F [cv, .int z] H n m κ := ⟨h1, h2, h3, h4, h5⟩
end Go.Proofs.YtmccafjblhbmkaaGreat
set_option maxRecDepth 100000
set_option linter.unusedSimpArgs false
set_option linter.unusedVariables false
namespace Go.Proofs.YtmccafjblhbmkaaGreat
open Go Go.RowKit
theorem eqI_a6v : EqI Tryz.prog 40 6 := eqI_of (D := 2) (by omega) (eqA_ints (i := (Tryz.prog.info? 3).getD default) Tryz.underlying40 (by kernel_rfl) (by kernel_rfl) rfl Tryz.underlying3) (by kernel_rfl)
--@tbl vBig = laws.vBig
theorem vBig_ok (L : List Int) (off len cap : Nat) : PureH Tryz.prog 6 [.slice 0 off len cap] [(0, .winU off L)] (.bool (decide (65536 < (len : Int)))) := by
  refine pure_of_vc (X := ⟨Tryz.prog, tys, [], [], true, true, 1, [], []⟩) fn_6 ⟨tys_ok, .nil, .nil, mixed⟩ (n0 := 1) (Nat.le_of_ble_eq_true rfl) (by simp [wfL, SV.wf]) (wfH_spec (by simp [wfH, SObj.wf])) (Nat.le_refl _) (fun _ => by simp [SV.wf, wfL]) ?_
  simp -implicitDefEqProofs only [Tryz.f6, Option.getD_some, argS, ZB, Int.reduceToNat, Nat.reduceLT, Nat.reduceLeDiff, Int.reduceLE, Int.reduceLT, Nat.reduceEqDiff, Nat.reduceSub, SB, SV.known, packR, ne_eq, reduceCtorEq, Nat.reduceEqDiff, ↓reduceIte, if_true, if_false, eq_self, Nat.reduceAdd, Nat.reduceMul, Nat.reduceSub, forall_const, oneCellS, litOne, flat1, Kd.isSca, flat, TYB]
theorem vBig_nil (H : Heap) : PureH Tryz.prog 6 [.nils] H (.bool false) := by
  refine PureH.any ?_ H
  refine pure_of_vc (X := ⟨Tryz.prog, tys, [], [], true, true, 0, [], []⟩) fn_6 ⟨tys_ok, .nil, .nil, mixed⟩ (n0 := 0) (Nat.le_of_ble_eq_true rfl) (by simp [wfL, SV.wf]) (wfH_spec (by simp [wfH, SObj.wf])) (Nat.le_refl _) (fun _ => by simp [SV.wf, wfL]) ?_
  simp -implicitDefEqProofs only [Tryz.f6, Option.getD_some, argS, ZB, Int.reduceToNat, Nat.reduceLT, Nat.reduceLeDiff, Int.reduceLE, Int.reduceLT, Nat.reduceEqDiff, Nat.reduceSub, SB, SV.known, packR, ne_eq, reduceCtorEq, Nat.reduceEqDiff, ↓reduceIte, if_true, if_false, eq_self, Nat.reduceAdd, Nat.reduceMul, Nat.reduceSub, forall_const, oneCellS, litOne, flat1, Kd.isSca, flat, TYB]
def vBig_F : List SV → Heap → Option (Prop × SV)
  | [.slice a o len _], H => match hget H a with
    | some (.winU off _) => some (o = off, .bool (decide (65536 < (len : Int))))
    | _ => none
  | [.nils], _ => some (True, .bool false)
  | _, _ => none
theorem vBig_T : ∀ args H p v, vBig_F args H = some (p, v) → p → PureH Tryz.prog 6 args H v := by
  intro args H p v h hp
  unfold vBig_F at h
  split at h
  · rename_i a o len cap
    split at h
    · rename_i off L g
      cases h
      subst hp
      exact one_block (vBig_ok L o len cap) g rfl (fun _ => trivial)
    · cases h
  · cases h
    exact vBig_nil H
  · cases h
end Go.Proofs.YtmccafjblhbmkaaGreat
