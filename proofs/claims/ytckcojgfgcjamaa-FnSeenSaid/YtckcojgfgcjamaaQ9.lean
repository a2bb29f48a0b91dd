/- Texts of this claim, joined (PR, Cd, DrawY, PR3, DrawZ, Sn1, VS, SlA, Byt, BytW, VCut, VBig). -/
import Derived.Test.YtckcojgfgcjamaaQ1
import Derived.Test.YtckcojgfgcjamaaQ2
import Derived.Test.YtckcojgfgcjamaaQ3
import Derived.Test.YtckcojgfgcjamaaQ4
import Derived.Test.YtckcojgfgcjamaaQ5
import Derived.Test.YtckcojgfgcjamaaQ6
import Derived.Test.YtckcojgfgcjamaaQ7
import Derived.Test.YtckcojgfgcjamaaQ8
set_option maxRecDepth 100000
set_option linter.unusedSimpArgs false
set_option linter.unusedVariables false
namespace Go.Proofs.Ytckcojgfgcjamaa
open Go Go.RowKit
/-- A tube is filled. -/
def pfl (R : List Int) (a : Nat) (c : Int) : Nat → List Int
  | 0 => R
  | k + 1 => (pfl R a c k).set (a * 4 + k) c
theorem pfl_len (R : List Int) (a : Nat) (c : Int) : ∀ k, (pfl R a c k).length = R.length
  | 0 => rfl
  | k + 1 => by show ((pfl R a c k).set _ _).length = _; rw [List.length_set, pfl_len R a c k]
def pnK (C : List Int) : Nat → List Int × Nat
  | 0 => (List.replicate 24 0, 0)
  | c + 1 => (pfl (pnK C c).1 (pnK C c).2 c (C.getD c 0).toNat, (pnK C c).2 + if 0 < C.getD c 0 then 1 else 0)
theorem pnK_len (C : List Int) : ∀ c, (pnK C c).1.length = 24
  | 0 => by simp [pnK]
  | c + 1 => by show (pfl _ _ _ _).length = 24; rw [pfl_len]; exact pnK_len C c
theorem pnK_at (C : List Int) (h0 : C.getD 0 0 = 0) : ∀ c, (pnK C (c + 1)).2 ≤ c
  | 0 => by show 0 + (if 0 < C.getD 0 0 then 1 else 0) ≤ 0; rw [h0]; decide
  | c + 1 => by
    have := pnK_at C h0 c
    show (pnK C (c + 1)).2 + (if 0 < C.getD (c + 1) 0 then 1 else 0) ≤ c + 1
    split <;> omega
theorem pnK_one (C : List Int) (h0 : C.getD 0 0 = 0) : pnK C 1 = (List.replicate 24 0, 0) := by
  show (pfl (List.replicate 24 0) 0 0 (C.getD 0 0).toNat, 0 + if 0 < C.getD 0 0 then 1 else 0) = _
  rw [h0]; rfl
def pnB (C : List Int) : Bool := decide (C.getD 0 0 = 0) && C.all in04
def pnF (C : List Int) : List Int := if pnB C = true then (pnK C 6).1 else List.replicate 24 0
theorem pnF_len (C : List Int) : (pnF C).length = 24 := by
  unfold pnF; split
  · exact pnK_len C 6
  · simp
theorem in04_at {C : List Int} (hC : C.length = 6) (h : C.all in04 = true) {c : Nat} (hc : c < 6) : 0 ≤ C.getD c 0 ∧ C.getD c 0 ≤ 4 := by
  have := List.all_eq_true.1 h (C.getD c 0) (by rw [List.getD_eq_getElem?_getD, List.getElem?_eq_getElem (by omega)]; exact List.getElem_mem _)
  simpa [in04] using this
--@tbl areAll_pl = impl.areAll[int]
--@tbl PlainRack = impl.PlainRack
--@tbl sPlainRack = spec.PlainRack
theorem pnB_of {C : List Int} (hC : C.length = 6) (h0 : C.getD 0 0 = 0) (h : ∀ k, k < 6 → 0 ≤ C.getD k 0 ∧ C.getD k 0 ≤ 4) : pnB C = true := by
  unfold pnB
  rw [decide_eq_true h0, Bool.true_and, List.all_eq_true]
  intro x hx
  obtain ⟨k, hk, rfl⟩ := List.getElem_of_mem hx
  have := h k (by omega)
  rw [List.getD_eq_getElem?_getD, List.getElem?_eq_getElem hk] at this
  exact decide_eq_true this
theorem pnB_not {C : List Int} (hC : C.length = 6) {k : Nat} (hk : k < 6) (h : ¬ (0 ≤ C.getD k 0 ∧ C.getD k 0 ≤ 4)) : pnB C = false := by
  cases hb : pnB C with
  | false => rfl
  | true =>
    unfold pnB at hb
    rw [Bool.and_eq_true] at hb
    exact absurd (in04_at hC hb.2 hk) h
set_option maxHeartbeats 1000000 in
theorem sPlainRack_ok (C : List Int) (hC : C.length = 6) : PureH Try.prog 88 [.arr C] [] (.tup [.arr (pnF C), .bool (pnB C)]) := by
  have tkC : C.take 6 = C := List.take_of_length_le (by omega)
  have r24 : List.take 24 (List.replicate 24 (0 : Int)) = List.replicate 24 0 := rfl
  by_cases h0 : C.getD 0 0 = 0
  · refine pure_of_vc (X := ⟨Try.prog, tys, [(65, l1In_F)], [], true, true, 0, [], []⟩) fn_88 ⟨tys_ok, (.cons l1In_T .nil), .nil, mixed⟩ (n0 := 0) (Nat.le_of_ble_eq_true rfl) (by simp [wfL, SV.wf]) (wfH_spec (by simp [wfH, SObj.wf, wfL, SV.wf])) (Nat.le_refl _) (fun _ => by simp [SV.wf, wfL]) ?_
    simp -implicitDefEqProofs only [Try.f88, Option.getD_some, argS, l1In_F, hC, tkC, h0, r24, ZB, Int.reduceToNat, Nat.reduceLT, Nat.reduceLeDiff, Int.reduceLE, Int.reduceLT, Nat.reduceEqDiff, Nat.reduceSub, SB, SV.known, packR, ne_eq, reduceCtorEq, Nat.reduceEqDiff, ↓reduceIte, if_true, if_false, eq_self, Nat.reduceAdd, Nat.reduceMul, Nat.reduceSub, forall_const, oneCellS, litOne, flat1, Kd.isSca, flat, TYB]
    have p1 := pnK_one C h0
    refine loop_intro (fun c : Nat => [(6, .int c), (5, .int (pnK C c).2), (4, .ptr 2 0), (2, .ptr 1 0), (1, .ptr 0 0)]) (fun c => [(2, .ints (pnK C c).1 27), (1, .ints (List.replicate 24 0) 27), (0, .ints C 29)]) 3 (fun c => (1 ≤ c ∧ c ≤ 6) ∧ ∀ k, k < c → 0 ≤ C.getD k 0 ∧ C.getD k 0 ≤ 4) (fun c => 6 - c) ?_ ?_
    · refine ⟨1, ⟨⟨by omega, by omega⟩, fun k hk => ?_⟩, Sub.mk_id ?_ ?_ ?_ ?_ ?_⟩
      · obtain rfl : k = 0 := by omega
        rw [h0]; omega
      all_goals (simp only [p1, LB, subS, subH, wfS, wfH, SV.ren, renL, SObj.ren, SV.wf, SObj.wf, wfL, SV.known, Nat.reduceEqDiff, ↓reduceIte, if_true, if_false, eq_self, Nat.reduceAdd, Nat.reduceLT, Nat.reduceLeDiff, implies_true, reduceCtorEq, forall_const]; try simp)
    · rintro c ⟨⟨hc1, hc⟩, hall⟩
      have lP := pnK_len C c
      have tkP : (pnK C c).1.take 24 = (pnK C c).1 := List.take_of_length_le (by omega)
      by_cases h6 : c < 6
      · have h6' : (c : Int) ≤ 5 := by omega
        by_cases hn : 0 ≤ C.getD c 0 ∧ C.getD c 0 ≤ 4
        · have hin : decide (0 ≤ C.getD c 0 ∧ C.getD c 0 ≤ 4) = true := decide_eq_true hn
          have hat : (pnK C c).2 ≤ 4 := by
            rcases c with _ | c
            · show 0 ≤ 4; omega
            · have := pnK_at C h0 c; omega
          have hat' : ((pnK C c).2 : Int) < 6 := by omega
          obtain ⟨n, hnn⟩ : ∃ n : Nat, C.getD c 0 = (n : Int) := ⟨(C.getD c 0).toNat, by omega⟩
          obtain ⟨a, ha⟩ : ∃ a, (pnK C c).2 = a := ⟨_, rfl⟩
          have nx1 : (pnK C (c + 1)).1 = pfl (pnK C c).1 a c n := by
            show pfl (pnK C c).1 (pnK C c).2 c (C.getD c 0).toNat = _
            rw [ha, hnn]; rfl
          have nx2 : (pnK C (c + 1)).2 = a + if 0 < (n : Int) then 1 else 0 := by
            show (pnK C c).2 + (if 0 < C.getD c 0 then 1 else 0) = _
            rw [ha, hnn]
          have hall2 : ∀ k, k < c + 1 → 0 ≤ C.getD k 0 ∧ C.getD k 0 ≤ 4 := fun k hk => by
            rcases Nat.lt_or_ge k c with h | h
            · exact hall k h
            · obtain rfl : k = c := by omega
              exact hn
          rw [ha] at hat hat'
          rw [hnn] at hn
          rw [hnn] at hin
          simp -implicitDefEqProofs only [lk_normal, h6', hC, ha, hnn, hin, l1In_F, ZB, Int.reduceToNat, Nat.reduceLT, Nat.reduceLeDiff, Int.reduceLE, Int.reduceLT, Nat.reduceEqDiff, Nat.reduceSub, SB, SV.known, packR, ne_eq, reduceCtorEq, Nat.reduceEqDiff, ↓reduceIte, if_true, if_false, eq_self, Nat.reduceAdd, Nat.reduceMul, Nat.reduceSub, forall_const, oneCellS, litOne, flat1, Kd.isSca, flat, TYB]
          refine ⟨by omega, by omega, h6, ?_⟩
          refine loop_intro (fun k : Nat => [(7, .int k), (6, .int c), (5, .int a), (4, .ptr 2 0), (2, .ptr 1 0), (1, .ptr 0 0)]) (fun k => [(2, .ints (pfl (pnK C c).1 a c k) 27), (1, .ints (List.replicate 24 0) 27), (0, .ints C 29)]) 3 (fun k => k ≤ n) (fun k => n - k) ?_ ?_
          · refine ⟨0, ?_, Sub.mk_id ?_ ?_ ?_ ?_ ?_⟩
            all_goals (try (simp only [pfl, LB, subS, subH, wfS, wfH, SV.ren, renL, SObj.ren, SV.wf, SObj.wf, wfL, SV.known, Nat.reduceEqDiff, ↓reduceIte, if_true, if_false, eq_self, Nat.reduceAdd, Nat.reduceLT, Nat.reduceLeDiff, implies_true, reduceCtorEq, forall_const]; done))
            all_goals (try (simp only [pfl, LB, subS, subH, wfS, wfH, SV.ren, renL, SObj.ren, SV.wf, SObj.wf, wfL, SV.known, Nat.reduceEqDiff, ↓reduceIte, if_true, if_false, eq_self, Nat.reduceAdd, Nat.reduceLT, Nat.reduceLeDiff, implies_true, reduceCtorEq, forall_const]; simp; done))
            all_goals (try (simp only [pfl, LB, subS, subH, wfS, wfH, SV.ren, renL, SObj.ren, SV.wf, SObj.wf, wfL, SV.known, Nat.reduceEqDiff, ↓reduceIte, if_true, if_false, eq_self, Nat.reduceAdd, Nat.reduceLT, Nat.reduceLeDiff, implies_true, reduceCtorEq, forall_const]; (and_intros <;> (first | omega | rfl | (simp; done) | (simp; omega))); done))
            all_goals (try dsimp only)
            all_goals (and_intros <;> try (first | omega | (unfold In64; omega) | trivial | assumption))
          · intro k hk
            have lQ := pfl_len (pnK C c).1 a c k
            rw [lP] at lQ
            by_cases hkn : k < n
            · have hkn' : (k : Int) < n := by omega
              have hk4 : (k : Int) < 4 := by omega
              have i24 : a * 4 + k < 24 := by omega
              simp -implicitDefEqProofs only [lk_normal, hC, hnn, h6, hkn', hat', hk4, lQ, i24, ZB, Int.reduceToNat, Nat.reduceLT, Nat.reduceLeDiff, Int.reduceLE, Int.reduceLT, Nat.reduceEqDiff, Nat.reduceSub, SB, SV.known, packR, ne_eq, reduceCtorEq, Nat.reduceEqDiff, ↓reduceIte, if_true, if_false, eq_self, Nat.reduceAdd, Nat.reduceMul, Nat.reduceSub, forall_const, oneCellS, litOne, flat1, Kd.isSca, flat, TYB]
              (try (and_intros <;> try (first | omega | (unfold In64; omega) | trivial | assumption)))
              refine ⟨k + 1, ?_, ?_, Sub.mk_id ?_ ?_ ?_ ?_ ?_⟩
              all_goals (try (simp only [pfl, LB, subS, subH, wfS, wfH, SV.ren, renL, SObj.ren, SV.wf, SObj.wf, wfL, SV.known, Nat.reduceEqDiff, ↓reduceIte, if_true, if_false, eq_self, Nat.reduceAdd, Nat.reduceLT, Nat.reduceLeDiff, implies_true, reduceCtorEq, forall_const]; done))
              all_goals (try (simp only [pfl, LB, subS, subH, wfS, wfH, SV.ren, renL, SObj.ren, SV.wf, SObj.wf, wfL, SV.known, Nat.reduceEqDiff, ↓reduceIte, if_true, if_false, eq_self, Nat.reduceAdd, Nat.reduceLT, Nat.reduceLeDiff, implies_true, reduceCtorEq, forall_const]; simp; done))
              all_goals (try (simp only [pfl, LB, subS, subH, wfS, wfH, SV.ren, renL, SObj.ren, SV.wf, SObj.wf, wfL, SV.known, Nat.reduceEqDiff, ↓reduceIte, if_true, if_false, eq_self, Nat.reduceAdd, Nat.reduceLT, Nat.reduceLeDiff, implies_true, reduceCtorEq, forall_const]; (and_intros <;> (first | omega | rfl | (simp; done) | (simp; omega))); done))
              all_goals (try dsimp only)
              all_goals (and_intros <;> try (first | omega | (unfold In64; omega) | trivial | assumption))
            · have hkn' : ¬ (k : Int) < n := by omega
              obtain rfl : k = n := by omega
              by_cases hpos : (0 : Int) < (k : Int)
              · rw [if_pos hpos] at nx2
                simp -implicitDefEqProofs only [lk_normal, hC, hnn, h6, hkn', hpos, ZB, Int.reduceToNat, Nat.reduceLT, Nat.reduceLeDiff, Int.reduceLE, Int.reduceLT, Nat.reduceEqDiff, Nat.reduceSub, SB, SV.known, packR, ne_eq, reduceCtorEq, Nat.reduceEqDiff, ↓reduceIte, if_true, if_false, eq_self, Nat.reduceAdd, Nat.reduceMul, Nat.reduceSub, forall_const, oneCellS, litOne, flat1, Kd.isSca, flat, TYB]
                refine ⟨by omega, by omega, by omega, by omega, by unfold In64; omega, by unfold In64; omega, c + 1, ⟨⟨by omega, by omega⟩, hall2⟩, by omega, Sub.mk_id ?_ ?_ ?_ ?_ ?_⟩
                all_goals (simp only [nx1, nx2, LB, subS, subH, wfS, wfH, SV.ren, renL, SObj.ren, SV.wf, SObj.wf, wfL, SV.known, Nat.reduceEqDiff, ↓reduceIte, if_true, if_false, eq_self, Nat.reduceAdd, Nat.reduceLT, Nat.reduceLeDiff, implies_true, reduceCtorEq, forall_const]; try simp)
              · rw [if_neg hpos] at nx2
                simp -implicitDefEqProofs only [lk_normal, hC, hnn, h6, hkn', hpos, ZB, Int.reduceToNat, Nat.reduceLT, Nat.reduceLeDiff, Int.reduceLE, Int.reduceLT, Nat.reduceEqDiff, Nat.reduceSub, SB, SV.known, packR, ne_eq, reduceCtorEq, Nat.reduceEqDiff, ↓reduceIte, if_true, if_false, eq_self, Nat.reduceAdd, Nat.reduceMul, Nat.reduceSub, forall_const, oneCellS, litOne, flat1, Kd.isSca, flat, TYB]
                refine ⟨by omega, by omega, by omega, by omega, by unfold In64; omega, c + 1, ⟨⟨by omega, by omega⟩, hall2⟩, by omega, Sub.mk_id ?_ ?_ ?_ ?_ ?_⟩
                all_goals (simp only [nx1, nx2, LB, subS, subH, wfS, wfH, SV.ren, renL, SObj.ren, SV.wf, SObj.wf, wfL, SV.known, Nat.reduceEqDiff, ↓reduceIte, if_true, if_false, eq_self, Nat.reduceAdd, Nat.reduceLT, Nat.reduceLeDiff, implies_true, reduceCtorEq, forall_const]; try simp)
        · have hin : decide (0 ≤ C.getD c 0 ∧ C.getD c 0 ≤ 4) = false := decide_eq_false hn
          have hb := pnB_not hC h6 hn
          unfold pnF
          rw [hb]
          simp -implicitDefEqProofs only [lk_normal, h6', hC, hin, l1In_F, r24, ZB, Int.reduceToNat, Nat.reduceLT, Nat.reduceLeDiff, Int.reduceLE, Int.reduceLT, Nat.reduceEqDiff, Nat.reduceSub, SB, SV.known, packR, ne_eq, reduceCtorEq, Nat.reduceEqDiff, ↓reduceIte, if_true, if_false, eq_self, Nat.reduceAdd, Nat.reduceMul, Nat.reduceSub, forall_const, oneCellS, litOne, flat1, Kd.isSca, flat, TYB]
          exact ⟨by omega, by omega, h6⟩
      · have h6' : ¬ (c : Int) ≤ 5 := by omega
        obtain rfl : c = 6 := by omega
        have hb := pnB_of hC h0 hall
        unfold pnF
        rw [hb]
        simp -implicitDefEqProofs only [lk_normal, h6', lP, tkP, ZB, Int.reduceToNat, Nat.reduceLT, Nat.reduceLeDiff, Int.reduceLE, Int.reduceLT, Nat.reduceEqDiff, Nat.reduceSub, SB, SV.known, packR, ne_eq, reduceCtorEq, Nat.reduceEqDiff, ↓reduceIte, if_true, if_false, eq_self, Nat.reduceAdd, Nat.reduceMul, Nat.reduceSub, forall_const, oneCellS, litOne, flat1, Kd.isSca, flat, TYB]
  · have hb : pnB C = false := by unfold pnB; rw [decide_eq_false h0]; rfl
    unfold pnF
    rw [hb]
    refine pure_of_vc (X := ⟨Try.prog, tys, [(65, l1In_F)], [], true, true, 0, [], []⟩) fn_88 ⟨tys_ok, (.cons l1In_T .nil), .nil, mixed⟩ (n0 := 0) (Nat.le_of_ble_eq_true rfl) (by simp [wfL, SV.wf]) (wfH_spec (by simp [wfH, SObj.wf, wfL, SV.wf])) (Nat.le_refl _) (fun _ => by simp [SV.wf, wfL]) ?_
    simp -implicitDefEqProofs only [Try.f88, Option.getD_some, argS, l1In_F, hC, tkC, h0, r24, ZB, Int.reduceToNat, Nat.reduceLT, Nat.reduceLeDiff, Int.reduceLE, Int.reduceLT, Nat.reduceEqDiff, Nat.reduceSub, SB, SV.known, packR, ne_eq, reduceCtorEq, Nat.reduceEqDiff, ↓reduceIte, if_true, if_false, eq_self, Nat.reduceAdd, Nat.reduceMul, Nat.reduceSub, forall_const, oneCellS, litOne, flat1, Kd.isSca, flat, TYB]
def sPlainRack_F : List SV → Heap → Option (Prop × SV)
  | [.arr C], _ => some (C.length = 6, .tup [.arr (pnF C), .bool (pnB C)])
  | _, _ => none
theorem sPlainRack_T : ∀ args H p v, sPlainRack_F args H = some (p, v) → p → PureH Try.prog 88 args H v := by
  intro args H p v h hp
  unfold sPlainRack_F at h
  split at h
  · cases h; exact (sPlainRack_ok _ hp).any _
  · cases h
end Go.Proofs.Ytckcojgfgcjamaa
set_option maxRecDepth 100000
set_option linter.unusedSimpArgs false
set_option linter.unusedVariables false
namespace Go.Proofs.Ytckcojgfgcjamaa
open Go Go.RowKit
def cd1 : Code → Code
  | .seq a _ => a
  | c => c
def cd2 : Code → Code
  | .seq _ b => b
  | c => c
def cdN : Nat → Code → Code
  | 0, c => c
  | k + 1, c => cdN k (cd2 c)
/-- The first statements, and another code behind them. -/
def cdP : Nat → Code → Code → Code
  | 0, _, r => r
  | k + 1, .seq a b, r => .seq a (cdP k b r)
  | _ + 1, c, _ => c
theorem cd_cut {X : Cx} {p : Nat} {c a b : Code} {S : Env} {H : Heap} {n : Nat} {K : KE} (h : c = .seq a b) : codeVC X p c S H n K = codeVC X p a S H n (seqK (codeVC X p b) K) := by rw [h]; rfl
/-- The same slots below a number. -/
theorem sget_skip (t t' : Nat) (v : SV) (S : Env) (h : t ≠ t') : sget ((t', v) :: S) t = sget S t := by
  unfold sget
  rw [List.lookup_cons]
  have : (t == t') = false := by simpa using h
  rw [this]
theorem freshK_of {wr : Wrap} {L : List Int} {len es e : Nat} {nl : Bool} {H : Heap} {n : Nat} {κ : K1} (h1 : L = [] → κ (wr.ap .nils) H n) (h2 : ∀ (cap : Nat) (junk : List Int), junk.length + L.length = cap * es → κ (wr.ap (.slice n 0 len cap)) ((n, .ints (L ++ junk) e) :: H) (n + 1)) : freshK wr L len es e nl H n κ := ⟨fun _ h => h1 h, fun _ => h2⟩
end Go.Proofs.Ytckcojgfgcjamaa
set_option maxRecDepth 100000
set_option linter.unusedSimpArgs false
set_option linter.unusedVariables false
namespace Go.Proofs.Ytckcojgfgcjamaa
open Go Go.RowKit
/-- Counts that are being drawn, at p. -/
structure PcS (c kc n0 : Nat) (H0 : Heap) (C : List Int) (p k : Nat) (H : Heap) (n : Nat) : Prop where
  d : Drawn c kc 0 k n0 H0 H n
  lt : n0 ≤ p ∧ p < n
  o : hget H p = some (.ints C 29)
  l : C.length = 6
  i : ∀ z ∈ C, In64 z
theorem PcS.draw {c kc n0 p k n k2 n2 : Nat} {H0 H H2 : Heap} {C : List Int} (h : PcS c kc n0 H0 C p k H n) (hd : Drawn c kc 0 k2 n0 H0 H2 n2) (hf : Fr n0 n H H2) (hn : n ≤ n2) : PcS c kc n0 H0 C p k2 H2 n2 :=
  ⟨hd, by have := h.lt; omega, hf.use h.lt.1 h.lt.2 h.o, h.l, h.i⟩
theorem PcS.push {c kc n0 p k n : Nat} {H0 H : Heap} {C : List Int} (h : PcS c kc n0 H0 C p k H n) (hlt : c < n0 ∧ kc < n0 ∧ kc ≠ c) {L : List Int} {e : Nat} : PcS c kc n0 H0 C p k ((n, .ints L e) :: H) (n + 1) :=
  ⟨h.d.pushI hlt, by have := h.lt; omega, by rw [hget_cons, if_neg (by have := h.lt; omega)]; exact h.o, h.l, h.i⟩
theorem PcS.set {c kc n0 p k n : Nat} {H0 H : Heap} {C : List Int} (h : PcS c kc n0 H0 C p k H n) (hlt : c < n0 ∧ kc < n0 ∧ kc ≠ c) {j : Nat} {x : Int} (hx : In64 x) : PcS c kc n0 H0 (C.set j x) p k ((p, .ints (C.set j x) 29) :: H) n :=
  ⟨h.d.putI hlt h.lt.1 h.lt.2, h.lt, by simp [hget_cons], by rw [List.length_set]; exact h.l, in64_set h.i hx⟩
theorem PcS.more {c kc n0 p k k' n : Nat} {H0 H : Heap} {C : List Int} (h : PcS c kc n0 H0 C p k H n) (hk : k ≤ k') : PcS c kc n0 H0 C p k' H n := ⟨h.d.more hk, h.lt, h.o, h.l, h.i⟩
theorem fnx_DrawPlainRack : FnOK Try.prog 89 Try.f89 (Try.f89.body.getD .skip) [60, 61, 62] [] := ⟨Try.func89, rfl, by kernel_rfl, by kernel_rfl⟩
set_option maxHeartbeats 1000000 in
theorem DrawPlainRack_vc (cv : SV) (m n : Nat) (H : Heap) (hB : BytA cv H) (hmn : m ≤ n) (hwH : hwf n H) :
    codeVC (⟨Try.prog, tys, [], [(60, one_F), (61, pick_F), (62, among_F)], true, true, m, [60, 61, 62], []⟩ : Cx) n (Try.f89.body.getD .skip) (argS 0 [cv]) H n
      (retK tys Try.f89.results.toList fun v H' n' => ∃ C : List Int, v = .arr C ∧ C.length = 6 ∧ (∀ z ∈ C, In64 z) ∧ Kpt n H H' n') := by
  have hB' := hB
  rcases hB with rfl | ⟨kc0, off0, len0, cap0, L0, rfl, hh0⟩
  all_goals
    simp -implicitDefEqProofs only [Try.f89, Option.getD_some, argS, Nat.add_assoc, add_self, self_add, add_add, ZB, Int.reduceToNat, Nat.reduceLT, Nat.reduceLeDiff, Int.reduceLE, Int.reduceLT, Nat.reduceEqDiff, Nat.reduceSub, SB, SV.known, packR, ne_eq, reduceCtorEq, Nat.reduceEqDiff, ↓reduceIte, if_true, if_false, eq_self, Nat.reduceAdd, Nat.reduceMul, Nat.reduceSub, forall_const, oneCellS, litOne, flat1, Kd.isSca, flat, TYB]
    have hw1 : hwf (n + 1) ((n, .ints (List.replicate 6 0) 29) :: H) := hwf_cons (hwf_mono (by omega) hwH) (Nat.lt_succ_self n) trivial
    obtain ⟨kc, hlt, d0⟩ := cur_new (hB'.put hwH (Nat.le_refl n) (.ints (List.replicate 6 0) 29)) hw1 (Nat.lt_succ_self n) ⟨_, by simp [hget_cons]; rfl⟩
    obtain ⟨Hs, d0, fr0, z0⟩ : ∃ Hs, Drawn (n + 1) kc 0 0 (n + 1 + 1) Hs _ (n + 1 + 1) ∧ (∀ i o, i < n → hget H i = some o → hget Hs i = some o) ∧ hget Hs n = some (.ints (List.replicate 6 0) 29) := ⟨_, d0, fun i o hi ho => by (repeat rw [hget_cons, if_neg (by omega)]); exact ho, by simp [hget_cons] <;> omega⟩
    have hS0 : PcS (n + 1) kc (n + 1 + 1) Hs (List.replicate 6 0) (n + 2) (2 * (1 - 1)) _ (n + 3) := ⟨(d0.pushI hlt (L := List.replicate 6 0) (e := 29)).putI hlt (L := List.replicate 6 0) (e := 29) (k0 := n + 2) (by omega) (by omega), by omega, by simp [hget_cons], by simp, fun z hz => by rw [List.mem_replicate] at hz; rw [hz.2]; unfold In64; omega⟩
    refine ⟨by omega, ?_⟩
    refine loop_introN (fun s : (Nat × List Int) × Heap × Nat => [(5, .int s.1.1), (4, .ptr (n + 2) 0), (3, .ptr (n + 1) 0), (2, .ptr n 0)]) (fun s => s.2.1) (fun s => s.2.2)
      (fun s => (1 ≤ s.1.1 ∧ s.1.1 ≤ 6) ∧ PcS (n + 1) kc (n + 1 + 1) Hs s.1.2 (n + 2) (2 * (s.1.1 - 1)) s.2.1 s.2.2) (fun s => 6 - s.1.1) ?_ ?_
    · exact ⟨((1, List.replicate 6 0), _, n + 3), ⟨⟨by show 1 ≤ 1; omega, by show 1 ≤ 6; omega⟩, hS0⟩, Sub.same (by simp only [LB, subS, subH, wfS, wfH, SV.ren, renL, SObj.ren, SV.wf, SObj.wf, wfL, SV.known, Nat.reduceEqDiff, ↓reduceIte, if_true, if_false, eq_self, Nat.reduceAdd, Nat.reduceLT, Nat.reduceLeDiff, implies_true, reduceCtorEq, forall_const]; try rfl) (by simp [subS, subH, wfS, wfH, SV.ren, renL, SObj.ren, SV.wf, SObj.wf, wfL, sget_cons, hget_cons] <;> omega) hS0.d.wf (by show n ≤ n + 3; omega)⟩
    · rintro ⟨⟨i, C⟩, H1, n1⟩ ⟨⟨hi1, hi⟩, hS⟩
      simp only at hi1 hi hS
      have hq := hS.lt
      have hl := hS.l
      have ho := hS.o
      by_cases h6 : (i : Int) ≤ 5
      · have i6 : (i : Int) < 6 := by omega
        have i6' : i < 6 := by omega
        simp -implicitDefEqProofs only [lk_normal, h6, i6, Nat.add_assoc, add_self, self_add, add_add, ZB, Int.reduceToNat, Nat.reduceLT, Nat.reduceLeDiff, Int.reduceLE, Int.reduceLT, Nat.reduceEqDiff, Nat.reduceSub, SB, SV.known, packR, ne_eq, reduceCtorEq, Nat.reduceEqDiff, ↓reduceIte, if_true, if_false, eq_self, Nat.reduceAdd, Nat.reduceMul, Nat.reduceSub, forall_const, oneCellS, litOne, flat1, Kd.isSca, flat, TYB]
        have hS1 := hS.push hlt (L := [4, 3, 2, 0, 4, 1]) (e := 3)
        refine among_use hS1.d hlt (by omega) (by omega) (L := [4, 3, 2, 0, 4, 1]) (by simp [hget_cons]; rfl) (by omega) (by simp) fun x H2 hx hd2 hf2 => ?_
        have hxI : In64 x := by simp at hx; unfold In64; omega
        have hS2 := hS1.draw hd2 hf2 (Nat.le_refl _)
        have ho2 := hS2.o
        have hS3 := hS2.set hlt (j := i) hxI
        simp -implicitDefEqProofs only [lk_normal, ho2, i6, i6', hl, Nat.add_assoc, add_self, self_add, add_add, ZB, Int.reduceToNat, Nat.reduceLT, Nat.reduceLeDiff, Int.reduceLE, Int.reduceLT, Nat.reduceEqDiff, Nat.reduceSub, SB, SV.known, packR, ne_eq, reduceCtorEq, Nat.reduceEqDiff, ↓reduceIte, if_true, if_false, eq_self, Nat.reduceAdd, Nat.reduceMul, Nat.reduceSub, forall_const, oneCellS, litOne, flat1, Kd.isSca, flat, TYB]
        exact ⟨by omega, by omega, by unfold In64; omega, ((i + 1, C.set i x), _, n1 + 1), ⟨⟨by show 1 ≤ i + 1; omega, by show i + 1 ≤ 6; omega⟩, hS3.more (by show 2 * (i - 1) + 2 ≤ 2 * (i + 1 - 1); omega)⟩, by show 6 - (i + 1) < 6 - i; omega, Sub.same (by simp only [LB, subS, subH, wfS, wfH, SV.ren, renL, SObj.ren, SV.wf, SObj.wf, wfL, SV.known, Nat.reduceEqDiff, ↓reduceIte, if_true, if_false, eq_self, Nat.reduceAdd, Nat.reduceLT, Nat.reduceLeDiff, implies_true, reduceCtorEq, forall_const]; try rfl) (by simp [subS, subH, wfS, wfH, SV.ren, renL, SObj.ren, SV.wf, SObj.wf, wfL, sget_cons, hget_cons] <;> omega) hS3.d.wf (by show n ≤ n1 + 1; omega)⟩
      · simp -implicitDefEqProofs only [lk_normal, h6, Nat.add_assoc, add_self, self_add, add_add, ZB, Int.reduceToNat, Nat.reduceLT, Nat.reduceLeDiff, Int.reduceLE, Int.reduceLT, Nat.reduceEqDiff, Nat.reduceSub, SB, SV.known, packR, ne_eq, reduceCtorEq, Nat.reduceEqDiff, ↓reduceIte, if_true, if_false, eq_self, Nat.reduceAdd, Nat.reduceMul, Nat.reduceSub, forall_const, oneCellS, litOne, flat1, Kd.isSca, flat, TYB]
        refine one_use hS.d hlt (by omega) (by omega) fun o H2 hd2 hf2 => ?_
        have hS2 := hS.draw hd2 hf2 (Nat.le_refl _)
        have ho2 := hS2.o
        have tkC : C.take 6 = C := List.take_of_length_le (by omega)
        have e1 : (n = n + 2) = False := by simp
        have fin : ∀ (C' : List Int) (k : Nat) H' n', PcS (n + 1) kc (n + 1 + 1) Hs C' (n + 2) k H' n' → ∃ E : List Int, C' = E ∧ E.length = 6 ∧ (∀ z ∈ E, In64 z) ∧ Kpt n H ((n, .ints C' 29) :: H') n' := fun C' k H' n' h => ⟨C', rfl, h.l, h.i, by have := h.lt; omega, hwf_cons h.d.wf (by have := h.lt; omega) trivial, fun i o hi ho => by
          rw [hget_cons, if_neg (by omega)]
          exact h.d.fr i o (by omega) (by omega) (fr0 i o hi ho)⟩
        cases o
        · have hz2 := hS2.d.fr n _ (by omega) (by omega) z0
          simp -implicitDefEqProofs only [lk_normal, ho2, hz2, hl, tkC, e1, Nat.add_assoc, add_self, self_add, add_add, ZB, Int.reduceToNat, Nat.reduceLT, Nat.reduceLeDiff, Int.reduceLE, Int.reduceLT, Nat.reduceEqDiff, Nat.reduceSub, SB, SV.known, packR, ne_eq, reduceCtorEq, Nat.reduceEqDiff, ↓reduceIte, if_true, if_false, eq_self, Nat.reduceAdd, Nat.reduceMul, Nat.reduceSub, forall_const, oneCellS, litOne, flat1, Kd.isSca, flat, TYB]
          exact ⟨hmn, fin _ _ _ _ hS2⟩
        · simp -implicitDefEqProofs only [lk_normal, Nat.add_assoc, add_self, self_add, add_add, ZB, Int.reduceToNat, Nat.reduceLT, Nat.reduceLeDiff, Int.reduceLE, Int.reduceLT, Nat.reduceEqDiff, Nat.reduceSub, SB, SV.known, packR, ne_eq, reduceCtorEq, Nat.reduceEqDiff, ↓reduceIte, if_true, if_false, eq_self, Nat.reduceAdd, Nat.reduceMul, Nat.reduceSub, forall_const, oneCellS, litOne, flat1, Kd.isSca, flat, TYB]
          refine pick_use hS2.d hlt (by omega) (by omega) fun q H3 q0 q1 hd3 hf3 => ?_
          have hS3 := hS2.draw hd3 hf3 (Nat.le_refl _)
          have q6 : q < 6 := by omega
          obtain ⟨Q, rfl⟩ : ∃ Q : Nat, q = Q := ⟨q.toNat, by omega⟩
          have Q6 : Q < 6 := by omega
          simp -implicitDefEqProofs only [lk_normal, Nat.add_assoc, add_self, self_add, add_add, ZB, Int.reduceToNat, Nat.reduceLT, Nat.reduceLeDiff, Int.reduceLE, Int.reduceLT, Nat.reduceEqDiff, Nat.reduceSub, SB, SV.known, packR, ne_eq, reduceCtorEq, Nat.reduceEqDiff, ↓reduceIte, if_true, if_false, eq_self, Nat.reduceAdd, Nat.reduceMul, Nat.reduceSub, forall_const, oneCellS, litOne, flat1, Kd.isSca, flat, TYB]
          have hS4 := hS3.push hlt (L := [-1, 5, 1, 4611686018427387904]) (e := 3)
          refine among_use hS4.d hlt (by omega) (by omega) (L := [-1, 5, 1, 4611686018427387904]) (by simp [hget_cons]; rfl) (by omega) (by simp) fun x H4 hx hd4 hf4 => ?_
          have hxI : In64 x := by simp at hx; unfold In64; omega
          have hS5 := hS4.draw hd4 hf4 (Nat.le_refl _)
          have ho5 := hS5.o
          have hS6 := hS5.set hlt (j := Q) hxI
          have hz5 := hS5.d.fr n _ (by omega) (by omega) z0
          have lS : (C.set Q x).length = 6 := by rw [List.length_set]; exact hl
          have tkS : (C.set Q x).take 6 = C.set Q x := List.take_of_length_le (by omega)
          simp -implicitDefEqProofs only [lk_normal, ho5, hz5, hl, q0, q6, Q6, lS, tkS, e1, Nat.add_assoc, add_self, self_add, add_add, ZB, Int.reduceToNat, Nat.reduceLT, Nat.reduceLeDiff, Int.reduceLE, Int.reduceLT, Nat.reduceEqDiff, Nat.reduceSub, SB, SV.known, packR, ne_eq, reduceCtorEq, Nat.reduceEqDiff, ↓reduceIte, if_true, if_false, eq_self, Nat.reduceAdd, Nat.reduceMul, Nat.reduceSub, forall_const, oneCellS, litOne, flat1, Kd.isSca, flat, TYB]
          exact ⟨by omega, hmn, fin _ _ _ _ hS6⟩
--@tbl DrawPlainRack = spec.DrawPlainRack
def DrawPlainRack_F : List SV → Heap → Nat → Nat → K1 → Prop
  | [cv], H, n, m, κ => BytA cv H ∧ m ≤ n ∧ ∀ (C : List Int) H' n', C.length = 6 → (∀ z ∈ C, In64 z) → Kpt n H H' n' → κ (.arr C) H' n'
  | _, _, _, _, _ => False
theorem drawPR_use {cv : SV} {H : Heap} {n m : Nat} {κ : K1} (h1 : BytA cv H) (h2 : m ≤ n) (h3 : ∀ (C : List Int) H' n', C.length = 6 → (∀ z ∈ C, In64 z) → Kpt n H H' n' → κ (.arr C) H' n') : DrawPlainRack_F [cv] H n m κ := ⟨h1, h2, h3⟩
theorem DrawPlainRack_T : ∀ args H n m κ, DrawPlainRack_F args H n m κ → GenOK Try.prog 89 args H n m κ := by
  intro args H n m κ h
  unfold DrawPlainRack_F at h
  split at h
  · rename_i cv
    obtain ⟨hB, hmn, h1⟩ := h
    exact gen_direct (X := (⟨Try.prog, tys, [], [(60, one_F), (61, pick_F), (62, among_F)], true, true, m, [60, 61, 62], []⟩ : Cx)) fnx_DrawPlainRack ⟨tys_ok, .nil, .cons one_T (.cons pick_T (.cons among_T .nil)), mixed⟩ rfl (Nat.le_of_ble_eq_true rfl) (fun hwH hwa => DrawPlainRack_vc cv m n H hB hmn hwH) fun hwH v H' n' hψ h3 h4 h5 => by
      obtain ⟨C, rfl, g1, g2, g3⟩ := hψ
      exact h1 C H' n' g1 g2 g3
  · exact h.elim
/-! Choices. -/
structure MiS (c kc n0 : Nat) (H0 : Heap) (R : List Int) (r b len cap : Nat) (C : List Int) (k : Nat) (H : Heap) (n : Nat) : Prop where
  d : Drawn c kc 0 k n0 H0 H n
  lt : n0 ≤ r ∧ r < n ∧ n0 ≤ b ∧ b < n ∧ r ≠ b
  r : hget H r = some (.ints R 27)
  rl : R.length = 24
  ri : ∀ z ∈ R, In64 z
  o : hget H b = some (.ints C 3)
  ml : C.length = cap
  lc : len ≤ cap
theorem MiS.draw {c kc n0 r b len cap k n k2 n2 : Nat} {H0 H H2 : Heap} {R C : List Int} (h : MiS c kc n0 H0 R r b len cap C k H n) (hd : Drawn c kc 0 k2 n0 H0 H2 n2) (hf : Fr n0 n H H2) (hn : n ≤ n2) : MiS c kc n0 H0 R r b len cap C k2 H2 n2 :=
  ⟨hd, by have := h.lt; omega, hf.use h.lt.1 h.lt.2.1 h.r, h.rl, h.ri, hf.use h.lt.2.2.1 h.lt.2.2.2.1 h.o, h.ml, h.lc⟩
theorem MiS.push {c kc n0 r b len cap k n : Nat} {H0 H : Heap} {R C : List Int} (h : MiS c kc n0 H0 R r b len cap C k H n) (hlt : c < n0 ∧ kc < n0 ∧ kc ≠ c) {L : List Int} {e : Nat} : MiS c kc n0 H0 R r b len cap C k ((n, .ints L e) :: H) (n + 1) :=
  ⟨h.d.pushI hlt, by have := h.lt; omega, by rw [hget_cons, if_neg (by have := h.lt; omega)]; exact h.r, h.rl, h.ri, by rw [hget_cons, if_neg (by have := h.lt; omega)]; exact h.o, h.ml, h.lc⟩
theorem MiS.more {c kc n0 r b len cap k k' n : Nat} {H0 H : Heap} {R C : List Int} (h : MiS c kc n0 H0 R r b len cap C k H n) (hk : k ≤ k') : MiS c kc n0 H0 R r b len cap C k' H n := ⟨h.d.more hk, h.lt, h.r, h.rl, h.ri, h.o, h.ml, h.lc⟩
theorem fnx_DrawIsUndone : FnOK Try.prog 94 Try.f94 (Try.f94.body.getD .skip) [100, 113] [(4, .tree (.one 0 (.one 1 (.one 3 (.alt 2 (.alt 4 (.one 5 (.one 6 (.one 7 .done))) (.alt 5 (.one 4 (.one 6 (.one 7 .done))) .stop)) (.alt 4 (.alt 2 (.one 5 (.one 6 (.one 7 .done))) (.alt 5 (.one 2 (.one 6 (.one 7 .done))) .stop)) (.alt 5 (.one 2 (.one 4 (.one 6 (.one 7 .done)))) .stop)))))))] := ⟨Try.func94, rfl, by kernel_rfl, by kernel_rfl⟩
theorem DrawIsUndone_vc (cv : SV) (m n : Nat) (H : Heap) (hB : BytA cv H) (hmn : m ≤ n) (hwH : hwf n H) :
    codeVC (⟨Try.prog, tys, [], [(100, rack_F), (113, dpour_F)], true, true, m, [100, 113], [(4, .tree (.one 0 (.one 1 (.one 3 (.alt 2 (.alt 4 (.one 5 (.one 6 (.one 7 .done))) (.alt 5 (.one 4 (.one 6 (.one 7 .done))) .stop)) (.alt 4 (.alt 2 (.one 5 (.one 6 (.one 7 .done))) (.alt 5 (.one 2 (.one 6 (.one 7 .done))) .stop)) (.alt 5 (.one 2 (.one 4 (.one 6 (.one 7 .done)))) .stop)))))))]⟩ : Cx) n (Try.f94.body.getD .skip) (argS 0 [cv]) H n
      (retK tys Try.f94.results.toList fun v H' n' => ∃ (R : List Int) (x y : Int), v = .tup [.arr R, .int x, .int y] ∧ R.length = 24 ∧ (∀ z ∈ R, In64 z) ∧ In64 x ∧ In64 y ∧ Kpt n H H' n') := by
  have h1c : oneCellS cv = true := by
    rcases hB with rfl | ⟨kc, off, len, cap, L, rfl, _⟩ <;> rfl
  have hvw : cv.wf n := by
    rcases hB with rfl | ⟨kc, off, len, cap, L, rfl, h, _⟩
    · trivial
    · exact (hwH _ _ h).1
  have hB' := hB
  rcases hB with rfl | ⟨kc0, off0, len0, cap0, L0, rfl, hh0⟩
  all_goals
    simp -implicitDefEqProofs only [Try.f94, Option.getD_some, argS, h1c, Nat.add_assoc, add_self, self_add, add_add, ZB, Int.reduceToNat, Nat.reduceLT, Nat.reduceLeDiff, Int.reduceLE, Int.reduceLT, Nat.reduceEqDiff, Nat.reduceSub, SB, SV.known, packR, ne_eq, reduceCtorEq, Nat.reduceEqDiff, ↓reduceIte, if_true, if_false, eq_self, Nat.reduceAdd, Nat.reduceMul, Nat.reduceSub, forall_const, oneCellS, litOne, flat1, Kd.isSca, flat, TYB]
    have hw1 : hwf (n + 1) ((n, .ints (List.replicate 24 0) 27) :: H) := hwf_cons (hwf_mono (by omega) hwH) (by omega) trivial
    have hw0f : ∀ v : SV, v.wf n → hwf (n + 2) ((n + 1, .cells [v, .int 0, .lit (.int .u64 0)] 80) :: (n, .ints (List.replicate 24 0) 27) :: H) := fun v hv =>
      hwf_cons (hwf_mono (show n + 1 ≤ n + 2 by omega) hw1) (by omega) (by simp [SObj.wf, wfL, SV.wf]; exact SV.wf_mono (show n ≤ n + 2 by omega) v hv)
    obtain ⟨kc, hkn, hBv⟩ := (hB'.put hwH (Nat.le_refl n) (.ints (List.replicate 24 0) 27)).at hw1 (Nat.lt_succ_self n) ⟨_, by simp [hget_cons]; rfl⟩
    have hCf : ∀ v : SV, BytV kc v ((n, .ints (List.replicate 24 0) 27) :: H) → CurH (n + 1) kc 0 ((n + 1, .cells [v, .int 0, .lit (.int .u64 0)] 80) :: (n, .ints (List.replicate 24 0) 27) :: H) := fun v hv =>
      ⟨v, 0, by simp [hget_cons], hv.at (fun o ho => by rw [hget_cons, if_neg (show ¬ kc = n + 1 by omega)]; exact ho), by omega⟩
    have d0 := Drawn.start (hCf _ hBv) (hw0f _ hvw)
    have hz0 : ∀ o : SObj, hget ((n + 1, o) :: (n, .ints (List.replicate 24 0) 27) :: H) n = some (.ints (List.replicate 24 0) 27) := fun o => by simp [hget_cons]
    have hlt : n + 1 < n + 2 ∧ kc < n + 2 ∧ kc ≠ n + 1 := by omega
    refine rack_use d0 hlt (by omega) (by omega) (by omega) fun R H1 n1 hR hRi hd1 hle1 hf1 => ?_
    have hz1 := hd1.fr n _ (by omega) (by omega) (hz0 _)
    have tkR : R.take 24 = R := List.take_of_length_le (by omega)
    simp -implicitDefEqProofs only [hR, tkR, Nat.add_assoc, add_self, self_add, add_add, ZB, Int.reduceToNat, Nat.reduceLT, Nat.reduceLeDiff, Int.reduceLE, Int.reduceLT, Nat.reduceEqDiff, Nat.reduceSub, SB, SV.known, packR, ne_eq, reduceCtorEq, Nat.reduceEqDiff, ↓reduceIte, if_true, if_false, eq_self, Nat.reduceAdd, Nat.reduceMul, Nat.reduceSub, forall_const, oneCellS, litOne, flat1, Kd.isSca, flat, TYB]
    refine ⟨by omega, dpour_use ((hd1.pushI hlt (L := List.replicate 24 0) (e := 27)).putI hlt (by omega) (by omega)) hlt (by omega) (by omega) (by omega) hR fun x y H2 n2 hx hy hd2 hle2 hf2 => ?_⟩
    have hr2 := hf2.use (by omega) (by omega) (show hget _ n1 = some (.ints R 27) by simp [hget_cons])
    have hz2 := hd2.fr n _ (by omega) (by omega) (hz0 _)
    have e1 : (n1 = n2) = False := by simp; omega
    have e2 : (n = n2) = False := by simp; omega
    have e3 : (n2 = n) = False := by simp; omega
    simp -implicitDefEqProofs only [hr2, hz2, hR, tkR, e1, e2, Nat.add_assoc, add_self, self_add, add_add, ZB, Int.reduceToNat, Nat.reduceLT, Nat.reduceLeDiff, Int.reduceLE, Int.reduceLT, Nat.reduceEqDiff, Nat.reduceSub, SB, SV.known, packR, ne_eq, reduceCtorEq, Nat.reduceEqDiff, ↓reduceIte, if_true, if_false, eq_self, Nat.reduceAdd, Nat.reduceMul, Nat.reduceSub, forall_const, oneCellS, litOne, flat1, Kd.isSca, flat, TYB]
    have hwz : hwf (n2 + 1) ((n, .ints R 27) :: (n2, .ints [x, y] 47) :: (n2, .ints (List.replicate 2 0) 47) :: H2) :=
      hwf_cons (hwf_cons (hwf_cons (hwf_mono (by omega) hd2.wf) (by omega) trivial) (by omega) trivial) (by omega) trivial
    refine ⟨by omega, Unit, fun _ => [(4, .int y), (3, .int x), (2, .ptr n 0)], fun _ => (n, .ints R 27) :: (n2, .ints [x, y] 47) :: (n2, .ints (List.replicate 2 0) 47) :: H2, fun _ => n2 + 1, ?_, fun _ => ?_⟩
    · simp -implicitDefEqProofs only [hr2, hz2, hR, tkR, e1, e2, e3, Nat.add_assoc, add_self, self_add, add_add, List.getD_cons_zero, List.getD_cons_succ, ZB, Int.reduceToNat, Nat.reduceLT, Nat.reduceLeDiff, Int.reduceLE, Int.reduceLT, Nat.reduceEqDiff, Nat.reduceSub, SB, SV.known, packR, ne_eq, reduceCtorEq, Nat.reduceEqDiff, ↓reduceIte, if_true, if_false, eq_self, Nat.reduceAdd, Nat.reduceMul, Nat.reduceSub, forall_const, oneCellS, litOne, flat1, Kd.isSca, flat, TYB]
      repeat' first
        | apply And.intro
        | omega
        | exact ⟨(), Sub.same (by simp only [LB, subS, subH, wfS, wfH, SV.ren, renL, SObj.ren, SV.wf, SObj.wf, wfL, SV.known, Nat.reduceEqDiff, ↓reduceIte, if_true, if_false, eq_self, Nat.reduceAdd, Nat.reduceLT, Nat.reduceLeDiff, implies_true, reduceCtorEq, forall_const]; try rfl) (by simp [subS, subH, wfS, wfH, SV.ren, renL, SObj.ren, SV.wf, SObj.wf, wfL, sget_cons, hget_cons] <;> omega) hwz (by omega)⟩
    · simp -implicitDefEqProofs only [lk_normal, hR, tkR, ZB, Int.reduceToNat, Nat.reduceLT, Nat.reduceLeDiff, Int.reduceLE, Int.reduceLT, Nat.reduceEqDiff, Nat.reduceSub, SB, SV.known, packR, ne_eq, reduceCtorEq, Nat.reduceEqDiff, ↓reduceIte, if_true, if_false, eq_self, Nat.reduceAdd, Nat.reduceMul, Nat.reduceSub, forall_const, oneCellS, litOne, flat1, Kd.isSca, flat, TYB]
      exact ⟨R, x, y, ⟨rfl, rfl, rfl⟩, hR, hRi, hx, hy, by omega, hwz, fun i o hi ho => by
        rw [hget_cons, if_neg (by omega), hget_cons, if_neg (by omega), hget_cons, if_neg (by omega)]
        exact hd2.fr i o (by omega) (by omega) (by rw [hget_cons, if_neg (by omega), hget_cons, if_neg (by omega)]; exact ho)⟩
--@tbl DrawIsUndone = spec.DrawIsUndone
/-- A rack and two places. -/
def DrawIsUndone_F : List SV → Heap → Nat → Nat → K1 → Prop
  | [cv], H, n, m, κ => BytA cv H ∧ m ≤ n ∧ ∀ (R : List Int) (x y : Int) H' n', R.length = 24 → (∀ z ∈ R, In64 z) → In64 x → In64 y → Kpt n H H' n' → κ (.tup [.arr R, .int x, .int y]) H' n'
  | _, _, _, _, _ => False
theorem DrawIsUndone_T : ∀ args H n m κ, DrawIsUndone_F args H n m κ → GenOK Try.prog 94 args H n m κ := by
  intro args H n m κ h
  unfold DrawIsUndone_F at h
  split at h
  · rename_i cv
    obtain ⟨hB, hmn, h1⟩ := h
    exact gen_direct (X := ⟨Try.prog, tys, [], [(100, rack_F), (113, dpour_F)], true, true, m, [100, 113], [(4, .tree (.one 0 (.one 1 (.one 3 (.alt 2 (.alt 4 (.one 5 (.one 6 (.one 7 .done))) (.alt 5 (.one 4 (.one 6 (.one 7 .done))) .stop)) (.alt 4 (.alt 2 (.one 5 (.one 6 (.one 7 .done))) (.alt 5 (.one 2 (.one 6 (.one 7 .done))) .stop)) (.alt 5 (.one 2 (.one 4 (.one 6 (.one 7 .done)))) .stop)))))))]⟩) fnx_DrawIsUndone ⟨tys_ok, .nil, .cons rack_T (.cons dpour_T .nil), mixed⟩ rfl (Nat.le_of_ble_eq_true rfl) (fun hwH hwa => DrawIsUndone_vc cv m n H hB hmn hwH) fun hwH v H' n' hψ h3 h4 h5 => by
      obtain ⟨R, x, y, rfl, g1, g2, g3, g4, g5⟩ := hψ
      exact h1 R x y H' n' g1 g2 g3 g4 g5
  · exact h.elim
/-! Lists of sources. -/
--@tbl DrawPourBacks = spec.DrawPourBacks
theorem drawIU_use {cv : SV} {H : Heap} {n m : Nat} {κ : K1} (h1 : BytA cv H) (h2 : m ≤ n) (h3 : ∀ (R : List Int) (x y : Int) H' n', R.length = 24 → (∀ z ∈ R, In64 z) → In64 x → In64 y → Kpt n H H' n' → κ (.tup [.arr R, .int x, .int y]) H' n') : DrawIsUndone_F [cv] H n m κ := ⟨h1, h2, h3⟩
end Go.Proofs.Ytckcojgfgcjamaa
set_option maxRecDepth 100000
set_option linter.unusedSimpArgs false
set_option linter.unusedVariables false
namespace Go.Proofs.Ytckcojgfgcjamaa
open Go Go.RowKit
theorem plr_all : ∀ a b c d e : Fin 5, rackB (pnF [0, ((a.val : Nat) : Int), ((b.val : Nat) : Int), ((c.val : Nat) : Int), ((d.val : Nat) : Int), ((e.val : Nat) : Int)]) = true := by decide +kernel
theorem pn_rackB {C : List Int} (hC : C.length = 6) (h : pnB C = true) : rackB (pnF C) = true := by
  unfold pnB at h
  rw [Bool.and_eq_true] at h
  have h0 : C.getD 0 0 = 0 := by simpa using h.1
  have h1 := h.2
  match C, hC with
  | [x0, x1, x2, x3, x4, x5], _ =>
    have b : ∀ x ∈ [x0, x1, x2, x3, x4, x5], 0 ≤ x ∧ x ≤ 4 := fun x hx => of_decide_eq_true (List.all_eq_true.1 h1 x hx)
    have b1 := b x1 (by simp)
    have b2 := b x2 (by simp)
    have b3 := b x3 (by simp)
    have b4 := b x4 (by simp)
    have b5 := b x5 (by simp)
    simp only [List.getD_cons_zero] at h0
    have := plr_all ⟨x1.toNat, by omega⟩ ⟨x2.toNat, by omega⟩ ⟨x3.toNat, by omega⟩ ⟨x4.toNat, by omega⟩ ⟨x5.toNat, by omega⟩
    simp only [Int.toNat_of_nonneg b1.1, Int.toNat_of_nonneg b2.1, Int.toNat_of_nonneg b3.1, Int.toNat_of_nonneg b4.1, Int.toNat_of_nonneg b5.1] at this
    rw [h0]; exact this
end Go.Proofs.Ytckcojgfgcjamaa
set_option maxRecDepth 100000
set_option linter.unusedSimpArgs false
set_option linter.unusedVariables false
namespace Go.Proofs.Ytckcojgfgcjamaa
open Go Go.RowKit
theorem in64_all {L : List Int} (h : ∀ k, k < L.length → In64 (L.getD k 0)) : ∀ z ∈ L, In64 z := fun z hz => by
  obtain ⟨k, hk, e⟩ := List.getElem_of_mem hz
  have := h k hk
  rw [List.getD_eq_getElem?_getD, List.getElem?_eq_getElem hk, e] at this
  exact this
theorem view_in {R : List Int} (hR : R.length = 24) (hr : rackB R = true) : I64 (viewF R) := in64_all fun k hk => by
  rw [viewF_len] at hk
  obtain ⟨v1, v2, _⟩ := viewF_ok hR hr
  by_cases h1 : k < 6
  · have := v1 k h1; unfold In64; omega
  · by_cases h2 : k < 12
    · have := v2 (k - 6) (by omega)
      rw [show 6 + (k - 6) = k by omega] at this
      unfold In64; omega
    · have e : (viewF R).getD k 0 = (ctL R).getD (k - 12) 0 := by
        rw [← viewF_drop]
        simp only [List.getD, List.getElem?_drop]
        rw [show 12 + (k - 12) = k by omega]
      rw [e]
      by_cases h0 : k - 12 = 0
      · rw [h0, ctL_zero]; unfold In64; omega
      · rw [ctL_get R (by omega)]
        have := cntL_bd R (k - 12)
        unfold In64; omega
theorem hget_same (k : Nat) (o : SObj) (H : Heap) : hget ((k, o) :: H) k = some o := by simp [hget_cons]
theorem set_len18 {V : List Int} {x : Int} (k : Nat) (h : V.length = 18) : (V.set k x).length = 18 := by rw [List.length_set]; exact h
theorem fnx_view7 : FnOK Try.prog 59 Try.f59 (Try.f59.body.getD .skip) [100, 61, 62] [] := ⟨Try.func59, rfl, by kernel_rfl, by kernel_rfl⟩
set_option maxHeartbeats 2000000 in
theorem view7_vc (c kc a m n : Nat) (H : Heap) (hC : CurH c kc a H) (hm : m ≤ c) (hmn : m ≤ n) (ha : a ≤ 985000) (hwH : hwf n H) :
    codeVC (⟨Try.prog, tys, [(51, l2Rack_F), (52, l7View_F)], [(100, rack_F), (61, pick_F), (62, among_F)], true, true, m, [100, 61, 62], []⟩ : Cx) n (Try.f59.body.getD .skip) (argS 0 [.ptr c 0]) H n
      (retK tys Try.f59.results.toList fun v H' n' => ∃ V : List Int, v = .arr V ∧ V.length = 18 ∧ I64 V ∧ Drawn c kc a 1006 n H H' n') := by
  have hlt := hC.lt hwH
  simp -implicitDefEqProofs only [Try.f59, Option.getD_some, argS, Nat.add_assoc, add_self, self_add, add_add, ZB, Int.reduceToNat, Nat.reduceLT, Nat.reduceLeDiff, Int.reduceLE, Int.reduceLT, Nat.reduceEqDiff, Nat.reduceSub, SB, SV.known, packR, ne_eq, reduceCtorEq, Nat.reduceEqDiff, ↓reduceIte, if_true, if_false, eq_self, Nat.reduceAdd, Nat.reduceMul, Nat.reduceSub, forall_const, oneCellS, litOne, flat1, Kd.isSca, flat, TYB]
  have d0 : Drawn c kc a 0 n H ((n + 1, .ints (List.replicate 18 0) 31) :: (n + 1, .ints (List.replicate 18 0) 31) :: (n, .ints (List.replicate 18 0) 31) :: H) (n + 2) := (((Drawn.start hC hwH).pushI hlt).pushI hlt).putI hlt (by omega) (by omega)
  refine ⟨by omega, rack_use d0 hlt (by omega) (by omega) (by omega) fun R H1 n1 hR hRi hd1 hle1 hf1 => ?_⟩
  have hb1 := hf1.use (by omega) (by omega) (show hget _ (n + 1) = some (.ints (List.replicate 18 0) 31) by simp [hget_cons])
  have hz1 := hf1.use (by omega) (by omega) (show hget _ n = some (.ints (List.replicate 18 0) 31) by simp [hget_cons])
  have tkR : R.take 24 = R := List.take_of_length_le (by omega)
  have hd2 := (hd1.pushI hlt (L := List.replicate 24 0) (e := 27)).putI hlt (L := R) (e := 27) (k0 := n1) (by omega) (by omega)
  have e1 : (n + 1 = n1) = False := by simp; omega
  have e2 : (n = n1) = False := by simp; omega
  simp -implicitDefEqProofs only [lk_normal, l2Rack_F, hR, tkR, e1, e2, Nat.add_assoc, add_self, self_add, add_add, ZB, Int.reduceToNat, Nat.reduceLT, Nat.reduceLeDiff, Int.reduceLE, Int.reduceLT, Nat.reduceEqDiff, Nat.reduceSub, SB, SV.known, packR, ne_eq, reduceCtorEq, Nat.reduceEqDiff, ↓reduceIte, if_true, if_false, eq_self, Nat.reduceAdd, Nat.reduceMul, Nat.reduceSub, forall_const, oneCellS, litOne, flat1, Kd.isSca, flat, TYB]
  cases hr : rackB R
  case' false =>
    have hb2 : hget ((n1, .ints R 27) :: (n1, .ints (List.replicate 24 0) 27) :: H1) (n + 1) = some (.ints (List.replicate 18 0) 31) := by rw [hget_cons, if_neg (by omega), hget_cons, if_neg (by omega)]; exact hb1
    have hz2 : hget ((n1, .ints R 27) :: (n1, .ints (List.replicate 24 0) 27) :: H1) n = some (.ints (List.replicate 18 0) 31) := by rw [hget_cons, if_neg (by omega), hget_cons, if_neg (by omega)]; exact hz1
    have hV : (List.replicate 18 (0 : Int)).length = 18 := by simp
    have hVi : I64 (List.replicate 18 (0 : Int)) := fun z hz => by rw [List.mem_replicate] at hz; rw [hz.2]; unfold In64; omega
    have hd3 := hd2
    simp -implicitDefEqProofs only [lk_normal, Nat.add_assoc, add_self, self_add, add_add, ZB, Int.reduceToNat, Nat.reduceLT, Nat.reduceLeDiff, Int.reduceLE, Int.reduceLT, Nat.reduceEqDiff, Nat.reduceSub, SB, SV.known, packR, ne_eq, reduceCtorEq, Nat.reduceEqDiff, ↓reduceIte, if_true, if_false, eq_self, Nat.reduceAdd, Nat.reduceMul, Nat.reduceSub, forall_const, oneCellS, litOne, flat1, Kd.isSca, flat, TYB]
    refine ⟨by omega, pick_use hd3 hlt (by omega) (by omega) fun x H4 x0 x1 hd4 hf4 => ?_⟩
  case' true =>
    have hV := viewF_len R
    have hVi := view_in hR hr
    have tkV : (viewF R).take 18 = viewF R := List.take_of_length_le (by omega)
    have dR : (List.replicate 18 (0 : Int)).drop 18 = [] := rfl
    have hb2 : hget ((n + 1, .ints (viewF R) 31) :: (n1, .ints R 27) :: (n1, .ints (List.replicate 24 0) 27) :: H1) (n + 1) = some (.ints (viewF R) 31) := by simp [hget_cons]
    have hz2 : hget ((n + 1, .ints (viewF R) 31) :: (n1, .ints R 27) :: (n1, .ints (List.replicate 24 0) 27) :: H1) n = some (.ints (List.replicate 18 0) 31) := by rw [hget_cons, if_neg (by omega), hget_cons, if_neg (by omega), hget_cons, if_neg (by omega)]; exact hz1
    have hd3 := hd2.putI hlt (L := viewF R) (e := 31) (k0 := n + 1) (by omega) (by omega)
    simp -implicitDefEqProofs only [lk_normal, l7View_F, hR, hr, tkR, hV, tkV, dR, List.append_nil, hb1, e1, e2, Nat.add_assoc, add_self, self_add, add_add, ZB, Int.reduceToNat, Nat.reduceLT, Nat.reduceLeDiff, Int.reduceLE, Int.reduceLT, Nat.reduceEqDiff, Nat.reduceSub, SB, SV.known, packR, ne_eq, reduceCtorEq, Nat.reduceEqDiff, ↓reduceIte, if_true, if_false, eq_self, Nat.reduceAdd, Nat.reduceMul, Nat.reduceSub, forall_const, oneCellS, litOne, flat1, Kd.isSca, flat, TYB]
    refine ⟨by omega, by omega, pick_use hd3 hlt (by omega) (by omega) fun x H4 x0 x1 hd4 hf4 => ?_⟩
  all_goals
    have hb4 := hf4.use (by omega) (by omega) hb2
    have hz4 := hf4.use (by omega) (by omega) hz2
    have tkV := List.take_of_length_le (Nat.le_of_eq hV)
    have dz : (List.replicate 18 (0 : Int)).drop 18 = [] := rfl
    have e3 : (n = n + 1) = False := by simp
    have fin : ∀ (V : List Int) (k : Nat) H' n', V.length = 18 → I64 V → Drawn c kc a k n H H' n' → k ≤ 1006 → n + 2 ≤ n' → ∃ W : List Int, V = W ∧ W.length = 18 ∧ I64 W ∧ Drawn c kc a 1006 n H ((n, .ints V 31) :: H') n' := fun V k H' n' h1 h2 h3 h4 h5 => ⟨V, rfl, h1, h2, (h3.more h4).putI hlt (by omega) (by omega)⟩
    rcases (show x = 0 ∨ x = 1 ∨ x = 2 ∨ (¬ x = 0 ∧ ¬ x = 1 ∧ ¬ x = 2) by omega) with rfl | rfl | rfl | ⟨y0, y1, y2⟩
    rotate_left 3
    · simp -implicitDefEqProofs only [lk_normal, y0, y1, y2, hb4, hz4, hV, tkV, dz, List.append_nil, e3, Nat.add_assoc, add_self, self_add, add_add, ZB, Int.reduceToNat, Nat.reduceLT, Nat.reduceLeDiff, Int.reduceLE, Int.reduceLT, Nat.reduceEqDiff, Nat.reduceSub, SB, SV.known, packR, ne_eq, reduceCtorEq, Nat.reduceEqDiff, ↓reduceIte, if_true, if_false, eq_self, Nat.reduceAdd, Nat.reduceMul, Nat.reduceSub, forall_const, oneCellS, litOne, flat1, Kd.isSca, flat, TYB]
      exact ⟨by omega, fin _ _ _ _ hV hVi hd4 (by omega) (by omega)⟩
    all_goals
      simp -implicitDefEqProofs only [lk_normal, Int.reduceEq, Nat.add_assoc, add_self, self_add, add_add, ZB, Int.reduceToNat, Nat.reduceLT, Nat.reduceLeDiff, Int.reduceLE, Int.reduceLT, Nat.reduceEqDiff, Nat.reduceSub, SB, SV.known, packR, ne_eq, reduceCtorEq, Nat.reduceEqDiff, ↓reduceIte, if_true, if_false, eq_self, Nat.reduceAdd, Nat.reduceMul, Nat.reduceSub, forall_const, oneCellS, litOne, flat1, Kd.isSca, flat, TYB]
      refine pick_use hd4 hlt (by omega) (by omega) fun q H5 q0 q1 hd5 hf5 => ?_
      have q6 : q < 6 := by omega
      obtain ⟨Q, rfl⟩ : ∃ Q : Nat, q = Q := ⟨q.toNat, by omega⟩
      have Q6 : Q < 6 := by omega
      simp -implicitDefEqProofs only [lk_normal, Nat.add_assoc, add_self, self_add, add_add, ZB, Int.reduceToNat, Nat.reduceLT, Nat.reduceLeDiff, Int.reduceLE, Int.reduceLT, Nat.reduceEqDiff, Nat.reduceSub, SB, SV.known, packR, ne_eq, reduceCtorEq, Nat.reduceEqDiff, ↓reduceIte, if_true, if_false, eq_self, Nat.reduceAdd, Nat.reduceMul, Nat.reduceSub, forall_const, oneCellS, litOne, flat1, Kd.isSca, flat, TYB]
      refine among_use (hd5.pushI hlt) hlt (by omega) (by omega) (hget_same _ _ _) (by omega) (by simp) fun y H6 hy hd6 hf6 => ?_
      have hyI : In64 y := by simp [List.replicate] at hy; unfold In64; omega
      have hb5 := hf5.use (by omega) (by omega) hb4
      have hz5 := hf5.use (by omega) (by omega) hz4
      have hb6 := hf6.use (j := n + 1) (by omega) (by omega) (by rw [hget_cons, if_neg (by omega)]; exact hb5)
      have hz6 := hf6.use (j := n) (by omega) (by omega) (by rw [hget_cons, if_neg (by omega)]; exact hz5)
      have p1 : Q < 18 := by omega
      have p2 : 6 + Q < 18 := by omega
      have p3 : 12 + Q < 18 := by omega
      have ls := fun k => set_len18 (x := y) k hV
      have tks := fun k => List.take_of_length_le (Nat.le_of_eq (ls k))
      simp -implicitDefEqProofs only [lk_normal, hb6, hz6, q0, q6, p1, p2, p3, hV, ls, tks, dz, List.append_nil, e3, Nat.add_assoc, add_self, self_add, add_add, ZB, Int.reduceToNat, Nat.reduceLT, Nat.reduceLeDiff, Int.reduceLE, Int.reduceLT, Nat.reduceEqDiff, Nat.reduceSub, SB, SV.known, packR, ne_eq, reduceCtorEq, Nat.reduceEqDiff, ↓reduceIte, if_true, if_false, eq_self, Nat.reduceAdd, Nat.reduceMul, Nat.reduceSub, forall_const, oneCellS, litOne, flat1, Kd.isSca, flat, TYB]
      exact ⟨by omega, by omega, fin _ _ _ _ (ls _) (in64_set hVi hyI) (hd6.putI hlt (by omega) (by omega)) (by omega) (by omega)⟩
def view7_F : List SV → Heap → Nat → Nat → K1 → Prop
  | [.ptr c 0], H, n, m, κ => ∃ kc a, CurH c kc a H ∧ m ≤ c ∧ m ≤ n ∧ a ≤ 985000 ∧ ∀ (V : List Int) H' n', V.length = 18 → I64 V → Drawn c kc a 1006 n H H' n' → κ (.arr V) H' n'
  | _, _, _, _, _ => False
theorem view7_T : ∀ args H n m κ, view7_F args H n m κ → GenOK Try.prog 59 args H n m κ := by
  intro args H n m κ h
  unfold view7_F at h
  split at h
  · rename_i c
    obtain ⟨kc, a, hC, hm, hmn, ha, h1⟩ := h
    exact gen_direct (X := (⟨Try.prog, tys, [(51, l2Rack_F), (52, l7View_F)], [(100, rack_F), (61, pick_F), (62, among_F)], true, true, m, [100, 61, 62], []⟩ : Cx)) fnx_view7 ⟨tys_ok, .cons l2Rack_T (.cons l7View_T .nil), .cons rack_T (.cons pick_T (.cons among_T .nil)), mixed⟩ rfl (Nat.le_of_ble_eq_true rfl) (fun hwH hwa => view7_vc c kc a m n H hC hm hmn ha hwH) fun hwH v H' n' hψ h3 h4 h5 => by
      obtain ⟨V, rfl, g1, g2, g3⟩ := hψ
      exact h1 V H' n' g1 g2 g3
  · exact h.elim
theorem view7_use {c kc a k n0 n m : Nat} {H0 H : Heap} {κ : K1} (h : Drawn c kc a k n0 H0 H n) (hc : c < n0 ∧ kc < n0 ∧ kc ≠ c) (hm : m ≤ c) (hmn : m ≤ n) (ha : a + k ≤ 985000)
    (hκ : ∀ (V : List Int) H' n', V.length = 18 → I64 V → Drawn c kc a (k + 1006) n0 H0 H' n' → n ≤ n' → Fr n0 n H H' → κ (.arr V) H' n') : view7_F [.ptr c 0] H n m κ := by
  obtain ⟨b', g1, g2, g3⟩ := h.cur
  exact ⟨kc, b', g3, hm, hmn, by omega, fun V H' n' h1 h2 hd => hκ V H' n' h1 h2 (h.trans hd g2 g1) hd.le (hd.own hc.1)⟩
theorem fnx_DrawCanPourAt : FnOK Try.prog 81 Try.f81 (Try.f81.body.getD .skip) [100, 60, 113, 59, 69] [(5, .tree (.one 0 (.one 1 (.one 2 (.one 4 (.alt 3 (.alt 5 (.one 6 (.one 7 (.one 8 .done))) (.alt 6 (.one 5 (.one 7 (.one 8 .done))) .stop)) (.alt 5 (.alt 3 (.one 6 (.one 7 (.one 8 .done))) (.alt 6 (.one 3 (.one 7 (.one 8 .done))) .stop)) (.alt 6 (.one 3 (.one 5 (.one 7 (.one 8 .done)))) .stop))))))))] := ⟨Try.func81, rfl, by kernel_rfl, by kernel_rfl⟩
set_option maxHeartbeats 2000000 in
theorem DrawCanPourAt_vc (cv : SV) (m n : Nat) (H : Heap) (hB : BytA cv H) (hmn : m ≤ n) (hwH : hwf n H) :
    codeVC (⟨Try.prog, tys, [(51, l2Rack_F), (52, l7View_F)], [(100, rack_F), (60, one_F), (113, dpour_F), (59, view7_F), (69, place_F)], true, true, m, [100, 60, 113, 59, 69], [(5, .tree (.one 0 (.one 1 (.one 2 (.one 4 (.alt 3 (.alt 5 (.one 6 (.one 7 (.one 8 .done))) (.alt 6 (.one 5 (.one 7 (.one 8 .done))) .stop)) (.alt 5 (.alt 3 (.one 6 (.one 7 (.one 8 .done))) (.alt 6 (.one 3 (.one 7 (.one 8 .done))) .stop)) (.alt 6 (.one 3 (.one 5 (.one 7 (.one 8 .done)))) .stop))))))))]⟩ : Cx) n (Try.f81.body.getD .skip) (argS 0 [cv]) H n (retK tys Try.f81.results.toList fun v H' n' => ∃ (V : List Int) (x y : Int), v = .tup [.arr V, .int x, .int y] ∧ V.length = 18 ∧ I64 V ∧ In64 x ∧ In64 y ∧ Kpt n H H' n') := by
  have hB' := hB
  rcases hB with rfl | ⟨kc0, off0, len0, cap0, L0, rfl, hh0⟩
  all_goals
    simp -implicitDefEqProofs only [Try.f81, Option.getD_some, argS, Nat.add_assoc, add_self, self_add, add_add, ZB, Int.reduceToNat, Nat.reduceLT, Nat.reduceLeDiff, Int.reduceLE, Int.reduceLT, Nat.reduceEqDiff, Nat.reduceSub, SB, SV.known, packR, ne_eq, reduceCtorEq, Nat.reduceEqDiff, ↓reduceIte, if_true, if_false, eq_self, Nat.reduceAdd, Nat.reduceMul, Nat.reduceSub, forall_const, oneCellS, litOne, flat1, Kd.isSca, flat, TYB]
    have hw1 : hwf (n + 1) ((n, .ints (List.replicate 18 0) 31) :: H) := hwf_cons (hwf_mono (by omega) hwH) (Nat.lt_succ_self n) trivial
    obtain ⟨kc, hlt, d0⟩ := cur_new (hB'.put hwH (Nat.le_refl n) (.ints (List.replicate 18 0) 31)) hw1 (Nat.lt_succ_self n) ⟨_, by simp [hget_cons]; rfl⟩
    obtain ⟨Hs, d0, fr0, z0⟩ : ∃ Hs, Drawn (n + 1) kc 0 0 (n + 1 + 1) Hs _ (n + 1 + 1) ∧ (∀ i o, i < n → hget H i = some o → hget Hs i = some o) ∧ hget Hs n = some (.ints (List.replicate 18 0) 31) := ⟨_, d0, fun i o hi ho => by (repeat rw [hget_cons, if_neg (by omega)]); exact ho, by simp [hget_cons] <;> omega⟩
    have dz : (List.replicate 18 (0 : Int)).drop 18 = [] := rfl
    refine rack_use d0 hlt (by omega) (by omega) (by omega) fun R H1 n1 hR hRi hd1 hle1 hf1 => ?_
    have tkR : R.take 24 = R := List.take_of_length_le (by omega)
    have hd2 := (hd1.pushI hlt (L := List.replicate 24 0) (e := 27)).putI hlt (L := R) (e := 27) (k0 := n1) (by omega) (by omega)
    simp -implicitDefEqProofs only [lk_normal, l2Rack_F, hR, tkR, Nat.add_assoc, add_self, self_add, add_add, ZB, Int.reduceToNat, Nat.reduceLT, Nat.reduceLeDiff, Int.reduceLE, Int.reduceLT, Nat.reduceEqDiff, Nat.reduceSub, SB, SV.known, packR, ne_eq, reduceCtorEq, Nat.reduceEqDiff, ↓reduceIte, if_true, if_false, eq_self, Nat.reduceAdd, Nat.reduceMul, Nat.reduceSub, forall_const, oneCellS, litOne, flat1, Kd.isSca, flat, TYB]
    cases hr : rackB R
    · simp -implicitDefEqProofs only [lk_normal, Nat.add_assoc, add_self, self_add, add_add, ZB, Int.reduceToNat, Nat.reduceLT, Nat.reduceLeDiff, Int.reduceLE, Int.reduceLT, Nat.reduceEqDiff, Nat.reduceSub, SB, SV.known, packR, ne_eq, reduceCtorEq, Nat.reduceEqDiff, ↓reduceIte, if_true, if_false, eq_self, Nat.reduceAdd, Nat.reduceMul, Nat.reduceSub, forall_const, oneCellS, litOne, flat1, Kd.isSca, flat, TYB]
      refine ⟨by omega, view7_use hd2 hlt (by omega) (by omega) (by omega) fun V Hv nv hV hVi hdv hlev hfv => ?_⟩
      have tkV := List.take_of_length_le (Nat.le_of_eq hV)
      simp -implicitDefEqProofs only [lk_normal, Nat.add_assoc, add_self, self_add, add_add, ZB, Int.reduceToNat, Nat.reduceLT, Nat.reduceLeDiff, Int.reduceLE, Int.reduceLT, Nat.reduceEqDiff, Nat.reduceSub, SB, SV.known, packR, ne_eq, reduceCtorEq, Nat.reduceEqDiff, ↓reduceIte, if_true, if_false, eq_self, Nat.reduceAdd, Nat.reduceMul, Nat.reduceSub, forall_const, oneCellS, litOne, flat1, Kd.isSca, flat, TYB]
      refine place_use hdv hlt (by omega) (by omega) fun x Hx nx hx hdx hlex hfx => ?_
      simp -implicitDefEqProofs only [lk_normal, Nat.add_assoc, add_self, self_add, add_add, ZB, Int.reduceToNat, Nat.reduceLT, Nat.reduceLeDiff, Int.reduceLE, Int.reduceLT, Nat.reduceEqDiff, Nat.reduceSub, SB, SV.known, packR, ne_eq, reduceCtorEq, Nat.reduceEqDiff, ↓reduceIte, if_true, if_false, eq_self, Nat.reduceAdd, Nat.reduceMul, Nat.reduceSub, forall_const, oneCellS, litOne, flat1, Kd.isSca, flat, TYB]
      refine place_use hdx hlt (by omega) (by omega) fun y Hy ny hy hdy hley hfy => ?_
      have hzy := hdy.fr n _ (by omega) (by omega) z0
      simp -implicitDefEqProofs only [lk_normal, hzy, hV, tkV, dz, List.append_nil, Nat.add_assoc, add_self, self_add, add_add, ZB, Int.reduceToNat, Nat.reduceLT, Nat.reduceLeDiff, Int.reduceLE, Int.reduceLT, Nat.reduceEqDiff, Nat.reduceSub, SB, SV.known, packR, ne_eq, reduceCtorEq, Nat.reduceEqDiff, ↓reduceIte, if_true, if_false, eq_self, Nat.reduceAdd, Nat.reduceMul, Nat.reduceSub, forall_const, oneCellS, litOne, flat1, Kd.isSca, flat, TYB]
      exact ⟨by omega, V, x, y, ⟨rfl, rfl, rfl⟩, hV, hVi, hx, hy, by omega, hwf_cons hdy.wf (by omega) trivial, fun i o hi ho => by
        rw [hget_cons, if_neg (by omega)]
        exact hdy.fr i o (by omega) (by omega) (fr0 i o hi ho)⟩
    · simp -implicitDefEqProofs only [lk_normal, Nat.add_assoc, add_self, self_add, add_add, ZB, Int.reduceToNat, Nat.reduceLT, Nat.reduceLeDiff, Int.reduceLE, Int.reduceLT, Nat.reduceEqDiff, Nat.reduceSub, SB, SV.known, packR, ne_eq, reduceCtorEq, Nat.reduceEqDiff, ↓reduceIte, if_true, if_false, eq_self, Nat.reduceAdd, Nat.reduceMul, Nat.reduceSub, forall_const, oneCellS, litOne, flat1, Kd.isSca, flat, TYB]
      refine ⟨by omega, one_use hd2 hlt (by omega) (by omega) fun o Ho hdo hfo => ?_⟩
      have hr2 := hfo.use (j := n1) (by omega) (by omega) (hget_same _ _ _)
      cases o
      · have lV := viewF_len R
        have tkV := List.take_of_length_le (Nat.le_of_eq lV)
        simp -implicitDefEqProofs only [lk_normal, hr2, hR, tkR, Nat.add_assoc, add_self, self_add, add_add, ZB, Int.reduceToNat, Nat.reduceLT, Nat.reduceLeDiff, Int.reduceLE, Int.reduceLT, Nat.reduceEqDiff, Nat.reduceSub, SB, SV.known, packR, ne_eq, reduceCtorEq, Nat.reduceEqDiff, ↓reduceIte, if_true, if_false, eq_self, Nat.reduceAdd, Nat.reduceMul, Nat.reduceSub, forall_const, oneCellS, litOne, flat1, Kd.isSca, flat, TYB]
        refine dpour_use hdo hlt (by omega) (by omega) (by omega) hR fun x y H2 n2 hx hy hd3 hle2 hf2 => ?_
        have hr3 := hf2.use (j := n1) (by omega) (by omega) hr2
        have hz3 := hd3.fr n _ (by omega) (by omega) z0
        have e1 : (n1 = n2) = False := by simp; omega
        have e2 : (n = n2) = False := by simp; omega
        have e3 : (n2 = n) = False := by simp; omega
        have dV : (List.replicate 18 (0 : Int)).drop 18 = [] := rfl
        have hwz : hwf (n2 + 1) ((n, .ints (viewF R) 31) :: (n2, .ints [x, y] 47) :: (n2, .ints (List.replicate 2 0) 47) :: H2) :=
          hwf_cons (hwf_cons (hwf_cons (hwf_mono (by omega) hd3.wf) (by omega) trivial) (by omega) trivial) (by omega) trivial
        simp -implicitDefEqProofs only [lk_normal, l7View_F, hr3, hz3, hR, hr, tkR, e1, e2, Nat.add_assoc, add_self, self_add, add_add, ZB, Int.reduceToNat, Nat.reduceLT, Nat.reduceLeDiff, Int.reduceLE, Int.reduceLT, Nat.reduceEqDiff, Nat.reduceSub, SB, SV.known, packR, ne_eq, reduceCtorEq, Nat.reduceEqDiff, ↓reduceIte, if_true, if_false, eq_self, Nat.reduceAdd, Nat.reduceMul, Nat.reduceSub, forall_const, oneCellS, litOne, flat1, Kd.isSca, flat, TYB]
        refine ⟨by omega, Unit, fun _ => [(4, .int y), (3, .int x), (2, .ptr n 0)], fun _ => (n, .ints (viewF R) 31) :: (n2, .ints [x, y] 47) :: (n2, .ints (List.replicate 2 0) 47) :: H2, fun _ => n2 + 1, ?_, fun _ => ?_⟩
        · simp -implicitDefEqProofs only [l7View_F, hr3, hz3, hR, hr, tkR, lV, tkV, dV, List.append_nil, e1, e2, e3, List.getD_cons_zero, List.getD_cons_succ, Nat.add_assoc, add_self, self_add, add_add, ZB, Int.reduceToNat, Nat.reduceLT, Nat.reduceLeDiff, Int.reduceLE, Int.reduceLT, Nat.reduceEqDiff, Nat.reduceSub, SB, SV.known, packR, ne_eq, reduceCtorEq, Nat.reduceEqDiff, ↓reduceIte, if_true, if_false, eq_self, Nat.reduceAdd, Nat.reduceMul, Nat.reduceSub, forall_const, oneCellS, litOne, flat1, Kd.isSca, flat, TYB]
          repeat' first
            | apply And.intro
            | omega
            | exact ⟨(), Sub.same (by simp only [LB, subS, subH, wfS, wfH, SV.ren, renL, SObj.ren, SV.wf, SObj.wf, wfL, SV.known, Nat.reduceEqDiff, ↓reduceIte, if_true, if_false, eq_self, Nat.reduceAdd, Nat.reduceLT, Nat.reduceLeDiff, implies_true, reduceCtorEq, forall_const]; try rfl) (by simp [subS, subH, wfS, wfH, SV.ren, renL, SObj.ren, SV.wf, SObj.wf, wfL, sget_cons, hget_cons] <;> omega) hwz (by omega)⟩
        · simp -implicitDefEqProofs only [lk_normal, lV, tkV, Nat.add_assoc, add_self, self_add, add_add, ZB, Int.reduceToNat, Nat.reduceLT, Nat.reduceLeDiff, Int.reduceLE, Int.reduceLT, Nat.reduceEqDiff, Nat.reduceSub, SB, SV.known, packR, ne_eq, reduceCtorEq, Nat.reduceEqDiff, ↓reduceIte, if_true, if_false, eq_self, Nat.reduceAdd, Nat.reduceMul, Nat.reduceSub, forall_const, oneCellS, litOne, flat1, Kd.isSca, flat, TYB]
          exact ⟨viewF R, x, y, ⟨rfl, rfl, rfl⟩, lV, view_in hR hr, hx, hy, by omega, hwz, fun i o hi ho => by
            rw [hget_cons, if_neg (by omega), hget_cons, if_neg (by omega), hget_cons, if_neg (by omega)]
            exact hd3.fr i o (by omega) (by omega) (fr0 i o hi ho)⟩
      · simp -implicitDefEqProofs only [lk_normal, Nat.add_assoc, add_self, self_add, add_add, ZB, Int.reduceToNat, Nat.reduceLT, Nat.reduceLeDiff, Int.reduceLE, Int.reduceLT, Nat.reduceEqDiff, Nat.reduceSub, SB, SV.known, packR, ne_eq, reduceCtorEq, Nat.reduceEqDiff, ↓reduceIte, if_true, if_false, eq_self, Nat.reduceAdd, Nat.reduceMul, Nat.reduceSub, forall_const, oneCellS, litOne, flat1, Kd.isSca, flat, TYB]
        refine view7_use hdo hlt (by omega) (by omega) (by omega) fun V Hv nv hV hVi hdv hlev hfv => ?_
        have tkV := List.take_of_length_le (Nat.le_of_eq hV)
        simp -implicitDefEqProofs only [lk_normal, Nat.add_assoc, add_self, self_add, add_add, ZB, Int.reduceToNat, Nat.reduceLT, Nat.reduceLeDiff, Int.reduceLE, Int.reduceLT, Nat.reduceEqDiff, Nat.reduceSub, SB, SV.known, packR, ne_eq, reduceCtorEq, Nat.reduceEqDiff, ↓reduceIte, if_true, if_false, eq_self, Nat.reduceAdd, Nat.reduceMul, Nat.reduceSub, forall_const, oneCellS, litOne, flat1, Kd.isSca, flat, TYB]
        refine place_use hdv hlt (by omega) (by omega) fun x Hx nx hx hdx hlex hfx => ?_
        simp -implicitDefEqProofs only [lk_normal, Nat.add_assoc, add_self, self_add, add_add, ZB, Int.reduceToNat, Nat.reduceLT, Nat.reduceLeDiff, Int.reduceLE, Int.reduceLT, Nat.reduceEqDiff, Nat.reduceSub, SB, SV.known, packR, ne_eq, reduceCtorEq, Nat.reduceEqDiff, ↓reduceIte, if_true, if_false, eq_self, Nat.reduceAdd, Nat.reduceMul, Nat.reduceSub, forall_const, oneCellS, litOne, flat1, Kd.isSca, flat, TYB]
        refine place_use hdx hlt (by omega) (by omega) fun y Hy ny hy hdy hley hfy => ?_
        have hzy := hdy.fr n _ (by omega) (by omega) z0
        simp -implicitDefEqProofs only [lk_normal, hzy, hV, tkV, dz, List.append_nil, Nat.add_assoc, add_self, self_add, add_add, ZB, Int.reduceToNat, Nat.reduceLT, Nat.reduceLeDiff, Int.reduceLE, Int.reduceLT, Nat.reduceEqDiff, Nat.reduceSub, SB, SV.known, packR, ne_eq, reduceCtorEq, Nat.reduceEqDiff, ↓reduceIte, if_true, if_false, eq_self, Nat.reduceAdd, Nat.reduceMul, Nat.reduceSub, forall_const, oneCellS, litOne, flat1, Kd.isSca, flat, TYB]
        exact ⟨by omega, V, x, y, ⟨rfl, rfl, rfl⟩, hV, hVi, hx, hy, by omega, hwf_cons hdy.wf (by omega) trivial, fun i o hi ho => by
          rw [hget_cons, if_neg (by omega)]
          exact hdy.fr i o (by omega) (by omega) (fr0 i o hi ho)⟩
--@tbl DrawCanPourAt = spec.DrawCanPourAt
def DrawCanPourAt_F : List SV → Heap → Nat → Nat → K1 → Prop
  | [cv], H, n, m, κ => BytA cv H ∧ m ≤ n ∧ ∀ (V : List Int) (x y : Int) H' n', V.length = 18 → I64 V → In64 x → In64 y → Kpt n H H' n' → κ (.tup [.arr V, .int x, .int y]) H' n'
  | _, _, _, _, _ => False
theorem DrawCanPourAt_T : ∀ args H n m κ, DrawCanPourAt_F args H n m κ → GenOK Try.prog 81 args H n m κ := by
  intro args H n m κ h
  unfold DrawCanPourAt_F at h
  split at h
  · rename_i cv
    obtain ⟨hB, hmn, h1⟩ := h
    exact gen_direct (X := (⟨Try.prog, tys, [(51, l2Rack_F), (52, l7View_F)], [(100, rack_F), (60, one_F), (113, dpour_F), (59, view7_F), (69, place_F)], true, true, m, [100, 60, 113, 59, 69], [(5, .tree (.one 0 (.one 1 (.one 2 (.one 4 (.alt 3 (.alt 5 (.one 6 (.one 7 (.one 8 .done))) (.alt 6 (.one 5 (.one 7 (.one 8 .done))) .stop)) (.alt 5 (.alt 3 (.one 6 (.one 7 (.one 8 .done))) (.alt 6 (.one 3 (.one 7 (.one 8 .done))) .stop)) (.alt 6 (.one 3 (.one 5 (.one 7 (.one 8 .done)))) .stop))))))))]⟩ : Cx)) fnx_DrawCanPourAt ⟨tys_ok, .cons l2Rack_T (.cons l7View_T .nil), .cons rack_T (.cons one_T (.cons dpour_T (.cons view7_T (.cons place_T .nil)))), mixed⟩ rfl (Nat.le_of_ble_eq_true rfl) (fun hwH hwa => DrawCanPourAt_vc cv m n H hB hmn hwH) fun hwH v H' n' hψ h3 h4 h5 => by
      obtain ⟨V, x, y, rfl, g1, g2, g3, g4, g5⟩ := hψ
      exact h1 V x y H' n' g1 g2 g3 g4 g5
  · exact h.elim
theorem fnx_DrawMeanMoved : FnOK Try.prog 30 Try.f30 (Try.f30.body.getD .skip) [] [] := ⟨Try.func30, rfl, by kernel_rfl, by kernel_rfl⟩
theorem DrawMeanMoved_vc (cv : SV) (m n : Nat) (H : Heap) (hB : BytA cv H) (hmn : m ≤ n) (hwH : hwf n H) :
    codeVC (⟨Try.prog, tys, [], [(81, DrawCanPourAt_F)], true, true, m, [], []⟩ : Cx) n (Try.f30.body.getD .skip) (argS 0 [cv]) H n (retK tys Try.f30.results.toList fun v H' n' => ∃ (V : List Int) (x y : Int), v = .tup [.arr V, .int x, .int y] ∧ V.length = 18 ∧ I64 V ∧ In64 x ∧ In64 y ∧ Kpt n H H' n') := by
  have hB' := hB
  have dz : (List.replicate 18 (0 : Int)).drop 18 = [] := rfl
  rcases hB with rfl | ⟨kc, off, len, cap, L, rfl, hh⟩
  all_goals
    simp -implicitDefEqProofs only [Try.f30, Option.getD_some, argS, DrawCanPourAt_F, Nat.add_assoc, add_self, self_add, add_add, ZB, Int.reduceToNat, Nat.reduceLT, Nat.reduceLeDiff, Int.reduceLE, Int.reduceLT, Nat.reduceEqDiff, Nat.reduceSub, SB, SV.known, packR, ne_eq, reduceCtorEq, Nat.reduceEqDiff, ↓reduceIte, if_true, if_false, eq_self, Nat.reduceAdd, Nat.reduceMul, Nat.reduceSub, forall_const, oneCellS, litOne, flat1, Kd.isSca, flat, TYB]
    refine ⟨hB'.put hwH (Nat.le_refl n) _, by omega, fun V x y H' n' hV hVi hx hy hK => ?_⟩
    have hz := hK.fr n _ (by omega) (hget_same _ _ _)
    have tkV := List.take_of_length_le (Nat.le_of_eq hV)
    have hle := hK.le
    simp -implicitDefEqProofs only [hz, hV, tkV, dz, List.append_nil, Nat.add_assoc, add_self, self_add, add_add, ZB, Int.reduceToNat, Nat.reduceLT, Nat.reduceLeDiff, Int.reduceLE, Int.reduceLT, Nat.reduceEqDiff, Nat.reduceSub, SB, SV.known, packR, ne_eq, reduceCtorEq, Nat.reduceEqDiff, ↓reduceIte, if_true, if_false, eq_self, Nat.reduceAdd, Nat.reduceMul, Nat.reduceSub, forall_const, oneCellS, litOne, flat1, Kd.isSca, flat, TYB]
    exact ⟨hmn, V, x, y, ⟨rfl, rfl, rfl⟩, hV, hVi, hx, hy, by omega, hwf_cons hK.wf (by omega) trivial, fun i o hi ho => by
      rw [hget_cons, if_neg (by omega)]
      exact hK.under (by omega) i o hi ho⟩
--@tbl DrawMeanMoved = spec.DrawMeanMoved
def DrawMeanMoved_F := DrawCanPourAt_F
theorem DrawMeanMoved_T : ∀ args H n m κ, DrawMeanMoved_F args H n m κ → GenOK Try.prog 30 args H n m κ := by
  intro args H n m κ h
  unfold DrawMeanMoved_F DrawCanPourAt_F at h
  split at h
  · rename_i cv
    obtain ⟨hB, hmn, h1⟩ := h
    exact gen_direct (X := (⟨Try.prog, tys, [], [(81, DrawCanPourAt_F)], true, true, m, [], []⟩ : Cx)) fnx_DrawMeanMoved ⟨tys_ok, .nil, .cons DrawCanPourAt_T .nil, mixed⟩ rfl (Nat.le_of_ble_eq_true rfl) (fun hwH hwa => DrawMeanMoved_vc cv m n H hB hmn hwH) fun hwH v H' n' hψ h3 h4 h5 => by
      obtain ⟨V, x, y, rfl, g1, g2, g3, g4, g5⟩ := hψ
      exact h1 V x y H' n' g1 g2 g3 g4 g5
  · exact h.elim
theorem drawMM_use {cv : SV} {H : Heap} {n m : Nat} {κ : K1} (h1 : BytA cv H) (h2 : m ≤ n) (h3 : ∀ (V : List Int) (x y : Int) H' n', V.length = 18 → I64 V → In64 x → In64 y → Kpt n H H' n' → κ (.tup [.arr V, .int x, .int y]) H' n') : DrawMeanMoved_F [cv] H n m κ := ⟨h1, h2, h3⟩
/-! A rack and a pour. -/
theorem fnx_DrawViewBehind : FnOK Try.prog 40 Try.f40 (Try.f40.body.getD .skip) [] [] := ⟨Try.func40, rfl, by kernel_rfl, by kernel_rfl⟩
theorem DrawViewBehind_vc (cv : SV) (m n : Nat) (H : Heap) (hB : BytA cv H) (hmn : m ≤ n) (hwH : hwf n H) :
    codeVC (⟨Try.prog, tys, [], [(94, DrawIsUndone_F)], true, true, m, [], []⟩ : Cx) n (Try.f40.body.getD .skip) (argS 0 [cv]) H n (retK tys Try.f40.results.toList fun v H' n' => ∃ (R : List Int) (x y : Int), v = .tup [.arr R, .int x, .int y] ∧ R.length = 24 ∧ (∀ z ∈ R, In64 z) ∧ In64 x ∧ In64 y ∧ Kpt n H H' n') := by
  have hB' := hB
  have dz : (List.replicate 24 (0 : Int)).drop 24 = [] := rfl
  rcases hB with rfl | ⟨kc, off, len, cap, L, rfl, hh⟩
  all_goals
    simp -implicitDefEqProofs only [Try.f40, Option.getD_some, argS, Nat.add_assoc, add_self, self_add, add_add, ZB, Int.reduceToNat, Nat.reduceLT, Nat.reduceLeDiff, Int.reduceLE, Int.reduceLT, Nat.reduceEqDiff, Nat.reduceSub, SB, SV.known, packR, ne_eq, reduceCtorEq, Nat.reduceEqDiff, ↓reduceIte, if_true, if_false, eq_self, Nat.reduceAdd, Nat.reduceMul, Nat.reduceSub, forall_const, oneCellS, litOne, flat1, Kd.isSca, flat, TYB]
    refine drawIU_use (hB'.put hwH (Nat.le_refl n) _) (by omega) fun R x y H' n' hV hVi hx hy hK => ?_
    have hz := hK.fr n _ (by omega) (hget_same _ _ _)
    have tkV := List.take_of_length_le (Nat.le_of_eq hV)
    have hle := hK.le
    simp -implicitDefEqProofs only [hz, hV, tkV, dz, List.append_nil, Nat.add_assoc, add_self, self_add, add_add, ZB, Int.reduceToNat, Nat.reduceLT, Nat.reduceLeDiff, Int.reduceLE, Int.reduceLT, Nat.reduceEqDiff, Nat.reduceSub, SB, SV.known, packR, ne_eq, reduceCtorEq, Nat.reduceEqDiff, ↓reduceIte, if_true, if_false, eq_self, Nat.reduceAdd, Nat.reduceMul, Nat.reduceSub, forall_const, oneCellS, litOne, flat1, Kd.isSca, flat, TYB]
    exact ⟨hmn, R, x, y, ⟨rfl, rfl, rfl⟩, hV, hVi, hx, hy, by omega, hwf_cons hK.wf (by omega) trivial, fun i o hi ho => by
      rw [hget_cons, if_neg (by omega)]
      exact hK.under (by omega) i o hi ho⟩
--@tbl DrawViewBehind = spec.DrawViewBehind
def DrawViewBehind_F := DrawIsUndone_F
theorem DrawViewBehind_T : ∀ args H n m κ, DrawViewBehind_F args H n m κ → GenOK Try.prog 40 args H n m κ := by
  intro args H n m κ h
  unfold DrawViewBehind_F DrawIsUndone_F at h
  split at h
  · rename_i cv
    obtain ⟨hB, hmn, h1⟩ := h
    exact gen_direct (X := (⟨Try.prog, tys, [], [(94, DrawIsUndone_F)], true, true, m, [], []⟩ : Cx)) fnx_DrawViewBehind ⟨tys_ok, .nil, .cons DrawIsUndone_T .nil, mixed⟩ rfl (Nat.le_of_ble_eq_true rfl) (fun hwH hwa => DrawViewBehind_vc cv m n H hB hmn hwH) fun hwH v H' n' hψ h3 h4 h5 => by
      obtain ⟨V, x, y, rfl, g1, g2, g3, g4, g5⟩ := hψ
      exact h1 V x y H' n' g1 g2 g3 g4 g5
  · exact h.elim
theorem drawVB_use {cv : SV} {H : Heap} {n m : Nat} {κ : K1} (h1 : BytA cv H) (h2 : m ≤ n) (h3 : ∀ (R : List Int) (x y : Int) H' n', R.length = 24 → (∀ z ∈ R, In64 z) → In64 x → In64 y → Kpt n H H' n' → κ (.tup [.arr R, .int x, .int y]) H' n') : DrawViewBehind_F [cv] H n m κ := ⟨h1, h2, h3⟩
/-! A view that can be sorted. -/
theorem fnx_DrawChanceSorted : FnOK Try.prog 37 Try.f37 (Try.f37.body.getD .skip) [60, 59] [] := ⟨Try.func37, rfl, by kernel_rfl, by kernel_rfl⟩
set_option maxHeartbeats 2000000 in
theorem DrawChanceSorted_vc (cv : SV) (m n : Nat) (H : Heap) (hB : BytA cv H) (hmn : m ≤ n) (hwH : hwf n H) :
    codeVC (⟨Try.prog, tys, [(88, sPlainRack_F), (52, l7View_F)], [(89, DrawPlainRack_F), (60, one_F), (59, view7_F)], true, true, m, [60, 59], []⟩ : Cx) n (Try.f37.body.getD .skip) (argS 0 [cv]) H n (retK tys Try.f37.results.toList fun v H' n' => ∃ V : List Int, v = .arr V ∧ V.length = 18 ∧ I64 V ∧ Kpt n H H' n') := by
  have hB' := hB
  have dz : (List.replicate 18 (0 : Int)).drop 18 = [] := rfl
  rcases hB with rfl | ⟨kc0, off0, len0, cap0, L0, rfl, hh0⟩
  all_goals
    simp -implicitDefEqProofs only [Try.f37, Option.getD_some, argS, Nat.add_assoc, add_self, self_add, add_add, ZB, Int.reduceToNat, Nat.reduceLT, Nat.reduceLeDiff, Int.reduceLE, Int.reduceLT, Nat.reduceEqDiff, Nat.reduceSub, SB, SV.known, packR, ne_eq, reduceCtorEq, Nat.reduceEqDiff, ↓reduceIte, if_true, if_false, eq_self, Nat.reduceAdd, Nat.reduceMul, Nat.reduceSub, forall_const, oneCellS, litOne, flat1, Kd.isSca, flat, TYB]
    have hw1 : hwf (n + 1) ((n, .ints (List.replicate 18 0) 31) :: H) := hwf_cons (hwf_mono (by omega) hwH) (Nat.lt_succ_self n) trivial
    have hBp := hB'.put hwH (Nat.le_refl n) (.ints (List.replicate 18 0) 31)
    obtain ⟨kc, hlt, d0⟩ := cur_new hBp hw1 (Nat.lt_succ_self n) ⟨_, by simp [hget_cons]; rfl⟩
    obtain ⟨Hs, d0, fr0, z0⟩ : ∃ Hs, Drawn (n + 1) kc 0 0 (n + 1 + 1) Hs _ (n + 1 + 1) ∧ (∀ i o, i < n → hget H i = some o → hget Hs i = some o) ∧ hget Hs n = some (.ints (List.replicate 18 0) 31) := ⟨_, d0, fun i o hi ho => by (repeat rw [hget_cons, if_neg (by omega)]); exact ho, by simp [hget_cons] <;> omega⟩
    refine drawPR_use (hBp.put hw1 (Nat.le_refl _) _) (by omega) fun C0 H1 n1 hC0 hC0i hK1 => ?_
    have hd1 := d0.kpt hK1 hlt
    have hle1 := hK1.le
    have tkC : C0.take 6 = C0 := List.take_of_length_le (by omega)
    have lP := pnF_len C0
    have tkP : (pnF C0).take 24 = pnF C0 := List.take_of_length_le (by omega)
    have hdA : Drawn (n + 1) kc 0 0 (n + 1 + 1) Hs ((n1, .ints (pnF C0) 27) :: (n1, .ints (List.replicate 24 0) 27) :: H1) (n1 + 1) := (hd1.pushI hlt).putI hlt (by omega) (by omega)
    simp -implicitDefEqProofs only [sPlainRack_F, hC0, tkC, lP, tkP, Nat.add_assoc, add_self, self_add, add_add, ZB, Int.reduceToNat, Nat.reduceLT, Nat.reduceLeDiff, Int.reduceLE, Int.reduceLT, Nat.reduceEqDiff, Nat.reduceSub, SB, SV.known, packR, ne_eq, reduceCtorEq, Nat.reduceEqDiff, ↓reduceIte, if_true, if_false, eq_self, Nat.reduceAdd, Nat.reduceMul, Nat.reduceSub, forall_const, oneCellS, litOne, flat1, Kd.isSca, flat, TYB]
    cases hpb : pnB C0
    · simp -implicitDefEqProofs only [lk_normal, Nat.add_assoc, add_self, self_add, add_add, ZB, Int.reduceToNat, Nat.reduceLT, Nat.reduceLeDiff, Int.reduceLE, Int.reduceLT, Nat.reduceEqDiff, Nat.reduceSub, SB, SV.known, packR, ne_eq, reduceCtorEq, Nat.reduceEqDiff, ↓reduceIte, if_true, if_false, eq_self, Nat.reduceAdd, Nat.reduceMul, Nat.reduceSub, forall_const, oneCellS, litOne, flat1, Kd.isSca, flat, TYB]
      refine ⟨by omega, view7_use hdA hlt (by omega) (by omega) (by omega) fun V Hv nv hV hVi hdv hlev hfv => ?_⟩
      have hzv := hdv.fr n _ (by omega) (by omega) z0
      have tkV := List.take_of_length_le (Nat.le_of_eq hV)
      simp -implicitDefEqProofs only [lk_normal, hzv, hV, tkV, dz, List.append_nil, Nat.add_assoc, add_self, self_add, add_add, ZB, Int.reduceToNat, Nat.reduceLT, Nat.reduceLeDiff, Int.reduceLE, Int.reduceLT, Nat.reduceEqDiff, Nat.reduceSub, SB, SV.known, packR, ne_eq, reduceCtorEq, Nat.reduceEqDiff, ↓reduceIte, if_true, if_false, eq_self, Nat.reduceAdd, Nat.reduceMul, Nat.reduceSub, forall_const, oneCellS, litOne, flat1, Kd.isSca, flat, TYB]
      exact ⟨by omega, V, rfl, hV, hVi, by omega, hwf_cons hdv.wf (by omega) trivial, fun i o hi ho => by
        rw [hget_cons, if_neg (by omega)]
        exact hdv.fr i o (by omega) (by omega) (fr0 i o hi ho)⟩
    · simp -implicitDefEqProofs only [lk_normal, Nat.add_assoc, add_self, self_add, add_add, ZB, Int.reduceToNat, Nat.reduceLT, Nat.reduceLeDiff, Int.reduceLE, Int.reduceLT, Nat.reduceEqDiff, Nat.reduceSub, SB, SV.known, packR, ne_eq, reduceCtorEq, Nat.reduceEqDiff, ↓reduceIte, if_true, if_false, eq_self, Nat.reduceAdd, Nat.reduceMul, Nat.reduceSub, forall_const, oneCellS, litOne, flat1, Kd.isSca, flat, TYB]
      refine ⟨by omega, one_use hdA hlt (by omega) (by omega) fun o H2 hd2 hf2 => ?_⟩
      have hr2 := hf2.use (j := n1) (by omega) (by omega) (hget_same _ _ _)
      have hrk := pn_rackB hC0 hpb
      cases o
      · simp -implicitDefEqProofs only [lk_normal, Nat.add_assoc, add_self, self_add, add_add, ZB, Int.reduceToNat, Nat.reduceLT, Nat.reduceLeDiff, Int.reduceLE, Int.reduceLT, Nat.reduceEqDiff, Nat.reduceSub, SB, SV.known, packR, ne_eq, reduceCtorEq, Nat.reduceEqDiff, ↓reduceIte, if_true, if_false, eq_self, Nat.reduceAdd, Nat.reduceMul, Nat.reduceSub, forall_const, oneCellS, litOne, flat1, Kd.isSca, flat, TYB]
        refine view7_use hd2 hlt (by omega) (by omega) (by omega) fun V Hv nv hV hVi hdv hlev hfv => ?_
        have hzv := hdv.fr n _ (by omega) (by omega) z0
        have tkV := List.take_of_length_le (Nat.le_of_eq hV)
        simp -implicitDefEqProofs only [lk_normal, hzv, hV, tkV, dz, List.append_nil, Nat.add_assoc, add_self, self_add, add_add, ZB, Int.reduceToNat, Nat.reduceLT, Nat.reduceLeDiff, Int.reduceLE, Int.reduceLT, Nat.reduceEqDiff, Nat.reduceSub, SB, SV.known, packR, ne_eq, reduceCtorEq, Nat.reduceEqDiff, ↓reduceIte, if_true, if_false, eq_self, Nat.reduceAdd, Nat.reduceMul, Nat.reduceSub, forall_const, oneCellS, litOne, flat1, Kd.isSca, flat, TYB]
        exact ⟨by omega, V, rfl, hV, hVi, by omega, hwf_cons hdv.wf (by omega) trivial, fun i o hi ho => by
          rw [hget_cons, if_neg (by omega)]
          exact hdv.fr i o (by omega) (by omega) (fr0 i o hi ho)⟩
      · have hz2 := hd2.fr n _ (by omega) (by omega) z0
        have lV := viewF_len (pnF C0)
        have tkV := List.take_of_length_le (Nat.le_of_eq lV)
        simp -implicitDefEqProofs only [lk_normal, l7View_F, hr2, hz2, lP, tkP, hrk, lV, tkV, dz, List.append_nil, Nat.add_assoc, add_self, self_add, add_add, ZB, Int.reduceToNat, Nat.reduceLT, Nat.reduceLeDiff, Int.reduceLE, Int.reduceLT, Nat.reduceEqDiff, Nat.reduceSub, SB, SV.known, packR, ne_eq, reduceCtorEq, Nat.reduceEqDiff, ↓reduceIte, if_true, if_false, eq_self, Nat.reduceAdd, Nat.reduceMul, Nat.reduceSub, forall_const, oneCellS, litOne, flat1, Kd.isSca, flat, TYB]
        exact ⟨by omega, viewF (pnF C0), rfl, lV, view_in lP hrk, by omega, hwf_cons hd2.wf (by omega) trivial, fun i o hi ho => by
          rw [hget_cons, if_neg (by omega)]
          exact hd2.fr i o (by omega) (by omega) (fr0 i o hi ho)⟩
--@tbl DrawChanceSorted = spec.DrawChanceSorted
def DrawChanceSorted_F : List SV → Heap → Nat → Nat → K1 → Prop
  | [cv], H, n, m, κ => BytA cv H ∧ m ≤ n ∧ ∀ (V : List Int) H' n', V.length = 18 → I64 V → Kpt n H H' n' → κ (.arr V) H' n'
  | _, _, _, _, _ => False
theorem DrawChanceSorted_T : ∀ args H n m κ, DrawChanceSorted_F args H n m κ → GenOK Try.prog 37 args H n m κ := by
  intro args H n m κ h
  unfold DrawChanceSorted_F at h
  split at h
  · rename_i cv
    obtain ⟨hB, hmn, h1⟩ := h
    exact gen_direct (X := (⟨Try.prog, tys, [(88, sPlainRack_F), (52, l7View_F)], [(89, DrawPlainRack_F), (60, one_F), (59, view7_F)], true, true, m, [60, 59], []⟩ : Cx)) fnx_DrawChanceSorted ⟨tys_ok, .cons sPlainRack_T (.cons l7View_T .nil), .cons DrawPlainRack_T (.cons one_T (.cons view7_T .nil)), mixed⟩ rfl (Nat.le_of_ble_eq_true rfl) (fun hwH hwa => DrawChanceSorted_vc cv m n H hB hmn hwH) fun hwH v H' n' hψ h3 h4 h5 => by
      obtain ⟨V, rfl, g1, g2, g3⟩ := hψ
      exact h1 V H' n' g1 g2 g3
  · exact h.elim
theorem drawCS_use {cv : SV} {H : Heap} {n m : Nat} {κ : K1} (h1 : BytA cv H) (h2 : m ≤ n) (h3 : ∀ (V : List Int) H' n', V.length = 18 → I64 V → Kpt n H H' n' → κ (.arr V) H' n') : DrawChanceSorted_F [cv] H n m κ := ⟨h1, h2, h3⟩
end Go.Proofs.Ytckcojgfgcjamaa
set_option maxRecDepth 100000
set_option linter.unusedSimpArgs false
set_option linter.unusedVariables false
namespace Go.Proofs.Ytckcojgfgcjamaa
open Go Go.RowKit
theorem vcan_view {R : List Int} {i j : Nat} (hi : i < 6) (hj : j < 6) : vcan (viewF R) i j = canF R i j := by
  unfold vcan canF
  rw [viewF_top hi, viewF_top hj, viewF_many hj, Int.toNat_natCast, Int.toNat_natCast]
theorem view_vG {R : List Int} (hR : R.length = 24) (hr : rackB R = true) : vG (viewF R) := vG_of (viewF_len R) (view_in hR hr) (view_good hR hr)
theorem pourB_x {R : List Int} {x y : Int} (h : pourB R x y = true) : rackB R = true ∧ plF x = true ∧ plF y = true ∧ canF R x y = true ∧ x ≠ y ∧ (∃ i j : Nat, x = i ∧ y = j ∧ i < 6 ∧ j < 6) := by
  unfold pourB at h
  simp only [Bool.and_eq_true] at h
  have hx := of_decide_eq_true h.1.1.2
  have hy := of_decide_eq_true h.1.2
  refine ⟨h.1.1.1, h.1.1.2, h.1.2, h.2, ?_, x.toNat, y.toNat, by omega, by omega, by omega, by omega⟩
  have := h.2
  unfold canF at this
  simp only [Bool.and_eq_true, Bool.not_eq_true', decide_eq_false_iff_not] at this
  exact this.1.1.1
/-- What two views say of a pour. -/
theorem seen_two {R : List Int} (hR : R.length = 24) {x y : Int} (h : pourB R x y = true) :
    rackB (pourT R x y) = true ∧ voF (pourT R x y) = vbF R x y ∧ voF R = viewF R ∧ cpaF (viewF R) x y = true ∧ vcan (viewF R) x.toNat y.toNat = true ∧ mmB (viewF R) x y = true := by
  obtain ⟨hr, hx, hy, hc, hn, i, j, rfl, rfl, hi, hj⟩ := pourB_x h
  have ho : cpO R (i : Int) (j : Int) = true := by unfold cpO; rw [hr, hx, hy, decide_eq_false hn]; rfl
  have pf := (pour_facts hR hr ho hc).1
  have hv : vcan (viewF R) (i : Int).toNat (j : Int).toNat = true := by rw [Int.toNat_natCast, Int.toNat_natCast, vcan_view hi hj]; exact hc
  have hg := view_good hR hr
  refine ⟨pf, ?_, if_pos hr, ?_, hv, ?_⟩
  · unfold voF vbF
    rw [if_pos pf, if_pos h]
    unfold pourT
    rw [if_pos h]
  · unfold cpaF; rw [hg, hx, hy, decide_eq_false hn]; rfl
  · unfold mmB; rw [hg, hx, hy, hv]; rfl
/-- A certain pour's mean is what is moved. -/
theorem seen_mean {R : List Int} (hR : R.length = 24) {x y : Int} (h : pourB R x y = true) {np : Nat} (hnp : (cpL (viewF R)).length = np * 2) (jk : List Int) (hin : inP (cpL (viewF R) ++ jk) np [x, y] = true) : mmF (viewF R) x y = [pourM R x y, 1] := by
  obtain ⟨s1, s2, s3, s4, s5, s6⟩ := seen_two hR h
  obtain ⟨hr, hx, hy, hc, hn, i, j, rfl, rfl, hi, hj⟩ := pourB_x h
  have hg := view_good hR hr
  have g := view_vG hR hr
  have ec : cpL (viewF R) = GL (cpB (viewF R)) 36 := by unfold cpL; rw [if_pos hg]
  rw [ec] at hnp hin
  rw [vGL_in _ hi hj hnp] at hin
  unfold cpB at hin
  rw [Bool.and_eq_true] at hin
  obtain ⟨X, ok, m1, m4, t1, t4⟩ := vcan_x g hi hj hin.1
  have l0 : 0 < layN (tubeAt R i) := by
    have : mm (viewF R) i = layN (tubeAt R i) := by unfold mm; rw [viewF_many hi]; simp
    omega
  obtain ⟨r, r1, r2, r3, r4⟩ := own_top hR hr g hi l0
  have hl4 := lay_le _ (tubeAt_len hR hi)
  have hcert := certB_iff.1 hin.2
  have ev : pourM R (i : Int) (j : Int) = min (r : Int) (rmV (viewF R) j) := by
    unfold pourM
    rw [if_pos h, Int.toNat_natCast, Int.toNat_natCast]
    unfold pmN rmV
    rw [r1, viewF_many hj]
  have ev2 : ∃ v : Nat, v < 5 ∧ min (r : Int) (rmV (viewF R) j) = v := ⟨(min (r : Int) (rmV (viewF R) j)).toNat, by omega, by omega⟩
  obtain ⟨v, v5, hv⟩ := ev2
  have cv : certV (al (viewF R)) (sa (viewF R) i) (mm (viewF R) i) (rmV (viewF R) j) v = true := by
    unfold certV
    refine List.all_eq_true.2 fun q hq => ?_
    have hq5 := List.mem_range.1 hq
    by_cases hz : toVal (al (viewF R)) (sa (viewF R) i) (mm (viewF R) i) q = 0
    · rw [decide_eq_true hz]; rfl
    · have := hcert q r hq5 (by omega) hz r4
      have e : min (q : Int) (rmV (viewF R) j) = v := by rw [← hv]; exact this
      rw [decide_eq_true e]; simp
  rw [ev, hv]
  unfold mmF
  rw [if_pos s6, Int.toNat_natCast, Int.toNat_natCast]
  unfold mnOK at ok
  simp only [Bool.and_eq_true] at ok
  have := List.all_eq_true.1 ok.2 v (List.mem_range.2 v5)
  rw [cv] at this
  simpa using this
/-- The bounds of a mean. -/
theorem mean_bd {V : List Int} (hV : V.length = 18) (h64 : I64 V) {x y : Int} (h : mmB V x y = true) : (mmF V x y).length = 2 ∧ (0 ≤ (mmF V x y).getD 0 0 ∧ (mmF V x y).getD 0 0 ≤ 1000000000) ∧ (0 ≤ (mmF V x y).getD 1 0 ∧ (mmF V x y).getD 1 0 ≤ 1000000000) ∧
    ¬ (mmF V x y).getD 0 0 * 1 < 1 * (mmF V x y).getD 1 0 ∧ ¬ (4 - V.getD (6 + y.toNat) 0) * (mmF V x y).getD 1 0 < (mmF V x y).getD 0 0 * 1 ∧ ¬ V.getD (6 + x.toNat) 0 * (mmF V x y).getD 1 0 < (mmF V x y).getD 0 0 * 1 ∧
    ((0 ≤ x ∧ x < 6) ∧ 0 ≤ y ∧ y < 6) ∧ (1 ≤ V.getD (6 + x.toNat) 0 ∧ V.getD (6 + x.toNat) 0 ≤ 4) ∧ 0 ≤ V.getD (6 + y.toNat) 0 ∧ V.getD (6 + y.toNat) 0 ≤ 4 := by
  have hm : mmF V x y = mnI (al V) (sa V x.toNat) (mm V x.toNat) (rmV V y.toNat) := by unfold mmF; rw [if_pos h]
  unfold mmB at h
  simp only [Bool.and_eq_true] at h
  have hx := of_decide_eq_true h.1.1.2
  have hy := of_decide_eq_true h.1.2
  have g := vG_of hV h64 h.1.1.1
  obtain ⟨X, ok, m1, m4, t1, t4⟩ := vcan_x g (i := x.toNat) (j := y.toNat) (by omega) (by omega) h.2
  have sm := (vsm_of g (i := x.toNat) (by omega)).m_
  have u2 := g.u2 y.toNat (by omega)
  rw [hm]
  unfold mnOK at ok
  simp only [Bool.and_eq_true, Bool.not_eq_true', decide_eq_false_iff_not, decide_eq_true_eq] at ok
  obtain ⟨⟨⟨⟨e, o1⟩, o2⟩, o3⟩, _⟩ := ok
  have xf := X.f (mm V x.toNat) (Nat.le_refl _)
  rw [← e] at xf
  refine ⟨rfl, ⟨xf.1, xf.2.1⟩, ⟨by omega, xf.2.2.2⟩, o1, o2, ?_, ⟨by omega, by omega⟩, ⟨by omega, by omega⟩, u2⟩
  rw [sm]; exact o3
theorem mmF_len (V : List Int) (x y : Int) : (mmF V x y).length = 2 := by
  unfold mmF
  split <;> rfl
/-- Pours of a view are pours of its first candidate. -/
theorem first_can {V : List Int} (hV : V.length = 18) (h64 : I64 V) (hv : isVF V = true) : rackB (caF V 0) = true ∧ ∀ i j, i < 6 → j < 6 → cpB V i j = true → canF (caF V 0) i j = true := by
  have hf := isV_facts hV h64 hv
  have g := vG_of hV h64 hv
  have h0 := hf.2.2.2.2.2.2.1
  have ab := arrF_bd g.bH g.h18
  have ec : caF V 0 = madeF V 0 := by unfold caF; rw [if_pos (by rw [caB_zero hV h64]; exact hv)]
  rw [ec]
  refine ⟨made_rack g h0 (Int.le_refl _) (by omega), fun i j hi hj h => ?_⟩
  unfold cpB at h
  rw [Bool.and_eq_true] at h
  have ci := made_cells g h0 (Int.le_refl 0) (by omega) hi
  have cj := made_cells g h0 (Int.le_refl 0) (by omega) hj
  have e : canF (madeF V 0) i j = vcan V i j := by
    unfold vcan canF
    rw [Int.toNat_natCast, Int.toNat_natCast, ci.2.2, cj.2.2, cj.2.1]
    have := (vsm_of g hj).m_
    rw [this]
  rw [e]; exact h.1
theorem first_le {V : List Int} (hV : V.length = 18) (h64 : I64 V) (hv : isVF V = true) : (cpL V).length / 2 ≤ (poF (caF V 0)).length / 2 := by
  obtain ⟨h1, h2⟩ := first_can hV h64 hv
  have e1 : cpL V = GL (cpB V) 36 := by unfold cpL; rw [if_pos hv]
  have e2 : poF (caF V 0) = GL (fun i j => canF (caF V 0) i j) 36 := by unfold poF; rw [if_pos h1]; rfl
  rw [e1, e2, GL_cnt, GL_cnt]
  have := List.countP_mono_left (l := List.range 36) (p := fun k => cpB V (k / 6) (k % 6)) (q := fun k => canF (caF V 0) ((k / 6 : Nat) : Int) ((k % 6 : Nat) : Int)) fun k hk hp => h2 _ _ (by have := List.mem_range.1 hk; omega) (by omega) hp
  omega
theorem first_in {V : List Int} (hV : V.length = 18) (h64 : I64 V) (hv : isVF V = true) {k nc np : Nat} (hnc : (cpL V).length = nc * 2) (hnp : (poF (caF V 0)).length = np * 2) (hk : k < nc) (jc jp : List Int) : inP (poF (caF V 0) ++ jp) np (((cpL V ++ jc).drop (k * 2)).take 2) = true := by
  obtain ⟨h1, h2⟩ := first_can hV h64 hv
  have e1 : cpL V = GL (cpB V) 36 := by unfold cpL; rw [if_pos hv]
  have e2 : poF (caF V 0) = GL (fun i j => canF (caF V 0) i j) 36 := by unfold poF; rw [if_pos h1]; rfl
  rw [e1] at hnc ⊢
  rw [e2] at hnp ⊢
  rw [List.drop_append_of_le_length (by omega), List.take_append_of_le_length (by rw [List.length_drop]; omega)]
  obtain ⟨a, b, ha, hb, hc, h4⟩ := GL_pair (cpB V) 36 (Nat.le_refl _) k (by omega)
  rw [h4, vGL_in _ ha hb hnp]
  exact h2 a b ha hb hc
theorem cp_two (V : List Int) : ∃ m, (cpL V).length = m * 2 ∧ m ≤ 36 ∧ (cpL V).length / 2 = m := by
  obtain ⟨m, h, h36⟩ := cpL_even V
  exact ⟨m, h, h36, by omega⟩
theorem po_two (R : List Int) : ∃ m, (poF R).length = m * 2 ∧ m ≤ 36 ∧ (poF R).length / 2 = m := by
  unfold poF
  split
  · obtain ⟨m, h, h36⟩ := PL_even R 36
    exact ⟨m, h, h36, by omega⟩
  · exact ⟨0, rfl, by omega, rfl⟩
theorem chs_two {V : List Int} (h : isVF V = true) : (chsF V = [1, ccV V]) ∨ chsF V = [0, 1] := by
  unfold chsF ccV
  rw [if_pos h, if_pos h]
  split
  · exact .inl rfl
  · exact .inr rfl
theorem chs_len (V : List Int) : (chsF V).length = 2 := by
  unfold chsF
  repeat' split
  all_goals rfl
end Go.Proofs.Ytckcojgfgcjamaa
set_option maxRecDepth 100000
set_option linter.unusedSimpArgs false
set_option linter.unusedVariables false
namespace Go.Proofs.Ytckcojgfgcjamaa
open Go Go.RowKit
/-! Sources. -/
--@tbl vSources = laws.vSources
/-! Racks. -/
--@tbl vRacks = laws.vRacks
/-! Pairs. -/
--@tbl vPairs = laws.vPairs
theorem vPairs_ok (L1 L2 : List Int) (e1 e2 c1 c2 m : Nat) (h1 : m * 2 ≤ L1.length) (h2 : m * 2 ≤ L2.length) (h : L1.take (m * 2) = L2.take (m * 2)) (hm : m ≤ 4611686018427387903) :
    PureH Try.prog 43 [.slice 0 0 m c1, .slice 1 0 m c2] [(0, .ints L1 e1), (1, .ints L2 e2)] (.bool true) := by
  refine pure_of_vc (X := ⟨Try.prog, tys, [], [], true, true, 2, [], []⟩) fn_43 ⟨tys_ok, .nil, .nil, mixed⟩ (n0 := 2) (Nat.le_of_ble_eq_true rfl) (by simp [wfL, SV.wf]) (wfH_spec (by simp [wfH, SObj.wf, wfL, SV.wf])) (Nat.le_refl _) (fun _ => by simp [SV.wf, wfL]) ?_
  simp -implicitDefEqProofs only [Try.f43, Option.getD_some, argS, ZB, Int.reduceToNat, Nat.reduceLT, Nat.reduceLeDiff, Int.reduceLE, Int.reduceLT, Nat.reduceEqDiff, Nat.reduceSub, SB, SV.known, packR, ne_eq, reduceCtorEq, Nat.reduceEqDiff, ↓reduceIte, if_true, if_false, eq_self, Nat.reduceAdd, Nat.reduceMul, Nat.reduceSub, forall_const, oneCellS, litOne, flat1, Kd.isSca, flat, TYB]
  refine loop_intro (fun i : Nat => [(5, .int i), (0, .slice 0 0 m c1), (1, .slice 1 0 m c2)]) (fun _ => [(0, .ints L1 e1), (1, .ints L2 e2)]) 2 (fun i => i ≤ m) (fun i => m - i) ?_ ?_
  · refine ⟨0, ?_, Sub.mk_id ?_ ?_ ?_ ?_ ?_⟩
    all_goals (try (simp only [LB, subS, subH, wfS, wfH, SV.ren, renL, SObj.ren, SV.wf, SObj.wf, wfL, SV.known, Nat.reduceEqDiff, ↓reduceIte, if_true, if_false, eq_self, Nat.reduceAdd, Nat.reduceLT, Nat.reduceLeDiff, implies_true, reduceCtorEq, forall_const]; done))
    all_goals (try (simp only [LB, subS, subH, wfS, wfH, SV.ren, renL, SObj.ren, SV.wf, SObj.wf, wfL, SV.known, Nat.reduceEqDiff, ↓reduceIte, if_true, if_false, eq_self, Nat.reduceAdd, Nat.reduceLT, Nat.reduceLeDiff, implies_true, reduceCtorEq, forall_const]; simp; done))
    all_goals (try (simp only [LB, subS, subH, wfS, wfH, SV.ren, renL, SObj.ren, SV.wf, SObj.wf, wfL, SV.known, Nat.reduceEqDiff, ↓reduceIte, if_true, if_false, eq_self, Nat.reduceAdd, Nat.reduceLT, Nat.reduceLeDiff, implies_true, reduceCtorEq, forall_const]; (and_intros <;> (first | omega | rfl | (simp; done) | (simp; omega))); done))
    all_goals (try dsimp only)
    all_goals (and_intros <;> try (first | omega | (unfold In64; omega) | trivial | assumption))
  · intro i hi
    by_cases hlt : i < m
    · have hil : (i : Int) < m := by omega
      have ee : (L1.drop (i * 2)).take 2 = (L2.drop (i * 2)).take 2 := by
        have := congrArg (fun l => (List.drop (i * 2) l).take 2) h
        simp only [List.drop_take, List.take_take] at this
        rw [Nat.min_eq_left (by omega)] at this
        exact this
      have l2 : ((L2.drop (i * 2)).take 2).length = 2 := by rw [List.length_take, List.length_drop]; omega
      simp -implicitDefEqProofs only [lk_normal, hil, ee, l2, eqI_p2, ZB, Int.reduceToNat, Nat.reduceLT, Nat.reduceLeDiff, Int.reduceLE, Int.reduceLT, Nat.reduceEqDiff, Nat.reduceSub, SB, SV.known, packR, ne_eq, reduceCtorEq, Nat.reduceEqDiff, ↓reduceIte, if_true, if_false, eq_self, Nat.reduceAdd, Nat.reduceMul, Nat.reduceSub, forall_const, oneCellS, litOne, flat1, Kd.isSca, flat, TYB]
      (try (and_intros <;> try (first | omega | (unfold In64; omega) | trivial | assumption)))
      refine ⟨i + 1, ?_, ?_, Sub.mk_id ?_ ?_ ?_ ?_ ?_⟩
      all_goals (try (simp only [LB, subS, subH, wfS, wfH, SV.ren, renL, SObj.ren, SV.wf, SObj.wf, wfL, SV.known, Nat.reduceEqDiff, ↓reduceIte, if_true, if_false, eq_self, Nat.reduceAdd, Nat.reduceLT, Nat.reduceLeDiff, implies_true, reduceCtorEq, forall_const]; done))
      all_goals (try (simp only [LB, subS, subH, wfS, wfH, SV.ren, renL, SObj.ren, SV.wf, SObj.wf, wfL, SV.known, Nat.reduceEqDiff, ↓reduceIte, if_true, if_false, eq_self, Nat.reduceAdd, Nat.reduceLT, Nat.reduceLeDiff, implies_true, reduceCtorEq, forall_const]; simp; done))
      all_goals (try (simp only [LB, subS, subH, wfS, wfH, SV.ren, renL, SObj.ren, SV.wf, SObj.wf, wfL, SV.known, Nat.reduceEqDiff, ↓reduceIte, if_true, if_false, eq_self, Nat.reduceAdd, Nat.reduceLT, Nat.reduceLeDiff, implies_true, reduceCtorEq, forall_const]; (and_intros <;> (first | omega | rfl | (simp; done) | (simp; omega))); done))
      all_goals (try dsimp only)
      all_goals (and_intros <;> try (first | omega | (unfold In64; omega) | trivial | assumption))
    · have hil : ¬ (i : Int) < m := by omega
      simp -implicitDefEqProofs only [lk_normal, hil, ZB, Int.reduceToNat, Nat.reduceLT, Nat.reduceLeDiff, Int.reduceLE, Int.reduceLT, Nat.reduceEqDiff, Nat.reduceSub, SB, SV.known, packR, ne_eq, reduceCtorEq, Nat.reduceEqDiff, ↓reduceIte, if_true, if_false, eq_self, Nat.reduceAdd, Nat.reduceMul, Nat.reduceSub, forall_const, oneCellS, litOne, flat1, Kd.isSca, flat, TYB]
theorem vPairs_ns (L2 : List Int) (e2 c2 : Nat) : PureH Try.prog 43 [.nils, .slice 0 0 0 c2] [(0, .ints L2 e2)] (.bool true) := by
  refine pure_of_vc (X := ⟨Try.prog, tys, [], [], true, true, 1, [], []⟩) fn_43 ⟨tys_ok, .nil, .nil, mixed⟩ (n0 := 1) (Nat.le_of_ble_eq_true rfl) (by simp [wfL, SV.wf]) (wfH_spec (by simp [wfH, SObj.wf, wfL, SV.wf])) (Nat.le_refl _) (fun _ => by simp [SV.wf, wfL]) ?_
  simp -implicitDefEqProofs only [Try.f43, Option.getD_some, argS, ZB, Int.reduceToNat, Nat.reduceLT, Nat.reduceLeDiff, Int.reduceLE, Int.reduceLT, Nat.reduceEqDiff, Nat.reduceSub, SB, SV.known, packR, ne_eq, reduceCtorEq, Nat.reduceEqDiff, ↓reduceIte, if_true, if_false, eq_self, Nat.reduceAdd, Nat.reduceMul, Nat.reduceSub, forall_const, oneCellS, litOne, flat1, Kd.isSca, flat, TYB]
  refine loop_intro (fun i : Nat => [(5, .int 0), (0, .nils), (1, .slice 0 0 0 c2)]) (fun _ => [(0, .ints L2 e2)]) 1 (fun i => True) (fun i => 0) ?_ ?_
  · refine ⟨0, ?_, Sub.mk_id ?_ ?_ ?_ ?_ ?_⟩
    all_goals (try (simp only [LB, subS, subH, wfS, wfH, SV.ren, renL, SObj.ren, SV.wf, SObj.wf, wfL, SV.known, Nat.reduceEqDiff, ↓reduceIte, if_true, if_false, eq_self, Nat.reduceAdd, Nat.reduceLT, Nat.reduceLeDiff, implies_true, reduceCtorEq, forall_const]; done))
    all_goals (try (simp only [LB, subS, subH, wfS, wfH, SV.ren, renL, SObj.ren, SV.wf, SObj.wf, wfL, SV.known, Nat.reduceEqDiff, ↓reduceIte, if_true, if_false, eq_self, Nat.reduceAdd, Nat.reduceLT, Nat.reduceLeDiff, implies_true, reduceCtorEq, forall_const]; simp; done))
    all_goals (try (simp only [LB, subS, subH, wfS, wfH, SV.ren, renL, SObj.ren, SV.wf, SObj.wf, wfL, SV.known, Nat.reduceEqDiff, ↓reduceIte, if_true, if_false, eq_self, Nat.reduceAdd, Nat.reduceLT, Nat.reduceLeDiff, implies_true, reduceCtorEq, forall_const]; (and_intros <;> (first | omega | rfl | (simp; done) | (simp; omega))); done))
    all_goals (try dsimp only)
    all_goals (and_intros <;> try (first | omega | (unfold In64; omega) | trivial | assumption))
  · intro i hi
    simp -implicitDefEqProofs only [lk_normal, ZB, Int.reduceToNat, Nat.reduceLT, Nat.reduceLeDiff, Int.reduceLE, Int.reduceLT, Nat.reduceEqDiff, Nat.reduceSub, SB, SV.known, packR, ne_eq, reduceCtorEq, Nat.reduceEqDiff, ↓reduceIte, if_true, if_false, eq_self, Nat.reduceAdd, Nat.reduceMul, Nat.reduceSub, forall_const, oneCellS, litOne, flat1, Kd.isSca, flat, TYB]
theorem vPairs_sn (L1 : List Int) (e1 c1 : Nat) : PureH Try.prog 43 [.slice 0 0 0 c1, .nils] [(0, .ints L1 e1)] (.bool true) := by
  refine pure_of_vc (X := ⟨Try.prog, tys, [], [], true, true, 1, [], []⟩) fn_43 ⟨tys_ok, .nil, .nil, mixed⟩ (n0 := 1) (Nat.le_of_ble_eq_true rfl) (by simp [wfL, SV.wf]) (wfH_spec (by simp [wfH, SObj.wf, wfL, SV.wf])) (Nat.le_refl _) (fun _ => by simp [SV.wf, wfL]) ?_
  simp -implicitDefEqProofs only [Try.f43, Option.getD_some, argS, ZB, Int.reduceToNat, Nat.reduceLT, Nat.reduceLeDiff, Int.reduceLE, Int.reduceLT, Nat.reduceEqDiff, Nat.reduceSub, SB, SV.known, packR, ne_eq, reduceCtorEq, Nat.reduceEqDiff, ↓reduceIte, if_true, if_false, eq_self, Nat.reduceAdd, Nat.reduceMul, Nat.reduceSub, forall_const, oneCellS, litOne, flat1, Kd.isSca, flat, TYB]
  refine loop_intro (fun i : Nat => [(5, .int 0), (0, .slice 0 0 0 c1), (1, .nils)]) (fun _ => [(0, .ints L1 e1)]) 1 (fun i => True) (fun i => 0) ?_ ?_
  · refine ⟨0, ?_, Sub.mk_id ?_ ?_ ?_ ?_ ?_⟩
    all_goals (try (simp only [LB, subS, subH, wfS, wfH, SV.ren, renL, SObj.ren, SV.wf, SObj.wf, wfL, SV.known, Nat.reduceEqDiff, ↓reduceIte, if_true, if_false, eq_self, Nat.reduceAdd, Nat.reduceLT, Nat.reduceLeDiff, implies_true, reduceCtorEq, forall_const]; done))
    all_goals (try (simp only [LB, subS, subH, wfS, wfH, SV.ren, renL, SObj.ren, SV.wf, SObj.wf, wfL, SV.known, Nat.reduceEqDiff, ↓reduceIte, if_true, if_false, eq_self, Nat.reduceAdd, Nat.reduceLT, Nat.reduceLeDiff, implies_true, reduceCtorEq, forall_const]; simp; done))
    all_goals (try (simp only [LB, subS, subH, wfS, wfH, SV.ren, renL, SObj.ren, SV.wf, SObj.wf, wfL, SV.known, Nat.reduceEqDiff, ↓reduceIte, if_true, if_false, eq_self, Nat.reduceAdd, Nat.reduceLT, Nat.reduceLeDiff, implies_true, reduceCtorEq, forall_const]; (and_intros <;> (first | omega | rfl | (simp; done) | (simp; omega))); done))
    all_goals (try dsimp only)
    all_goals (and_intros <;> try (first | omega | (unfold In64; omega) | trivial | assumption))
  · intro i hi
    simp -implicitDefEqProofs only [lk_normal, ZB, Int.reduceToNat, Nat.reduceLT, Nat.reduceLeDiff, Int.reduceLE, Int.reduceLT, Nat.reduceEqDiff, Nat.reduceSub, SB, SV.known, packR, ne_eq, reduceCtorEq, Nat.reduceEqDiff, ↓reduceIte, if_true, if_false, eq_self, Nat.reduceAdd, Nat.reduceMul, Nat.reduceSub, forall_const, oneCellS, litOne, flat1, Kd.isSca, flat, TYB]
theorem vPairs_nn (H : Heap) : PureH Try.prog 43 [.nils, .nils] H (.bool true) := by
  refine PureH.any ?_ H
  refine pure_of_vc (X := ⟨Try.prog, tys, [], [], true, true, 0, [], []⟩) fn_43 ⟨tys_ok, .nil, .nil, mixed⟩ (n0 := 0) (Nat.le_of_ble_eq_true rfl) (by simp [wfL, SV.wf]) (wfH_spec (by simp [wfH, SObj.wf, wfL, SV.wf])) (Nat.le_refl _) (fun _ => by simp [SV.wf, wfL]) ?_
  simp -implicitDefEqProofs only [Try.f43, Option.getD_some, argS, ZB, Int.reduceToNat, Nat.reduceLT, Nat.reduceLeDiff, Int.reduceLE, Int.reduceLT, Nat.reduceEqDiff, Nat.reduceSub, SB, SV.known, packR, ne_eq, reduceCtorEq, Nat.reduceEqDiff, ↓reduceIte, if_true, if_false, eq_self, Nat.reduceAdd, Nat.reduceMul, Nat.reduceSub, forall_const, oneCellS, litOne, flat1, Kd.isSca, flat, TYB]
  refine loop_intro (fun i : Nat => [(5, .int 0), (0, .nils), (1, .nils)]) (fun _ => []) 0 (fun i => True) (fun i => 0) ?_ ?_
  · refine ⟨0, ?_, Sub.mk_id ?_ ?_ ?_ ?_ ?_⟩
    all_goals (try (simp only [LB, subS, subH, wfS, wfH, SV.ren, renL, SObj.ren, SV.wf, SObj.wf, wfL, SV.known, Nat.reduceEqDiff, ↓reduceIte, if_true, if_false, eq_self, Nat.reduceAdd, Nat.reduceLT, Nat.reduceLeDiff, implies_true, reduceCtorEq, forall_const]; done))
    all_goals (try (simp only [LB, subS, subH, wfS, wfH, SV.ren, renL, SObj.ren, SV.wf, SObj.wf, wfL, SV.known, Nat.reduceEqDiff, ↓reduceIte, if_true, if_false, eq_self, Nat.reduceAdd, Nat.reduceLT, Nat.reduceLeDiff, implies_true, reduceCtorEq, forall_const]; simp; done))
    all_goals (try (simp only [LB, subS, subH, wfS, wfH, SV.ren, renL, SObj.ren, SV.wf, SObj.wf, wfL, SV.known, Nat.reduceEqDiff, ↓reduceIte, if_true, if_false, eq_self, Nat.reduceAdd, Nat.reduceLT, Nat.reduceLeDiff, implies_true, reduceCtorEq, forall_const]; (and_intros <;> (first | omega | rfl | (simp; done) | (simp; omega))); done))
    all_goals (try dsimp only)
    all_goals (and_intros <;> try (first | omega | (unfold In64; omega) | trivial | assumption))
  · intro i hi
    simp -implicitDefEqProofs only [lk_normal, ZB, Int.reduceToNat, Nat.reduceLT, Nat.reduceLeDiff, Int.reduceLE, Int.reduceLT, Nat.reduceEqDiff, Nat.reduceSub, SB, SV.known, packR, ne_eq, reduceCtorEq, Nat.reduceEqDiff, ↓reduceIte, if_true, if_false, eq_self, Nat.reduceAdd, Nat.reduceMul, Nat.reduceSub, forall_const, oneCellS, litOne, flat1, Kd.isSca, flat, TYB]
def vPairs_F : List SV → Heap → Option (Prop × SV)
  | [.slice a 0 l1 _, .slice b 0 l2 _], H => match hget H a, hget H b with
    | some (.ints L1 _), some (.ints L2 _) => some (a ≠ b ∧ l1 = l2 ∧ l1 * 2 ≤ L1.length ∧ l2 * 2 ≤ L2.length ∧ L1.take (l1 * 2) = L2.take (l2 * 2) ∧ l1 ≤ 4611686018427387903, .bool true)
    | _, _ => none
  | [.nils, .slice b 0 l2 _], H => match hget H b with
    | some (.ints _ _) => some (l2 = 0, .bool true)
    | _ => none
  | [.slice a 0 l1 _, .nils], H => match hget H a with
    | some (.ints _ _) => some (l1 = 0, .bool true)
    | _ => none
  | [.nils, .nils], _ => some (True, .bool true)
  | _, _ => none
theorem vPairs_T : ∀ args H p v, vPairs_F args H = some (p, v) → p → PureH Try.prog 43 args H v := by
  intro args H p v h hp
  unfold vPairs_F at h
  split at h
  · rename_i a l1 c1 b l2 c2
    split at h
    · rename_i L1 e1 L2 e2 g1 g2
      cases h
      obtain ⟨hab, rfl, q1, q2, q3, q4⟩ := hp
      have := (vPairs_ok L1 L2 e1 e2 c1 c2 l1 q1 q2 q3 q4).sub (H := H) (fun j => if j = 0 then a else b) (fun j o hj => by
        simp only [hget_cons] at hj
        split at hj
        · rename_i hj0; cases hj; refine ⟨?_, fun _ => by omega, by simp [hj0]⟩; show hget H (if j = 0 then a else b) = _; rw [if_pos hj0]; exact g1
        · rename_i hj0
          split at hj
          · rename_i hj1; cases hj; refine ⟨?_, fun _ => by omega, by simp [hj1]⟩; show hget H (if j = 0 then a else b) = _; rw [if_neg hj0]; exact g2
          · cases hj) (fun x hx y hy he => by
        simp at hx hy
        rcases hx with rfl | rfl <;> rcases hy with rfl | rfl <;> simp at he <;> omega) (fun _ => trivial)
      simpa [renL, SV.ren] using this
    · cases h
  · rename_i b l2 c2
    split at h
    · rename_i L2 e2 g2
      cases h
      subst hp
      exact one_block (vPairs_ns L2 e2 c2) g2 rfl (fun _ => trivial)
    · cases h
  · rename_i a l1 c1
    split at h
    · rename_i L1 e1 g1
      cases h
      subst hp
      exact one_block (vPairs_sn L1 e1 c1) g1 rfl (fun _ => trivial)
    · cases h
  · cases h
    exact vPairs_nn H
  · cases h
/-- Two fresh lists that are alike. -/
theorem vPairs_al {L j j' : List Int} {n : Nat} (h : L.length = n * 2) (hn : n ≤ 4611686018427387903) : n * 2 ≤ (L ++ j).length ∧ n * 2 ≤ (L ++ j').length ∧ List.take (n * 2) (L ++ j) = List.take (n * 2) (L ++ j') ∧ n ≤ 4611686018427387903 :=
  ⟨by rw [List.length_append]; omega, by rw [List.length_append]; omega, by rw [List.take_left' h, List.take_left' h], hn⟩
end Go.Proofs.Ytckcojgfgcjamaa
set_option maxRecDepth 100000
set_option linter.unusedSimpArgs false
set_option linter.unusedVariables false
namespace Go.Proofs.Ytckcojgfgcjamaa
open Go Go.RowKit
/-- A list of numbers L, len parts of es numbers, whose block (if there is one) lies from lo on and before hi. -/
structure SlA (v : SV) (L : List Int) (len es e lo hi : Nat) (H : Heap) : Prop where
  kn : v.known = true
  oc : oneCellS v = true
  ln : L.length = len * es
  at_ : (v = .nils ∧ len = 0) ∨ ∃ (b cap : Nat) (junk : List Int), v = .slice b 0 len cap ∧ lo ≤ b ∧ b < hi ∧ hget H b = some (.ints (L ++ junk) e)
theorem SlA.up {v : SV} {L : List Int} {len es e lo hi : Nat} {H H' : Heap} (h : SlA v L len es e lo hi H) (hf : ∀ i o, i < hi → hget H i = some o → hget H' i = some o) : SlA v L len es e lo hi H' :=
  ⟨h.kn, h.oc, h.ln, by
    rcases h.at_ with h1 | ⟨b, cap, junk, h1, h2, h3, h4⟩
    · exact .inl h1
    · exact .inr ⟨b, cap, junk, h1, h2, h3, hf _ _ h3 h4⟩⟩
theorem SlA.wk {v : SV} {L : List Int} {len es e lo hi lo' hi' : Nat} {H : Heap} (h : SlA v L len es e lo hi H) (h1 : lo' ≤ lo) (h2 : hi ≤ hi') : SlA v L len es e lo' hi' H :=
  ⟨h.kn, h.oc, h.ln, by
    rcases h.at_ with h3 | ⟨b, cap, junk, g1, g2, g3, g4⟩
    · exact .inl h3
    · exact .inr ⟨b, cap, junk, g1, by omega, by omega, g4⟩⟩
theorem SlA.wfv {v : SV} {L : List Int} {len es e lo hi n : Nat} {H : Heap} (h : SlA v L len es e lo hi H) (h2 : hi ≤ n) : v.wf n := by
  rcases h.at_ with ⟨rfl, _⟩ | ⟨b, cap, junk, rfl, g2, g3, g4⟩
  · trivial
  · show b < n; omega
theorem SlA.len {v : SV} {L : List Int} {len es e lo hi : Nat} {H0 : Heap} (h : SlA v L len es e lo hi H0) (e' s b : Nat) (z : SV) (H : Heap) (n : Nat) (κ : K1) : lenVC ⟨.sl e', s, b, z⟩ v H n κ = κ (.int (len : Int)) H n := by
  rcases h.at_ with ⟨rfl, rfl⟩ | ⟨b, cap, junk, rfl, g2, g3, g4⟩ <;> rfl
theorem freshK_sl {wr : Wrap} {L : List Int} {len es e : Nat} {nl : Bool} {H : Heap} {n : Nat} {κ : K1} (hw : hwf n H) (hl : L.length = len * es) (hes : 0 < es)
    (h : ∀ v H' n', SlA v L len es e n n' H' → Kpt n H H' n' → κ (wr.ap v) H' n') : freshK wr L len es e nl H n κ := by
  refine freshK_of (fun h0 => h _ _ _ ⟨rfl, rfl, hl, .inl ⟨rfl, ?_⟩⟩ ⟨Nat.le_refl _, hw, fun _ _ _ h => h⟩) fun cap junk hj => h _ _ _ ⟨rfl, rfl, hl, .inr ⟨n, cap, junk, rfl, Nat.le_refl _, Nat.lt_succ_self _, by simp [hget_cons]⟩⟩
    ⟨Nat.le_succ _, hwf_cons (hwf_mono (Nat.le_succ _) hw) (Nat.lt_succ_self _) trivial, fun i o hi ho => by rw [hget_cons, if_neg (by omega)]; exact ho⟩
  rw [h0] at hl
  rcases Nat.eq_zero_or_pos len with h1 | h1
  · exact h1
  · have := Nat.mul_pos h1 hes
    simp at hl; omega
theorem Kpt.trans {n n1 n2 : Nat} {H H1 H2 : Heap} (h : Kpt n H H1 n1) (h' : Kpt n1 H1 H2 n2) : Kpt n H H2 n2 := ⟨Nat.le_trans h.le h'.le, h'.wf, fun i o hi ho => h'.fr i o (by have := h.le; omega) (h.fr i o hi ho)⟩
theorem Kpt.push {n n1 : Nat} {H H1 : Heap} (h : Kpt n H H1 n1) {L : List Int} {e : Nat} : Kpt n H ((n1, .ints L e) :: H1) (n1 + 1) :=
  ⟨by have := h.le; omega, hwf_cons (hwf_mono (Nat.le_succ _) h.wf) (Nat.lt_succ_self _) trivial, fun i o hi ho => by rw [hget_cons, if_neg (by have := h.le; omega)]; exact h.fr i o hi ho⟩
theorem Kpt.put {n n1 b : Nat} {H H1 : Heap} (h : Kpt n H H1 n1) (hb : n ≤ b ∧ b < n1) {L : List Int} {e : Nat} : Kpt n H ((b, .ints L e) :: H1) n1 :=
  ⟨h.le, hwf_cons h.wf hb.2 trivial, fun i o hi ho => by rw [hget_cons, if_neg (by omega)]; exact h.fr i o hi ho⟩
theorem Kpt.refl {n : Nat} {H : Heap} (h : hwf n H) : Kpt n H H n := ⟨Nat.le_refl _, h, fun _ _ _ h => h⟩
theorem vP_use {v w : SV} {L : List Int} {len e e' lo hi lo' hi' : Nat} {H : Heap} (h1 : SlA v L len 2 e lo hi H) (h2 : SlA w L len 2 e' lo' hi' H) (hh : hi ≤ lo') (hn : len ≤ 4611686018427387903) : ∃ P, vPairs_F [v, w] H = some (P, .bool true) ∧ P = True := by
  rcases h1.at_ with ⟨rfl, h0⟩ | ⟨b, cap, junk, rfl, b1, b2, g1⟩ <;> rcases h2.at_ with ⟨rfl, h0'⟩ | ⟨b', cap', junk', rfl, b3, b4, g2⟩
  · exact ⟨_, rfl, rfl⟩
  · refine ⟨_, by simp only [vPairs_F, g2], eq_true h0⟩
  · refine ⟨_, by simp only [vPairs_F, g1], eq_true h0'⟩
  · have e : vPairs_F [.slice b 0 len cap, .slice b' 0 len cap'] H = some ((b ≠ b' ∧ len = len ∧ len * 2 ≤ (L ++ junk).length ∧ len * 2 ≤ (L ++ junk').length ∧ (L ++ junk).take (len * 2) = (L ++ junk').take (len * 2) ∧ len ≤ 4611686018427387903), .bool true) := by simp only [vPairs_F, g1, g2]
    exact ⟨_, e, eq_true ⟨by omega, rfl, vPairs_al h1.ln hn⟩⟩
end Go.Proofs.Ytckcojgfgcjamaa
set_option maxRecDepth 100000
set_option linter.unusedSimpArgs false
set_option linter.unusedVariables false
namespace Go.Proofs.Ytckcojgfgcjamaa
open Go Go.RowKit
section
variable {P : Program} {τ : Tys} {B : Nat → Nat} {M : Nat → Prop} {m n : Nat} {w : World} {H : Heap} {κ : K1}
def byV (L : List Int) : List SV := L.map fun x => .lit (.int .u8 x)
def byC (L : List Int) : Array Value := (L.map (Value.int .u8)).toArray
theorem byV_den (B : Nat → Nat) (L : List Int) (e : Nat) : (SObj.cells (byV L) e).den B = .cells (byC L) e (0, 0) := by
  simp [SObj.den, byV, byC, denL_map, SV.den, Function.comp_def]
theorem byV_wf (n : Nat) (L : List Int) (e : Nat) : (SObj.cells (byV L) e).wf n := by
  simp only [SObj.wf]
  rw [wfL_iff]
  intro v hv
  obtain ⟨x, _, rfl⟩ := List.mem_map.1 hv
  trivial
theorem zero_u8 (k : Nat) : Builtin.zeroCells ([Value.int .u8 0].toArray) k = byC (List.replicate k 0) := by
  unfold Builtin.zeroCells byC
  apply Array.ext'
  simp only [Array.toList_map, Array.toList_range, List.size_toArray, List.length_cons, List.length_nil, Nat.zero_add, Nat.mod_one, List.map_replicate]
  rw [List.eq_replicate_iff]
  refine ⟨by simp, fun b hb => ?_⟩
  obtain ⟨i, _, rfl⟩ := List.mem_map.1 hb
  rfl
/-- What is known of the type of bytes. -/
structure U8 (τ : Tys) (e : Nat) : Prop where
  k : (τ e).k ≠ .other
  z : (τ e).z = .lit (.int .u8 0)
  size : (τ e).size = 1
  bytes : (τ e).bytes = 1
theorem appU_sound {t ty e : TypeId} {x : SV} {a : Addr} {k c b len : Nat} {L news : List Int} (hτ : TysOK P τ) (hu : U8 τ e) (hk : (τ t).k = .sl e) (hH : HR B H w) (hw : hwf n H) (hown : Own M m B H) (hM : M w.heap.size)
    (hg : hget H b = some (.cells (byV L) e)) (hm : m ≤ b) (hlc : len ≤ L.length) (hx : x.den B = .slice (some a) k c) (hk0 : 0 < k) (hnl : news.length = k) (hnews : ∀ j u, (news.map (Value.int .u8))[j]? = some u → w.cell? (a.add j) = some u) (hsz : len + k ≤ 140737488355328)
    (hκ : ∀ junk : List Int, κ (.slice n 0 (len + k) (len + k + junk.length)) ((n, .cells (byV (L.take len ++ news ++ junk)) e) :: (b, .dead) :: H) (n + 1)) :
    EffRes P B M m n w (do pure (.value (← Builtin.append_ ([t, t].toArray) ty ([(SV.slice b 0 len L.length).den B, x.den B].toArray)))) κ := by
  obtain ⟨i, hi, his, hib, hzi⟩ := ty_info hτ hu.k
  rw [hu.size] at his
  rw [hu.bytes] at hib
  have hzi' := hzi (by rw [hu.z]; rfl)
  rw [hu.z] at hzi'
  have hsl := und_sl hτ hk
  have hb := hH.at_ b _ hg rfl
  have hb : w.heap[B b]? = some (.cells (byC L) e (0, 0)) := by rw [← byV_den B]; exact hb
  rw [hx]
  simp only [SV.den]
  by_cases hroom : len + k ≤ L.length
  · have hr := run_append_room (P := P) w t ty e i hsl hi (B b) len L.length (byC L) hb a k c (news.map (Value.int .u8)) (by simp [hnl, his]) hnews (by intro u hu; simp at hu; obtain ⟨x, _, rfl⟩ := hu; rfl) hroom (by rw [his]; simp [hnl, byC]; omega)
    have e1 : (((byC L).toList.take (len * i.size) ++ news.map (Value.int .u8) ++ (byC L).toList.drop (len * i.size + (news.map (Value.int .u8)).length)).toArray) = byC (L.take len ++ news ++ L.drop (len + k)) := by
      rw [his]; simp [byC, hnl, List.map_take, List.map_drop]
    rw [e1] at hr
    have hlen : len + k + (L.drop (len + k)).length = L.length := by rw [List.length_drop]; omega
    have h6 := hκ (L.drop (len + k))
    rw [hlen] at h6
    refine ⟨_, _, n + 1, upd B n (B b), .slice (some ⟨B b, 0, none⟩) (len + k) L.length, _, h6, by omega, by simp [SV.wf], ?_, upd_lt _ _ _, HR.move (cs := byC (L.take len ++ news ++ L.drop (len + k))) hH hw hg rfl hb (byV_den _ _ _) rfl, Kept.setRow w _ _ (hown b _ hg rfl hm), ?_, fun _ => by simp [SV.den, upd_self], .inl (by simp [hr])⟩
    · exact hwf_cons (hwf_cons (hwf_mono (by omega) hw) (by have := (hw b _ hg).1; omega) trivial) (by omega) (byV_wf _ _ _)
    · exact Own.new (hown.kill b) (hwf_cons hw (hw b _ hg).1 trivial) (hown b _ hg rfl hm)
  · have holds : ∀ j u, ((L.take len).map (Value.int .u8))[j]? = some u → w.cell? ((⟨B b, 0, none⟩ : Addr).add j) = some u := by
      intro j u hj
      rw [add_addr]
      refine cell_at hb ?_
      have hjl : j < len := by
        rcases Nat.lt_or_ge j len with h | h
        · exact h
        · rw [List.getElem?_eq_none (by simp; omega)] at hj; cases hj
      rw [List.getElem?_map, List.getElem?_take, if_pos hjl] at hj
      rw [Nat.zero_add]
      simpa [byC] using hj
    have hr := run_append_grow (P := P) w t ty e i _ hsl hi hzi' ⟨B b, 0, none⟩ len L.length ((L.take len).map (Value.int .u8)) (by simp [his]; omega) holds a k c (news.map (Value.int .u8)) (by simp [hnl, his]) hnews (by omega) (by omega) (by rw [hib]; exact growslice_fits (by omega) (by omega))
    have hc := grownCap_ge w (len + k) L.length e
    have e1 : ((L.take len).map (Value.int .u8)).toArray ++ (news.map (Value.int .u8)).toArray ++ Builtin.zeroCells (Value.cells ((SV.lit (.int .u8 0)).den fun _ => 0)) (grownCap w (len + k) L.length e - (len + k)) = byC (L.take len ++ news ++ List.replicate (grownCap w (len + k) L.length e - (len + k)) 0) := by
      have hzc : Value.cells ((SV.lit (.int .u8 0)).den fun _ => 0) = ([Value.int .u8 0].toArray) := rfl
      rw [hzc, zero_u8]; simp [byC, List.map_take]
    rw [e1] at hr
    have hlen : len + k + (List.replicate (grownCap w (len + k) L.length e - (len + k)) (0 : Int)).length = grownCap w (len + k) L.length e := by
      rw [List.length_replicate]; omega
    have h6 := hκ (List.replicate (grownCap w (len + k) L.length e - (len + k)) 0)
    rw [hlen] at h6
    refine res_new (o := .cells (byV (L.take len ++ news ++ List.replicate (grownCap w (len + k) L.length e - (len + k)) 0)) e) (x := .slice (some ⟨w.heap.size, 0, none⟩) (len + k) (grownCap w (len + k) L.length e)) (hH.kill b) (hwf_cons hw (hw b _ hg).1 trivial) (hown.kill b) hM rfl rfl (byV_wf _ _ _) h6 (by simp [SV.wf]) (by simp [SV.den, upd_self]) (w.drew.alloc (.cells (byC (L.take len ++ news ++ List.replicate (grownCap w (len + k) L.length e - (len + k)) 0)) e)) (by rw [byV_den]; rfl) ((Kept.drew w).trans (Kept.alloc _ _)) (by simp [hr])
/-- Nothing is appended. -/
theorem appE_sound {t ty e : TypeId} {x : SV} {b len cap : Nat} (hτ : TysOK P τ) (hu : U8 τ e) (hk : (τ t).k = .sl e) (hH : HR B H w) (hw : hwf n H) (hown : Own M m B H) (hs : (SV.slice b 0 len cap).wf n) (hlc : len ≤ cap)
    (hx0 : (∃ a c, x.den B = .slice (some a) 0 c) ∨ x.den B = .slice none 0 0) (hκ : κ (.slice b 0 len cap) H n) :
    EffRes P B M m n w (do pure (.value (← Builtin.append_ ([t, t].toArray) ty ([(SV.slice b 0 len cap).den B, x.den B].toArray)))) κ := by
  have hsl := und_sl hτ hk
  have hfc : ∀ w', (Builtin.firstCells (τ e).size 0 (x.den B)).run P w' = .ok ([].toArray) w' := fun w' => by
    rcases hx0 with ⟨a, c, e⟩ | e <;> rw [e] <;> simp [Builtin.firstCells, loadCells, loadCellsFrom]
  have hlo : ∀ w', (Builtin.lenOf (x.den B)).run P w' = .ok 0 w' := fun w' => by
    rcases hx0 with ⟨a, c, e⟩ | e <;> rw [e] <;> simp [Builtin.lenOf]
  refine ⟨.slice b 0 len cap, H, n, B, .slice (some ⟨B b, 0, none⟩) len cap, w, hκ, Nat.le_refl _, hs, hw, fun _ _ => rfl, hH, Kept.refl _ _, hown, fun _ => rfl, .inl ?_⟩
  simp [SV.den, Builtin.append_, run_underlying hsl, run_info hτ hu.k, hlo, hfc, hlc, storeCells]
theorem bs0_sound {t e : TypeId} (hτ : TysOK P τ) (hu : U8 τ e) (hk : (τ t).k = .sl e) (hH : HR B H w) (hw : hwf n H) (hown : Own M m B H) (hM : M w.heap.size) (hκ : κ (.slice n 0 0 0) ((n, .cells (byV []) e) :: H) (n + 1)) :
    EffRes P B M m n w (do pure (.value (← Instr.buildSlice t 0 ([].toArray)))) κ := by
  refine res_new (o := .cells (byV []) e) (x := .slice (some ⟨w.heap.size, 0, none⟩) 0 0) hH hw hown hM rfl rfl (byV_wf _ _ _) hκ (by simp [SV.wf]) (by simp [SV.den, upd_self]) (w.alloc (.cells ([].toArray) e)) (by rw [byV_den]; rfl) (Kept.alloc _ _) ?_
  have hr0 : ∀ f : Nat → Value, (Array.range 0).map f = ([].toArray) := fun f => by apply Array.ext'; simp
  simp [hr0, Instr.buildSlice, Sem.run_bind, run_underlying (und_sl hτ hk), run_info hτ hu.k, hu.size, run_newRow', Instr.fill]
theorem bs1_sound {t e : TypeId} {y : Int} (hτ : TysOK P τ) (hu : U8 τ e) (hk : (τ t).k = .sl e) (hH : HR B H w) (hw : hwf n H) (hown : Own M m B H) (hM : M w.heap.size) (hκ : κ (.slice n 0 1 1) ((n, .cells (byV [y]) e) :: H) (n + 1)) :
    EffRes P B M m n w (do pure (.value (← Instr.buildSlice t 1 ([(0, .int .u8 y)].toArray)))) κ := by
  refine res_new (o := .cells (byV [y]) e) (x := .slice (some ⟨w.heap.size, 0, none⟩) 1 1) hH hw hown hM rfl rfl (byV_wf _ _ _) hκ (by simp [SV.wf]) (by simp [SV.den, upd_self]) (w.alloc (.cells ([.int .u8 y].toArray) e)) (by rw [byV_den]; rfl) (Kept.alloc _ _) ?_
  obtain ⟨i, hi, his, hib, hzi⟩ := ty_info hτ hu.k
  have hz' := hzi (by rw [hu.z]; rfl)
  rw [hu.z] at hz'
  have hz : (zeroValue e).run P w = .ok (.int .u8 0) w := by simp [zeroValue, typeInfo, hi, hz', SV.den]
  have hrow : Builtin.zeroCells ([Value.int .u8 0].toArray) 1 = ([Value.int .u8 0].toArray) := by rw [zero_u8]; rfl
  have hrow : ([Value.int .u8 0].toArray) = (Array.range 1).map (fun i => ([Value.int .u8 0].toArray)[i % ([Value.int .u8 0].toArray).size]!) := by
    apply Array.ext'
    simp only [Array.toList_map, Array.toList_range, List.size_toArray, List.length_cons, List.length_nil, Nat.zero_add, Nat.mod_one]
    rfl
  have hf : Instr.fill (fun i => some (i * 1, 1)) ([Value.int .u8 0].toArray) [(0, Value.int .u8 y)] = some ([Value.int .u8 y].toArray) := by rfl
  have hzc : Value.cells (Value.int .u8 0) = ([Value.int .u8 0].toArray) := rfl
  have h1 : ¬ (1 * 1 > 2 ^ 24) := by simp
  have h2 : ¬ (1 * 1 = 0) := by simp
  simp only [Instr.buildSlice, Sem.run_bind, run_underlying (und_sl hτ hk), Result.andThen_ok, run_info hτ hu.k, hu.size, h1, h2, if_false, hz, Sem.run_pure, hzc, ← hrow, hf, run_newRow']
end
end Go.Proofs.Ytckcojgfgcjamaa
set_option maxRecDepth 100000
set_option linter.unusedSimpArgs false
set_option linter.unusedVariables false
namespace Go.Proofs.Ytckcojgfgcjamaa
open Go Go.RowKit
section
variable {X : Cx} {N p : Nat} {M : Nat → Prop} {S : Env} {H : Heap} {n : Nat} {B : Nat → Nat} {a : Act} {w : World} {κ : K1} {o : Oper} {rest : List Oper} {Q : Exit → Act → World → Prop}
theorem ops_eff (all : Array Oper) (hd : dstsOK N (o :: rest) = true) (hgd : o.guard = none) (hg : Gs X N p M S H n B a w) (he : EffRes X.P B M X.m n w (execOp a.eval o) κ)
    (hK : ∀ v H' n' B' a' w', κ v H' n' → Gs X N p M (sput S o.dst v) H' n' B' a' w' → Rel p M B w B' w' → wpList X.P all Q rest a' w') : wpList X.P all Q (o :: rest) a w := by
  obtain ⟨v, H', n', B', x, w', g1, g2, g3, g4, g5, g6, g7, g8, g9, g10⟩ := he
  obtain ⟨hg', hr⟩ := hg.put o.dst (dstsOK_head hd) (⟨g2, g3, g4, g5, g6, g8, g7⟩ : Aft B M X.m n w v H' n' B' w') g9
  have := hK v H' n' B' _ w' g1 hg' hr
  unfold wpList
  rw [if_pos (by simp [Region.wanted, hgd])]
  left
  unfold Oper.wp
  rcases g10 with g10 | ⟨g10, rfl⟩ <;> rw [g10] <;> exact this
theorem ops_norm (hX : CxOK X) (all : Array Oper) {q : Bool} (hd : dstsOK N (o :: rest) = true) (hgd : o.guard = none) (hg : Gs X N p M S H n B a w) (h : opVC X q o.op S H n κ)
    (hK : ∀ v H' n' B' a' w', κ v H' n' → Gs X N p M (sput S o.dst v) H' n' B' a' w' → Rel p M B w B' w' → wpList X.P all Q rest a' w') : wpList X.P all Q (o :: rest) a w := by
  unfold wpList
  rw [if_pos (by simp [Region.wanted, hgd])]
  left
  refine op_sound hX hg.sr hg.swf hg.hr hg.hwf hg.own hg.new h fun v H' n' B' w' x hκ ha hx => ?_
  obtain ⟨hg', hr⟩ := hg.put o.dst (dstsOK_head hd) ha hx
  exact hK v H' n' B' _ w' hκ hg' hr
theorem exec_app {P : Program} {m : Nat} {c : Call} {t : TypeId} {s x : Value} (ho : o.op = .call c) (hb : c.callee = .builtin .append) (hm : c.args.map a.eval = ([s, x].toArray)) (hts : c.argTypes = ([t, t].toArray))
    (h : EffRes P B M m n w (do pure (.value (← Builtin.append_ ([t, t].toArray) o.type ([s, x].toArray)))) κ) : EffRes P B M m n w (execOp a.eval o) κ := by
  obtain ⟨v, H', n', B', xx, w', g1, g2, g3, g4, g5, g6, g7, g8, g9, g10⟩ := h
  refine ⟨v, H', n', B', xx, w', g1, g2, g3, g4, g5, g6, g7, g8, g9, ?_⟩
  unfold execOp
  simp only [ho, resolve, hb, hm]
  rcases g10 with g10 | g10
  · refine .inl ?_
    simp only [Sem.run_bind] at g10
    simp [invoke, builtin, hts]
    exact g10
  · refine .inr ⟨?_, g10.2⟩
    have g10 := g10.1
    simp only [Sem.run_bind] at g10
    simp [invoke, builtin, hts]
    exact g10
theorem exec_bs {P : Program} {m : Nat} {t : TypeId} {len : Nat} {parts : Array (Nat × Operand)} {vs : Array (Nat × Value)} (ho : o.op = .buildSlice t len parts) (hv : (parts.map fun (x : Nat × Operand) => (x.1, a.eval x.2)) = vs)
    (h : EffRes P B M m n w (do pure (.value (← Instr.buildSlice t len vs))) κ) : EffRes P B M m n w (execOp a.eval o) κ := by
  unfold execOp
  simp only [ho, hv]
  exact h
end
end Go.Proofs.Ytckcojgfgcjamaa
set_option maxRecDepth 100000
set_option linter.unusedSimpArgs false
set_option linter.unusedVariables false
namespace Go.Proofs.Ytckcojgfgcjamaa
open Go Go.RowKit
theorem run_of_wp {X : Cx} {f : FuncId} {fn : Func} {c : Code} (hf : FnOK X.P f fn c X.sx X.hr) (hX : CxOK X) {p n0 : Nat} {args : List SV} {H0 : Heap} {κ : K1} (hN : args.length ≤ fn.ntmps) (hwa : wfL n0 args) (hwH : hwf n0 H0) (hp : p ≤ n0)
    (B : Nat → Nat) (M : Nat → Prop) (w : World) (hH : HR B H0 w) (hown : Own M X.m B H0) (hM : ∀ i, w.heap.size ≤ i → M i)
    (h : ∀ (a : Act) (Q : Exit → Act → World → Prop), Gs X fn.ntmps p M (argS 0 args) H0 n0 B a w → (∀ S' H' n' B' a' w', resVC X.τ S' H' n' κ fn.results.toList [] → Gs X fn.ntmps p M S' H' n' B' a' w' → Rel p M B w B' w' → Q .ret a' w') → c.wp X.P Q a w) :
    Calls X.P f (denL B args).toArray w fun e w' => ∃ v H' n' B', e = .returned (v.den B') ∧ κ v H' n' ∧ v.wf n' ∧ hwf n' H' ∧ HR B' H' w' ∧ Own M X.m B' H' ∧ Kept M w w' ∧ (∀ k, k < p → B' k = B k) ∧ p ≤ n' := by
  refine calls_of_wp hf.get hf.body ?_
  have hlen : (denL B args).toArray.size = args.length := by simp
  have hg : Gs X fn.ntmps p M (argS 0 args) H0 n0 B { tmps := (denL B args).toArray ++ Array.replicate (fn.ntmps - (denL B args).toArray.size) undef, defers := [] } w := by
    refine ⟨⟨by simp; omega, rfl, fun t v hl hk => ?_⟩, fun t v hl => ?_, hH, hwH, hown, hM, hp⟩
    · rw [argS_lookup] at hl
      simp at hl
      have ht : t < args.length := (List.getElem?_eq_some_iff.1 hl).1
      rw [Array.getElem?_append_left (by simpa using ht)]
      simp [denL_map, hl]
    · rw [argS_lookup] at hl
      simp at hl
      exact (wfL_iff n0 args).1 hwa v (List.mem_of_getElem? hl)
  refine h _ _ hg fun S' H' n' B' a' w' k g r => ?_
  obtain ⟨l, h1, h2, h3, h4⟩ := res_sound (P := X.P) hX.τ g.sr g.swf g.hr g.hwf _ [] k (by simp)
  have := results_run (fn := fn) h4 (by simpa using h1)
  refine ⟨g.sr.df, _, this, packR l, H', n', B', ?_, by simpa using h2, wf_packR fun v hv => (h3 v hv).1, g.hwf, g.hr, g.own, r.kept, r.ag, g.p⟩
  rw [den_packR]
/-- A slice's room is not less than its length. -/
def capOK : SV → Prop
  | .slice _ _ len cap => len ≤ cap
  | _ => True
/-- What is known of the code and the number of bytes that go. -/
def CutV (cv : SV) (H : Heap) (j : Nat) : Prop := (cv = .nils ∧ j = 0) ∨ ∃ (kc off len cap : Nat) (L : List Int), cv = .slice kc off len cap ∧ hget H kc = some (.winU off L) ∧ L.length = len ∧ len ≤ 1000000000 ∧ (∀ x ∈ L, 0 ≤ x ∧ x ≤ 255) ∧ len ≤ cap ∧ j ≤ len ∧ (j = 0 → len = 0)
/-- What comes of the cut. -/
def CutR (n : Nat) (H : Heap) (v : SV) (H' : Heap) (n' : Nat) : Prop := ∃ (b len : Nat) (L : List Int), v = .slice b 0 len L.length ∧ n ≤ b ∧ hget H' b = some (.cells (byV L) 5) ∧ len ≤ L.length ∧ len ≤ 1000000000 ∧ (∀ x ∈ L.take len, 0 ≤ x ∧ x ≤ 255) ∧ n ≤ n' ∧ ∀ i o, i < n → hget H i = some o → hget H' i = some o
theorem u8_tys : U8 tys 5 := ⟨fun h => (nomatch (show Kd.num .u8 = Kd.other from h)), rfl, rfl, rfl⟩
section
variable {X : Cx} {N p : Nat} {M : Nat → Prop} {S : Env} {H : Heap} {n : Nat} {B : Nat → Nat} {a : Act} {w : World}
/-- The middle state: what is left of the code lies in a block of its own. -/
def CutM (n : Nat) (H : Heap) (k : Nat) (v : SV) (H' : Heap) (n' : Nat) : Prop := ∃ (b : Nat) (L : List Int), v = .slice b 0 k L.length ∧ n ≤ b ∧ hget H' b = some (.cells (byV L) 5) ∧ k ≤ L.length ∧ (∀ x ∈ L.take k, 0 ≤ x ∧ x ≤ 255) ∧ n ≤ n' ∧ ∀ i o, i < n → hget H i = some o → hget H' i = some o
theorem fnx_vCut : FnOK Try.prog 12 Try.f12 (Try.f12.body.getD .skip) [] [] := ⟨Try.func12, rfl, by kernel_rfl, by kernel_rfl⟩
theorem win_src {kc off j k : Nat} {L : List Int} (hH : HR B H w) (hg : hget H kc = some (.winU off L)) (hk : j + k ≤ L.length) : ∀ i u, (((L.drop j).take k).map (Value.int .u8))[i]? = some u → w.cell? ((⟨B kc, off + j, none⟩ : Addr).add i) = some u := by
  obtain ⟨c, e, fz, h1, h2⟩ := hH.at_ kc _ hg rfl
  intro i u hu
  rw [add_addr]
  refine cell_at h1 ?_
  have hi : i < k := by
    rcases Nat.lt_or_ge i k with h | h
    · exact h
    · rw [List.getElem?_eq_none (by simp; omega)] at hu; cases hu
  have h3 := h2 (j + i) (by omega)
  rw [List.getElem?_map, List.getElem?_take, if_pos hi, List.getElem?_drop, List.getElem?_eq_getElem (by omega)] at hu
  rw [List.getD_eq_getElem?_getD, List.getElem?_eq_getElem (by omega)] at h3
  rw [Nat.add_assoc, h3]
  simpa using hu
theorem byt_src {b e : Nat} {y : Int} (hH : HR B H w) (hg : hget H b = some (.cells (byV [y]) e)) : ∀ i u, ([y].map (Value.int .u8))[i]? = some u → w.cell? ((⟨B b, 0, none⟩ : Addr).add i) = some u := by
  have hb := hH.at_ b _ hg rfl
  have hb : w.heap[B b]? = some (.cells (byC [y]) e (0, 0)) := by rw [← byV_den B]; exact hb
  intro i u hu
  rw [add_addr]
  refine cell_at hb ?_
  rw [Nat.zero_add]
  simpa [byC] using hu
/-- What is left of the code is laid into a new block. -/
theorem cut_app {P : Program} {ty : TypeId} {k j m : Nat} {x : SV} (hτ : TysOK P tys) {H0 : Heap} {n0 : Nat} (hH : HR B ((n0, .cells (byV []) 5) :: H0) w) (hw0 : hwf n0 H0) (hown : Own M m B ((n0, .cells (byV []) 5) :: H0)) (hM : M w.heap.size) (hm : m ≤ n0)
    (hc : (k = 0 ∧ (x = .nils ∨ ∃ b o c, x = .slice b o 0 c)) ∨ (0 < k ∧ ∃ (kc off c : Nat) (L : List Int), x = .slice kc (off + j) k c ∧ hget H0 kc = some (.winU off L) ∧ j + k = L.length ∧ (∀ x ∈ L, 0 ≤ x ∧ x ≤ 255) ∧ k ≤ 1000000000)) :
    EffRes P B M m (n0 + 1) w (do pure (.value (← Builtin.append_ ([22, 22].toArray) ty ([(SV.slice n0 0 0 0).den B, x.den B].toArray)))) (fun v H' n' => CutM n0 H0 k v H' n') := by
  have hw : hwf (n0 + 1) ((n0, .cells (byV []) 5) :: H0) := hwf_cons (hwf_mono (by omega) hw0) (by omega) (byV_wf _ _ _)
  have fr0 : ∀ i o, i < n0 → hget H0 i = some o → hget ((n0, SObj.cells (byV []) 5) :: H0) i = some o := fun i o hi ho => by rw [hget_cons, if_neg (by omega)]; exact ho
  rcases hc with ⟨rfl, hx⟩ | ⟨hk, kc, off, c, L, rfl, hg, hl, hb, hk9⟩
  · refine appE_sound (e := 5) hτ u8_tys rfl hH hw hown (by simp [SV.wf]) (Nat.le_refl 0) ?_ ?_
    · rcases hx with rfl | ⟨b, o, c, rfl⟩
      · exact .inr rfl
      · exact .inl ⟨_, _, rfl⟩
    · exact ⟨n0, [], rfl, Nat.le_refl _, by simp [hget_cons], Nat.zero_le _, fun x hx => by simp at hx, by omega, fr0⟩
  · have hkc := (hw0 _ _ hg).1
    have hl2 : ((L.drop j).take k).length = k := by rw [List.length_take, List.length_drop]; omega
    refine appU_sound (e := 5) (L := []) (news := (L.drop j).take k) (k := k) hτ u8_tys rfl hH hw hown hM (b := n0) (by simp [hget_cons]) hm (Nat.le_refl 0) rfl hk hl2 (win_src hH (fr0 _ _ hkc hg) (by omega)) (by omega) fun junk => ?_
    have e1 : (0 : Nat) + k = k := Nat.zero_add k
    rw [e1]
    refine ⟨n0 + 1, (L.drop j).take k ++ junk, ?_, by omega, by simp [hget_cons], by rw [List.length_append]; omega, fun x hx => ?_, by omega, fun i o hi ho => ?_⟩
    · rw [List.length_append, hl2]
    · rw [List.take_left' hl2] at hx
      exact hb x (List.mem_of_mem_drop (List.mem_of_mem_take hx))
    · rw [hget_cons, if_neg (by omega), hget_cons, if_neg (by omega)]
      exact fr0 i o hi ho
/-- One byte is laid behind. -/
theorem cut_one {P : Program} {ty : TypeId} {k m b b2 : Nat} {y : Int} {L : List Int} (hτ : TysOK P tys) {H0 H1 : Heap} {n0 n1 : Nat} (hH : HR B H1 w) (hw : hwf n1 H1) (hown : Own M m B H1) (hM : M w.heap.size) (hm : m ≤ n0) (hb : n0 ≤ b) (hn : n0 ≤ n1)
    (hg : hget H1 b = some (.cells (byV L) 5)) (hlc : k ≤ L.length) (hbs : ∀ x ∈ L.take k, 0 ≤ x ∧ x ≤ 255) (hg2 : hget H1 b2 = some (.cells (byV [y]) 5)) (hy : 0 ≤ y ∧ y ≤ 255) (hk9 : k + 1 ≤ 1000000000) (hfr : ∀ i o, i < n0 → hget H0 i = some o → hget H1 i = some o) :
    EffRes P B M m n1 w (do pure (.value (← Builtin.append_ ([22, 22].toArray) ty ([(SV.slice b 0 k L.length).den B, (SV.slice b2 0 1 1).den B].toArray)))) (fun v H' n' => CutR n0 H0 v H' n') := by
  refine appU_sound (e := 5) (L := L) (news := [y]) (k := 1) hτ u8_tys rfl hH hw hown hM (b := b) hg (by omega) hlc rfl (by omega) rfl (byt_src hH hg2) (by omega) fun junk => ?_
  have hl : (L.take k ++ [y]).length = k + 1 := by rw [List.length_append, List.length_take]; simp; omega
  refine ⟨n1, k + 1, L.take k ++ [y] ++ junk, ?_, hn, by simp [hget_cons], by rw [List.length_append]; omega, hk9, fun x hx => ?_, by omega, fun i o hi ho => ?_⟩
  · rw [List.length_append, hl]
  · rw [List.take_left' hl] at hx
    rcases List.mem_append.1 hx with hx | hx
    · exact hbs x hx
    · simp at hx; subst hx; exact hy
  · rw [hget_cons, if_neg (by omega), hget_cons, if_neg (by omega)]
    exact hfr i o hi ho
end
theorem HR.win {B : Nat → Nat} {H : Heap} {w : World} {b len e : Nat} {L : List Int} (h : HR B H w) (hg : hget H b = some (.cells (byV L) e)) (hl : len ≤ L.length) : HR B ((b, .winU 0 (L.take len)) :: H) w := by
  have hb := h.at_ b _ hg rfl
  have hb : w.heap[B b]? = some (.cells (byC L) e (0, 0)) := by rw [← byV_den B]; exact hb
  refine ⟨fun k o ho hk => ?_, fun k j o1 o2 h1 h2 h3 h4 he => ?_⟩
  · rw [hget_cons] at ho
    split at ho
    · rename_i hkb
      subst hkb
      cases ho
      refine ⟨_, _, _, hb, fun i hi => ?_⟩
      have hi2 : i < len ∧ i < L.length := by rw [List.length_take] at hi; omega
      rw [Nat.zero_add, List.getD_eq_getElem?_getD, List.getElem?_take, if_pos hi2.1, List.getElem?_eq_getElem hi2.2]
      simp [byC, List.getElem?_eq_getElem hi2.2]
    · exact h.at_ k o ho hk
  · rw [hget_cons] at h1 h3
    split at h1 <;> split at h3
    · omega
    · rename_i e1 _; subst e1; exact h.inj _ _ _ _ hg rfl h3 h4 he
    · rename_i _ e1; subst e1; exact h.inj _ _ _ _ h1 h2 hg rfl he
    · exact h.inj _ _ _ _ h1 h2 h3 h4 he
set_option maxHeartbeats 1000000 in
theorem vCut_ok {cv : SV} {z : Int} {H : Heap} {n m : Nat} {κ : K1} (hB : BytA cv H) (hcap : capOK cv) (hz : z = 1 ∨ z = 2) (hmn : m ≤ n) (hκ : ∀ (b len cap : Nat) H' n', BytA (.slice b 0 len cap) H' → Kpt n H H' n' → κ (.slice b 0 len cap) H' n') : GenOK Try.prog 12 [cv, .int z] H n m κ := by
  refine ⟨fnx_vCut.ent, fun B M w hH hwH hwa hown hM => ?_⟩
  have hX : CxOK (⟨Try.prog, tys, [], [], true, true, m, [], []⟩ : Cx) := ⟨tys_ok, .nil, .nil, mixed⟩
  refine (run_of_wp (X := ⟨Try.prog, tys, [], [], true, true, m, [], []⟩) (κ := fun v H' n' => CutR n H v H' n') fnx_vCut hX (Nat.le_of_ble_eq_true rfl) hwa hwH (Nat.le_refl n) B M w hH hown hM fun a Q hg hQ => ?_).mono fun e w' h => ?_
  · refine wp_seq (code_sound hX _ _ _ _ _ _ _ (fun e S' H' n' => e = .normal ∧ S' = [(4, .nils), (0, cv), (1, .int z)] ∧ H' = H ∧ n' = n) _ rfl hg ?_ ?_)
    · exact ⟨rfl, rfl, rfl, rfl⟩
    rintro e S1 H1 n1 B1 a1 w1 ⟨rfl, rfl, rfl, rfl⟩ g1 r1
    refine wp_seq (code_sound hX _ _ _ _ _ _ _ (fun e S' H' n' => e = .normal ∧ H' = H1 ∧ n' = n1 ∧ ∃ j : Nat, sget S' 0 = cv ∧ sget S' 1 = .int j ∧ CutV cv H1 j ∧ j ≤ 2) _ rfl g1 ?_ ?_)
    · rcases hB with rfl | ⟨kc, off, len, cap, L, rfl, hh, hl, h9, hb⟩
      · have hz0 : (0 : Int) < z := by omega
        simp -implicitDefEqProofs only [hz0, ZB, Int.reduceToNat, Nat.reduceLT, Nat.reduceLeDiff, Int.reduceLE, Int.reduceLT, Nat.reduceEqDiff, Nat.reduceSub, SB, SV.known, packR, ne_eq, reduceCtorEq, Nat.reduceEqDiff, ↓reduceIte, if_true, if_false, eq_self, Nat.reduceAdd, Nat.reduceMul, Nat.reduceSub, forall_const, oneCellS, litOne, flat1, Kd.isSca, flat, TYB]
        exact ⟨0, rfl, .inl ⟨rfl, rfl⟩, by omega⟩
      · have hcap' : len ≤ cap := hcap
        by_cases hzl : (len : Int) < z
        · simp -implicitDefEqProofs only [hzl, ZB, Int.reduceToNat, Nat.reduceLT, Nat.reduceLeDiff, Int.reduceLE, Int.reduceLT, Nat.reduceEqDiff, Nat.reduceSub, SB, SV.known, packR, ne_eq, reduceCtorEq, Nat.reduceEqDiff, ↓reduceIte, if_true, if_false, eq_self, Nat.reduceAdd, Nat.reduceMul, Nat.reduceSub, forall_const, oneCellS, litOne, flat1, Kd.isSca, flat, TYB]
          exact ⟨len, rfl, .inr ⟨kc, off, len, cap, L, rfl, hh, hl, h9, hb, hcap', Nat.le_refl _, fun h => h⟩, by omega⟩
        · simp -implicitDefEqProofs only [hzl, ZB, Int.reduceToNat, Nat.reduceLT, Nat.reduceLeDiff, Int.reduceLE, Int.reduceLT, Nat.reduceEqDiff, Nat.reduceSub, SB, SV.known, packR, ne_eq, reduceCtorEq, Nat.reduceEqDiff, ↓reduceIte, if_true, if_false, eq_self, Nat.reduceAdd, Nat.reduceMul, Nat.reduceSub, forall_const, oneCellS, litOne, flat1, Kd.isSca, flat, TYB]
          exact ⟨z.toNat, (Int.toNat_of_nonneg (by omega)).symm, .inr ⟨kc, off, len, cap, L, rfl, hh, hl, h9, hb, hcap', by omega, fun h => by omega⟩, by omega⟩
    rintro e S2 H2 n2 B2 a2 w2 ⟨rfl, rfl, rfl, j, s0, s1, hcut, hj⟩ g2 r2
    refine wp_seq (wp_region_list ?_)
    obtain ⟨k, hk9, hsl⟩ : ∃ k, k + 1 ≤ 1000000000 ∧ ∃ x, ((k = 0 ∧ (x = .nils ∨ ∃ b o c, x = .slice b o 0 c)) ∨ (0 < k ∧ ∃ (kc off c : Nat) (L : List Int), x = .slice kc (off + j) k c ∧ hget H2 kc = some (.winU off L) ∧ j + k = L.length ∧ (∀ x ∈ L, 0 ≤ x ∧ x ≤ 255) ∧ k ≤ 1000000000)) ∧
        ∀ (H' : Heap) (n' : Nat) (κ : K1), κ x H' n' → sliceVC tys (tys 22) cv (some (.int j)) none H' n' κ := by
      rcases hcut with ⟨rfl, rfl⟩ | ⟨kc, off, len, cap, L, rfl, hh, hl, h9, hb, hc, hjl, hj0⟩
      · exact ⟨0, by omega, .nils, .inl ⟨rfl, .inl rfl⟩, fun H' n' κ h => ⟨fun h => (nomatch (show Kd.num .u8 = Kd.other from h)), by omega, by omega, h⟩⟩
      · refine ⟨len - j, by omega, .slice kc (cutOff cap j off 1) (len - j) (cap - j), ?_, fun H' n' κ h => ⟨fun h => (nomatch (show Kd.num .u8 = Kd.other from h)), ?_⟩⟩
        · by_cases h0 : len - j = 0
          · exact .inl ⟨h0, .inr ⟨kc, _, _, by rw [h0]⟩⟩
          · refine .inr ⟨by omega, kc, off, cap - j, L, ?_, hh, by omega, hb, by omega⟩
            unfold cutOff
            rw [if_neg (by omega), Nat.mul_one]
        · exact ⟨by omega, by omega, h⟩
    obtain ⟨x, hx, hsl⟩ := hsl
    have y255 : 0 ≤ IntKind.u8.wrap (j : Int) ∧ IntKind.u8.wrap (j : Int) ≤ 255 := by
      rcases (show j = 0 ∨ j = 1 ∨ j = 2 by omega) with rfl | rfl | rfl <;> decide
    refine ops_eff (κ := fun v H' n' => v = .slice n2 0 0 0 ∧ H' = (n2, .cells (byV []) 5) :: H2 ∧ n' = n2 + 1) _ rfl rfl g2 (exec_bs (vs := ([] : List (Nat × Value)).toArray) rfl (by simp) (bs0_sound (e := 5) hX.τ u8_tys rfl g2.hr g2.hwf g2.own (g2.new _ (Nat.le_refl _)) ?_)) ?_
    · exact ⟨rfl, rfl, rfl⟩
    rintro v3 H3 n3 B3 a3 w3 ⟨rfl, rfl, rfl⟩ g3 r3
    refine ops_norm (κ := fun v H' n' => v = cv ∧ H' = (n2, .cells (byV []) 5) :: H2 ∧ n' = n2 + 1) hX _ (q := false) rfl rfl g3 ⟨s0, rfl, rfl⟩ ?_
    rintro v4 H4 n4 B4 a4 w4 ⟨rfl, rfl, rfl⟩ g4 r4
    refine ops_norm (κ := fun v H' n' => v = .int j ∧ H' = (n2, .cells (byV []) 5) :: H2 ∧ n' = n2 + 1) hX _ (q := false) rfl rfl g4 ⟨s1, rfl, rfl⟩ ?_
    rintro v5 H5 n5 B5 a5 w5 ⟨rfl, rfl, rfl⟩ g5 r5
    refine ops_norm (κ := fun v H' n' => v = x ∧ H' = (n2, .cells (byV []) 5) :: H2 ∧ n' = n2 + 1) hX _ (q := false) rfl rfl g5 ⟨rfl, hsl _ _ (fun v H' n' => v = x ∧ H' = (n2, .cells (byV []) 5) :: H2 ∧ n' = n2 + 1) ⟨rfl, rfl, rfl⟩⟩ ?_
    rintro v6 H6 n6 B6 a6 w6 ⟨rfl, rfl, rfl⟩ g6 r6
    have kx : v6.known = true := by
      rcases hx with ⟨_, rfl | ⟨_, _, _, rfl⟩⟩ | ⟨_, _, _, _, _, rfl, _⟩ <;> rfl
    have d1 : a6.eval (.tmp 11) = (SV.slice n2 0 0 0).den B6 := ev_den g6.sr (.tmp 11) rfl
    have d2 : a6.eval (.tmp 14) = v6.den B6 := ev_den g6.sr (.tmp 14) kx
    refine ops_eff (κ := fun v H' n' => CutM n2 H2 k v H' n') _ rfl rfl g6 (exec_app rfl rfl (by simp [d1, d2]) rfl (cut_app (j := j) hX.τ g6.hr g2.hwf g6.own (g6.new _ (Nat.le_refl _)) hmn hx)) ?_
    rintro v7 H7 n7 B7 a7 w7 ⟨b, L, rfl, hb, hg7, hlc, hbs, hn7, hfr⟩ g7 r7
    refine ops_norm (κ := fun v H' n' => v = .int j ∧ H' = H7 ∧ n' = n7) hX _ (q := false) rfl rfl g7 ⟨s1, rfl, rfl⟩ ?_
    rintro v8 H8 n8 B8 a8 w8 ⟨rfl, rfl, rfl⟩ g8 r8
    refine ops_norm (κ := fun v H' n' => v = .lit (.int .u8 (IntKind.u8.wrap j)) ∧ H' = H8 ∧ n' = n8) hX _ (q := false) rfl rfl g8 ⟨rfl, rfl, rfl, rfl⟩ ?_
    rintro v9 H9 n9 B9 a9 w9 ⟨rfl, rfl, rfl⟩ g9 r9
    have d3 : a9.eval (.tmp 17) = .int .u8 (IntKind.u8.wrap j) := ev_den g9.sr (.tmp 17) rfl
    refine ops_eff (κ := fun v H' n' => v = .slice n9 0 1 1 ∧ H' = (n9, .cells (byV [IntKind.u8.wrap j]) 5) :: H9 ∧ n' = n9 + 1) _ rfl rfl g9 (exec_bs (vs := ([(0, Value.int .u8 (IntKind.u8.wrap j))]).toArray) rfl (by simp [d3]) (bs1_sound (e := 5) hX.τ u8_tys rfl g9.hr g9.hwf g9.own (g9.new _ (Nat.le_refl _)) ?_)) ?_
    · exact ⟨rfl, rfl, rfl⟩
    rintro v10 H10 n10 B10 a10 w10 ⟨rfl, rfl, rfl⟩ g10 r10
    have d4 : a10.eval (.tmp 15) = (SV.slice b 0 k L.length).den B10 := ev_den g10.sr (.tmp 15) rfl
    have d5 : a10.eval (.tmp 18) = (SV.slice n9 0 1 1).den B10 := ev_den g10.sr (.tmp 18) rfl
    have hbn := (g9.hwf _ _ hg7).1
    refine ops_eff (κ := fun v H' n' => CutR n2 H2 v H' n') _ rfl rfl g10 (exec_app rfl rfl (by simp [d4, d5]) rfl (cut_one (b2 := n9) hX.τ g10.hr g10.hwf g10.own (g10.new _ (Nat.le_refl _)) hmn hb (by omega) (by rw [hget_cons, if_neg (by omega)]; exact hg7) hlc hbs (by simp [hget_cons]) y255 hk9 (fun i o hi ho => by rw [hget_cons, if_neg (by omega)]; exact hfr i o hi ho))) ?_
    rintro v11 H11 n11 B11 a11 w11 ⟨b', len', L', rfl, hrest⟩ g11 r11
    refine ops_norm (κ := fun v H' n' => v = .slice b' 0 len' L'.length ∧ H' = H11 ∧ n' = n11) hX _ (q := false) rfl rfl g11 ⟨rfl, rfl, rfl⟩ ?_
    rintro v12 H12 n12 B12 a12 w12 ⟨rfl, rfl, rfl⟩ g12 r12
    unfold wpList
    exact wp_ret (hQ _ _ _ _ _ _ ⟨rfl, b', len', L', rfl, hrest⟩ g12 (r1.trans (r2.trans (r3.trans (r4.trans (r5.trans (r6.trans (r7.trans (r8.trans (r9.trans (r10.trans (r11.trans r12)))))))))))) 
  · obtain ⟨v, H', n', B', rfl, ⟨b, len, L, rfl, hb, hg, hlc, h9, hbs, hn, hfr⟩, hwv, hwf', hH', hown', hkept, hag, hp⟩ := h
    have hbn := (hwf' _ _ hg).1
    have hwf2 : hwf n' ((b, .winU 0 (L.take len)) :: H') := hwf_cons hwf' hbn trivial
    refine ⟨_, (b, .winU 0 (L.take len)) :: H', n', B', rfl, hκ _ _ _ _ _ (.inr ⟨b, 0, len, L.length, L.take len, rfl, by simp [hget_cons], by rw [List.length_take]; omega, h9, hbs⟩) ⟨hn, hwf2, fun i o hi ho => by rw [hget_cons, if_neg (by omega)]; exact hfr i o hi ho⟩, hn, hwv, hwf2, hag, hH'.win hg hlc, fun k o ho hk hmk => ?_, hkept⟩
    rw [hget_cons] at ho
    split at ho
    · rename_i e1; subst e1; exact hown' _ _ hg rfl hmk
    · exact hown' _ _ ho hk hmk
--@tbl vCut = laws.vCut
def vCut_F : List SV → Heap → Nat → Nat → K1 → Prop
  | [cv, .int z], H, n, m, κ => BytA cv H ∧ capOK cv ∧ (z = 1 ∨ z = 2) ∧ m ≤ n ∧ ∀ (b len cap : Nat) H' n', BytA (.slice b 0 len cap) H' → Kpt n H H' n' → κ (.slice b 0 len cap) H' n'
  | _, _, _, _, _ => False
theorem vCut_T : ∀ args H n m κ, vCut_F args H n m κ → GenOK Try.prog 12 args H n m κ := by
  intro args H n m κ h
  unfold vCut_F at h
  split at h
  · obtain ⟨h1, h2, h3, h4, h5⟩ := h
    exact vCut_ok h1 h2 h3 h4 h5
  · exact h.elim
theorem cut_use {cv : SV} {z : Int} {H : Heap} {n m : Nat} {κ : K1} (h1 : BytA cv H) (h2 : capOK cv) (h3 : z = 1 ∨ z = 2) (h4 : m ≤ n) (h5 : ∀ (b len cap : Nat) H' n', BytA (.slice b 0 len cap) H' → Kpt n H H' n' → κ (.slice b 0 len cap) H' n') : vCut_F [cv, .int z] H n m κ := ⟨h1, h2, h3, h4, h5⟩
end Go.Proofs.Ytckcojgfgcjamaa
set_option maxRecDepth 100000
set_option linter.unusedSimpArgs false
set_option linter.unusedVariables false
namespace Go.Proofs.Ytckcojgfgcjamaa
open Go Go.RowKit
theorem vBig_ok (L : List Int) (off len cap : Nat) : PureH Try.prog 5 [.slice 0 off len cap] [(0, .winU off L)] (.bool (decide (65536 < (len : Int)))) := by
  refine pure_of_vc (X := ⟨Try.prog, tys, [], [], true, true, 1, [], []⟩) fn_5 ⟨tys_ok, .nil, .nil, mixed⟩ (n0 := 1) (Nat.le_of_ble_eq_true rfl) (by simp [wfL, SV.wf]) (wfH_spec (by simp [wfH, SObj.wf, wfL, SV.wf])) (Nat.le_refl _) (fun _ => by simp [SV.wf, wfL]) ?_
  simp -implicitDefEqProofs only [Try.f5, Option.getD_some, argS, ZB, Int.reduceToNat, Nat.reduceLT, Nat.reduceLeDiff, Int.reduceLE, Int.reduceLT, Nat.reduceEqDiff, Nat.reduceSub, SB, SV.known, packR, ne_eq, reduceCtorEq, Nat.reduceEqDiff, ↓reduceIte, if_true, if_false, eq_self, Nat.reduceAdd, Nat.reduceMul, Nat.reduceSub, forall_const, oneCellS, litOne, flat1, Kd.isSca, flat, TYB]
theorem vBig_nil (H : Heap) : PureH Try.prog 5 [.nils] H (.bool false) := by
  refine PureH.any ?_ H
  refine pure_of_vc (X := ⟨Try.prog, tys, [], [], true, true, 0, [], []⟩) fn_5 ⟨tys_ok, .nil, .nil, mixed⟩ (n0 := 0) (Nat.le_of_ble_eq_true rfl) (by simp [wfL, SV.wf]) (wfH_spec (by simp [wfH, SObj.wf, wfL, SV.wf])) (Nat.le_refl _) (fun _ => by simp [SV.wf, wfL]) ?_
  simp -implicitDefEqProofs only [Try.f5, Option.getD_some, argS, ZB, Int.reduceToNat, Nat.reduceLT, Nat.reduceLeDiff, Int.reduceLE, Int.reduceLT, Nat.reduceEqDiff, Nat.reduceSub, SB, SV.known, packR, ne_eq, reduceCtorEq, Nat.reduceEqDiff, ↓reduceIte, if_true, if_false, eq_self, Nat.reduceAdd, Nat.reduceMul, Nat.reduceSub, forall_const, oneCellS, litOne, flat1, Kd.isSca, flat, TYB]
def vBig_F : List SV → Heap → Option (Prop × SV)
  | [.slice a o len _], H => match hget H a with
    | some (.winU off _) => some (o = off, .bool (decide (65536 < (len : Int))))
    | _ => none
  | [.nils], _ => some (True, .bool false)
  | _, _ => none
theorem vBig_T : ∀ args H p v, vBig_F args H = some (p, v) → p → PureH Try.prog 5 args H v := by
  intro args H p v h hp
  unfold vBig_F at h
  split at h
  · rename_i a o len cap
    split at h
    · rename_i off L g
      cases h
      subst hp
      exact one_block (vBig_ok L o len cap) g rfl (fun _ => trivial)
    · cases h
  · cases h
    exact vBig_nil H
  · cases h
end Go.Proofs.Ytckcojgfgcjamaa
