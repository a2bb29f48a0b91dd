/- Walks: RankOfRack. -/
import Derived.Test.YtfdpeenamkpcbaaHid
set_option maxRecDepth 100000
set_option linter.unusedSimpArgs false
set_option linter.unusedVariables false
namespace Go.Proofs.Ytfdpeenamkpcbaa
open Go Go.RowKit
def rkC (L : List Int) (rank : Int) : Nat → Int
  | 0 => rank
  | m + 1 => if 0 < L.getD (m + 1) 0 then wr (rkC L rank m + arrF (L.set (m + 1) (L.getD (m + 1) 0 - 1))) else rkC L rank m
def rkK (t : List Int) (s : Int × List Int) : Nat → Int × List Int
  | 0 => s
  | k + 1 => (rkC (rkK t s k).2 (rkK t s k).1 ((t.getD k 0).toNat - 1), (rkK t s k).2.set (t.getD k 0).toNat ((rkK t s k).2.getD (t.getD k 0).toNat 0 - 1))
def rkT (R : List Int) (s : Int × List Int) : Nat → Int × List Int
  | 0 => s
  | i + 1 => rkK (tubeAt R i) (rkT R s i) (layN (tubeAt R i) - 1)
structure rkI (R L : List Int) (i j : Nat) : Prop where
  a : L.length = 6
  b : L.getD 0 0 = 0
  c : ∀ c : Nat, 1 ≤ c → c < 6 → hcn (tubeAt R i) j c + remT R c (5 - i) ≤ L.getD c 0 ∧ L.getD c 0 ≤ 24
structure rkJ (R L : List Int) (i : Nat) : Prop where
  a : L.length = 6
  b : L.getD 0 0 = 0
  c : ∀ c : Nat, 1 ≤ c → c < 6 → remT R c (6 - i) ≤ L.getD c 0 ∧ L.getD c 0 ≤ 24
theorem rkJ_I {R L : List Int} {i : Nat} (hi : i < 6) (h : rkJ R L i) : rkI R L i 0 := by
  refine ⟨h.a, h.b, fun c h1 h2 => ?_⟩
  have := h.c c h1 h2
  rw [show 6 - i = (5 - i) + 1 by omega, remT, show 5 - (5 - i) = i by omega] at this
  exact this
theorem rkI_J {R L : List Int} {i j : Nat} (hi : i < 6) (hj : layN (tubeAt R i) ≤ j + 1) (h : rkI R L i j) : rkJ R L (i + 1) := by
  refine ⟨h.a, h.b, fun c h1 h2 => ?_⟩
  have := h.c c h1 h2
  rw [hcn_end hj] at this
  rw [show 6 - (i + 1) = 5 - i by omega]
  omega
theorem getD_set_ne (L : List Int) (j c : Nat) (x : Int) (h : j ≠ c) : (L.set j x).getD c 0 = L.getD c 0 := by simp [List.getD, List.getElem?_set, h]
theorem getD_set_eq (L : List Int) (c : Nat) (x : Int) (h : c < L.length) : (L.set c x).getD c 0 = x := by simp [List.getD, h]
theorem set_getD_self (L : List Int) (c : Nat) : L.set c (L.getD c 0) = L := by
  apply List.ext_getElem?
  intro k
  rw [List.getElem?_set]
  split
  · rename_i h
    subst h
    split
    · rename_i h; simp [List.getD, List.getElem?_eq_getElem h]
    · rename_i h; rw [List.getElem?_eq_none (by omega)]
  · rfl
theorem rkI_step {R L : List Int} {i j : Nat} (hR : R.length = 24) (hr : rackB R = true) (hi : i < 6) (hj : j + 2 ≤ layN (tubeAt R i)) (h : rkI R L i j) {x : Nat} (hx : (tubeAt R i).getD j 0 = x) :
    rkI R (L.set x (L.getD x 0 - 1)) i (j + 1) ∧ 1 ≤ x ∧ x < 6 ∧ 1 ≤ L.getD x 0 := by
  have hle := lay_le _ (tubeAt_len hR hi)
  have hx1 := (tube_cells (tubeAt_len hR hi) (tubeAt_ok hr hi)).1 j (by omega)
  rw [hx] at hx1
  have st := fun c => hcn_step hj hle c
  have hb := fun c => hcn_bd (tubeAt R i) (j + 1) c
  have hrem := fun c => remT_bd R c (5 - i)
  refine ⟨⟨by rw [List.length_set]; exact h.a, by rw [getD_set_ne _ _ _ _ (by omega)]; exact h.b, fun c h1 h2 => ?_⟩, by omega, by omega, ?_⟩
  · have g := h.c c h1 h2
    rw [st, hx] at g
    by_cases hc : x = c
    · subst hc
      rw [getD_set_eq _ _ _ (by rw [h.a]; omega)]
      have : is1 (x : Int) x = 1 := by unfold is1; rw [if_pos rfl]
      omega
    · rw [getD_set_ne _ _ _ _ hc]
      have : is1 (x : Int) c = 0 := by unfold is1; rw [if_neg (by omega)]
      omega
  · have g := h.c x (by omega) (by omega)
    rw [st, hx] at g
    have : is1 (x : Int) x = 1 := by unfold is1; rw [if_pos rfl]
    have := hb x
    have := hrem x
    omega
/-- What the walks meet at a color. -/
theorem rkI_bd {R L : List Int} {i j : Nat} (h : rkI R L i j) {c : Nat} (h1 : 1 ≤ c) (h6 : c < 6) (hp : 0 < L.getD c 0) : (L.set c (L.getD c 0 - 1)).length = 6 ∧ Bd 0 1000000 (L.set c (L.getD c 0 - 1)) ∧ (L.set c (L.getD c 0 - 1)).getD 0 0 = 0 := by
  have hb : ∀ k, k < 6 → 0 ≤ L.getD k 0 ∧ L.getD k 0 ≤ 24 := fun k hk => by
    rcases Nat.eq_zero_or_pos k with rfl | hk0
    · rw [h.b]; omega
    · have g := h.c k hk0 hk
      have := hcn_bd (tubeAt R i) j k
      have := remT_bd R k (5 - i)
      omega
  refine ⟨by rw [List.length_set]; exact h.a, fun x hx => ?_, by rw [getD_set_ne _ _ _ _ (by omega)]; exact h.b⟩
  obtain ⟨k, hk, e⟩ := List.getElem_of_mem hx
  rw [List.length_set, h.a] at hk
  have e2 : (L.set c (L.getD c 0 - 1)).getD k 0 = x := by
    have hk2 : k < (L.set c (L.getD c 0 - 1)).length := by rw [List.length_set, h.a]; exact hk
    rw [List.getD_eq_getElem?_getD, List.getElem?_eq_getElem hk2, e]; rfl
  by_cases hc : c = k
  · subst hc
    rw [getD_set_eq _ _ _ (by rw [h.a]; exact h6)] at e2
    have := hb c h6
    omega
  · rw [getD_set_ne _ _ _ _ hc] at e2
    have := hb k hk
    omega
theorem rkJ_zero {R : List Int} (hR : R.length = 24) (hr : rackB R = true) : rkJ R (hidL (topL R) (ctL R) 6) 0 := by
  refine ⟨by rw [hidL_len, ctL_len], ?_, fun c h1 h6 => ?_⟩
  · rw [hidL_zero _ _ (by rw [ctL_len]; omega)]
    unfold ctL
    exact getD_set_eq _ _ _ (by rw [cntL_len]; omega)
  · rw [hid_rack hR hr h1 h6]
    have := remT_bd R c 6
    rw [Nat.sub_zero]
    omega
def rankF (R : List Int) : Int := if rackB R = true then (rkT R (0, hidL (topL R) (ctL R) 6) 6).1 else 0
--@tbl RankOfRack = impl.RankOfRack
--@tbl sRankOfRack = spec.RankOfRack
theorem RankOfRack_ok (R : List Int) (hR : R.length = 24) : PureH Try.prog 19 [.arr R] [] (.tup [.int (rankF R), .bool (rackB R)]) := by
  have tkR : R.take 24 = R := List.take_of_length_le (by omega)
  unfold rankF
  cases hr : rackB R
  · refine pure_of_vc (X := ⟨Try.prog, tys, [(47, IsRack_F), (54, viewOf_F), (55, hidden_F), (56, layers_F), (57, arrangements_F)], [], false, true, 0, [], []⟩) fn_19 ⟨tys_ok, (.cons IsRack_T (.cons viewOf_T (.cons hidden_T (.cons layers_T (.cons arrangements_T .nil))))), .nil, mixed⟩ (n0 := 0) (Nat.le_of_ble_eq_true rfl) (by simp [wfL, SV.wf]) (wfH_spec (by simp [wfH, SObj.wf])) (Nat.le_refl _) (fun _ => by simp [SV.wf, wfL]) ?_
    simp -implicitDefEqProofs only [Try.f19, Option.getD_some, argS, IsRack_F, viewOf_F, hidden_F, layers_F, arrangements_F, hR, tkR, hr, ZB, Int.reduceToNat, Nat.reduceLT, Nat.reduceLeDiff, Int.reduceLE, Int.reduceLT, Nat.reduceEqDiff, Nat.reduceSub, SB, SV.known, packR, ne_eq, reduceCtorEq, Nat.reduceEqDiff, ↓reduceIte, if_true, if_false, eq_self, Nat.reduceAdd, Nat.reduceMul, Nat.reduceSub, forall_const, oneCellS, Kd.isSca, flat, TYB]
  obtain ⟨v1, v2, v3⟩ := viewF_ok hR hr
  have v4 := viewF_len R
  have v5 := viewF_take R
  have v6 := viewF_drop R
  have j0 := rkJ_zero hR hr
  have hl0 := j0.a
  refine pure_of_vc (X := ⟨Try.prog, tys, [(47, IsRack_F), (54, viewOf_F), (55, hidden_F), (56, layers_F), (57, arrangements_F)], [], false, true, 0, [], []⟩) fn_19 ⟨tys_ok, (.cons IsRack_T (.cons viewOf_T (.cons hidden_T (.cons layers_T (.cons arrangements_T .nil))))), .nil, mixed⟩ (n0 := 0) (Nat.le_of_ble_eq_true rfl) (by simp [wfL, SV.wf]) (wfH_spec (by simp [wfH, SObj.wf])) (Nat.le_refl _) (fun _ => by simp [SV.wf, wfL]) ?_
  simp -implicitDefEqProofs only [Try.f19, Option.getD_some, argS, IsRack_F, viewOf_F, hidden_F, layers_F, arrangements_F, hR, tkR, hr, v1, v4, v5, v6, hl0, ZB, Int.reduceToNat, Nat.reduceLT, Nat.reduceLeDiff, Int.reduceLE, Int.reduceLT, Nat.reduceEqDiff, Nat.reduceSub, SB, SV.known, packR, ne_eq, reduceCtorEq, Nat.reduceEqDiff, ↓reduceIte, if_true, if_false, eq_self, Nat.reduceAdd, Nat.reduceMul, Nat.reduceSub, forall_const, oneCellS, Kd.isSca, flat, TYB]
  generalize hs0 : ((0 : Int), hidL (topL R) (ctL R) 6) = s0 at *
  have e0 : hidL (topL R) (ctL R) 6 = s0.2 := by rw [← hs0]
  have e1 : s0.1 = 0 := by rw [← hs0]
  rw [e0] at j0 hl0 ⊢
  refine loop_intro (fun i : Nat => [(19, .int i), (18, .arr R), (5, .int (rkT R s0 i).1), (4, .ptr 1 0)]) (fun i => [(1, .ints (rkT R s0 i).2 39)]) 2 (fun i => i ≤ 6 ∧ rkJ R (rkT R s0 i).2 i) (fun i => 6 - i) ?_ ?_
  · refine ⟨0, ?_, Sub.mk_id ?_ ?_ ?_ ?_ ?_⟩
    all_goals (try (simp only [rkT, e1, LB, subS, subH, wfS, wfH, SV.ren, renL, SObj.ren, SV.wf, SObj.wf, wfL, SV.known, Nat.reduceEqDiff, ↓reduceIte, if_true, if_false, eq_self, Nat.reduceAdd, Nat.reduceLT, Nat.reduceLeDiff, implies_true, reduceCtorEq, forall_const]; done))
    all_goals (try (simp only [rkT, e1, LB, subS, subH, wfS, wfH, SV.ren, renL, SObj.ren, SV.wf, SObj.wf, wfL, SV.known, Nat.reduceEqDiff, ↓reduceIte, if_true, if_false, eq_self, Nat.reduceAdd, Nat.reduceLT, Nat.reduceLeDiff, implies_true, reduceCtorEq, forall_const]; simp; done))
    all_goals (try (simp only [rkT, e1, LB, subS, subH, wfS, wfH, SV.ren, renL, SObj.ren, SV.wf, SObj.wf, wfL, SV.known, Nat.reduceEqDiff, ↓reduceIte, if_true, if_false, eq_self, Nat.reduceAdd, Nat.reduceLT, Nat.reduceLeDiff, implies_true, reduceCtorEq, forall_const]; (and_intros <;> (first | omega | rfl | (simp; done) | (simp; omega))); done))
    all_goals (try dsimp only)
    all_goals (and_intros <;> try (first | omega | (unfold In64; omega) | trivial | assumption))
  · rintro i ⟨hi, hJ⟩
    by_cases hlt : i < 6
    · have hil : (i : Int) < 6 := by omega
      have w1 := wr_small i (by omega)
      have ht : (tubeAt R i).length = 4 := tubeAt_len hR hlt
      have tkt : (tubeAt R i).take 4 = tubeAt R i := List.take_of_length_le (by omega)
      have et : List.take 4 (List.drop (i * 4) R) = tubeAt R i := rfl
      have hle := lay_le _ ht
      have w2 : IntKind.i64.wrap ((layN (tubeAt R i) : Int) - 1) = (layN (tubeAt R i) : Int) - 1 := wrap_in (by unfold In64; omega)
      have em : ((max ((layN (tubeAt R i) : Int) - 1) 0).toNat) = layN (tubeAt R i) - 1 := by omega
      have eb : max ((layN (tubeAt R i) : Int) - 1) 0 ≤ 4 := by omega
      have ec : 0 ≤ max ((layN (tubeAt R i) : Int) - 1) 0 := by omega
      simp -implicitDefEqProofs only [lk_normal, layers_F, hil, hR, et, ht, tkt, w2, em, eb, ec, ZB, Int.reduceToNat, Nat.reduceLT, Nat.reduceLeDiff, Int.reduceLE, Int.reduceLT, Nat.reduceEqDiff, Nat.reduceSub, SB, SV.known, packR, ne_eq, reduceCtorEq, Nat.reduceEqDiff, ↓reduceIte, if_true, if_false, eq_self, Nat.reduceAdd, Nat.reduceMul, Nat.reduceSub, forall_const, oneCellS, Kd.isSca, flat, TYB]
      (try (and_intros <;> try (first | omega | (unfold In64; omega) | trivial | assumption)))
      have hTR : rkT R s0 (i + 1) = rkK (tubeAt R i) (rkT R s0 i) (layN (tubeAt R i) - 1) := rfl
      have h0 : rkK (tubeAt R i) (rkT R s0 i) 0 = rkT R s0 i := rfl
      have hI0 := rkJ_I hlt hJ
      generalize hn : layN (tubeAt R i) - 1 = n at *
      generalize rkT R s0 i = si at *
      refine loop_intro (fun j : Nat => [(28, .int j), (27, .int n), (26, .slice 2 0 n 4), (19, .int i), (18, .arr R), (5, .int (rkK (tubeAt R i) si j).1), (4, .ptr 1 0)]) (fun j => [(2, .ints (tubeAt R i) 22), (1, .ints (rkK (tubeAt R i) si j).2 39)]) 3 (fun j => j ≤ n ∧ rkI R (rkK (tubeAt R i) si j).2 i j) (fun j => n - j) ?_ ?_
      · refine ⟨0, ?_, Sub.mk_id ?_ ?_ ?_ ?_ ?_⟩
        all_goals (try (simp only [h0, LB, subS, subH, wfS, wfH, SV.ren, renL, SObj.ren, SV.wf, SObj.wf, wfL, SV.known, Nat.reduceEqDiff, ↓reduceIte, if_true, if_false, eq_self, Nat.reduceAdd, Nat.reduceLT, Nat.reduceLeDiff, implies_true, reduceCtorEq, forall_const]; done))
        all_goals (try (simp only [h0, LB, subS, subH, wfS, wfH, SV.ren, renL, SObj.ren, SV.wf, SObj.wf, wfL, SV.known, Nat.reduceEqDiff, ↓reduceIte, if_true, if_false, eq_self, Nat.reduceAdd, Nat.reduceLT, Nat.reduceLeDiff, implies_true, reduceCtorEq, forall_const]; simp; done))
        all_goals (try (simp only [h0, LB, subS, subH, wfS, wfH, SV.ren, renL, SObj.ren, SV.wf, SObj.wf, wfL, SV.known, Nat.reduceEqDiff, ↓reduceIte, if_true, if_false, eq_self, Nat.reduceAdd, Nat.reduceLT, Nat.reduceLeDiff, implies_true, reduceCtorEq, forall_const]; (and_intros <;> (first | omega | rfl | (simp; done) | (simp; omega))); done))
        all_goals (try dsimp only)
        all_goals (and_intros <;> try (first | omega | (unfold In64; omega) | trivial | assumption))
      · rintro j ⟨hj, hI⟩
        by_cases hjt : j < n
        · have hjl : (j : Int) < n := by omega
          have wj := wr_small j (by omega)
          have hcell := (tube_cells ht (tubeAt_ok hr hlt)).1 j (by omega)
          obtain ⟨x, hx⟩ : ∃ x : Nat, (tubeAt R i).getD j 0 = x := ⟨((tubeAt R i).getD j 0).toNat, by omega⟩
          obtain ⟨hI', x1, x6, xp⟩ := rkI_step hR hr hlt (by omega) hI hx
          have es : rkK (tubeAt R i) si (j + 1) = (rkC (rkK (tubeAt R i) si j).2 (rkK (tubeAt R i) si j).1 (x - 1), (rkK (tubeAt R i) si j).2.set x ((rkK (tubeAt R i) si j).2.getD x 0 - 1)) := by
            rw [rkK, hx]; rfl
          have hlL := hI.a
          generalize rkK (tubeAt R i) si j = sj at *
          simp -implicitDefEqProofs only [lk_normal, hjl, hx, ht, hlL, ZB, Int.reduceToNat, Nat.reduceLT, Nat.reduceLeDiff, Int.reduceLE, Int.reduceLT, Nat.reduceEqDiff, Nat.reduceSub, SB, SV.known, packR, ne_eq, reduceCtorEq, Nat.reduceEqDiff, ↓reduceIte, if_true, if_false, eq_self, Nat.reduceAdd, Nat.reduceMul, Nat.reduceSub, forall_const, oneCellS, Kd.isSca, flat, TYB]
          (try (and_intros <;> try (first | omega | (unfold In64; omega) | trivial | assumption)))
          refine loop_intro (fun k : Nat => [(10, .int ((k : Int) + 1)), (9, .int x), (28, .int j), (27, .int n), (26, .slice 2 0 n 4), (19, .int i), (18, .arr R), (5, .int (rkC sj.2 sj.1 k)), (4, .ptr 1 0)]) (fun k => [(2, .ints (tubeAt R i) 22), (1, .ints sj.2 39)]) 3 (fun k => k ≤ x - 1) (fun k => x - k) ?_ ?_
          · refine ⟨0, ?_, Sub.mk_id ?_ ?_ ?_ ?_ ?_⟩
            all_goals (try (simp only [rkC, LB, subS, subH, wfS, wfH, SV.ren, renL, SObj.ren, SV.wf, SObj.wf, wfL, SV.known, Nat.reduceEqDiff, ↓reduceIte, if_true, if_false, eq_self, Nat.reduceAdd, Nat.reduceLT, Nat.reduceLeDiff, implies_true, reduceCtorEq, forall_const]; done))
            all_goals (try (simp only [rkC, LB, subS, subH, wfS, wfH, SV.ren, renL, SObj.ren, SV.wf, SObj.wf, wfL, SV.known, Nat.reduceEqDiff, ↓reduceIte, if_true, if_false, eq_self, Nat.reduceAdd, Nat.reduceLT, Nat.reduceLeDiff, implies_true, reduceCtorEq, forall_const]; simp; done))
            all_goals (try (simp only [rkC, LB, subS, subH, wfS, wfH, SV.ren, renL, SObj.ren, SV.wf, SObj.wf, wfL, SV.known, Nat.reduceEqDiff, ↓reduceIte, if_true, if_false, eq_self, Nat.reduceAdd, Nat.reduceLT, Nat.reduceLeDiff, implies_true, reduceCtorEq, forall_const]; (and_intros <;> (first | omega | rfl | (simp; done) | (simp; omega))); done))
            all_goals (try dsimp only)
            all_goals (and_intros <;> try (first | omega | (unfold In64; omega) | trivial | assumption))
          · intro k hk
            by_cases hkt : k + 1 < x
            · have hkl : (k : Int) + 1 < x := by omega
              have tn : ((k : Int) + 1).toNat = k + 1 := by omega
              have k0 : 0 ≤ (k : Int) + 1 := by omega
              have k6 : (k : Int) + 1 < 6 := by omega
              have wk : IntKind.i64.wrap ((k : Int) + 1 + 1) = (k : Int) + 1 + 1 := wrap_in (by unfold In64; omega)
              have bc := hI.c (k + 1) (by omega) (by omega)
              have hcn := hcn_bd (tubeAt R i) j ((k + 1 : Nat) : Int)
              have hrm := remT_bd R ((k + 1 : Nat) : Int) (5 - i)
              by_cases hp : 0 < sj.2.getD (k + 1) 0
              · obtain ⟨q1, q2, q3⟩ := rkI_bd hI (by omega) (show k + 1 < 6 by omega) hp
                have ec : rkC sj.2 sj.1 (k + 1) = IntKind.i64.wrap (rkC sj.2 sj.1 k + arrF (sj.2.set (k + 1) (sj.2.getD (k + 1) 0 - 1))) := by rw [rkC, if_pos hp]; rfl
                have wa : IntKind.i64.wrap (sj.2.getD (k + 1) 0 - 1) = sj.2.getD (k + 1) 0 - 1 := wrap_in (by unfold In64; omega)
                have wb : IntKind.i64.wrap (sj.2.getD (k + 1) 0 - 1 + 1) = sj.2.getD (k + 1) 0 := by
                  rw [show sj.2.getD (k + 1) 0 - 1 + 1 = sj.2.getD (k + 1) 0 by omega]; exact wrap_in (by unfold In64; omega)
                have g1 := getD_set_eq sj.2 (k + 1) (sj.2.getD (k + 1) 0 - 1) (by omega)
                have g2 : (sj.2.set (k + 1) (sj.2.getD (k + 1) 0 - 1)).set (k + 1) (sj.2.getD (k + 1) 0) = sj.2 := by
                  rw [List.set_set]; exact set_getD_self _ _
                have tkq : List.take 6 (sj.2.set (k + 1) (sj.2.getD (k + 1) 0 - 1)) = sj.2.set (k + 1) (sj.2.getD (k + 1) 0 - 1) := List.take_of_length_le (by omega)
                simp -implicitDefEqProofs only [lk_normal, arrangements_F, hkl, tn, k0, k6, hp, hlL, q1, q2, wa, wb, g1, g2, tkq, wk, ZB, Int.reduceToNat, Nat.reduceLT, Nat.reduceLeDiff, Int.reduceLE, Int.reduceLT, Nat.reduceEqDiff, Nat.reduceSub, SB, SV.known, packR, ne_eq, reduceCtorEq, Nat.reduceEqDiff, ↓reduceIte, if_true, if_false, eq_self, Nat.reduceAdd, Nat.reduceMul, Nat.reduceSub, forall_const, oneCellS, Kd.isSca, flat, TYB]
                (try (and_intros <;> try (first | omega | (unfold In64; omega) | trivial | assumption)))
                refine ⟨k + 1, ?_, ?_, Sub.mk_id ?_ ?_ ?_ ?_ ?_⟩
                all_goals (try (simp only [ec, LB, subS, subH, wfS, wfH, SV.ren, renL, SObj.ren, SV.wf, SObj.wf, wfL, SV.known, Nat.reduceEqDiff, ↓reduceIte, if_true, if_false, eq_self, Nat.reduceAdd, Nat.reduceLT, Nat.reduceLeDiff, implies_true, reduceCtorEq, forall_const]; done))
                all_goals (try (simp only [ec, LB, subS, subH, wfS, wfH, SV.ren, renL, SObj.ren, SV.wf, SObj.wf, wfL, SV.known, Nat.reduceEqDiff, ↓reduceIte, if_true, if_false, eq_self, Nat.reduceAdd, Nat.reduceLT, Nat.reduceLeDiff, implies_true, reduceCtorEq, forall_const]; simp; done))
                all_goals (try (simp only [ec, LB, subS, subH, wfS, wfH, SV.ren, renL, SObj.ren, SV.wf, SObj.wf, wfL, SV.known, Nat.reduceEqDiff, ↓reduceIte, if_true, if_false, eq_self, Nat.reduceAdd, Nat.reduceLT, Nat.reduceLeDiff, implies_true, reduceCtorEq, forall_const]; (and_intros <;> (first | omega | rfl | (simp; done) | (simp; omega))); done))
                all_goals (try dsimp only)
                all_goals (and_intros <;> try (first | omega | (unfold In64; omega) | trivial | assumption))
              · have ec : rkC sj.2 sj.1 (k + 1) = rkC sj.2 sj.1 k := by rw [rkC, if_neg hp]
                simp -implicitDefEqProofs only [lk_normal, arrangements_F, hkl, tn, k0, k6, hp, hlL, wk, ZB, Int.reduceToNat, Nat.reduceLT, Nat.reduceLeDiff, Int.reduceLE, Int.reduceLT, Nat.reduceEqDiff, Nat.reduceSub, SB, SV.known, packR, ne_eq, reduceCtorEq, Nat.reduceEqDiff, ↓reduceIte, if_true, if_false, eq_self, Nat.reduceAdd, Nat.reduceMul, Nat.reduceSub, forall_const, oneCellS, Kd.isSca, flat, TYB]
                (try (and_intros <;> try (first | omega | (unfold In64; omega) | trivial | assumption)))
                refine ⟨k + 1, ?_, ?_, Sub.mk_id ?_ ?_ ?_ ?_ ?_⟩
                all_goals (try (simp only [ec, LB, subS, subH, wfS, wfH, SV.ren, renL, SObj.ren, SV.wf, SObj.wf, wfL, SV.known, Nat.reduceEqDiff, ↓reduceIte, if_true, if_false, eq_self, Nat.reduceAdd, Nat.reduceLT, Nat.reduceLeDiff, implies_true, reduceCtorEq, forall_const]; done))
                all_goals (try (simp only [ec, LB, subS, subH, wfS, wfH, SV.ren, renL, SObj.ren, SV.wf, SObj.wf, wfL, SV.known, Nat.reduceEqDiff, ↓reduceIte, if_true, if_false, eq_self, Nat.reduceAdd, Nat.reduceLT, Nat.reduceLeDiff, implies_true, reduceCtorEq, forall_const]; simp; done))
                all_goals (try (simp only [ec, LB, subS, subH, wfS, wfH, SV.ren, renL, SObj.ren, SV.wf, SObj.wf, wfL, SV.known, Nat.reduceEqDiff, ↓reduceIte, if_true, if_false, eq_self, Nat.reduceAdd, Nat.reduceLT, Nat.reduceLeDiff, implies_true, reduceCtorEq, forall_const]; (and_intros <;> (first | omega | rfl | (simp; done) | (simp; omega))); done))
                all_goals (try dsimp only)
                all_goals (and_intros <;> try (first | omega | (unfold In64; omega) | trivial | assumption))
            · have hkl : ¬ (k : Int) + 1 < x := by omega
              obtain rfl : k = x - 1 := by omega
              have wx : IntKind.i64.wrap (sj.2.getD x 0 - 1) = sj.2.getD x 0 - 1 := wrap_in (by have := hI.c x x1 x6; unfold In64; omega)
              have x6' : (x : Int) < 6 := by omega
              simp -implicitDefEqProofs only [lk_normal, hkl, hlL, wj, wx, x6', ZB, Int.reduceToNat, Nat.reduceLT, Nat.reduceLeDiff, Int.reduceLE, Int.reduceLT, Nat.reduceEqDiff, Nat.reduceSub, SB, SV.known, packR, ne_eq, reduceCtorEq, Nat.reduceEqDiff, ↓reduceIte, if_true, if_false, eq_self, Nat.reduceAdd, Nat.reduceMul, Nat.reduceSub, forall_const, oneCellS, Kd.isSca, flat, TYB]
              (try (and_intros <;> try (first | omega | (unfold In64; omega) | trivial | assumption)))
              refine ⟨j + 1, ?_, ?_, Sub.mk_id ?_ ?_ ?_ ?_ ?_⟩
              all_goals (try (simp only [es, LB, subS, subH, wfS, wfH, SV.ren, renL, SObj.ren, SV.wf, SObj.wf, wfL, SV.known, Nat.reduceEqDiff, ↓reduceIte, if_true, if_false, eq_self, Nat.reduceAdd, Nat.reduceLT, Nat.reduceLeDiff, implies_true, reduceCtorEq, forall_const]; done))
              all_goals (try (simp only [es, LB, subS, subH, wfS, wfH, SV.ren, renL, SObj.ren, SV.wf, SObj.wf, wfL, SV.known, Nat.reduceEqDiff, ↓reduceIte, if_true, if_false, eq_self, Nat.reduceAdd, Nat.reduceLT, Nat.reduceLeDiff, implies_true, reduceCtorEq, forall_const]; simp; done))
              all_goals (try (simp only [es, LB, subS, subH, wfS, wfH, SV.ren, renL, SObj.ren, SV.wf, SObj.wf, wfL, SV.known, Nat.reduceEqDiff, ↓reduceIte, if_true, if_false, eq_self, Nat.reduceAdd, Nat.reduceLT, Nat.reduceLeDiff, implies_true, reduceCtorEq, forall_const]; (and_intros <;> (first | omega | rfl | (simp; done) | (simp; omega))); done))
              all_goals (try dsimp only)
              all_goals (and_intros <;> try (first | omega | (unfold In64; omega) | trivial | assumption))
        · have hjl : ¬ (j : Int) < n := by omega
          obtain rfl : j = n := by omega
          simp -implicitDefEqProofs only [lk_normal, hjl, w1, ZB, Int.reduceToNat, Nat.reduceLT, Nat.reduceLeDiff, Int.reduceLE, Int.reduceLT, Nat.reduceEqDiff, Nat.reduceSub, SB, SV.known, packR, ne_eq, reduceCtorEq, Nat.reduceEqDiff, ↓reduceIte, if_true, if_false, eq_self, Nat.reduceAdd, Nat.reduceMul, Nat.reduceSub, forall_const, oneCellS, Kd.isSca, flat, TYB]
          (try (and_intros <;> try (first | omega | (unfold In64; omega) | trivial | assumption)))
          refine ⟨i + 1, ?_, ?_, Sub.mk_id ?_ ?_ ?_ ?_ ?_⟩
          all_goals (try (simp only [hTR, LB, subS, subH, wfS, wfH, SV.ren, renL, SObj.ren, SV.wf, SObj.wf, wfL, SV.known, Nat.reduceEqDiff, ↓reduceIte, if_true, if_false, eq_self, Nat.reduceAdd, Nat.reduceLT, Nat.reduceLeDiff, implies_true, reduceCtorEq, forall_const]; done))
          all_goals (try (simp only [hTR, LB, subS, subH, wfS, wfH, SV.ren, renL, SObj.ren, SV.wf, SObj.wf, wfL, SV.known, Nat.reduceEqDiff, ↓reduceIte, if_true, if_false, eq_self, Nat.reduceAdd, Nat.reduceLT, Nat.reduceLeDiff, implies_true, reduceCtorEq, forall_const]; simp; done))
          all_goals (try (simp only [hTR, LB, subS, subH, wfS, wfH, SV.ren, renL, SObj.ren, SV.wf, SObj.wf, wfL, SV.known, Nat.reduceEqDiff, ↓reduceIte, if_true, if_false, eq_self, Nat.reduceAdd, Nat.reduceLT, Nat.reduceLeDiff, implies_true, reduceCtorEq, forall_const]; (and_intros <;> (first | omega | rfl | (simp; done) | (simp; omega))); done))
          all_goals (try dsimp only)
          all_goals (and_intros <;> try (first | omega | (unfold In64; omega) | trivial | assumption))
          rw [hTR]; exact rkI_J hlt (by omega) hI
    · have hil : ¬ (i : Int) < 6 := by omega
      obtain rfl : i = 6 := by omega
      simp -implicitDefEqProofs only [lk_normal, hil, hR, ZB, Int.reduceToNat, Nat.reduceLT, Nat.reduceLeDiff, Int.reduceLE, Int.reduceLT, Nat.reduceEqDiff, Nat.reduceSub, SB, SV.known, packR, ne_eq, reduceCtorEq, Nat.reduceEqDiff, ↓reduceIte, if_true, if_false, eq_self, Nat.reduceAdd, Nat.reduceMul, Nat.reduceSub, forall_const, oneCellS, Kd.isSca, flat, TYB]
theorem sRankOfRack_ok (R : List Int) (hR : R.length = 24) : PureH Try.prog 18 [.arr R] [] (.tup [.int (rankF R), .bool (rackB R)]) := by
  have tkR : R.take 24 = R := List.take_of_length_le (by omega)
  unfold rankF
  cases hr : rackB R
  · refine pure_of_vc (X := ⟨Try.prog, tys, [(43, l2Rack_F), (51, l7View_F), (50, l7Hidden_F), (52, l2Many_F), (53, l7Ways_F)], [], false, true, 0, [], []⟩) fn_18 ⟨tys_ok, (.cons l2Rack_T (.cons l7View_T (.cons l7Hidden_T (.cons l2Many_T (.cons l7Ways_T .nil))))), .nil, mixed⟩ (n0 := 0) (Nat.le_of_ble_eq_true rfl) (by simp [wfL, SV.wf]) (wfH_spec (by simp [wfH, SObj.wf])) (Nat.le_refl _) (fun _ => by simp [SV.wf, wfL]) ?_
    simp -implicitDefEqProofs only [Try.f18, Option.getD_some, argS, l2Rack_F, l7View_F, l7Hidden_F, l2Many_F, l7Ways_F, hR, tkR, hr, ZB, Int.reduceToNat, Nat.reduceLT, Nat.reduceLeDiff, Int.reduceLE, Int.reduceLT, Nat.reduceEqDiff, Nat.reduceSub, SB, SV.known, packR, ne_eq, reduceCtorEq, Nat.reduceEqDiff, ↓reduceIte, if_true, if_false, eq_self, Nat.reduceAdd, Nat.reduceMul, Nat.reduceSub, forall_const, oneCellS, Kd.isSca, flat, TYB]
  obtain ⟨v1, v2, v3⟩ := viewF_ok hR hr
  have v4 := viewF_len R
  have v5 := viewF_take R
  have v6 := viewF_drop R
  have j0 := rkJ_zero hR hr
  have hl0 := j0.a
  refine pure_of_vc (X := ⟨Try.prog, tys, [(43, l2Rack_F), (51, l7View_F), (50, l7Hidden_F), (52, l2Many_F), (53, l7Ways_F)], [], false, true, 0, [], []⟩) fn_18 ⟨tys_ok, (.cons l2Rack_T (.cons l7View_T (.cons l7Hidden_T (.cons l2Many_T (.cons l7Ways_T .nil))))), .nil, mixed⟩ (n0 := 0) (Nat.le_of_ble_eq_true rfl) (by simp [wfL, SV.wf]) (wfH_spec (by simp [wfH, SObj.wf])) (Nat.le_refl _) (fun _ => by simp [SV.wf, wfL]) ?_
  simp -implicitDefEqProofs only [Try.f18, Option.getD_some, argS, l2Rack_F, l7View_F, l7Hidden_F, l2Many_F, l7Ways_F, hR, tkR, hr, v1, v2, v3, v4, v5, v6, hl0, ZB, Int.reduceToNat, Nat.reduceLT, Nat.reduceLeDiff, Int.reduceLE, Int.reduceLT, Nat.reduceEqDiff, Nat.reduceSub, SB, SV.known, packR, ne_eq, reduceCtorEq, Nat.reduceEqDiff, ↓reduceIte, if_true, if_false, eq_self, Nat.reduceAdd, Nat.reduceMul, Nat.reduceSub, forall_const, oneCellS, Kd.isSca, flat, TYB]
  generalize hs0 : ((0 : Int), hidL (topL R) (ctL R) 6) = s0 at *
  have e0 : hidL (topL R) (ctL R) 6 = s0.2 := by rw [← hs0]
  have e1 : s0.1 = 0 := by rw [← hs0]
  rw [e0] at j0 hl0 ⊢
  refine loop_intro (fun i : Nat => [(7, .int i), (6, .ptr 1 0), (4, .int (rkT R s0 i).1), (1, .ptr 0 0)]) (fun i => [(1, .ints (rkT R s0 i).2 39), (0, .ints R 28)]) 2 (fun i => i ≤ 6 ∧ rkJ R (rkT R s0 i).2 i) (fun i => 6 - i) ?_ ?_
  · refine ⟨0, ?_, Sub.mk_id ?_ ?_ ?_ ?_ ?_⟩
    all_goals (try (simp only [rkT, e1, LB, subS, subH, wfS, wfH, SV.ren, renL, SObj.ren, SV.wf, SObj.wf, wfL, SV.known, Nat.reduceEqDiff, ↓reduceIte, if_true, if_false, eq_self, Nat.reduceAdd, Nat.reduceLT, Nat.reduceLeDiff, implies_true, reduceCtorEq, forall_const]; done))
    all_goals (try (simp only [rkT, e1, LB, subS, subH, wfS, wfH, SV.ren, renL, SObj.ren, SV.wf, SObj.wf, wfL, SV.known, Nat.reduceEqDiff, ↓reduceIte, if_true, if_false, eq_self, Nat.reduceAdd, Nat.reduceLT, Nat.reduceLeDiff, implies_true, reduceCtorEq, forall_const]; simp; done))
    all_goals (try (simp only [rkT, e1, LB, subS, subH, wfS, wfH, SV.ren, renL, SObj.ren, SV.wf, SObj.wf, wfL, SV.known, Nat.reduceEqDiff, ↓reduceIte, if_true, if_false, eq_self, Nat.reduceAdd, Nat.reduceLT, Nat.reduceLeDiff, implies_true, reduceCtorEq, forall_const]; (and_intros <;> (first | omega | rfl | (simp; done) | (simp; omega))); done))
    all_goals (try dsimp only)
    all_goals (and_intros <;> try (first | omega | (unfold In64; omega) | trivial | assumption))
  · rintro i ⟨hi, hJ⟩
    by_cases hlt : i < 6
    · have hil : (i : Int) < 6 := by omega
      have w1 := wr_small i (by omega)
      have ht : (tubeAt R i).length = 4 := tubeAt_len hR hlt
      have tkt : (tubeAt R i).take 4 = tubeAt R i := List.take_of_length_le (by omega)
      have et : List.take 4 (List.drop (i * 4) R) = tubeAt R i := rfl
      have hle := lay_le _ ht
      simp -implicitDefEqProofs only [lk_normal, hil, ZB, Int.reduceToNat, Nat.reduceLT, Nat.reduceLeDiff, Int.reduceLE, Int.reduceLT, Nat.reduceEqDiff, Nat.reduceSub, SB, SV.known, packR, ne_eq, reduceCtorEq, Nat.reduceEqDiff, ↓reduceIte, if_true, if_false, eq_self, Nat.reduceAdd, Nat.reduceMul, Nat.reduceSub, forall_const, oneCellS, Kd.isSca, flat, TYB]
      (try (and_intros <;> try (first | omega | (unfold In64; omega) | trivial | assumption)))
      have hTR : rkT R s0 (i + 1) = rkK (tubeAt R i) (rkT R s0 i) (layN (tubeAt R i) - 1) := rfl
      have h0 : rkK (tubeAt R i) (rkT R s0 i) 0 = rkT R s0 i := rfl
      have hI0 := rkJ_I hlt hJ
      generalize rkT R s0 i = si at *
      refine loop_intro (fun j : Nat => [(8, .int j), (7, .int i), (6, .ptr 1 0), (4, .int (rkK (tubeAt R i) si j).1), (1, .ptr 0 0)]) (fun j => [(1, .ints (rkK (tubeAt R i) si j).2 39), (0, .ints R 28)]) 2 (fun j => j ≤ layN (tubeAt R i) - 1 ∧ rkI R (rkK (tubeAt R i) si j).2 i j) (fun j => layN (tubeAt R i) - 1 - j) ?_ ?_
      · refine ⟨0, ?_, Sub.mk_id ?_ ?_ ?_ ?_ ?_⟩
        all_goals (try (simp only [h0, LB, subS, subH, wfS, wfH, SV.ren, renL, SObj.ren, SV.wf, SObj.wf, wfL, SV.known, Nat.reduceEqDiff, ↓reduceIte, if_true, if_false, eq_self, Nat.reduceAdd, Nat.reduceLT, Nat.reduceLeDiff, implies_true, reduceCtorEq, forall_const]; done))
        all_goals (try (simp only [h0, LB, subS, subH, wfS, wfH, SV.ren, renL, SObj.ren, SV.wf, SObj.wf, wfL, SV.known, Nat.reduceEqDiff, ↓reduceIte, if_true, if_false, eq_self, Nat.reduceAdd, Nat.reduceLT, Nat.reduceLeDiff, implies_true, reduceCtorEq, forall_const]; simp; done))
        all_goals (try (simp only [h0, LB, subS, subH, wfS, wfH, SV.ren, renL, SObj.ren, SV.wf, SObj.wf, wfL, SV.known, Nat.reduceEqDiff, ↓reduceIte, if_true, if_false, eq_self, Nat.reduceAdd, Nat.reduceLT, Nat.reduceLeDiff, implies_true, reduceCtorEq, forall_const]; (and_intros <;> (first | omega | rfl | (simp; done) | (simp; omega))); done))
        all_goals (try dsimp only)
        all_goals (and_intros <;> try (first | omega | (unfold In64; omega) | trivial | assumption))
      · rintro j ⟨hj, hI⟩
        have pc := posC_lay _ ht (tubeAt_ok hr hlt)
        have w2 : IntKind.i64.wrap ((layN (tubeAt R i) : Int) - 1) = (layN (tubeAt R i) : Int) - 1 := wrap_in (by unfold In64; omega)
        by_cases hjt : j < layN (tubeAt R i) - 1
        · have hjl : (j : Int) < (layN (tubeAt R i) : Int) - 1 := by omega
          have hj4 : (j : Int) < 4 := by omega
          have wj := wr_small j (by omega)
          have hcell := (tube_cells ht (tubeAt_ok hr hlt)).1 j (by omega)
          obtain ⟨x, hx⟩ : ∃ x : Nat, (tubeAt R i).getD j 0 = x := ⟨((tubeAt R i).getD j 0).toNat, by omega⟩
          obtain ⟨hI', x1, x6, xp⟩ := rkI_step hR hr hlt (by omega) hI hx
          have es : rkK (tubeAt R i) si (j + 1) = (rkC (rkK (tubeAt R i) si j).2 (rkK (tubeAt R i) si j).1 (x - 1), (rkK (tubeAt R i) si j).2.set x ((rkK (tubeAt R i) si j).2.getD x 0 - 1)) := by
            rw [rkK, hx]; rfl
          have hx2 : R.getD (i * 4 + j) 0 = x := by rw [← hx]; exact (cut_getD R i j (by omega)).symm
          have hlL := hI.a
          generalize rkK (tubeAt R i) si j = sj at *
          simp -implicitDefEqProofs only [lk_normal, l2Many_F, pc, hil, hR, et, ht, tkt, w2, hjl, hj4, hx, hx2, ht, hlL, ZB, Int.reduceToNat, Nat.reduceLT, Nat.reduceLeDiff, Int.reduceLE, Int.reduceLT, Nat.reduceEqDiff, Nat.reduceSub, SB, SV.known, packR, ne_eq, reduceCtorEq, Nat.reduceEqDiff, ↓reduceIte, if_true, if_false, eq_self, Nat.reduceAdd, Nat.reduceMul, Nat.reduceSub, forall_const, oneCellS, Kd.isSca, flat, TYB]
          (try (and_intros <;> try (first | omega | (unfold In64; omega) | trivial | assumption)))
          refine loop_intro (fun k : Nat => [(9, .int ((k : Int) + 1)), (8, .int j), (7, .int i), (6, .ptr 1 0), (4, .int (rkC sj.2 sj.1 k)), (1, .ptr 0 0)]) (fun k => [(1, .ints sj.2 39), (0, .ints R 28)]) 2 (fun k => k ≤ x - 1) (fun k => x - k) ?_ ?_
          · refine ⟨0, ?_, Sub.mk_id ?_ ?_ ?_ ?_ ?_⟩
            all_goals (try (simp only [rkC, LB, subS, subH, wfS, wfH, SV.ren, renL, SObj.ren, SV.wf, SObj.wf, wfL, SV.known, Nat.reduceEqDiff, ↓reduceIte, if_true, if_false, eq_self, Nat.reduceAdd, Nat.reduceLT, Nat.reduceLeDiff, implies_true, reduceCtorEq, forall_const]; done))
            all_goals (try (simp only [rkC, LB, subS, subH, wfS, wfH, SV.ren, renL, SObj.ren, SV.wf, SObj.wf, wfL, SV.known, Nat.reduceEqDiff, ↓reduceIte, if_true, if_false, eq_self, Nat.reduceAdd, Nat.reduceLT, Nat.reduceLeDiff, implies_true, reduceCtorEq, forall_const]; simp; done))
            all_goals (try (simp only [rkC, LB, subS, subH, wfS, wfH, SV.ren, renL, SObj.ren, SV.wf, SObj.wf, wfL, SV.known, Nat.reduceEqDiff, ↓reduceIte, if_true, if_false, eq_self, Nat.reduceAdd, Nat.reduceLT, Nat.reduceLeDiff, implies_true, reduceCtorEq, forall_const]; (and_intros <;> (first | omega | rfl | (simp; done) | (simp; omega))); done))
            all_goals (try dsimp only)
            all_goals (and_intros <;> try (first | omega | (unfold In64; omega) | trivial | assumption))
          · intro k hk
            by_cases hkt : k + 1 < x
            · have hkl : (k : Int) + 1 < x := by omega
              have tn : ((k : Int) + 1).toNat = k + 1 := by omega
              have k0 : 0 ≤ (k : Int) + 1 := by omega
              have k6 : (k : Int) + 1 < 6 := by omega
              have wk : IntKind.i64.wrap ((k : Int) + 1 + 1) = (k : Int) + 1 + 1 := wrap_in (by unfold In64; omega)
              have bc := hI.c (k + 1) (by omega) (by omega)
              have hcn := hcn_bd (tubeAt R i) j ((k + 1 : Nat) : Int)
              have hrm := remT_bd R ((k + 1 : Nat) : Int) (5 - i)
              by_cases hp : 0 < sj.2.getD (k + 1) 0
              · obtain ⟨q1, q2, q3⟩ := rkI_bd hI (by omega) (show k + 1 < 6 by omega) hp
                have q4 := arrF_drop q1 q3
                have q5 : Bd 0 1000000 ((sj.2.set (k + 1) (sj.2.getD (k + 1) 0 - 1)).drop 1) := fun y hy => q2 y (List.mem_of_mem_drop hy)
                have ec : rkC sj.2 sj.1 (k + 1) = IntKind.i64.wrap (rkC sj.2 sj.1 k + arrF (sj.2.set (k + 1) (sj.2.getD (k + 1) 0 - 1))) := by rw [rkC, if_pos hp]; rfl
                have wa : IntKind.i64.wrap (sj.2.getD (k + 1) 0 - 1) = sj.2.getD (k + 1) 0 - 1 := wrap_in (by unfold In64; omega)
                have wb : IntKind.i64.wrap (sj.2.getD (k + 1) 0 - 1 + 1) = sj.2.getD (k + 1) 0 := by
                  rw [show sj.2.getD (k + 1) 0 - 1 + 1 = sj.2.getD (k + 1) 0 by omega]; exact wrap_in (by unfold In64; omega)
                have g1 := getD_set_eq sj.2 (k + 1) (sj.2.getD (k + 1) 0 - 1) (by omega)
                have g2 : (sj.2.set (k + 1) (sj.2.getD (k + 1) 0 - 1)).set (k + 1) (sj.2.getD (k + 1) 0) = sj.2 := by
                  rw [List.set_set]; exact set_getD_self _ _
                have tkq : List.take 6 (sj.2.set (k + 1) (sj.2.getD (k + 1) 0 - 1)) = sj.2.set (k + 1) (sj.2.getD (k + 1) 0 - 1) := List.take_of_length_le (by omega)
                simp -implicitDefEqProofs only [lk_normal, l7Ways_F, hil, hR, et, ht, tkt, hj4, hx, hx2, hkl, tn, k0, k6, hp, hlL, q1, q4, q5, wa, wb, g1, g2, tkq, wk, ZB, Int.reduceToNat, Nat.reduceLT, Nat.reduceLeDiff, Int.reduceLE, Int.reduceLT, Nat.reduceEqDiff, Nat.reduceSub, SB, SV.known, packR, ne_eq, reduceCtorEq, Nat.reduceEqDiff, ↓reduceIte, if_true, if_false, eq_self, Nat.reduceAdd, Nat.reduceMul, Nat.reduceSub, forall_const, oneCellS, Kd.isSca, flat, TYB]
                (try (and_intros <;> try (first | omega | (unfold In64; omega) | trivial | assumption)))
                refine ⟨k + 1, ?_, ?_, Sub.mk_id ?_ ?_ ?_ ?_ ?_⟩
                all_goals (try (simp only [ec, LB, subS, subH, wfS, wfH, SV.ren, renL, SObj.ren, SV.wf, SObj.wf, wfL, SV.known, Nat.reduceEqDiff, ↓reduceIte, if_true, if_false, eq_self, Nat.reduceAdd, Nat.reduceLT, Nat.reduceLeDiff, implies_true, reduceCtorEq, forall_const]; done))
                all_goals (try (simp only [ec, LB, subS, subH, wfS, wfH, SV.ren, renL, SObj.ren, SV.wf, SObj.wf, wfL, SV.known, Nat.reduceEqDiff, ↓reduceIte, if_true, if_false, eq_self, Nat.reduceAdd, Nat.reduceLT, Nat.reduceLeDiff, implies_true, reduceCtorEq, forall_const]; simp; done))
                all_goals (try (simp only [ec, LB, subS, subH, wfS, wfH, SV.ren, renL, SObj.ren, SV.wf, SObj.wf, wfL, SV.known, Nat.reduceEqDiff, ↓reduceIte, if_true, if_false, eq_self, Nat.reduceAdd, Nat.reduceLT, Nat.reduceLeDiff, implies_true, reduceCtorEq, forall_const]; (and_intros <;> (first | omega | rfl | (simp; done) | (simp; omega))); done))
                all_goals (try dsimp only)
                all_goals (and_intros <;> try (first | omega | (unfold In64; omega) | trivial | assumption))
              · have ec : rkC sj.2 sj.1 (k + 1) = rkC sj.2 sj.1 k := by rw [rkC, if_neg hp]
                simp -implicitDefEqProofs only [lk_normal, l7Ways_F, hil, hR, et, ht, tkt, hj4, hx, hx2, hkl, tn, k0, k6, hp, hlL, wk, ZB, Int.reduceToNat, Nat.reduceLT, Nat.reduceLeDiff, Int.reduceLE, Int.reduceLT, Nat.reduceEqDiff, Nat.reduceSub, SB, SV.known, packR, ne_eq, reduceCtorEq, Nat.reduceEqDiff, ↓reduceIte, if_true, if_false, eq_self, Nat.reduceAdd, Nat.reduceMul, Nat.reduceSub, forall_const, oneCellS, Kd.isSca, flat, TYB]
                (try (and_intros <;> try (first | omega | (unfold In64; omega) | trivial | assumption)))
                refine ⟨k + 1, ?_, ?_, Sub.mk_id ?_ ?_ ?_ ?_ ?_⟩
                all_goals (try (simp only [ec, LB, subS, subH, wfS, wfH, SV.ren, renL, SObj.ren, SV.wf, SObj.wf, wfL, SV.known, Nat.reduceEqDiff, ↓reduceIte, if_true, if_false, eq_self, Nat.reduceAdd, Nat.reduceLT, Nat.reduceLeDiff, implies_true, reduceCtorEq, forall_const]; done))
                all_goals (try (simp only [ec, LB, subS, subH, wfS, wfH, SV.ren, renL, SObj.ren, SV.wf, SObj.wf, wfL, SV.known, Nat.reduceEqDiff, ↓reduceIte, if_true, if_false, eq_self, Nat.reduceAdd, Nat.reduceLT, Nat.reduceLeDiff, implies_true, reduceCtorEq, forall_const]; simp; done))
                all_goals (try (simp only [ec, LB, subS, subH, wfS, wfH, SV.ren, renL, SObj.ren, SV.wf, SObj.wf, wfL, SV.known, Nat.reduceEqDiff, ↓reduceIte, if_true, if_false, eq_self, Nat.reduceAdd, Nat.reduceLT, Nat.reduceLeDiff, implies_true, reduceCtorEq, forall_const]; (and_intros <;> (first | omega | rfl | (simp; done) | (simp; omega))); done))
                all_goals (try dsimp only)
                all_goals (and_intros <;> try (first | omega | (unfold In64; omega) | trivial | assumption))
            · have hkl : ¬ (k : Int) + 1 < x := by omega
              obtain rfl : k = x - 1 := by omega
              have wx : IntKind.i64.wrap (sj.2.getD x 0 - 1) = sj.2.getD x 0 - 1 := wrap_in (by have := hI.c x x1 x6; unfold In64; omega)
              have x6' : (x : Int) < 6 := by omega
              simp -implicitDefEqProofs only [lk_normal, hil, hR, et, ht, tkt, hj4, hx, hx2, hkl, hlL, wj, wx, x6', ZB, Int.reduceToNat, Nat.reduceLT, Nat.reduceLeDiff, Int.reduceLE, Int.reduceLT, Nat.reduceEqDiff, Nat.reduceSub, SB, SV.known, packR, ne_eq, reduceCtorEq, Nat.reduceEqDiff, ↓reduceIte, if_true, if_false, eq_self, Nat.reduceAdd, Nat.reduceMul, Nat.reduceSub, forall_const, oneCellS, Kd.isSca, flat, TYB]
              (try (and_intros <;> try (first | omega | (unfold In64; omega) | trivial | assumption)))
              refine ⟨j + 1, ?_, ?_, Sub.mk_id ?_ ?_ ?_ ?_ ?_⟩
              all_goals (try (simp only [es, LB, subS, subH, wfS, wfH, SV.ren, renL, SObj.ren, SV.wf, SObj.wf, wfL, SV.known, Nat.reduceEqDiff, ↓reduceIte, if_true, if_false, eq_self, Nat.reduceAdd, Nat.reduceLT, Nat.reduceLeDiff, implies_true, reduceCtorEq, forall_const]; done))
              all_goals (try (simp only [es, LB, subS, subH, wfS, wfH, SV.ren, renL, SObj.ren, SV.wf, SObj.wf, wfL, SV.known, Nat.reduceEqDiff, ↓reduceIte, if_true, if_false, eq_self, Nat.reduceAdd, Nat.reduceLT, Nat.reduceLeDiff, implies_true, reduceCtorEq, forall_const]; simp; done))
              all_goals (try (simp only [es, LB, subS, subH, wfS, wfH, SV.ren, renL, SObj.ren, SV.wf, SObj.wf, wfL, SV.known, Nat.reduceEqDiff, ↓reduceIte, if_true, if_false, eq_self, Nat.reduceAdd, Nat.reduceLT, Nat.reduceLeDiff, implies_true, reduceCtorEq, forall_const]; (and_intros <;> (first | omega | rfl | (simp; done) | (simp; omega))); done))
              all_goals (try dsimp only)
              all_goals (and_intros <;> try (first | omega | (unfold In64; omega) | trivial | assumption))
        · have hjl : ¬ (j : Int) < (layN (tubeAt R i) : Int) - 1 := by omega
          obtain rfl : j = layN (tubeAt R i) - 1 := by omega
          simp -implicitDefEqProofs only [lk_normal, l2Many_F, pc, hil, hR, et, ht, tkt, w2, hjl, w1, ZB, Int.reduceToNat, Nat.reduceLT, Nat.reduceLeDiff, Int.reduceLE, Int.reduceLT, Nat.reduceEqDiff, Nat.reduceSub, SB, SV.known, packR, ne_eq, reduceCtorEq, Nat.reduceEqDiff, ↓reduceIte, if_true, if_false, eq_self, Nat.reduceAdd, Nat.reduceMul, Nat.reduceSub, forall_const, oneCellS, Kd.isSca, flat, TYB]
          (try (and_intros <;> try (first | omega | (unfold In64; omega) | trivial | assumption)))
          refine ⟨i + 1, ?_, ?_, Sub.mk_id ?_ ?_ ?_ ?_ ?_⟩
          all_goals (try (simp only [hTR, LB, subS, subH, wfS, wfH, SV.ren, renL, SObj.ren, SV.wf, SObj.wf, wfL, SV.known, Nat.reduceEqDiff, ↓reduceIte, if_true, if_false, eq_self, Nat.reduceAdd, Nat.reduceLT, Nat.reduceLeDiff, implies_true, reduceCtorEq, forall_const]; done))
          all_goals (try (simp only [hTR, LB, subS, subH, wfS, wfH, SV.ren, renL, SObj.ren, SV.wf, SObj.wf, wfL, SV.known, Nat.reduceEqDiff, ↓reduceIte, if_true, if_false, eq_self, Nat.reduceAdd, Nat.reduceLT, Nat.reduceLeDiff, implies_true, reduceCtorEq, forall_const]; simp; done))
          all_goals (try (simp only [hTR, LB, subS, subH, wfS, wfH, SV.ren, renL, SObj.ren, SV.wf, SObj.wf, wfL, SV.known, Nat.reduceEqDiff, ↓reduceIte, if_true, if_false, eq_self, Nat.reduceAdd, Nat.reduceLT, Nat.reduceLeDiff, implies_true, reduceCtorEq, forall_const]; (and_intros <;> (first | omega | rfl | (simp; done) | (simp; omega))); done))
          all_goals (try dsimp only)
          all_goals (and_intros <;> try (first | omega | (unfold In64; omega) | trivial | assumption))
          rw [hTR]; exact rkI_J hlt (by omega) hI
    · have hil : ¬ (i : Int) < 6 := by omega
      obtain rfl : i = 6 := by omega
      simp -implicitDefEqProofs only [lk_normal, hil, hR, ZB, Int.reduceToNat, Nat.reduceLT, Nat.reduceLeDiff, Int.reduceLE, Int.reduceLT, Nat.reduceEqDiff, Nat.reduceSub, SB, SV.known, packR, ne_eq, reduceCtorEq, Nat.reduceEqDiff, ↓reduceIte, if_true, if_false, eq_self, Nat.reduceAdd, Nat.reduceMul, Nat.reduceSub, forall_const, oneCellS, Kd.isSca, flat, TYB]
def RankOfRack_F : List SV → Heap → Option (Prop × SV)
  | [.arr R], _ => some (R.length = 24, .tup [.int (rankF R), .bool (rackB R)])
  | _, _ => none
theorem RankOfRack_T : ∀ args H p v, RankOfRack_F args H = some (p, v) → p → PureH Try.prog 19 args H v := by
  intro args H p v h hp
  unfold RankOfRack_F at h
  split at h
  · cases h; exact (RankOfRack_ok _ hp).any _
  · cases h
def sRankOfRack_F : List SV → Heap → Option (Prop × SV)
  | [.arr R], _ => some (R.length = 24, .tup [.int (rankF R), .bool (rackB R)])
  | _, _ => none
theorem sRankOfRack_T : ∀ args H p v, sRankOfRack_F args H = some (p, v) → p → PureH Try.prog 18 args H v := by
  intro args H p v h hp
  unfold sRankOfRack_F at h
  split at h
  · cases h; exact (sRankOfRack_ok _ hp).any _
  · cases h
theorem lawRankOfRack (R : List Int) (hR : R.length = 24) (_ : ∀ x ∈ R, In64 x) : PureH Try.prog 4 [.arr R] [] (.bool true) := by
  have tkR : R.take 24 = R := List.take_of_length_le (by omega)
  refine pure_of_vc (X := ⟨Try.prog, tys, [(13, toRack_F), (19, RankOfRack_F), (18, sRankOfRack_F)], [], true, true, 0, [], []⟩) fn_4 ⟨tys_ok, (.cons toRack_T (.cons RankOfRack_T (.cons sRankOfRack_T .nil))), .nil, mixed⟩ (n0 := 0) (Nat.le_of_ble_eq_true rfl) (by simp [wfL, SV.wf]) (wfH_spec (by simp [wfH, SObj.wf])) (Nat.le_refl _) (fun _ => by simp [SV.wf, wfL]) ?_
  simp -implicitDefEqProofs only [Try.f4, Option.getD_some, argS, toRack_F, RankOfRack_F, sRankOfRack_F, hR, tkR, ZB, Int.reduceToNat, Nat.reduceLT, Nat.reduceLeDiff, Int.reduceLE, Int.reduceLT, Nat.reduceEqDiff, Nat.reduceSub, SB, SV.known, packR, ne_eq, reduceCtorEq, Nat.reduceEqDiff, ↓reduceIte, if_true, if_false, eq_self, Nat.reduceAdd, Nat.reduceMul, Nat.reduceSub, forall_const, oneCellS, Kd.isSca, flat, TYB]
end Go.Proofs.Ytfdpeenamkpcbaa
