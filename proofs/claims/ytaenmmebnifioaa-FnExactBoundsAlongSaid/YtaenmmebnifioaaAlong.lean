/- Walks: BoundsAlong. -/
import Derived.Test.YtaenmmebnifioaaBacks
import Derived.Test.YtaenmmebnifioaaSl1
set_option maxRecDepth 100000
set_option linter.unusedSimpArgs false
set_option linter.unusedVariables false
namespace Go.Proofs.Ytaenmmebnifioaa
open Go Go.RowKit
theorem FreshP.sub {P : Program} {f : FuncId} {args : List SV} {H0 H : Heap} {L : List Int} {len es e : Nat} {nl : Bool} {wr : Wrap} (h : FreshP P f args H0 L len es e nl wr) (ρ : Nat → Nat) (hs : subHs ρ 0 H H0) (hi : injOn ρ (H0.map (·.1))) : FreshP P f (renL ρ args) H L len es e nl wr := by
  refine ⟨h.ent, h.ok, fun B w hH => ?_⟩
  have := h.call (fun k => B (ρ k)) w ⟨fun k o hl hk => ?_, fun k j o o' g1 g2 g3 g4 he => ?_⟩
  · rw [denL_ren]
    refine this.mono fun r w' ⟨h1, h2⟩ => ⟨h1, h2.imp (fun ⟨a, b, c⟩ => ⟨a, b, c.trans (congrArg Ending.returned (Wrap.den_eq h.ok rfl))⟩) id⟩
  · obtain ⟨e1, _, _⟩ := hs k o hl
    have := hH.at_ _ _ e1 (by rw [SObj.live_ren]; exact hk)
    rw [SObj.sat_ren] at this
    exact this
  · obtain ⟨e1, _, m1⟩ := hs k o g1
    obtain ⟨e2, _, m2⟩ := hs j o' g3
    exact hi k m1 j m2 (hH.inj _ _ _ _ e1 (by rw [SObj.live_ren]; exact g2) e2 (by rw [SObj.live_ren]; exact g4) he)
theorem FreshP.one {P : Program} {f : FuncId} {args : List SV} {H : Heap} {o : SObj} {b : Nat} {L : List Int} {len es e : Nat} {nl : Bool} {wr : Wrap} (h : FreshP P f args [(0, o)] L len es e nl wr) (hb : hget H b = some o) (ho : o.ren (fun _ => b) = o) : FreshP P f (renL (fun _ => b) args) H L len es e nl wr :=
  h.sub (fun _ => b) (fun j o' hj => by
    rw [hget_cons] at hj
    split at hj
    · cases hj; exact ⟨by rw [ho]; exact hb, fun _ => by omega, by simp [*]⟩
    · cases hj) (fun a ha c hc _ => by simp at ha hc; omega)
def alN (R L : List Int) (len : Nat) : Nat := firstN (paC R L) len 0
def alS (R L : List Int) (n : Nat) : List Int := (List.range n).map fun k => bndF (paR R L k)
theorem alS_zero (R L : List Int) : alS R L 0 = [] := rfl
theorem alS_succ (R L : List Int) (n : Nat) : alS R L (n + 1) = alS R L n ++ [bndF (paR R L n)] := by simp [alS, List.range_succ]
theorem alS_len (R L : List Int) (n : Nat) : (alS R L n).length = n := by simp [alS]
def alL (R L : List Int) (len : Nat) : List Int := if igOk R len = true then alS R L (alN R L len + 1) else []
attribute [local irreducible] pourF bndF canF goodF cppB
--@tbl BoundsAlong = impl.BoundsAlong
theorem BoundsAlong_ok (R L : List Int) (e len cap : Nat) (hR : R.length = 24) (hL : len * 2 ≤ L.length) (hl : len ≤ 1048576) : FreshP Try.prog 53 [.arr R, .slice 0 0 len cap] [(0, .ints L e)] (alL R L len) (alL R L len).length 1 3 true (.more [.bool (igOk R len)]) := by
  have tkR : R.take 24 = R := List.take_of_length_le (by omega)
  unfold alL igOk
  cases hr : rackB R
  · refine fresh_of_vc (X := ⟨Try.prog, tys, [(67, IsRack_F), (101, canPourPath_F), (97, pour_F), (106, bound_F)], [], true, true, 1, [], []⟩) fn_53 ⟨tys_ok, (.cons IsRack_T (.cons canPourPath_T (.cons pour_T (.cons bound_T .nil)))), .nil, mixed⟩ (n0 := 1) rfl (Nat.le_of_ble_eq_true rfl) (by simp [wfL, SV.wf]) (wfH_spec (by simp [wfH, SObj.wf])) (Nat.le_refl _) ?_
    simp -implicitDefEqProofs only [Try.f53, Option.getD_some, argS, IsRack_F, canPourPath_F, pour_F, bound_F, hR, tkR, hr, freshK, Wrap.ap, ZB, Int.reduceToNat, Nat.reduceLT, Nat.reduceLeDiff, Int.reduceLE, Int.reduceLT, Nat.reduceEqDiff, Nat.reduceSub, SB, SV.known, packR, ne_eq, reduceCtorEq, Nat.reduceEqDiff, ↓reduceIte, if_true, if_false, eq_self, Nat.reduceAdd, Nat.reduceMul, Nat.reduceSub, forall_const, oneCellS, Kd.isSca, flat, TYB]
    exact .inl ⟨rfl, rfl, rfl⟩
  · by_cases h60 : len ≤ 60
    · have h60' : ¬ (len : Int) > 60 := by omega
      refine fresh_of_vc (X := ⟨Try.prog, tys, [(67, IsRack_F), (101, canPourPath_F), (97, pour_F), (106, bound_F)], [], true, true, 1, [], []⟩) fn_53 ⟨tys_ok, (.cons IsRack_T (.cons canPourPath_T (.cons pour_T (.cons bound_T .nil)))), .nil, mixed⟩ (n0 := 1) rfl (Nat.le_of_ble_eq_true rfl) (by simp [wfL, SV.wf]) (wfH_spec (by simp [wfH, SObj.wf])) (Nat.le_refl _) ?_
      simp -implicitDefEqProofs only [Try.f53, Option.getD_some, argS, IsRack_F, canPourPath_F, pour_F, bound_F, hR, tkR, hr, h60, h60', freshK, Wrap.ap, ZB, Int.reduceToNat, Nat.reduceLT, Nat.reduceLeDiff, Int.reduceLE, Int.reduceLT, Nat.reduceEqDiff, Nat.reduceSub, SB, SV.known, packR, ne_eq, reduceCtorEq, Nat.reduceEqDiff, ↓reduceIte, if_true, if_false, eq_self, Nat.reduceAdd, Nat.reduceMul, Nat.reduceSub, forall_const, oneCellS, Kd.isSca, flat, TYB]
      have hs0 : (List.replicate 1 (0 : Int)).set 0 (bndF R) = [bndF R] := rfl
      rw [hs0]
      refine loop_intro (fun s : Nat × Nat × List Int => [(22, .int s.1), (21, .int len), (20, .slice 0 0 len cap), (6, .slice 2 0 (s.1 + 1) s.2.1), (5, .bool false), (4, .nils), (2, .ptr 1 0)]) (fun s => [(2, .ints (alS R L (s.1 + 1) ++ s.2.2) 3), (1, .ints (paR R L s.1) 30), (0, .ints L e)]) 3 (fun s => (s.1 ≤ len ∧ s.2.2.length + (s.1 + 1) = s.2.1) ∧ ∀ q, q < s.1 → paC R L q = true) (fun s => len - s.1) ?_ ?_
      · have a1 : alS R L 1 = [bndF R] := rfl
        refine ⟨(0, 1, []), ?_, Sub.mk_id ?_ ?_ ?_ ?_ ?_⟩
        all_goals (try (simp only [paR_zero, a1, List.append_nil, LB, subS, subH, wfS, wfH, SV.ren, renL, SObj.ren, SV.wf, SObj.wf, wfL, SV.known, Nat.reduceEqDiff, ↓reduceIte, if_true, if_false, eq_self, Nat.reduceAdd, Nat.reduceLT, Nat.reduceLeDiff, implies_true, reduceCtorEq, forall_const]; done))
        all_goals (try (simp only [paR_zero, a1, List.append_nil, LB, subS, subH, wfS, wfH, SV.ren, renL, SObj.ren, SV.wf, SObj.wf, wfL, SV.known, Nat.reduceEqDiff, ↓reduceIte, if_true, if_false, eq_self, Nat.reduceAdd, Nat.reduceLT, Nat.reduceLeDiff, implies_true, reduceCtorEq, forall_const]; simp; done))
        all_goals (try (simp only [paR_zero, a1, List.append_nil, LB, subS, subH, wfS, wfH, SV.ren, renL, SObj.ren, SV.wf, SObj.wf, wfL, SV.known, Nat.reduceEqDiff, ↓reduceIte, if_true, if_false, eq_self, Nat.reduceAdd, Nat.reduceLT, Nat.reduceLeDiff, implies_true, reduceCtorEq, forall_const]; (and_intros <;> (first | omega | rfl | (simp; done) | (simp; omega))); done))
        all_goals (try dsimp only)
        all_goals (and_intros <;> try (first | omega | (unfold In64; omega) | trivial | assumption))
      · rintro ⟨i, capo, jo⟩ ⟨⟨hi, hj⟩, hall⟩
        simp only at hi hj hall
        obtain ⟨qR, qr⟩ := paR_facts hR hr i hall
        have tkQ : (paR R L i).take 24 = paR R L i := List.take_of_length_le (by omega)
        have dQ : List.drop 24 (paR R L i) = [] := List.drop_eq_nil_of_le (by omega)
        have lA := alS_len R L (i + 1)
        have lenA : (alS R L (i + 1) ++ jo).length = capo := by rw [List.length_append]; omega
        have tkA : (alS R L (i + 1) ++ jo).take (i + 1) = alS R L (i + 1) := List.take_left' lA
        by_cases hlt : i < len
        · have hil : (i : Int) < len := by omega
          have eP : List.take 2 (List.drop (i * 2) L) = [L.getD (i * 2) 0, L.getD (i * 2 + 1) 0] := take2_drop _ _ (by omega)
          have ec : paC R L i = cppB (paR R L i) (L.getD (i * 2) 0) (L.getD (i * 2 + 1) 0) := rfl
          cases hc : cppB (paR R L i) (L.getD (i * 2) 0) (L.getD (i * 2 + 1) 0) with
          | false =>
            have hn : alN R L len = i := firstN_at hlt hall (by rw [ec, hc])
            simp -implicitDefEqProofs only [lk_normal, canPourPath_F, pour_F, bound_F, hil, eP, qR, qr, tkQ, dQ, hc, hn, lA, List.getD_cons_zero, List.getD_cons_succ, if_true, ZB, Int.reduceToNat, Nat.reduceLT, Nat.reduceLeDiff, Int.reduceLE, Int.reduceLT, Nat.reduceEqDiff, Nat.reduceSub, SB, SV.known, packR, ne_eq, reduceCtorEq, Nat.reduceEqDiff, ↓reduceIte, if_true, if_false, eq_self, Nat.reduceAdd, Nat.reduceMul, Nat.reduceSub, forall_const, oneCellS, Kd.isSca, flat, TYB]
            (try (and_intros <;> try (first | omega | (unfold In64; omega) | trivial | assumption)))
            refine .inr ⟨2, capo, jo, by simp [Wrap.ap, alS_len], by simp [hget_cons], by omega, by rw [alS_len]; omega, fun _ h0 => ?_⟩
            have := congrArg List.length h0
            rw [alS_len] at this
            simp at this
          | true =>
            obtain ⟨c1, c2, c3⟩ := cppB_facts hc
            have pl := pourF_len qR (L.getD (i * 2) 0).toNat (L.getD (i * 2 + 1) 0).toNat
            have pr := pour_rack qR qr c1 c2 c3
            have tkp : (pourF (paR R L i) (L.getD (i * 2) 0).toNat (L.getD (i * 2 + 1) 0).toNat).take 24 = pourF (paR R L i) (L.getD (i * 2) 0).toNat (L.getD (i * 2 + 1) 0).toNat := List.take_of_length_le (by omega)
            have hp : paC R L i = true := by rw [ec, hc]
            have es : alS R L (i + 1 + 1) = alS R L (i + 1) ++ [bndF (pourF (paR R L i) (L.getD (i * 2) 0).toNat (L.getD (i * 2 + 1) 0).toNat)] := by rw [alS_succ, paR_succ]
            simp -implicitDefEqProofs only [lk_normal, canPourPath_F, pour_F, bound_F, hil, eP, qR, qr, tkQ, dQ, hc, pl, pr, tkp, lenA, tkA, List.getD_cons_zero, List.getD_cons_succ, ZB, Int.reduceToNat, Nat.reduceLT, Nat.reduceLeDiff, Int.reduceLE, Int.reduceLT, Nat.reduceEqDiff, Nat.reduceSub, SB, SV.known, packR, ne_eq, reduceCtorEq, Nat.reduceEqDiff, ↓reduceIte, if_true, if_false, eq_self, Nat.reduceAdd, Nat.reduceMul, Nat.reduceSub, forall_const, oneCellS, Kd.isSca, flat, TYB]
            (try (and_intros <;> try (first | omega | (unfold In64; omega) | trivial | assumption)))
            intro junk' cap' hj'
            refine ⟨by unfold In64; omega, ?_⟩
            refine ⟨(i + 1, cap', junk'), ?_, ?_, Sub.mk_to 2 5 ?_ ?_ ?_ ?_ ?_ ?_ ?_⟩
            all_goals (try (simp only [es, paR_succ, LB, subS, subH, wfS, wfH, SV.ren, renL, SObj.ren, SV.wf, SObj.wf, wfL, SV.known, Nat.reduceEqDiff, ↓reduceIte, if_true, if_false, eq_self, Nat.reduceAdd, Nat.reduceLT, Nat.reduceLeDiff, implies_true, reduceCtorEq, forall_const]; done))
            all_goals (try (simp only [es, paR_succ, LB, subS, subH, wfS, wfH, SV.ren, renL, SObj.ren, SV.wf, SObj.wf, wfL, SV.known, Nat.reduceEqDiff, ↓reduceIte, if_true, if_false, eq_self, Nat.reduceAdd, Nat.reduceLT, Nat.reduceLeDiff, implies_true, reduceCtorEq, forall_const]; simp; done))
            all_goals (try (simp only [es, paR_succ, LB, subS, subH, wfS, wfH, SV.ren, renL, SObj.ren, SV.wf, SObj.wf, wfL, SV.known, Nat.reduceEqDiff, ↓reduceIte, if_true, if_false, eq_self, Nat.reduceAdd, Nat.reduceLT, Nat.reduceLeDiff, implies_true, reduceCtorEq, forall_const]; (and_intros <;> (first | omega | rfl | (simp; done) | (simp; omega))); done))
            all_goals (try dsimp only)
            all_goals (and_intros <;> try (first | omega | (unfold In64; omega) | trivial | assumption))
            all_goals (intro q hq; by_cases hqi : q = i)
            · subst hqi; exact hp
            · exact hall q (by omega)
        · have hil : ¬ (i : Int) < len := by omega
          obtain rfl : i = len := by omega
          have hn : alN R L i = i := firstN_end hall
          simp -implicitDefEqProofs only [lk_normal, hil, hn, lA, if_true, ZB, Int.reduceToNat, Nat.reduceLT, Nat.reduceLeDiff, Int.reduceLE, Int.reduceLT, Nat.reduceEqDiff, Nat.reduceSub, SB, SV.known, packR, ne_eq, reduceCtorEq, Nat.reduceEqDiff, ↓reduceIte, if_true, if_false, eq_self, Nat.reduceAdd, Nat.reduceMul, Nat.reduceSub, forall_const, oneCellS, Kd.isSca, flat, TYB]
          refine .inr ⟨2, capo, jo, by simp [Wrap.ap, alS_len], by simp [hget_cons], by omega, by rw [alS_len]; omega, fun _ h0 => ?_⟩
          have := congrArg List.length h0
          rw [alS_len] at this
          simp at this
    · have h60' : (len : Int) > 60 := by omega
      refine fresh_of_vc (X := ⟨Try.prog, tys, [(67, IsRack_F), (101, canPourPath_F), (97, pour_F), (106, bound_F)], [], true, true, 1, [], []⟩) fn_53 ⟨tys_ok, (.cons IsRack_T (.cons canPourPath_T (.cons pour_T (.cons bound_T .nil)))), .nil, mixed⟩ (n0 := 1) rfl (Nat.le_of_ble_eq_true rfl) (by simp [wfL, SV.wf]) (wfH_spec (by simp [wfH, SObj.wf])) (Nat.le_refl _) ?_
      simp -implicitDefEqProofs only [Try.f53, Option.getD_some, argS, IsRack_F, canPourPath_F, pour_F, bound_F, hR, tkR, hr, h60, h60', freshK, Wrap.ap, ZB, Int.reduceToNat, Nat.reduceLT, Nat.reduceLeDiff, Int.reduceLE, Int.reduceLT, Nat.reduceEqDiff, Nat.reduceSub, SB, SV.known, packR, ne_eq, reduceCtorEq, Nat.reduceEqDiff, ↓reduceIte, if_true, if_false, eq_self, Nat.reduceAdd, Nat.reduceMul, Nat.reduceSub, forall_const, oneCellS, Kd.isSca, flat, TYB]
      exact .inl ⟨rfl, rfl, rfl⟩
--@tbl sBoundsAlong = spec.BoundsAlong
theorem sBoundsAlong_ok (R L : List Int) (e len cap : Nat) (hR : R.length = 24) (hL : len * 2 ≤ L.length) (hl : len ≤ 1048576) : FreshP Try.prog 52 [.arr R, .slice 0 0 len cap] [(0, .ints L e)] (alL R L len) (alL R L len).length 1 3 false (.more [.bool (igOk R len)]) := by
  have tkR : R.take 24 = R := List.take_of_length_le (by omega)
  unfold alL igOk
  cases hr : rackB R
  · refine fresh_of_vc (X := ⟨Try.prog, tys, [(64, l2Rack_F), (98, l6Can_F), (96, l2Pour_F), (99, l6Bound_F)], [], true, true, 1, [], []⟩) fn_52 ⟨tys_ok, (.cons l2Rack_T (.cons l6Can_T (.cons l2Pour_T (.cons l6Bound_T .nil)))), .nil, mixed⟩ (n0 := 1) rfl (Nat.le_of_ble_eq_true rfl) (by simp [wfL, SV.wf]) (wfH_spec (by simp [wfH, SObj.wf])) (Nat.le_refl _) ?_
    simp -implicitDefEqProofs only [Try.f52, Option.getD_some, argS, l2Rack_F, l6Can_F, l2Pour_F, l6Bound_F, hR, tkR, hr, freshK, Wrap.ap, ZB, Int.reduceToNat, Nat.reduceLT, Nat.reduceLeDiff, Int.reduceLE, Int.reduceLT, Nat.reduceEqDiff, Nat.reduceSub, SB, SV.known, packR, ne_eq, reduceCtorEq, Nat.reduceEqDiff, ↓reduceIte, if_true, if_false, eq_self, Nat.reduceAdd, Nat.reduceMul, Nat.reduceSub, forall_const, oneCellS, Kd.isSca, flat, TYB]
    exact .inr ⟨2, 0, [], by simp [Wrap.ap], by simp [hget_cons], by omega, by simp, by simp⟩
  · by_cases h60 : len ≤ 60
    · have h60' : ¬ (len : Int) > 60 := by omega
      refine fresh_of_vc (X := ⟨Try.prog, tys, [(64, l2Rack_F), (98, l6Can_F), (96, l2Pour_F), (99, l6Bound_F)], [], true, true, 1, [], []⟩) fn_52 ⟨tys_ok, (.cons l2Rack_T (.cons l6Can_T (.cons l2Pour_T (.cons l6Bound_T .nil)))), .nil, mixed⟩ (n0 := 1) rfl (Nat.le_of_ble_eq_true rfl) (by simp [wfL, SV.wf]) (wfH_spec (by simp [wfH, SObj.wf])) (Nat.le_refl _) ?_
      simp -implicitDefEqProofs only [Try.f52, Option.getD_some, argS, l2Rack_F, l6Can_F, l2Pour_F, l6Bound_F, hR, tkR, hr, h60, h60', freshK, Wrap.ap, ZB, Int.reduceToNat, Nat.reduceLT, Nat.reduceLeDiff, Int.reduceLE, Int.reduceLT, Nat.reduceEqDiff, Nat.reduceSub, SB, SV.known, packR, ne_eq, reduceCtorEq, Nat.reduceEqDiff, ↓reduceIte, if_true, if_false, eq_self, Nat.reduceAdd, Nat.reduceMul, Nat.reduceSub, forall_const, oneCellS, Kd.isSca, flat, TYB]
      have hs0 : (List.replicate 1 (0 : Int)).set 0 (bndF R) = [bndF R] := rfl
      rw [hs0]
      refine loop_intro (fun s : Nat × Nat × List Int => [(7, .int s.1), (6, .slice 2 0 (s.1 + 1) s.2.1), (5, .bool false), (4, .nils), (2, .ptr 1 0), (1, .slice 0 0 len cap)]) (fun s => [(2, .ints (alS R L (s.1 + 1) ++ s.2.2) 3), (1, .ints (paR R L s.1) 30), (0, .ints L e)]) 3 (fun s => (s.1 ≤ len ∧ s.2.2.length + (s.1 + 1) = s.2.1) ∧ ∀ q, q < s.1 → paC R L q = true) (fun s => len - s.1) ?_ ?_
      · have a1 : alS R L 1 = [bndF R] := rfl
        refine ⟨(0, 1, []), ?_, Sub.mk_id ?_ ?_ ?_ ?_ ?_⟩
        all_goals (try (simp only [paR_zero, a1, List.append_nil, LB, subS, subH, wfS, wfH, SV.ren, renL, SObj.ren, SV.wf, SObj.wf, wfL, SV.known, Nat.reduceEqDiff, ↓reduceIte, if_true, if_false, eq_self, Nat.reduceAdd, Nat.reduceLT, Nat.reduceLeDiff, implies_true, reduceCtorEq, forall_const]; done))
        all_goals (try (simp only [paR_zero, a1, List.append_nil, LB, subS, subH, wfS, wfH, SV.ren, renL, SObj.ren, SV.wf, SObj.wf, wfL, SV.known, Nat.reduceEqDiff, ↓reduceIte, if_true, if_false, eq_self, Nat.reduceAdd, Nat.reduceLT, Nat.reduceLeDiff, implies_true, reduceCtorEq, forall_const]; simp; done))
        all_goals (try (simp only [paR_zero, a1, List.append_nil, LB, subS, subH, wfS, wfH, SV.ren, renL, SObj.ren, SV.wf, SObj.wf, wfL, SV.known, Nat.reduceEqDiff, ↓reduceIte, if_true, if_false, eq_self, Nat.reduceAdd, Nat.reduceLT, Nat.reduceLeDiff, implies_true, reduceCtorEq, forall_const]; (and_intros <;> (first | omega | rfl | (simp; done) | (simp; omega))); done))
        all_goals (try dsimp only)
        all_goals (and_intros <;> try (first | omega | (unfold In64; omega) | trivial | assumption))
      · rintro ⟨i, capo, jo⟩ ⟨⟨hi, hj⟩, hall⟩
        simp only at hi hj hall
        obtain ⟨qR, qr⟩ := paR_facts hR hr i hall
        have tkQ : (paR R L i).take 24 = paR R L i := List.take_of_length_le (by omega)
        have dQ : List.drop 24 (paR R L i) = [] := List.drop_eq_nil_of_le (by omega)
        have lA := alS_len R L (i + 1)
        have lenA : (alS R L (i + 1) ++ jo).length = capo := by rw [List.length_append]; omega
        have tkA : (alS R L (i + 1) ++ jo).take (i + 1) = alS R L (i + 1) := List.take_left' lA
        by_cases hlt : i < len
        · have hil : (i : Int) < len := by omega
          have eP : List.take 2 (List.drop (i * 2) L) = [L.getD (i * 2) 0, L.getD (i * 2 + 1) 0] := take2_drop _ _ (by omega)
          have ec : paC R L i = cppB (paR R L i) (L.getD (i * 2) 0) (L.getD (i * 2 + 1) 0) := rfl
          cases hc : cppB (paR R L i) (L.getD (i * 2) 0) (L.getD (i * 2 + 1) 0) with
          | false =>
            have hn : alN R L len = i := firstN_at hlt hall (by rw [ec, hc])
            simp -implicitDefEqProofs only [lk_normal, l6Can_F, l2Pour_F, l6Bound_F, hil, eP, qR, qr, tkQ, dQ, hc, hn, lA, List.getD_cons_zero, List.getD_cons_succ, if_true, ZB, Int.reduceToNat, Nat.reduceLT, Nat.reduceLeDiff, Int.reduceLE, Int.reduceLT, Nat.reduceEqDiff, Nat.reduceSub, SB, SV.known, packR, ne_eq, reduceCtorEq, Nat.reduceEqDiff, ↓reduceIte, if_true, if_false, eq_self, Nat.reduceAdd, Nat.reduceMul, Nat.reduceSub, forall_const, oneCellS, Kd.isSca, flat, TYB]
            (try (and_intros <;> try (first | omega | (unfold In64; omega) | trivial | assumption)))
            refine .inr ⟨2, capo, jo, by simp [Wrap.ap, alS_len], by simp [hget_cons], by omega, by rw [alS_len]; omega, fun _ h0 => ?_⟩
            have := congrArg List.length h0
            rw [alS_len] at this
            simp at this
          | true =>
            obtain ⟨c1, c2, c3⟩ := cppB_facts hc
            have pl := pourF_len qR (L.getD (i * 2) 0).toNat (L.getD (i * 2 + 1) 0).toNat
            have pr := pour_rack qR qr c1 c2 c3
            have tkp : (pourF (paR R L i) (L.getD (i * 2) 0).toNat (L.getD (i * 2 + 1) 0).toNat).take 24 = pourF (paR R L i) (L.getD (i * 2) 0).toNat (L.getD (i * 2 + 1) 0).toNat := List.take_of_length_le (by omega)
            have hp : paC R L i = true := by rw [ec, hc]
            have es : alS R L (i + 1 + 1) = alS R L (i + 1) ++ [bndF (pourF (paR R L i) (L.getD (i * 2) 0).toNat (L.getD (i * 2 + 1) 0).toNat)] := by rw [alS_succ, paR_succ]
            simp -implicitDefEqProofs only [lk_normal, l6Can_F, l2Pour_F, l6Bound_F, hil, eP, qR, qr, tkQ, dQ, hc, pl, pr, tkp, lenA, tkA, List.getD_cons_zero, List.getD_cons_succ, ZB, Int.reduceToNat, Nat.reduceLT, Nat.reduceLeDiff, Int.reduceLE, Int.reduceLT, Nat.reduceEqDiff, Nat.reduceSub, SB, SV.known, packR, ne_eq, reduceCtorEq, Nat.reduceEqDiff, ↓reduceIte, if_true, if_false, eq_self, Nat.reduceAdd, Nat.reduceMul, Nat.reduceSub, forall_const, oneCellS, Kd.isSca, flat, TYB]
            (try (and_intros <;> try (first | omega | (unfold In64; omega) | trivial | assumption)))
            intro junk' cap' hj'
            refine ⟨by unfold In64; omega, ?_⟩
            refine ⟨(i + 1, cap', junk'), ?_, ?_, Sub.mk_to 2 5 ?_ ?_ ?_ ?_ ?_ ?_ ?_⟩
            all_goals (try (simp only [es, paR_succ, LB, subS, subH, wfS, wfH, SV.ren, renL, SObj.ren, SV.wf, SObj.wf, wfL, SV.known, Nat.reduceEqDiff, ↓reduceIte, if_true, if_false, eq_self, Nat.reduceAdd, Nat.reduceLT, Nat.reduceLeDiff, implies_true, reduceCtorEq, forall_const]; done))
            all_goals (try (simp only [es, paR_succ, LB, subS, subH, wfS, wfH, SV.ren, renL, SObj.ren, SV.wf, SObj.wf, wfL, SV.known, Nat.reduceEqDiff, ↓reduceIte, if_true, if_false, eq_self, Nat.reduceAdd, Nat.reduceLT, Nat.reduceLeDiff, implies_true, reduceCtorEq, forall_const]; simp; done))
            all_goals (try (simp only [es, paR_succ, LB, subS, subH, wfS, wfH, SV.ren, renL, SObj.ren, SV.wf, SObj.wf, wfL, SV.known, Nat.reduceEqDiff, ↓reduceIte, if_true, if_false, eq_self, Nat.reduceAdd, Nat.reduceLT, Nat.reduceLeDiff, implies_true, reduceCtorEq, forall_const]; (and_intros <;> (first | omega | rfl | (simp; done) | (simp; omega))); done))
            all_goals (try dsimp only)
            all_goals (and_intros <;> try (first | omega | (unfold In64; omega) | trivial | assumption))
            all_goals (intro q hq; by_cases hqi : q = i)
            · subst hqi; exact hp
            · exact hall q (by omega)
        · have hil : ¬ (i : Int) < len := by omega
          obtain rfl : i = len := by omega
          have hn : alN R L i = i := firstN_end hall
          simp -implicitDefEqProofs only [lk_normal, hil, hn, lA, if_true, ZB, Int.reduceToNat, Nat.reduceLT, Nat.reduceLeDiff, Int.reduceLE, Int.reduceLT, Nat.reduceEqDiff, Nat.reduceSub, SB, SV.known, packR, ne_eq, reduceCtorEq, Nat.reduceEqDiff, ↓reduceIte, if_true, if_false, eq_self, Nat.reduceAdd, Nat.reduceMul, Nat.reduceSub, forall_const, oneCellS, Kd.isSca, flat, TYB]
          refine .inr ⟨2, capo, jo, by simp [Wrap.ap, alS_len], by simp [hget_cons], by omega, by rw [alS_len]; omega, fun _ h0 => ?_⟩
          have := congrArg List.length h0
          rw [alS_len] at this
          simp at this
    · have h60' : (len : Int) > 60 := by omega
      refine fresh_of_vc (X := ⟨Try.prog, tys, [(64, l2Rack_F), (98, l6Can_F), (96, l2Pour_F), (99, l6Bound_F)], [], true, true, 1, [], []⟩) fn_52 ⟨tys_ok, (.cons l2Rack_T (.cons l6Can_T (.cons l2Pour_T (.cons l6Bound_T .nil)))), .nil, mixed⟩ (n0 := 1) rfl (Nat.le_of_ble_eq_true rfl) (by simp [wfL, SV.wf]) (wfH_spec (by simp [wfH, SObj.wf])) (Nat.le_refl _) ?_
      simp -implicitDefEqProofs only [Try.f52, Option.getD_some, argS, l2Rack_F, l6Can_F, l2Pour_F, l6Bound_F, hR, tkR, hr, h60, h60', freshK, Wrap.ap, ZB, Int.reduceToNat, Nat.reduceLT, Nat.reduceLeDiff, Int.reduceLE, Int.reduceLT, Nat.reduceEqDiff, Nat.reduceSub, SB, SV.known, packR, ne_eq, reduceCtorEq, Nat.reduceEqDiff, ↓reduceIte, if_true, if_false, eq_self, Nat.reduceAdd, Nat.reduceMul, Nat.reduceSub, forall_const, oneCellS, Kd.isSca, flat, TYB]
      exact .inr ⟨2, 0, [], by simp [Wrap.ap], by simp [hget_cons], by omega, by simp, by simp⟩
theorem paR_app (R L J : List Int) (len : Nat) (h : len * 2 ≤ L.length) : ∀ k, k ≤ len → paR R (L ++ J) k = paR R L k
  | 0, _ => rfl
  | k + 1, hk => by rw [paR_succ, paR_succ, paR_app R L J len h k (by omega), getD_app _ _ _ (by omega), getD_app _ _ _ (by omega)]
theorem alL_app (R L J : List Int) (len : Nat) (h : len * 2 ≤ L.length) : alL R (L ++ J) len = alL R L len := by
  have hn : alN R (L ++ J) len = alN R L len := firstN_congr len 0 fun k _ hk => by
    unfold paC
    rw [paR_app R L J len h k (by omega), getD_app _ _ _ (by omega), getD_app _ _ _ (by omega)]
  have hle : alN R L len ≤ 0 + len := firstN_le _ _ _
  unfold alL alS
  rw [hn]
  split
  · refine List.map_congr_left fun k hk => ?_
    have := List.mem_range.1 hk
    rw [paR_app R L J len h k (by omega)]
  · rfl
theorem alL_len (R L : List Int) (len : Nat) : (alL R L len).length ≤ 61 := by
  unfold alL
  split
  · rename_i h
    simp only [igOk, Bool.and_eq_true, decide_eq_true_eq] at h
    have hle : alN R L len ≤ 0 + len := firstN_le _ _ _
    rw [alS_len]; omega
  · simp
def BoundsAlong_F : List SV → Heap → Nat → Nat → K1 → Prop
  | [.arr R, .slice b 0 len _], H, n, _, κ => match hget H b with
    | some (.ints L _) => (R.length = 24 ∧ len * 2 ≤ L.length ∧ len ≤ 1048576) ∧ freshK (.more [.bool (igOk R len)]) (alL R (L.take (len * 2)) len) (alL R (L.take (len * 2)) len).length 1 3 true H n κ
    | _ => False
  | _, _, _, _, _ => False
theorem BoundsAlong_T : ∀ args H n m κ, BoundsAlong_F args H n m κ → GenOK Try.prog 53 args H n m κ := by
  intro args H n m κ h
  unfold BoundsAlong_F at h
  split at h
  · rename_i R b len cap
    split at h
    · rename_i L e hb
      obtain ⟨⟨h1, h2, h3⟩, h4⟩ := h
      rw [← alL_app _ (L.take _) (L.drop _) _ (by rw [List.length_take]; omega), List.take_append_drop] at h4
      exact gen_of_fresh (((BoundsAlong_ok R L e len cap h1 h2 h3).one hb rfl)) (fun k o hk => hk) h4
    · exact h.elim
  · exact h.elim
def sBoundsAlong_F : List SV → Heap → Nat → Nat → K1 → Prop
  | [.arr R, .slice b 0 len _], H, n, _, κ => match hget H b with
    | some (.ints L _) => (R.length = 24 ∧ len * 2 ≤ L.length ∧ len ≤ 1048576) ∧ freshK (.more [.bool (igOk R len)]) (alL R (L.take (len * 2)) len) (alL R (L.take (len * 2)) len).length 1 3 false H n κ
    | _ => False
  | _, _, _, _, _ => False
theorem sBoundsAlong_T : ∀ args H n m κ, sBoundsAlong_F args H n m κ → GenOK Try.prog 52 args H n m κ := by
  intro args H n m κ h
  unfold sBoundsAlong_F at h
  split at h
  · rename_i R b len cap
    split at h
    · rename_i L e hb
      obtain ⟨⟨h1, h2, h3⟩, h4⟩ := h
      rw [← alL_app _ (L.take _) (L.drop _) _ (by rw [List.length_take]; omega), List.take_append_drop] at h4
      exact gen_of_fresh (((sBoundsAlong_ok R L e len cap h1 h2 h3).one hb rfl)) (fun k o hk => hk) h4
    · exact h.elim
  · exact h.elim
theorem lawBoundsAlong (R L : List Int) (off len cap : Nat) (hR : R.length = 24) (_ : ∀ x ∈ R, In64 x) (hle : len ≤ cap) (hcm : cap ≤ maxLen) (hL : L.length = len * 2) (_ : ∀ x ∈ L, In64 x) : PureH Try.prog 14 [.arr R, .slice 0 off len cap] [(0, .win off L)] (.bool true) := by
  have tkR : R.take 24 = R := List.take_of_length_le (by omega)
  have hb : len ≤ 9223372036854775807 := by unfold maxLen at hcm; omega
  have tkL : ∀ J, (L ++ J).take (len * 2) = L := fun J => List.take_left' hL
  by_cases hbig : 1048576 - (len : Int) < 0
  · refine pure_of_vc (X := ⟨Try.prog, tys, [(44, szA2_F), (16, toRack_F), (19, eqS2_F), (54, eqS1_F), (56, held1_F)], [(46, toA2S_F), (53, BoundsAlong_F), (52, sBoundsAlong_F), (20, mark2_F), (55, mark1_F)], true, true, 1, [46, 53, 52], []⟩) (show FnOK Try.prog 14 Try.f14 (Try.f14.body.getD .skip) [46, 53, 52] [] from ⟨Try.func14, rfl, by kernel_rfl, by kernel_rfl⟩) ⟨tys_ok, (.cons szA2_T (.cons toRack_T (.cons eqS2_T (.cons eqS1_T (.cons held1_T .nil))))), (.cons toA2S_T (.cons BoundsAlong_T (.cons sBoundsAlong_T (.cons mark2_T (.cons mark1_T .nil))))), mixed⟩ (n0 := 1) (Nat.le_of_ble_eq_true rfl) (by simp [wfL, SV.wf]) (wfH_spec (by simp [wfH, SObj.wf])) (Nat.le_refl _) (fun _ => by simp [SV.wf, wfL]) ?_
    simp -implicitDefEqProofs only [Try.f14, Option.getD_some, argS, szA2_F, toRack_F, eqS2_F, eqS1_F, held1_F, toA2S_F, BoundsAlong_F, sBoundsAlong_F, mark2_F, mark1_F, hR, tkR, hbig, hb, freshK, Wrap.ap, ZB, Int.reduceToNat, Nat.reduceLT, Nat.reduceLeDiff, Int.reduceLE, Int.reduceLT, Nat.reduceEqDiff, Nat.reduceSub, SB, SV.known, packR, ne_eq, reduceCtorEq, Nat.reduceEqDiff, ↓reduceIte, if_true, if_false, eq_self, Nat.reduceAdd, Nat.reduceMul, Nat.reduceSub, forall_const, oneCellS, Kd.isSca, flat, TYB]
  · have hl : len ≤ 1048576 := by omega
    refine pure_of_vc (X := ⟨Try.prog, tys, [(44, szA2_F), (16, toRack_F), (19, eqS2_F), (54, eqS1_F), (56, held1_F)], [(46, toA2S_F), (53, BoundsAlong_F), (52, sBoundsAlong_F), (20, mark2_F), (55, mark1_F)], true, true, 1, [46, 53, 52], []⟩) (show FnOK Try.prog 14 Try.f14 (Try.f14.body.getD .skip) [46, 53, 52] [] from ⟨Try.func14, rfl, by kernel_rfl, by kernel_rfl⟩) ⟨tys_ok, (.cons szA2_T (.cons toRack_T (.cons eqS2_T (.cons eqS1_T (.cons held1_T .nil))))), (.cons toA2S_T (.cons BoundsAlong_T (.cons sBoundsAlong_T (.cons mark2_T (.cons mark1_T .nil))))), mixed⟩ (n0 := 1) (Nat.le_of_ble_eq_true rfl) (by simp [wfL, SV.wf]) (wfH_spec (by simp [wfH, SObj.wf])) (Nat.le_refl _) (fun _ => by simp [SV.wf, wfL]) ?_
    simp -implicitDefEqProofs only [Try.f14, Option.getD_some, argS, szA2_F, toRack_F, eqS2_F, eqS1_F, held1_F, toA2S_F, BoundsAlong_F, sBoundsAlong_F, mark2_F, mark1_F, hR, tkR, hbig, hb, hl, hL, tkL, freshK, Wrap.ap, ZB, Int.reduceToNat, Nat.reduceLT, Nat.reduceLeDiff, Int.reduceLE, Int.reduceLT, Nat.reduceEqDiff, Nat.reduceSub, SB, SV.known, packR, ne_eq, reduceCtorEq, Nat.reduceEqDiff, ↓reduceIte, if_true, if_false, eq_self, Nat.reduceAdd, Nat.reduceMul, Nat.reduceSub, forall_const, oneCellS, Kd.isSca, flat, TYB]
    have ln : ∀ J : List Int, len * 2 ≤ (L ++ J).length := fun J => by rw [List.length_append]; omega
    have lA := alL_len R L len
    generalize alL R L len = A at *
    repeat' (first | omega | trivial | exact ln _ | (rw [List.take_left, List.take_left]; done) | exact mkL_take _ _ _ | (rw [List.length_append]; omega) | (simp only [*, List.length_nil]; done) | intro _ | constructor)
theorem lawBoundsAlongN (R : List Int) (hR : R.length = 24) (_ : ∀ x ∈ R, In64 x) : PureH Try.prog 14 [.arr R, .nils] [] (.bool true) := by
  have tkR : R.take 24 = R := List.take_of_length_le (by omega)
  refine pure_of_vc (X := ⟨Try.prog, tys, [(44, szA2_F), (16, toRack_F), (19, eqS2_F), (54, eqS1_F), (56, held1_F)], [(46, toA2S_F), (53, BoundsAlong_F), (52, sBoundsAlong_F), (20, mark2_F), (55, mark1_F)], true, true, 0, [46, 53, 52], []⟩) (show FnOK Try.prog 14 Try.f14 (Try.f14.body.getD .skip) [46, 53, 52] [] from ⟨Try.func14, rfl, by kernel_rfl, by kernel_rfl⟩) ⟨tys_ok, (.cons szA2_T (.cons toRack_T (.cons eqS2_T (.cons eqS1_T (.cons held1_T .nil))))), (.cons toA2S_T (.cons BoundsAlong_T (.cons sBoundsAlong_T (.cons mark2_T (.cons mark1_T .nil))))), mixed⟩ (n0 := 0) (Nat.le_of_ble_eq_true rfl) (by simp [wfL, SV.wf]) (wfH_spec (by simp [wfH, SObj.wf])) (Nat.le_refl _) (fun _ => by simp [SV.wf, wfL]) ?_
  simp -implicitDefEqProofs only [Try.f14, Option.getD_some, argS, szA2_F, toRack_F, eqS2_F, eqS1_F, held1_F, toA2S_F, BoundsAlong_F, sBoundsAlong_F, mark2_F, mark1_F, hR, tkR, freshK, Wrap.ap, ZB, Int.reduceToNat, Nat.reduceLT, Nat.reduceLeDiff, Int.reduceLE, Int.reduceLT, Nat.reduceEqDiff, Nat.reduceSub, SB, SV.known, packR, ne_eq, reduceCtorEq, Nat.reduceEqDiff, ↓reduceIte, if_true, if_false, eq_self, Nat.reduceAdd, Nat.reduceMul, Nat.reduceSub, forall_const, oneCellS, Kd.isSca, flat, TYB]
  have lA := alL_len R [] 0
  generalize alL R [] 0 = A at *
  repeat' (first | omega | trivial | (rw [List.take_left, List.take_left]; done) | exact mkL_take _ _ _ | (rw [List.length_append]; omega) | (simp only [*, List.length_nil]; done) | intro _ | constructor)
end Go.Proofs.Ytaenmmebnifioaa
