/- Texts of this claim, joined (SeA, MX0, FP2, MX1, Draw). -/
import Derived.Test.YtmccafjblhbmkaaGreatQ1
import Derived.Test.YtmccafjblhbmkaaGreatQ2
import Derived.Test.YtmccafjblhbmkaaGreatQ3
import Derived.Test.YtmccafjblhbmkaaGreatQ4
import Derived.Test.YtmccafjblhbmkaaGreatQ5
import Derived.Test.YtmccafjblhbmkaaGreatQ6
import Derived.Test.YtmccafjblhbmkaaGreatQ7
set_option maxRecDepth 100000
set_option linter.unusedSimpArgs false
set_option linter.unusedVariables false
namespace Go.Proofs.YtmccafjblhbmkaaGreat
open Go Go.RowKit
theorem chkR_of {Q : List (List Int)} (h : all24 Q) (J : List Int) : chkR (Q.flatten ++ J) 0 Q.length = Q := by
  refine List.ext_getElem (by rw [chkR_len]) fun i h1 h2 => ?_
  have e := flat_get h h2 J
  simp only [chkR, List.getElem_map, List.getElem_range, Nat.zero_add]
  rw [e, List.getD_eq_getElem?_getD, List.getElem?_eq_getElem h2]; rfl
/-- A walk that makes all it hands back. -/
theorem gen_new {X : Cx} {f : FuncId} {fn : Func} {c : Code} (hf : FnOK X.P f fn c X.sx X.hr) (hX : CxOK X) (hm0 : X.m = 0) {args : List SV} {ψ : SV → Heap → Nat → Prop} (hN : args.length ≤ fn.ntmps) (hwa : wfL 0 args)
    (h : codeVC X 0 c (argS 0 args) [] 0 (retK X.τ fn.results.toList (finK 0 X.m ψ))) {H : Heap} {n m : Nat} {κ : K1}
    (hk : ∀ v H' n', ψ v H' n' → κ (v.ren (fun k => n + k)) (renH (fun k => n + k) H' ++ H) (n + n')) : GenOK X.P f (renL (fun k => k) args) H n m κ := by
  have e : ext (fun k => k) 0 n = fun k => n + k := by funext k; rw [ext_ge (Nat.zero_le _), Nat.sub_zero]
  refine gen_of_vc hf hX (n0 := 0) hN hwa (hwf_nil 0) (by omega) h (fun k => k) (fun k hk => by omega) (fun a b h => by omega) (fun k o hk => nomatch hk) (fun k o hk => nomatch hk) (fun v H' n' _ => ⟨fun k o hk => (nomatch hk), fun k o hk _ hlt => by omega⟩) fun v H' n' hψ _ => ?_
  rw [e, Nat.sub_zero]
  exact hk v H' n' hψ
theorem Sub.mk_fn (ρ : Nat → Nat) {p m : Nat} {S S' : Env} {H H' : Heap} {n' : Nat} (h1 : subS ρ S S') (h2 : subH ρ m H H') (h3 : wfS n' S') (h4 : wfH n' H') (h5 : p ≤ n') (h6 : ∀ k, k < p → ρ k = k)
    (h7 : ∀ x ∈ H'.map (·.1), ∀ y ∈ H'.map (·.1), ρ x = ρ y → x = y) : Sub p m S H S' H' n' := ⟨ρ, h1, subH_spec h2, h3, wfH_spec h4, h7, h6, h5⟩
theorem searchFrom_vc (R : List Int) (hR : R.length = 24) :
    codeVC (⟨Tryz.prog, tys, [(63, formOf_F)], [], true, true, 0, [], [(2, .tree (.one 1 (.alt 0 (.alt 2 (.one 3 (.one 4 (.one 5 (.one 6 (.one 7 (.one 8 .done)))))) (.alt 4 (.alt 2 (.one 3 (.one 5 (.one 6 (.one 7 (.one 8 .done))))) (.alt 5 (.one 2 (.one 3 (.one 6 (.one 7 (.one 8 .done))))) .stop)) .stop)) (.alt 4 (.alt 0 (.alt 2 (.one 3 (.one 5 (.one 6 (.one 7 (.one 8 .done))))) (.alt 5 (.one 2 (.one 3 (.one 6 (.one 7 (.one 8 .done))))) .stop)) (.alt 5 (.one 0 (.one 2 (.one 3 (.one 6 (.one 7 (.one 8 .done)))))) .stop)) .stop))))]⟩ : Cx) 0 (Tryz.f70.body.getD .skip) (argS 0 [.arr R]) [] 0
      (retK tys Tryz.f70.results.toList (finK 0 0 fun v H' n' => v = .ptr 2 0 ∧ H' = [(2, .cells [.mp 0, .slice 1 0 1 1, .int 0] 97), (0, .mp false ([frm R].zip [0])), (1, .ints (frm R) 27)] ∧ n' = 3)) := by
  have tkR : R.take 24 = R := List.take_of_length_le (by omega)
  have fl : (frm R).length = 24 := frm_len hR
  have tkf : (frm R).take 24 = frm R := List.take_of_length_le (by omega)
  have kI := keyI_rack
  simp -implicitDefEqProofs only [Tryz.f70, Option.getD_some, argS, formOf_F, hR, tkR, fl, tkf, kI, ZB, Int.reduceToNat, Nat.reduceLT, Nat.reduceLeDiff, Int.reduceLE, Int.reduceLT, Nat.reduceEqDiff, Nat.reduceSub, SB, SV.known, packR, ne_eq, reduceCtorEq, Nat.reduceEqDiff, ↓reduceIte, if_true, if_false, eq_self, Nat.reduceAdd, Nat.reduceMul, Nat.reduceSub, forall_const, oneCellS, litOne, flat1, Kd.isSca, flat, TYB]
  refine ⟨Unit, fun _ => [(2, .ptr 4 0)], fun _ => [(4, .cells [.mp 2, .slice 3 0 1 1, .int 0] 97), (2, .mp false ([frm R].zip [0])), (3, .ints (frm R) 27)], fun _ => 5, ?_, fun _ => ?_⟩
  · have ko : keysOK [] 24 := fun q hq => nomatch hq
    have ms : mset [] (frm R) 0 = [frm R].zip [0] := rfl
    simp -implicitDefEqProofs only [tkR, fl, tkf, kI, ko, ms, ZB, Int.reduceToNat, Nat.reduceLT, Nat.reduceLeDiff, Int.reduceLE, Int.reduceLT, Nat.reduceEqDiff, Nat.reduceSub, SB, SV.known, packR, ne_eq, reduceCtorEq, Nat.reduceEqDiff, ↓reduceIte, if_true, if_false, eq_self, Nat.reduceAdd, Nat.reduceMul, Nat.reduceSub, forall_const, oneCellS, litOne, flat1, Kd.isSca, flat, TYB]
    repeat' apply And.intro
    all_goals (first
      | (refine ⟨(), Sub.mk_id ?_ ?_ ?_ ?_ ?_⟩ <;> ((try simp only [LB, subS, subH, wfS, wfH, SV.ren, renL, SObj.ren, SV.wf, SObj.wf, wfL, SV.known, Nat.reduceEqDiff, ↓reduceIte, if_true, if_false, eq_self, Nat.reduceAdd, Nat.reduceLT, Nat.reduceLeDiff, implies_true, reduceCtorEq, forall_const]) <;> simp) <;> done)
      | (refine ⟨(), Sub.mk_to2 2 3 3 2 ?_ ?_ ?_ ?_ ?_ ?_ ?_ ?_⟩ <;> ((try simp only [LB, subS, subH, wfS, wfH, SV.ren, renL, SObj.ren, SV.wf, SObj.wf, wfL, SV.known, Nat.reduceEqDiff, ↓reduceIte, if_true, if_false, eq_self, Nat.reduceAdd, Nat.reduceLT, Nat.reduceLeDiff, implies_true, reduceCtorEq, forall_const]) <;> simp) <;> done)
)
  · simp -implicitDefEqProofs only [lk_normal, ZB, Int.reduceToNat, Nat.reduceLT, Nat.reduceLeDiff, Int.reduceLE, Int.reduceLT, Nat.reduceEqDiff, Nat.reduceSub, SB, SV.known, packR, ne_eq, reduceCtorEq, Nat.reduceEqDiff, ↓reduceIte, if_true, if_false, eq_self, Nat.reduceAdd, Nat.reduceMul, Nat.reduceSub, forall_const, oneCellS, litOne, flat1, Kd.isSca, flat, TYB]
    refine ⟨.ptr 2 0, [(2, .cells [.mp 0, .slice 1 0 1 1, .int 0] 97), (0, .mp false ([frm R].zip [0])), (1, .ints (frm R) 27)], 3, Sub.mk_fn (fun k => k + 2) ?_ ?_ ?_ ?_ (by omega) (fun k hk => by omega) (fun x _ y _ h => by omega), rfl, rfl, rfl⟩
    all_goals ((try simp only [LB, subS, subH, wfS, wfH, SV.ren, renL, SObj.ren, SV.wf, SObj.wf, wfL, SV.known, Nat.reduceEqDiff, ↓reduceIte, if_true, if_false, eq_self, Nat.reduceAdd, Nat.reduceLT, Nat.reduceLeDiff, implies_true, reduceCtorEq, forall_const]) <;> simp)
def searchFrom_F : List SV → Heap → Nat → Nat → K1 → Prop
  | [.arr R], H, n, _, κ => R.length = 24 ∧ κ (.ptr (n + 2) 0) ((n + 2, .cells [.mp n, .slice (n + 1) 0 1 1, .int 0] 97) :: (n, .mp false ([frm R].zip [0])) :: (n + 1, .ints (frm R) 27) :: H) (n + 3)
  | _, _, _, _, _ => False
--@tbl searchFrom = impl.searchFrom
theorem searchFrom_T : ∀ args H n m κ, searchFrom_F args H n m κ → GenOK Tryz.prog 70 args H n m κ := by
  intro args H n m κ h
  unfold searchFrom_F at h
  split at h
  · rename_i R
    have := gen_new (H := H) (n := n) (m := m) (κ := κ) fn_70 ⟨tys_ok, .cons formOf_T .nil, .nil, mixed⟩ rfl (Nat.le_of_ble_eq_true rfl) (by simp [wfL, SV.wf]) (searchFrom_vc R h.1) (fun v H' n' hψ => by
      obtain ⟨rfl, rfl, rfl⟩ := hψ
      simpa [SV.ren, renH, SObj.ren, renL] using h.2)
    simpa [renL, SV.ren] using this
  · exact h.elim
theorem step_vc (d : Nat) (Q K : List (List Int)) (P J : List Int) (e e2 len cap : Nat) (hQ : okU Q) (hK : all24 K) (hP : K.length = P.length) (hl : Q.length = len) (hsm : len ≤ 600) (hk : K.length ≤ 600) (hd : d ≤ 100000) :
    codeVC (⟨Tryz.prog, tys, [(101, pour_F), (63, formOf_F)], [(84, useful_F)], true, true, 0, [], []⟩ : Cx) 3 (Tryz.f71.body.getD .skip) (argS 0 [.ptr 0 0]) [(0, .cells [.mp 1, .slice 2 0 len cap, .int d] e), (1, .mp false (K.zip P)), (2, .ints (Q.flatten ++ J) e2)] 3
      (retK tys Tryz.f71.results.toList (finK 3 0 fun v H' n' => ∃ c j, v = .bool (decide ((K ++ nwF K (Q.flatMap sucU)).length ≤ 600)) ∧ H' = outHn 3 (nwF K (Q.flatMap sucU)).length ((nwF K (Q.flatMap sucU)).flatten ++ j) 27 [(0, .cells [.mp 1, outVn 3 (nwF K (Q.flatMap sucU)).length (nwF K (Q.flatMap sucU)).length c, .int ((d : Int) + 1)] e), (1, .mp false ((K ++ nwF K (Q.flatMap sucU)).zip (P ++ List.replicate (nwF K (Q.flatMap sucU)).length ((d : Int) + 1)))), (2, .ints (Q.flatten ++ J) e2)] ∧ n' = 4 ∧ j.length + (nwF K (Q.flatMap sucU)).length * 24 = c * 24)) := by
  have hA := hQ.all24
  have hfl := flat_len hA
  simp -implicitDefEqProofs only [Tryz.f71, Option.getD_some, argS, pour_F, formOf_F, useful_F, ZB, Int.reduceToNat, Nat.reduceLT, Nat.reduceLeDiff, Int.reduceLE, Int.reduceLT, Nat.reduceEqDiff, Nat.reduceSub, SB, SV.known, packR, ne_eq, reduceCtorEq, Nat.reduceEqDiff, ↓reduceIte, if_true, if_false, eq_self, Nat.reduceAdd, Nat.reduceMul, Nat.reduceSub, forall_const, oneCellS, litOne, flat1, Kd.isSca, flat, TYB]
  refine ⟨by unfold In64; omega, ?_⟩
  generalize hX : Q.flatMap sucU = X at *
  generalize hDD : (d : Int) + 1 = D at *
  refine loop_intro (fun s : Nat × Nat × List Int => [(25, .int s.1), (24, .int len), (23, .slice 2 0 len cap), (3, outVn 3 (nwF K (upU Q s.1 0)).length (nwF K (upU Q s.1 0)).length s.2.1), (0, .ptr 0 0)])
    (fun s => outHn 3 (nwF K (upU Q s.1 0)).length ((nwF K (upU Q s.1 0)).flatten ++ s.2.2) 27 [(0, .cells [.mp 1, .slice 2 0 len cap, .int D] e), (1, .mp false ((K ++ nwF K (upU Q s.1 0)).zip (P ++ List.replicate (nwF K (upU Q s.1 0)).length D))), (2, .ints (Q.flatten ++ J) e2)]) 4
    (fun s => s.1 ≤ len ∧ s.2.2.length + (nwF K (upU Q s.1 0)).length * 24 = s.2.1 * 24) (fun s => len - s.1) ?_ ?_
  · refine ⟨(0, 0, []), ⟨by simp, by simp [upU_zero, nwF_nil]⟩, Sub.mk_id ?_ ?_ ?_ ?_ ?_⟩
    all_goals simp only [upU_zero, nwF_nil, List.length_nil, outVn_zero, outHn_zero, List.append_nil, List.replicate_zero, LB, subS, subH, wfS, wfH, SV.ren, renL, SObj.ren, SV.wf, SObj.wf, wfL, SV.known, Nat.reduceEqDiff, ↓reduceIte, if_true, if_false, eq_self, Nat.reduceAdd, Nat.reduceLT, Nat.reduceLeDiff, implies_true, reduceCtorEq, forall_const]
    all_goals (try simp)
  · rintro ⟨i, c, j⟩ ⟨hi, hj⟩
    simp only at hi hj
    by_cases hlt : i < len
    · have hil : (i : Int) < len := by omega
      have hiQ : i < Q.length := by omega
      have eR : List.take 24 (List.drop (i * 24) (Q.flatten ++ J)) = Q.getD i [] := flat_get hA hiQ J
      obtain ⟨r24, rr⟩ := hQ _ (getD_mem hiQ)
      have tkR : List.take 24 (Q.getD i []) = Q.getD i [] := List.take_of_length_le (by omega)
      have lQ : i * 24 + 24 ≤ (Q.flatten ++ J).length := by rw [List.length_append, hfl]; omega
      have unext := upU_next Q hiQ
      have usn := fun q (hq : q < sucC (Q.getD i [])) => upU_snoc Q hq
      have okUp := fun q => upU_ok hQ (j := q) (.inl hiQ)
      have lenU := upU_len Q i
      generalize hR : Q.getD i [] = R at *
      have hnp := ulF_sucC R
      have hnp36 := sucC_le R
      generalize hsc : sucC R = np at *
      have ehp : (ulF R).length / 2 = np := by omega
      simp -implicitDefEqProofs only [lk_normal, useful_F, hget_outHn, known_outVn, hil, eR, r24, tkR, lQ, ehp, freshK, Wrap.ap, ZB, Int.reduceToNat, Nat.reduceLT, Nat.reduceLeDiff, Int.reduceLE, Int.reduceLT, Nat.reduceEqDiff, Nat.reduceSub, SB, SV.known, packR, ne_eq, reduceCtorEq, Nat.reduceEqDiff, ↓reduceIte, if_true, if_false, eq_self, Nat.reduceAdd, Nat.reduceMul, Nat.reduceSub, forall_const, oneCellS, litOne, flat1, Kd.isSca, flat, TYB]
      refine ⟨by omega, fun _ hP0 => ?_, fun hP1 cp jp hjp => ?_⟩
      · have hnp0 : np = 0 := by rw [hP0] at hnp; simp at hnp; omega
        subst hnp0
        refine loop_intro (fun _ : Unit => [(32, .int 0), (31, .int 0), (30, .nils), (25, .int i), (24, .int len), (23, .slice 2 0 len cap), (3, outVn 3 (nwF K (upU Q i 0)).length (nwF K (upU Q i 0)).length c), (0, .ptr 0 0)])
          (fun _ => outHn 3 (nwF K (upU Q i 0)).length ((nwF K (upU Q i 0)).flatten ++ j) 27 [(0, .cells [.mp 1, .slice 2 0 len cap, .int D] e), (1, .mp false ((K ++ nwF K (upU Q i 0)).zip (P ++ List.replicate (nwF K (upU Q i 0)).length D))), (2, .ints (Q.flatten ++ J) e2)]) 5 (fun _ => True) (fun _ => 0) ?_ ?_
        · refine ⟨(), trivial, Sub.mk_id ?_ ?_ ?_ ?_ ?_⟩
          all_goals (cases (nwF K (upU Q i 0)).length <;> simp only [outVn_zero, outVn_succ, outHn_zero, outHn_succ, LB, subS, subH, wfS, wfH, SV.ren, renL, SObj.ren, SV.wf, SObj.wf, wfL, SV.known, Nat.reduceEqDiff, ↓reduceIte, if_true, if_false, eq_self, Nat.reduceAdd, Nat.reduceLT, Nat.reduceLeDiff, implies_true, reduceCtorEq, forall_const] <;> simp)
        · intro _ _
          simp -implicitDefEqProofs only [lk_normal, hget_outHn, known_outVn, ZB, Int.reduceToNat, Nat.reduceLT, Nat.reduceLeDiff, Int.reduceLE, Int.reduceLT, Nat.reduceEqDiff, Nat.reduceSub, SB, SV.known, packR, ne_eq, reduceCtorEq, Nat.reduceEqDiff, ↓reduceIte, if_true, if_false, eq_self, Nat.reduceAdd, Nat.reduceMul, Nat.reduceSub, forall_const, oneCellS, litOne, flat1, Kd.isSca, flat, TYB]
          refine ⟨by unfold In64; omega, (i + 1, c, j), ⟨by simp only; omega, by simp only [← unext]; exact hj⟩, by simp only; omega, Sub.mk_id ?_ ?_ ?_ ?_ ?_⟩
          all_goals (try simp only [← unext])
          all_goals (cases (nwF K (upU Q i 0)).length <;> simp only [outVn_zero, outVn_succ, outHn_zero, outHn_succ, LB, subS, subH, wfS, wfH, SV.ren, renL, SObj.ren, SV.wf, SObj.wf, wfL, SV.known, Nat.reduceEqDiff, ↓reduceIte, if_true, if_false, eq_self, Nat.reduceAdd, Nat.reduceLT, Nat.reduceLeDiff, implies_true, reduceCtorEq, forall_const] <;> simp)
      · have lenP : (ulF R ++ jp).length = cp * 2 := by rw [List.length_append]; omega
        refine loop_intro (fun s : Nat × Nat × List Int => [(32, .int s.1), (31, .int np), (30, .slice 5 0 np cp), (5, .ptr 4 0), (25, .int i), (24, .int len), (23, .slice 2 0 len cap), (3, outVn 3 (nwF K (upU Q i s.1)).length (nwF K (upU Q i s.1)).length s.2.1), (0, .ptr 0 0)])
          (fun s => outHn 3 (nwF K (upU Q i s.1)).length ((nwF K (upU Q i s.1)).flatten ++ s.2.2) 27 [(5, .ints (ulF R ++ jp) 65), (4, .ints R 27), (0, .cells [.mp 1, .slice 2 0 len cap, .int D] e), (1, .mp false ((K ++ nwF K (upU Q i s.1)).zip (P ++ List.replicate (nwF K (upU Q i s.1)).length D))), (2, .ints (Q.flatten ++ J) e2)]) 6
          (fun s => s.1 ≤ np ∧ s.2.2.length + (nwF K (upU Q i s.1)).length * 24 = s.2.1 * 24) (fun s => np - s.1) ?_ ?_
        · refine ⟨(0, c, j), ⟨by simp only; omega, by simp only; exact hj⟩, Sub.mk_id ?_ ?_ ?_ ?_ ?_⟩
          all_goals (cases (nwF K (upU Q i 0)).length <;> simp only [outVn_zero, outVn_succ, outHn_zero, outHn_succ, LB, subS, subH, wfS, wfH, SV.ren, renL, SObj.ren, SV.wf, SObj.wf, wfL, SV.known, Nat.reduceEqDiff, ↓reduceIte, if_true, if_false, eq_self, Nat.reduceAdd, Nat.reduceLT, Nat.reduceLeDiff, implies_true, reduceCtorEq, forall_const] <;> simp)
        · rintro ⟨q, c, j⟩ ⟨hq, hj⟩
          simp only at hq hj
          have hNk := (okU_nw (K := K) (okUp q)).all24
          have hfO := flat_len hNk
          by_cases hqn : q < np
          · have hql : (q : Int) < np := by omega
            obtain ⟨a0, b0⟩ := ul_bd (R := R) (q := q) (by omega)
            have eP : List.take 2 (List.drop (q * 2) (ulF R ++ jp)) = [(ulF R).getD (q * 2) 0, (ulF R).getD (q * 2 + 1) 0] := by
              rw [take2_drop _ _ (by rw [List.length_append]; omega), getD_app _ _ _ (by omega), getD_app _ _ _ (by omega)]
            have pl := pourF_len r24 ((ulF R).getD (q * 2) 0).toNat ((ulF R).getD (q * 2 + 1) 0).toNat
            have tkp := List.take_of_length_le (Nat.le_of_eq pl)
            have xl := diX_len r24 q
            have tkx := List.take_of_length_le (Nat.le_of_eq xl)
            have ex : frm (pourF R ((ulF R).getD (q * 2) 0).toNat ((ulF R).getD (q * 2 + 1) 0).toNat) = diX R q := rfl
            have us := usn q hqn
            have hKN : all24 (K ++ nwF K (upU Q i q)) := fun y hy => by
              rcases List.mem_append.1 hy with hy | hy
              · exact hK y hy
              · exact hNk y hy
            have hLP : (K ++ nwF K (upU Q i q)).length = (P ++ List.replicate (nwF K (upU Q i q)).length D).length := by rw [List.length_append, List.length_append, List.length_replicate, hP]
            have kI := keyI_rack
            have kOK := zip_keys (P ++ List.replicate (nwF K (upU Q i q)).length D) hKN
            have mh := mhas_zip (diX R q) hLP
            have bound : (nwF K (upU Q i q)).length ≤ 100000 := by
              have := nwF_len K (upU Q i q)
              have := lenU q
              omega
            generalize hx : diX R q = x at *
            by_cases hin : x ∈ K ++ nwF K (upU Q i q)
            · have eo := nwF_old hin
              rw [← us] at eo
              rw [decide_eq_true hin] at mh
              simp -implicitDefEqProofs only [lk_normal, pour_F, formOf_F, hget_outHn, known_outVn, hql, eP, lenP, r24, tkR, a0, b0, pl, tkp, ex, xl, tkx, kI, kOK, mh, List.getD_cons_zero, List.getD_cons_succ, ZB, Int.reduceToNat, Nat.reduceLT, Nat.reduceLeDiff, Int.reduceLE, Int.reduceLT, Nat.reduceEqDiff, Nat.reduceSub, SB, SV.known, packR, ne_eq, reduceCtorEq, Nat.reduceEqDiff, ↓reduceIte, if_true, if_false, eq_self, Nat.reduceAdd, Nat.reduceMul, Nat.reduceSub, forall_const, oneCellS, litOne, flat1, Kd.isSca, flat, TYB]
              refine ⟨by omega, by omega, by unfold In64; omega, (q + 1, c, j), ⟨by simp only; omega, by simp only [eo]; exact hj⟩, by simp only; omega, Sub.mk_id ?_ ?_ ?_ ?_ ?_⟩
              all_goals (try simp only [eo])
              all_goals (cases (nwF K (upU Q i q)).length <;> simp only [outVn_zero, outVn_succ, outHn_zero, outHn_succ, LB, subS, subH, wfS, wfH, SV.ren, renL, SObj.ren, SV.wf, SObj.wf, wfL, SV.known, Nat.reduceEqDiff, ↓reduceIte, if_true, if_false, eq_self, Nat.reduceAdd, Nat.reduceLT, Nat.reduceLeDiff, implies_true, reduceCtorEq, forall_const] <;> simp)
            · have eo := nwF_new hin
              rw [← us] at eo
              rw [decide_eq_false hin] at mh
              have ms := mset_zip (v := D) hLP hin
              have e5 : (K ++ nwF K (upU Q i q) ++ [x]).zip (P ++ List.replicate (nwF K (upU Q i q)).length D ++ [D]) = (K ++ nwF K (upU Q i (q + 1))).zip (P ++ List.replicate (nwF K (upU Q i (q + 1))).length D) := by
                rw [eo, List.length_append, List.length_singleton, List.replicate_succ', List.append_assoc, List.append_assoc]
              rw [e5] at ms
              cases hn : (nwF K (upU Q i q)).length with
              | zero =>
                have hN : nwF K (upU Q i q) = [] := List.length_eq_zero_iff.1 hn
                simp only [hN, List.length_nil, List.replicate_zero, List.append_nil] at kOK mh ms hj eo
                simp -implicitDefEqProofs only [lk_normal, pour_F, formOf_F, hql, eP, lenP, r24, tkR, a0, b0, pl, tkp, ex, xl, tkx, kI, kOK, mh, ms, hN, List.length_nil, outVn_zero, outHn_zero, List.getD_cons_zero, List.getD_cons_succ, ZB, Int.reduceToNat, Nat.reduceLT, Nat.reduceLeDiff, Int.reduceLE, Int.reduceLT, Nat.reduceEqDiff, Nat.reduceSub, SB, SV.known, packR, ne_eq, reduceCtorEq, Nat.reduceEqDiff, ↓reduceIte, if_true, if_false, eq_self, Nat.reduceAdd, Nat.reduceMul, Nat.reduceSub, forall_const, oneCellS, litOne, flat1, Kd.isSca, flat, TYB]
                refine ⟨by omega, by omega, fun junk' cap' hj' => ⟨by unfold In64; omega, (q + 1, cap', junk'), ⟨by simp only; omega, by simp only [eo]; simpa using hj'⟩, by simp only; omega, Sub.mk_to 3 10 ?_ ?_ ?_ ?_ ?_ ?_ ?_⟩⟩
                all_goals (try simp only [eo, List.append_nil, List.nil_append, List.length_cons, List.length_nil, List.flatten_cons, List.flatten_nil])
                all_goals (simp only [outVn_succ, outHn_succ, LB, subS, subH, wfS, wfH, SV.ren, renL, SObj.ren, SV.wf, SObj.wf, wfL, SV.known, Nat.reduceEqDiff, ↓reduceIte, if_true, if_false, eq_self, Nat.reduceAdd, Nat.reduceLT, Nat.reduceLeDiff, implies_true, reduceCtorEq, forall_const] <;> simp)
              | succ n =>
                have hj2 : ((nwF K (upU Q i q)).flatten ++ j).length = c * 24 := by rw [List.length_append, hfO, hn]; rw [hn] at hj; omega
                have gL : ((nwF K (upU Q i q)).flatten).length = (n + 1) * 24 := by rw [hfO, hn]
                have tkO : List.take ((n + 1) * 24) ((nwF K (upU Q i q)).flatten ++ j) = (nwF K (upU Q i q)).flatten := List.take_left' gL
                rw [hn] at kOK mh ms hj bound
                simp -implicitDefEqProofs only [lk_normal, pour_F, formOf_F, hql, eP, lenP, r24, tkR, a0, b0, pl, tkp, ex, xl, tkx, kI, kOK, mh, ms, hj2, tkO, outVn_succ, outHn_succ, List.getD_cons_zero, List.getD_cons_succ, ZB, Int.reduceToNat, Nat.reduceLT, Nat.reduceLeDiff, Int.reduceLE, Int.reduceLT, Nat.reduceEqDiff, Nat.reduceSub, SB, SV.known, packR, ne_eq, reduceCtorEq, Nat.reduceEqDiff, ↓reduceIte, if_true, if_false, eq_self, Nat.reduceAdd, Nat.reduceMul, Nat.reduceSub, forall_const, oneCellS, litOne, flat1, Kd.isSca, flat, TYB]
                refine ⟨by omega, by omega, by omega, by omega, by omega, fun junk' cap' hj' => ⟨by unfold In64; omega, (q + 1, cap', junk'), ⟨by simp only; omega, by simp only [eo, List.length_append, hn]; simpa using hj'⟩, by simp only; omega, Sub.mk_to 3 10 ?_ ?_ ?_ ?_ ?_ ?_ ?_⟩⟩
                all_goals (try simp only [eo, List.length_append, hn, List.length_cons, List.length_nil, List.flatten_append, List.flatten_cons, List.flatten_nil, List.append_nil, ← List.append_assoc])
                all_goals (simp only [outVn_succ, outHn_succ, LB, subS, subH, wfS, wfH, SV.ren, renL, SObj.ren, SV.wf, SObj.wf, wfL, SV.known, Nat.reduceEqDiff, ↓reduceIte, if_true, if_false, eq_self, Nat.reduceAdd, Nat.reduceLT, Nat.reduceLeDiff, implies_true, reduceCtorEq, forall_const] <;> simp)
          · have hql : ¬ (q : Int) < np := by omega
            obtain rfl : q = np := by omega
            simp -implicitDefEqProofs only [lk_normal, hget_outHn, known_outVn, hql, ZB, Int.reduceToNat, Nat.reduceLT, Nat.reduceLeDiff, Int.reduceLE, Int.reduceLT, Nat.reduceEqDiff, Nat.reduceSub, SB, SV.known, packR, ne_eq, reduceCtorEq, Nat.reduceEqDiff, ↓reduceIte, if_true, if_false, eq_self, Nat.reduceAdd, Nat.reduceMul, Nat.reduceSub, forall_const, oneCellS, litOne, flat1, Kd.isSca, flat, TYB]
            refine ⟨by unfold In64; omega, (i + 1, c, j), ⟨by simp only; omega, by simp only [← unext]; exact hj⟩, by simp only; omega, Sub.mk_id ?_ ?_ ?_ ?_ ?_⟩
            all_goals (try simp only [← unext])
            all_goals (cases (nwF K (upU Q i q)).length <;> simp only [outVn_zero, outVn_succ, outHn_zero, outHn_succ, LB, subS, subH, wfS, wfH, SV.ren, renL, SObj.ren, SV.wf, SObj.wf, wfL, SV.known, Nat.reduceEqDiff, ↓reduceIte, if_true, if_false, eq_self, Nat.reduceAdd, Nat.reduceLT, Nat.reduceLeDiff, implies_true, reduceCtorEq, forall_const] <;> simp)
    · have hil : ¬ (i : Int) < len := by omega
      obtain rfl : i = len := by omega
      simp -implicitDefEqProofs only [lk_normal, hget_outHn, known_outVn, hil, ZB, Int.reduceToNat, Nat.reduceLT, Nat.reduceLeDiff, Int.reduceLE, Int.reduceLT, Nat.reduceEqDiff, Nat.reduceSub, SB, SV.known, packR, ne_eq, reduceCtorEq, Nat.reduceEqDiff, ↓reduceIte, if_true, if_false, eq_self, Nat.reduceAdd, Nat.reduceMul, Nat.reduceSub, forall_const, oneCellS, litOne, flat1, Kd.isSca, flat, TYB]
      have ue : upU Q i 0 = X := by rw [← hX, ← upU_end, hl]
      rw [ue] at hj ⊢
      have hXl : (nwF K X).length ≤ 21600 := by
        have := nwF_len K X
        have := fmU_len Q
        rw [hX] at this
        omega
      have hzl : ((K ++ nwF K X).zip (P ++ List.replicate (nwF K X).length D)).length = (K ++ nwF K X).length := zip_len (by rw [List.length_append, List.length_append, List.length_replicate, hP])
      have hle : ∀ a : Nat, decide ((a : Int) ≤ 600) = decide (a ≤ 600) := fun a => by
        by_cases h : a ≤ 600
        · rw [decide_eq_true h, decide_eq_true (by omega)]
        · rw [decide_eq_false h, decide_eq_false (by omega)]
      cases hn : (nwF K X).length with
      | zero =>
        rw [hn, List.replicate_zero, List.append_nil] at hzl
        simp -implicitDefEqProofs only [lk_normal, outVn_zero, outHn_zero, List.replicate_zero, List.append_nil, hzl, hle, ZB, Int.reduceToNat, Nat.reduceLT, Nat.reduceLeDiff, Int.reduceLE, Int.reduceLT, Nat.reduceEqDiff, Nat.reduceSub, SB, SV.known, packR, ne_eq, reduceCtorEq, Nat.reduceEqDiff, ↓reduceIte, if_true, if_false, eq_self, Nat.reduceAdd, Nat.reduceMul, Nat.reduceSub, forall_const, oneCellS, litOne, flat1, Kd.isSca, flat, TYB]
        refine ⟨_, _, 4, Sub.mk_id ?_ ?_ ?_ ?_ ?_, 0, [], rfl, rfl, rfl, by simp⟩
        all_goals ((try simp only [LB, subS, subH, wfS, wfH, SV.ren, renL, SObj.ren, SV.wf, SObj.wf, wfL, SV.known, Nat.reduceEqDiff, ↓reduceIte, if_true, if_false, eq_self, Nat.reduceAdd, Nat.reduceLT, Nat.reduceLeDiff, implies_true, reduceCtorEq, forall_const]) <;> simp)
      | succ n =>
        rw [hn] at hzl
        simp -implicitDefEqProofs only [lk_normal, outVn_succ, outHn_succ, hzl, hle, ZB, Int.reduceToNat, Nat.reduceLT, Nat.reduceLeDiff, Int.reduceLE, Int.reduceLT, Nat.reduceEqDiff, Nat.reduceSub, SB, SV.known, packR, ne_eq, reduceCtorEq, Nat.reduceEqDiff, ↓reduceIte, if_true, if_false, eq_self, Nat.reduceAdd, Nat.reduceMul, Nat.reduceSub, forall_const, oneCellS, litOne, flat1, Kd.isSca, flat, TYB]
        rw [hn] at hj
        refine ⟨_, _, 4, Sub.mk_id ?_ ?_ ?_ ?_ ?_, c, j, rfl, rfl, rfl, hj⟩
        all_goals ((try simp only [LB, subS, subH, wfS, wfH, SV.ren, renL, SObj.ren, SV.wf, SObj.wf, wfL, SV.known, Nat.reduceEqDiff, ↓reduceIte, if_true, if_false, eq_self, Nat.reduceAdd, Nat.reduceLT, Nat.reduceLeDiff, implies_true, reduceCtorEq, forall_const]) <;> simp)
theorem step_nil (d : Nat) (l : List (List Int × Int)) (e : Nat) (hl : l.length ≤ 1000000) (hd : d ≤ 100000) :
    codeVC (⟨Tryz.prog, tys, [(101, pour_F), (63, formOf_F)], [(84, useful_F)], true, true, 0, [], []⟩ : Cx) 2 (Tryz.f71.body.getD .skip) (argS 0 [.ptr 0 0]) [(0, .cells [.mp 1, .nils, .int d] e), (1, .mp false l)] 2
      (retK tys Tryz.f71.results.toList (finK 2 0 fun v H' n' => v = .bool (decide (l.length ≤ 600)) ∧ H' = [(0, .cells [.mp 1, .nils, .int ((d : Int) + 1)] e), (1, .mp false l)] ∧ n' = 2)) := by
  simp -implicitDefEqProofs only [Tryz.f71, Option.getD_some, argS, ZB, Int.reduceToNat, Nat.reduceLT, Nat.reduceLeDiff, Int.reduceLE, Int.reduceLT, Nat.reduceEqDiff, Nat.reduceSub, SB, SV.known, packR, ne_eq, reduceCtorEq, Nat.reduceEqDiff, ↓reduceIte, if_true, if_false, eq_self, Nat.reduceAdd, Nat.reduceMul, Nat.reduceSub, forall_const, oneCellS, litOne, flat1, Kd.isSca, flat, TYB]
  refine ⟨by unfold In64; omega, ?_⟩
  refine loop_intro (fun _ : Unit => [(25, .int 0), (24, .int 0), (23, .nils), (3, .nils), (0, .ptr 0 0)]) (fun _ => [(0, .cells [.mp 1, .nils, .int ((d : Int) + 1)] e), (1, .mp false l)]) 2 (fun _ => True) (fun _ => 0) ?_ ?_
  · refine ⟨(), trivial, Sub.mk_id ?_ ?_ ?_ ?_ ?_⟩
    all_goals ((try simp only [LB, subS, subH, wfS, wfH, SV.ren, renL, SObj.ren, SV.wf, SObj.wf, wfL, SV.known, Nat.reduceEqDiff, ↓reduceIte, if_true, if_false, eq_self, Nat.reduceAdd, Nat.reduceLT, Nat.reduceLeDiff, implies_true, reduceCtorEq, forall_const]) <;> simp)
  · intro _ _
    have hle : decide ((l.length : Int) ≤ 600) = decide (l.length ≤ 600) := by
      by_cases h : l.length ≤ 600
      · rw [decide_eq_true h, decide_eq_true (by omega)]
      · rw [decide_eq_false h, decide_eq_false (by omega)]
    simp -implicitDefEqProofs only [lk_normal, Int.lt_irrefl, hle, ZB, Int.reduceToNat, Nat.reduceLT, Nat.reduceLeDiff, Int.reduceLE, Int.reduceLT, Nat.reduceEqDiff, Nat.reduceSub, SB, SV.known, packR, ne_eq, reduceCtorEq, Nat.reduceEqDiff, ↓reduceIte, if_true, if_false, eq_self, Nat.reduceAdd, Nat.reduceMul, Nat.reduceSub, forall_const, oneCellS, litOne, flat1, Kd.isSca, flat, TYB]
    refine ⟨_, _, 2, Sub.mk_id ?_ ?_ ?_ ?_ ?_, rfl, rfl, rfl⟩
    all_goals ((try simp only [LB, subS, subH, wfS, wfH, SV.ren, renL, SObj.ren, SV.wf, SObj.wf, wfL, SV.known, Nat.reduceEqDiff, ↓reduceIte, if_true, if_false, eq_self, Nat.reduceAdd, Nat.reduceLT, Nat.reduceLeDiff, implies_true, reduceCtorEq, forall_const]) <;> simp)
def nwU (K Q : List (List Int)) : List (List Int) := nwF K (Q.flatMap sucU)
def step_F : List SV → Heap → Nat → Nat → K1 → Prop
  | [.ptr p 0], H, n, m, κ => match hget H p with
    | some (.cells [.mp k, .slice b 0 len cap, .int D] e) => match hget H k, hget H b with
      | some (.mp false l), some (.ints L e2) => (p ≠ k ∧ p ≠ b ∧ k ≠ b ∧ m ≤ p ∧ m ≤ k ∧ m ≤ b) ∧ ∃ (d : Nat) (Q K : List (List Int)) (P J : List Int), D = d ∧ l = K.zip P ∧ L = Q.flatten ++ J ∧ okU Q ∧ all24 K ∧ K.length = P.length ∧ Q.length = len ∧ len ≤ 600 ∧ K.length ≤ 600 ∧ d ≤ 100000 ∧
          ∀ c j, j.length + (nwU K Q).length * 24 = c * 24 → κ (.bool (decide ((K ++ nwU K Q).length ≤ 600))) (outHn n (nwU K Q).length ((nwU K Q).flatten ++ j) 27 ((p, .cells [.mp k, outVn n (nwU K Q).length (nwU K Q).length c, .int ((d : Int) + 1)] e) :: (k, .mp false ((K ++ nwU K Q).zip (P ++ List.replicate (nwU K Q).length ((d : Int) + 1)))) :: (b, .ints L e2) :: H)) (n + 1)
      | _, _ => False
    | some (.cells [.mp k, .nils, .int D] e) => match hget H k with
      | some (.mp false l) => (p ≠ k ∧ m ≤ p ∧ m ≤ k) ∧ ∃ d : Nat, D = d ∧ l.length ≤ 1000000 ∧ d ≤ 100000 ∧ κ (.bool (decide (l.length ≤ 600))) ((p, .cells [.mp k, .nils, .int ((d : Int) + 1)] e) :: (k, .mp false l) :: H) n
      | _ => False
    | _ => False
  | _, _, _, _, _ => False
--@tbl step = (*impl.search).step
theorem ext3 (ρ : Nat → Nat) (n : Nat) : ext ρ 3 n 0 = ρ 0 ∧ ext ρ 3 n 1 = ρ 1 ∧ ext ρ 3 n 2 = ρ 2 ∧ ext ρ 3 n 3 = n := ⟨rfl, rfl, rfl, rfl⟩
theorem ext2 (ρ : Nat → Nat) (n : Nat) : ext ρ 2 n 0 = ρ 0 ∧ ext ρ 2 n 1 = ρ 1 ∧ ext ρ 2 n 2 = n := ⟨rfl, rfl, rfl⟩
theorem outHn_ren (ρ : Nat → Nat) (b a : Nat) (L : List Int) (e : Nat) (base : Heap) : renH ρ (outHn b a L e base) = outHn (ρ b) a L e (renH ρ base) := by cases a <;> rfl
theorem outVn_renG (ρ : Nat → Nat) (b a l c : Nat) : (outVn b a l c).ren ρ = outVn (ρ b) a l c := by cases a <;> rfl
theorem outHn_app (b a : Nat) (L : List Int) (e : Nat) (base H : Heap) : outHn b a L e base ++ H = outHn b a L e (base ++ H) := by cases a <;> rfl
theorem step_T : ∀ args H n m κ, step_F args H n m κ → GenOK Tryz.prog 71 args H n m κ := by
  intro args H n m κ h
  unfold step_F at h
  split at h
  · rename_i p
    split at h
    · rename_i k b len cap D e h0
      split at h
      · rename_i l L e2 h1 h2
        obtain ⟨⟨n1, n2, n3, m0, m1, m2⟩, d, Q, K, P, J, rfl, rfl, rfl, hQ, hK, hP, hl, hsm, hk, hd, h⟩ := h
        have hw := step_vc d Q K P J e e2 len cap hQ hK hP hl hsm hk hd
        have := gen_of_vc (H := H) (n := n) (m := m) (κ := κ) fn_71 ⟨tys_ok, .cons pour_T (.cons formOf_T .nil), .cons useful_T .nil, mixed⟩ (Nat.le_of_ble_eq_true rfl) (by simp [wfL, SV.wf]) (wfH_spec (by simp [wfH, SObj.wf, SV.wf, wfL])) (by show 0 ≤ 3; omega) hw
          (fun j => if j = 0 then p else if j = 1 then k else b) (fun j hj => by
            obtain rfl | rfl | rfl : j = 0 ∨ j = 1 ∨ j = 2 := by omega
            · exact ⟨_, rfl⟩
            · exact ⟨_, rfl⟩
            · exact ⟨_, rfl⟩) (fun a1 a2 h3 h4 he => by
            obtain rfl | rfl | rfl : a1 = 0 ∨ a1 = 1 ∨ a1 = 2 := by omega
            all_goals obtain rfl | rfl | rfl : a2 = 0 ∨ a2 = 1 ∨ a2 = 2 := by omega
            all_goals simp at he ⊢
            all_goals omega) ?_ ?_ ?_ ?_
        · simpa [renL, SV.ren] using this
        · intro j o hj
          simp only [hget_cons] at hj
          split at hj
          · rename_i h0; cases hj; subst h0; exact h0
          · split at hj
            · rename_i h0; cases hj; subst h0; exact h1
            · split at hj
              · rename_i h0; cases hj; subst h0; exact h2
              · cases hj
        · intro j o hj _
          simp only [hget_cons] at hj
          split at hj
          · rename_i h0; subst h0; exact m0
          · split at hj
            · rename_i h0; subst h0; exact m1
            · split at hj
              · rename_i h0; subst h0; exact m2
              · cases hj
        · rintro v H' n' ⟨c, j, rfl, rfl, rfl, _⟩
          refine ⟨fun i o hi _ _ => ?_, fun i o _ _ h1i => absurd h1i (by show ¬ i < 0; omega)⟩
          simp only [hget_cons] at hi
          split at hi
          · rename_i h0; subst h0; rw [hget_outHn, if_neg (by omega)]; rfl
          · split at hi
            · rename_i h0; subst h0; rw [hget_outHn, if_neg (by omega)]; rfl
            · split at hi
              · rename_i h0; subst h0; rw [hget_outHn, if_neg (by omega)]; rfl
              · cases hi
        · rintro v H' n' ⟨c, j, rfl, rfl, rfl, hj⟩ _
          have := h c j hj
          rw [outHn_ren, outHn_app]
          simpa [renH, SObj.ren, renL, SV.ren, outVn_renG, ext3, nwU] using this
      · exact h.elim
    · rename_i k D e h0
      split at h
      · rename_i l h1
        obtain ⟨⟨n1, m0, m1⟩, d, rfl, hl, hd, h⟩ := h
        have hw := step_nil d l e hl hd
        have := gen_of_vc (H := H) (n := n) (m := m) (κ := κ) fn_71 ⟨tys_ok, .cons pour_T (.cons formOf_T .nil), .cons useful_T .nil, mixed⟩ (Nat.le_of_ble_eq_true rfl) (by simp [wfL, SV.wf]) (wfH_spec (by simp [wfH, SObj.wf, SV.wf, wfL])) (by show 0 ≤ 2; omega) hw
          (fun j => if j = 0 then p else k) (fun j hj => by
            obtain rfl | rfl : j = 0 ∨ j = 1 := by omega
            · exact ⟨_, rfl⟩
            · exact ⟨_, rfl⟩) (fun a1 a2 h3 h4 he => by
            obtain rfl | rfl : a1 = 0 ∨ a1 = 1 := by omega
            all_goals obtain rfl | rfl : a2 = 0 ∨ a2 = 1 := by omega
            all_goals simp at he ⊢
            all_goals omega) ?_ ?_ ?_ ?_
        · simpa [renL, SV.ren] using this
        · intro j o hj
          simp only [hget_cons] at hj
          split at hj
          · rename_i h0; cases hj; subst h0; exact h0
          · split at hj
            · rename_i h0; cases hj; subst h0; exact h1
            · cases hj
        · intro j o hj _
          simp only [hget_cons] at hj
          split at hj
          · rename_i h0; subst h0; exact m0
          · split at hj
            · rename_i h0; subst h0; exact m1
            · cases hj
        · rintro v H' n' ⟨rfl, rfl, rfl⟩
          refine ⟨fun i o hi _ _ => ?_, fun i o _ _ h1i => absurd h1i (by show ¬ i < 0; omega)⟩
          simp only [hget_cons] at hi
          split at hi
          · rename_i h0; subst h0; rfl
          · split at hi
            · rename_i h0; subst h0; rfl
            · cases hi
        · rintro v H' n' ⟨rfl, rfl, rfl⟩ _
          simpa [renH, SObj.ren, renL, SV.ren, ext2] using h
      · exact h.elim
    · exact h.elim
  · exact h.elim
/-! Names enough. -/
mutual
theorem ex_wf : ∀ v : SV, ∃ n, v.wf n
  | .non => ⟨0, trivial⟩
  | .und => ⟨0, trivial⟩
  | .int _ => ⟨0, trivial⟩
  | .bool _ => ⟨0, trivial⟩
  | .arr _ => ⟨0, trivial⟩
  | .barr _ => ⟨0, trivial⟩
  | .lit _ => ⟨0, trivial⟩
  | .nils => ⟨0, trivial⟩
  | .ptr b _ => ⟨b + 1, by simp [SV.wf]⟩
  | .slice b _ _ _ => ⟨b + 1, by simp [SV.wf]⟩
  | .mp b => ⟨b + 1, by simp [SV.wf]⟩
  | .fn _ caps => by obtain ⟨n, h⟩ := ex_wfL caps; exact ⟨n, by simpa [SV.wf] using h⟩
  | .tup l => by obtain ⟨n, h⟩ := ex_wfL l; exact ⟨n, by simpa [SV.wf] using h⟩
  | .stc l => by obtain ⟨n, h⟩ := ex_wfL l; exact ⟨n, by simpa [SV.wf] using h⟩
theorem ex_wfL : ∀ l : List SV, ∃ n, wfL n l
  | [] => ⟨0, trivial⟩
  | v :: r => by
    obtain ⟨a, ha⟩ := ex_wf v
    obtain ⟨b, hb⟩ := ex_wfL r
    exact ⟨max a b, SV.wf_mono (by omega) v ha, wfL_mono (by omega) r hb⟩
end
theorem ex_hwf : ∀ H : Heap, ∃ n, hwf n H
  | [] => ⟨0, hwf_nil 0⟩
  | (b, o) :: H => by
    obtain ⟨a, ha⟩ := ex_hwf H
    have : ∃ c, o.wf c := by
      cases o
      case cells l e => obtain ⟨n, h⟩ := ex_wfL l; exact ⟨n, h⟩
      all_goals exact ⟨0, trivial⟩
    obtain ⟨c, hc⟩ := this
    refine ⟨max a (max (b + 1) c), ?_⟩
    exact hwf_cons (hwf_mono (by omega) ha) (by omega) (SObj.wf_mono (by omega) o hc)
/-! ContainsFunc over racks. -/
theorem cntR_ok (g : Nat) (caps : List SV) (H Hc : Heap) (pr : List Int → Bool) (b : Nat) (L : List Int) (e len cap : Nat) (hb : hget H b = some (.ints L e)) (hl : len * 24 ≤ L.length) (hm : len ≤ 9223372036854775806)
    (Q : List Int → Prop) (hQ : ∀ i, i < len → Q ((L.drop (i * 24)).take 24)) (hc : ∀ x : List Int, Q x → PureH Tryz.prog g (.arr x :: caps) Hc (.bool (pr x))) (hE : Ext Hc H) :
    PureH Tryz.prog 125 [.slice b 0 len cap, .fn g caps] H (.bool ((chkR L 0 len).any pr)) := by
  obtain ⟨n1, hwH1⟩ := ex_hwf H
  obtain ⟨n2, hw2⟩ := ex_wfL caps
  have hwH : hwf (max n1 n2) H := hwf_mono (by omega) hwH1
  have hw : wfL (max n1 n2) caps := wfL_mono (by omega) caps hw2
  have h00 : b < max n1 n2 := (hwH b _ hb).1
  refine pure_of_vc (X := ⟨Tryz.prog, tys, [(142, fun args H' => some (args = [.slice b 0 len cap, .fn g caps] ∧ H' = H, .int (idxG pr (chkR L 0 len))))], [], true, true, max n1 n2, [], []⟩) fn_125
    ⟨tys_ok, .cons (fun args H p v h hp => ?_) .nil, .nil, mixed⟩ (n0 := max n1 n2) (Nat.le_of_ble_eq_true rfl) ⟨by simpa [SV.wf] using h00, by simpa [SV.wf] using hw, trivial⟩ hwH (Nat.le_refl _) (fun _ => trivial) ?_
  · cases h
    obtain ⟨rfl, rfl⟩ := hp
    exact indexFuncR_ok g caps _ Hc pr (max n1 n2) b L e len cap hb hl hm Q hQ hc hE hw hwH
  simp -implicitDefEqProofs only [Tryz.f125, Option.getD_some, argS, SB, SV.known, packR, ne_eq, reduceCtorEq, Nat.reduceEqDiff, ↓reduceIte, if_true, if_false, eq_self, Nat.reduceAdd, Nat.reduceMul, Nat.reduceSub, forall_const, oneCellS, litOne, flat1, Kd.isSca, flat, TYB, idxG_any]
theorem cntR_nil (g : Nat) (caps : List SV) (H : Heap) : PureH Tryz.prog 125 [.nils, .fn g caps] H (.bool false) := by
  obtain ⟨n0, hw⟩ := ex_wfL caps
  refine PureH.any ?_ H
  have h1 : PureH Tryz.prog 142 [.nils, .fn g caps] [] (.int (-1)) := by
    refine pure_of_vc (X := ⟨Tryz.prog, tys, [], [], true, true, n0, [], []⟩) fn_142 ⟨tys_ok, .nil, .nil, mixed⟩ (n0 := n0) (Nat.le_of_ble_eq_true rfl) ⟨trivial, by simpa [SV.wf] using hw, trivial⟩ (hwf_nil _) (Nat.le_refl _) (fun _ => trivial) ?_
    simp -implicitDefEqProofs only [Tryz.f142, Option.getD_some, argS, SB, SV.known, packR, ne_eq, reduceCtorEq, Nat.reduceEqDiff, ↓reduceIte, if_true, if_false, eq_self, Nat.reduceAdd, Nat.reduceMul, Nat.reduceSub, forall_const, oneCellS, litOne, flat1, Kd.isSca, flat, TYB]
    refine loop_intro (fun i : Unit => [(0, .nils), (1, .fn g caps), (7, .int 0), (8, .int 0)]) (fun i => []) n0 (fun i => True) (fun i => 0) ?_ ?_
    · refine ⟨(), trivial, Sub.same ?_ ?_ (hwf_nil _) (Nat.le_refl _)⟩
      · simp [subS, subH, wfS, wfH, SV.ren, renL, SObj.ren, SV.wf, SObj.wf, wfL, sget_cons, hget_cons, SV.known, renL_id]
      · simp [subS, subH, wfS, wfH, SV.ren, renL, SObj.ren, SV.wf, SObj.wf, wfL, sget_cons, hget_cons, hw]
    · intro _ _
      simp -implicitDefEqProofs only [lk_normal, SB, SV.known, packR, ne_eq, reduceCtorEq, Nat.reduceEqDiff, ↓reduceIte, if_true, if_false, eq_self, Nat.reduceAdd, Nat.reduceMul, Nat.reduceSub, forall_const, oneCellS, litOne, flat1, Kd.isSca, flat, TYB]
      simp
  refine pure_of_vc (X := ⟨Tryz.prog, tys, [(142, fun args H' => some (args = [.nils, .fn g caps], .int (-1)))], [], true, true, n0, [], []⟩) fn_125 ⟨tys_ok, .cons (fun args H' p v h hp => ?_) .nil, .nil, mixed⟩ (n0 := n0) (Nat.le_of_ble_eq_true rfl) ⟨trivial, by simpa [SV.wf] using hw, trivial⟩ (hwf_nil _) (Nat.le_refl _) (fun _ => trivial) ?_
  · cases h
    subst hp
    exact h1.any _
  simp -implicitDefEqProofs only [Tryz.f125, Option.getD_some, argS, SB, SV.known, packR, ne_eq, reduceCtorEq, Nat.reduceEqDiff, ↓reduceIte, if_true, if_false, eq_self, Nat.reduceAdd, Nat.reduceMul, Nat.reduceSub, forall_const, oneCellS, litOne, flat1, Kd.isSca, flat, TYB]
  all_goals simp
def cnt_F (g : Nat) (caps : List SV) (Hc : Heap) (pr : List Int → Bool) : List SV → Heap → Option (Prop × SV)
  | [.slice b 0 len _, f], H => match hget H b with
    | some (.ints L _) => some (f = .fn g caps ∧ Ext Hc H ∧ len * 24 ≤ L.length ∧ len ≤ 600 ∧ (∀ i, i < len → (List.take 24 (List.drop (i * 24) L)).length = 24 ∧ rackB (List.take 24 (List.drop (i * 24) L)) = true), .bool ((chkR L 0 len).any pr))
    | _ => none
  | [.nils, f], _ => some (f = .fn g caps, .bool false)
  | _, _ => none
theorem cnt_T (g : Nat) (caps : List SV) (Hc : Heap) (pr : List Int → Bool) (hc : ∀ x : List Int, x.length = 24 ∧ rackB x = true → PureH Tryz.prog g (.arr x :: caps) Hc (.bool (pr x))) : ∀ args H p v, cnt_F g caps Hc pr args H = some (p, v) → p → PureH Tryz.prog 125 args H v := by
  intro args H p v h hp
  unfold cnt_F at h
  split at h
  · rename_i b len cap f
    split at h
    · rename_i L e hb
      cases h
      obtain ⟨rfl, hE, hl, hm, hr⟩ := hp
      exact cntR_ok g caps H Hc pr b L e len cap hb hl (by omega) (fun x => x.length = 24 ∧ rackB x = true) hr hc hE
    · cases h
  · cases h
    subst hp
    exact cntR_nil g caps H
  · cases h
theorem until_plain (g : Nat) (pr : List Int → Bool) (R : List Int) (e : Nat) (hR : R.length = 24) (hr : rackB R = true) :
    codeVC (⟨Tryz.prog, tys, [(125, cnt_F g [] ([]) pr)], [(71, step_F)], true, true, 0, [], []⟩ : Cx) 3 (Tryz.f74.body.getD .skip) (argS 0 [.ptr 0 0, .fn g []]) ((0, .cells [.mp 1, .slice 2 0 1 1, .int 0] e) :: (1, .mp false ([frm R].zip [0])) :: (2, .ints (frm R) 27) :: []) 3
      (retK tys Tryz.f74.results.toList (finK 3 0 fun v H' n' => ∃ lv : SV, lv.wf 4 ∧ v = .tup [.bool (!ovf R (dep pr R) && (lay R (dep pr R)).any pr), .bool (!ovf R (dep pr R))] ∧ H' = (0, .cells [.mp 1, lv, .int (dep pr R : Nat)] e) :: (1, .mp false ((kn R (dep pr R)).zip (lvl R (dep pr R)))) :: (2, .ints (frm R) 27) :: [] ∧ n' = 4)) := by
  have fl : (frm R).length = 24 := frm_len hR
  simp -implicitDefEqProofs only [Tryz.f74, Option.getD_some, argS, ZB, Int.reduceToNat, Nat.reduceLT, Nat.reduceLeDiff, Int.reduceLE, Int.reduceLT, Nat.reduceEqDiff, Nat.reduceSub, SB, SV.known, packR, ne_eq, reduceCtorEq, Nat.reduceEqDiff, ↓reduceIte, if_true, if_false, eq_self, Nat.reduceAdd, Nat.reduceMul, Nat.reduceSub, forall_const, oneCellS, litOne, flat1, Kd.isSca, flat, TYB]
  refine loop_intro (fun _ : Nat × Nat × Nat × List Int => [(0, .ptr 0 0), (1, .fn g [])])
    (fun s => outHn s.2.1 (lay R s.1).length ((lay R s.1).flatten ++ s.2.2.2) 27 ((0, .cells [.mp 1, outVn s.2.1 (lay R s.1).length (lay R s.1).length s.2.2.1, .int s.1] e) :: (1, .mp false ((kn R s.1).zip (lvl R s.1))) :: (2, .ints (frm R) 27) :: [])) 4
    (fun s => (∀ k, k < s.1 → stp pr R k = false) ∧ (kn R s.1).length ≤ 600 ∧ s.2.2.2.length + (lay R s.1).length * 24 = s.2.2.1 * 24 ∧ (s.2.1 = 3 ∨ (s.2.1 = 2 ∧ s.1 = 0 ∧ s.2.2.2 = []))) (fun s => 700 - s.1) ?_ ?_
  · refine ⟨(0, 2, 1, []), ⟨by simp, by simp [kn_zero], by simp [lay_zero], .inr ⟨rfl, rfl, rfl⟩⟩, Sub.mk_id ?_ ?_ ?_ ?_ ?_⟩
    all_goals simp only [lay_zero, kn_zero, lvl_zero, List.length_singleton, outVn_succ, outHn_succ, List.flatten_cons, List.flatten_nil, List.append_nil, outVn, outHn, LB, subS, subH, wfS, wfH, SV.ren, renL, SObj.ren, SV.wf, SObj.wf, wfL, SV.known, Nat.reduceEqDiff, ↓reduceIte, if_true, if_false, eq_self, Nat.reduceAdd, Nat.reduceLT, Nat.reduceLeDiff, implies_true, reduceCtorEq, forall_const]
    all_goals (try simp)
  · rintro ⟨d, b, c, j⟩ ⟨hps, hk6, hj, hb⟩
    simp only at hps hk6 hj hb
    obtain ⟨hkO, hlO⟩ := lk_ok hR hr d
    have hfl := flat_len hlO.all24
    have hno : ovf R d = false := decide_eq_false (by omega)
    have b0 : (0 = b) = False := by simp; omega
    have b1 : (1 = b) = False := by simp; omega
    have hd7 : d ≤ 601 := by
      cases d with
      | zero => omega
      | succ d => have := (pass_bound (pr := pr) (R := R) (d := d) fun k hk => hps k (by omega)).1; omega
    have hlk := lay_kn R d
    cases hn : (lay R d).length with
    | zero =>
      have hN : lay R d = [] := List.length_eq_zero_iff.1 hn
      have hst : stp pr R d = true := by unfold stp; rw [hN]; simp
      have hdep := dep_eq hst hps
      simp -implicitDefEqProofs only [lk_normal, cnt_F, outVn_zero, outHn_zero, ZB, Int.reduceToNat, Nat.reduceLT, Nat.reduceLeDiff, Int.reduceLE, Int.reduceLT, Nat.reduceEqDiff, Nat.reduceSub, SB, SV.known, packR, ne_eq, reduceCtorEq, Nat.reduceEqDiff, ↓reduceIte, if_true, if_false, eq_self, Nat.reduceAdd, Nat.reduceMul, Nat.reduceSub, forall_const, oneCellS, litOne, flat1, Kd.isSca, flat, TYB]
      refine ⟨.tup [.bool false, .bool true], _, 4, Sub.mk_id ?_ ?_ ?_ ?_ ?_, .nils, trivial, by simp [hdep, hno, hN], by rw [hdep], rfl⟩
      all_goals ((try simp only [LB, subS, subH, wfS, wfH, SV.ren, renL, SObj.ren, SV.wf, SObj.wf, wfL, SV.known, Nat.reduceEqDiff, ↓reduceIte, if_true, if_false, eq_self, Nat.reduceAdd, Nat.reduceLT, Nat.reduceLeDiff, implies_true, reduceCtorEq, forall_const]) <;> simp)
    | succ n =>
      rw [hn] at hj hlk
      have lL : (n + 1) * 24 ≤ ((lay R d).flatten ++ j).length := by rw [List.length_append, hfl, hn]; omega
      have ck : chkR ((lay R d).flatten ++ j) 0 (n + 1) = lay R d := by rw [← hn]; exact chkR_of hlO.all24 j
      have okE : ∀ i, i < n + 1 → (List.take 24 (List.drop (i * 24) ((lay R d).flatten ++ j))).length = 24 ∧ rackB (List.take 24 (List.drop (i * 24) ((lay R d).flatten ++ j))) = true := fun i hi => by
        rw [flat_get hlO.all24 (by omega) j]; exact hlO _ (getD_mem (by omega))
      have hE : Ext ([]) (outHn b (n + 1) ((lay R d).flatten ++ j) 27 ((0, .cells [.mp 1, .slice b 0 (n + 1) c, .int d] e) :: (1, .mp false ((kn R d).zip (lvl R d))) :: (2, .ints (frm R) 27) :: [])) := by
        intro k o hk
        cases hk
      have hlz : (kn R d).length = (lvl R d).length := (lvl_len R d).symm
      have n0 : ¬ ((n + 1 : Nat) : Int) = 0 := by omega
      have n600 : n + 1 ≤ 600 := by omega
      rw [outHn_succ] at hE
      simp only [outVn_succ, outHn_succ]
      cases ha : (lay R d).any pr with
      | true =>
        have hst : stp pr R d = true := by unfold stp; rw [ha]; simp
        have hdep := dep_eq hst hps
        simp -implicitDefEqProofs only [lk_normal, cnt_F, lL, ck, ha, hE, okE, n600, b0, b1, ZB, Int.reduceToNat, Nat.reduceLT, Nat.reduceLeDiff, Int.reduceLE, Int.reduceLT, Nat.reduceEqDiff, Nat.reduceSub, SB, SV.known, packR, ne_eq, reduceCtorEq, Nat.reduceEqDiff, ↓reduceIte, if_true, if_false, eq_self, Nat.reduceAdd, Nat.reduceMul, Nat.reduceSub, forall_const, oneCellS, litOne, flat1, Kd.isSca, flat, TYB]
        refine ⟨okE, .tup [.bool true, .bool true], _, 4, Sub.mk_id ?_ ?_ ?_ ?_ ?_, .slice b 0 (n + 1) c, by simp only [SV.wf]; omega, by simp [hdep, hno, ha], by rw [hdep], rfl⟩
        all_goals (clear hE okE; rcases hb with rfl | ⟨rfl, rfl, rfl⟩)
        all_goals ((try simp only [lay_zero, LB, subS, subH, wfS, wfH, SV.ren, renL, SObj.ren, SV.wf, SObj.wf, wfL, SV.known, Nat.reduceEqDiff, ↓reduceIte, if_true, if_false, eq_self, Nat.reduceAdd, Nat.reduceLT, Nat.reduceLeDiff, implies_true, reduceCtorEq, forall_const]) <;> simp)
      | false =>
        simp -implicitDefEqProofs only [lk_normal, cnt_F, step_F, lL, ck, ha, hE, okE, n600, n0, b0, b1, ZB, Int.reduceToNat, Nat.reduceLT, Nat.reduceLeDiff, Int.reduceLE, Int.reduceLT, Nat.reduceEqDiff, Nat.reduceSub, SB, SV.known, packR, ne_eq, reduceCtorEq, Nat.reduceEqDiff, ↓reduceIte, if_true, if_false, eq_self, Nat.reduceAdd, Nat.reduceMul, Nat.reduceSub, forall_const, oneCellS, litOne, flat1, Kd.isSca, flat, TYB]
        refine ⟨okE, d, lay R d, kn R d, lvl R d, j, rfl, rfl, rfl, hlO, hkO.all24, hlz, hn, hk6, by omega, fun c' j' hj' => ?_⟩
        have el : nwU (kn R d) (lay R d) = lay R (d + 1) := rfl
        have ek : kn R d ++ lay R (d + 1) = kn R (d + 1) := rfl
        have ev : lvl R d ++ List.replicate (lay R (d + 1)).length ((d : Int) + 1) = lvl R (d + 1) := by rw [lvl_succ, Int.natCast_add]; rfl
        have hst0 : stp pr R d = false := by
          unfold stp
          rw [hno, ha]
          cases hq : lay R d with
          | nil => rw [hq] at hn; simp at hn
          | cons x l => rfl
        have hps1 : ∀ k, k < d + 1 → stp pr R k = false := fun k hk => by
          by_cases hkd : k = d
          · subst hkd; exact hst0
          · exact hps k (by omega)
        rw [el] at hj' ⊢
        rw [ek, ev]
        clear hE okE
        refine ⟨fun h6 => ⟨(d + 1, 3, c', j'), ⟨hps1, h6, hj', .inl rfl⟩, by simp only; omega, Sub.mk_to 3 4 ?_ ?_ ?_ ?_ ?_ ?_ ?_⟩, fun h6 => ?_⟩
        all_goals rcases hb with rfl | ⟨rfl, rfl, rfl⟩
        all_goals (try (cases (lay R (d + 1)).length <;> simp only [outVn_zero, outVn_succ, outHn_zero, outHn_succ, LB, subS, subH, wfS, wfH, SV.ren, renL, SObj.ren, SV.wf, SObj.wf, wfL, SV.known, Nat.reduceEqDiff, ↓reduceIte, if_true, if_false, eq_self, Nat.reduceAdd, Nat.reduceLT, Nat.reduceLeDiff, implies_true, reduceCtorEq, forall_const] <;> simp; done))
        all_goals (try (cases (lay R (0 + 1)).length <;> simp only [lay_zero, outVn_zero, outVn_succ, outHn_zero, outHn_succ, LB, subS, subH, wfS, wfH, SV.ren, renL, SObj.ren, SV.wf, SObj.wf, wfL, SV.known, Nat.reduceEqDiff, ↓reduceIte, if_true, if_false, eq_self, Nat.reduceAdd, Nat.reduceLT, Nat.reduceLeDiff, implies_true, reduceCtorEq, forall_const] <;> simp; done))
        · have hst : stp pr R (d + 1) = true := by unfold stp ovf; rw [decide_eq_true (by omega)]; rfl
          have hdep := dep_eq hst hps1
          have hov : ovf R (d + 1) = true := decide_eq_true (by omega)
          refine ⟨.tup [.bool false, .bool false], (0, .cells [.mp 1, outVn 3 (lay R (d + 1)).length (lay R (d + 1)).length c', .int ((d + 1 : Nat) : Int)] e) :: (1, .mp false ((kn R (d + 1)).zip (lvl R (d + 1)))) :: (2, .ints (frm R) 27) :: [], 4, Sub.mk_to 3 4 ?_ ?_ ?_ ?_ ?_ ?_ ?_, outVn 3 (lay R (d + 1)).length (lay R (d + 1)).length c', by cases (lay R (d + 1)).length <;> simp [outVn, SV.wf], by rw [hdep, hov]; rfl, by rw [hdep], rfl⟩
          all_goals (cases (lay R (d + 1)).length <;> simp only [lay_zero, outVn_zero, outVn_succ, outHn_zero, outHn_succ, LB, subS, subH, wfS, wfH, SV.ren, renL, SObj.ren, SV.wf, SObj.wf, wfL, SV.known, Nat.reduceEqDiff, ↓reduceIte, if_true, if_false, eq_self, Nat.reduceAdd, Nat.reduceLT, Nat.reduceLeDiff, implies_true, reduceCtorEq, forall_const] <;> simp)
        · have hst : stp pr R (0 + 1) = true := by unfold stp ovf; rw [decide_eq_true (by omega)]; rfl
          have hdep := dep_eq hst hps1
          have hov : ovf R (0 + 1) = true := decide_eq_true (by omega)
          refine ⟨.tup [.bool false, .bool false], (0, .cells [.mp 1, outVn 3 (lay R (0 + 1)).length (lay R (0 + 1)).length c', .int ((0 + 1 : Nat) : Int)] e) :: (1, .mp false ((kn R (0 + 1)).zip (lvl R (0 + 1)))) :: (2, .ints (frm R) 27) :: [], 4, Sub.mk_to 3 4 ?_ ?_ ?_ ?_ ?_ ?_ ?_, outVn 3 (lay R (0 + 1)).length (lay R (0 + 1)).length c', by cases (lay R (0 + 1)).length <;> simp [outVn, SV.wf], by rw [hdep, hov]; rfl, by rw [hdep], rfl⟩
          all_goals (cases (lay R (0 + 1)).length <;> simp only [lay_zero, outVn_zero, outVn_succ, outHn_zero, outHn_succ, LB, subS, subH, wfS, wfH, SV.ren, renL, SObj.ren, SV.wf, SObj.wf, wfL, SV.known, Nat.reduceEqDiff, ↓reduceIte, if_true, if_false, eq_self, Nat.reduceAdd, Nat.reduceLT, Nat.reduceLeDiff, implies_true, reduceCtorEq, forall_const] <;> simp)
theorem until_form (g : Nat) (pr : List Int → Bool) (R : List Int) (e : Nat) (F : List Int) (e3 : Nat) (hR : R.length = 24) (hr : rackB R = true) :
    codeVC (⟨Tryz.prog, tys, [(125, cnt_F g [.ptr 3 0] ([(3, .ints F e3)]) pr)], [(71, step_F)], true, true, 0, [], []⟩ : Cx) 4 (Tryz.f74.body.getD .skip) (argS 0 [.ptr 0 0, .fn g [.ptr 3 0]]) ((0, .cells [.mp 1, .slice 2 0 1 1, .int 0] e) :: (1, .mp false ([frm R].zip [0])) :: (2, .ints (frm R) 27) :: [(3, .ints F e3)]) 4
      (retK tys Tryz.f74.results.toList (finK 4 0 fun v H' n' => ∃ lv : SV, lv.wf 5 ∧ v = .tup [.bool (!ovf R (dep pr R) && (lay R (dep pr R)).any pr), .bool (!ovf R (dep pr R))] ∧ H' = (0, .cells [.mp 1, lv, .int (dep pr R : Nat)] e) :: (1, .mp false ((kn R (dep pr R)).zip (lvl R (dep pr R)))) :: (2, .ints (frm R) 27) :: [(3, .ints F e3)] ∧ n' = 5)) := by
  have fl : (frm R).length = 24 := frm_len hR
  simp -implicitDefEqProofs only [Tryz.f74, Option.getD_some, argS, ZB, Int.reduceToNat, Nat.reduceLT, Nat.reduceLeDiff, Int.reduceLE, Int.reduceLT, Nat.reduceEqDiff, Nat.reduceSub, SB, SV.known, packR, ne_eq, reduceCtorEq, Nat.reduceEqDiff, ↓reduceIte, if_true, if_false, eq_self, Nat.reduceAdd, Nat.reduceMul, Nat.reduceSub, forall_const, oneCellS, litOne, flat1, Kd.isSca, flat, TYB]
  refine loop_intro (fun _ : Nat × Nat × Nat × List Int => [(0, .ptr 0 0), (1, .fn g [.ptr 3 0])])
    (fun s => outHn s.2.1 (lay R s.1).length ((lay R s.1).flatten ++ s.2.2.2) 27 ((0, .cells [.mp 1, outVn s.2.1 (lay R s.1).length (lay R s.1).length s.2.2.1, .int s.1] e) :: (1, .mp false ((kn R s.1).zip (lvl R s.1))) :: (2, .ints (frm R) 27) :: [(3, .ints F e3)])) 5
    (fun s => (∀ k, k < s.1 → stp pr R k = false) ∧ (kn R s.1).length ≤ 600 ∧ s.2.2.2.length + (lay R s.1).length * 24 = s.2.2.1 * 24 ∧ (s.2.1 = 4 ∨ (s.2.1 = 2 ∧ s.1 = 0 ∧ s.2.2.2 = []))) (fun s => 700 - s.1) ?_ ?_
  · refine ⟨(0, 2, 1, []), ⟨by simp, by simp [kn_zero], by simp [lay_zero], .inr ⟨rfl, rfl, rfl⟩⟩, Sub.mk_id ?_ ?_ ?_ ?_ ?_⟩
    all_goals simp only [lay_zero, kn_zero, lvl_zero, List.length_singleton, outVn_succ, outHn_succ, List.flatten_cons, List.flatten_nil, List.append_nil, outVn, outHn, LB, subS, subH, wfS, wfH, SV.ren, renL, SObj.ren, SV.wf, SObj.wf, wfL, SV.known, Nat.reduceEqDiff, ↓reduceIte, if_true, if_false, eq_self, Nat.reduceAdd, Nat.reduceLT, Nat.reduceLeDiff, implies_true, reduceCtorEq, forall_const]
    all_goals (try simp)
  · rintro ⟨d, b, c, j⟩ ⟨hps, hk6, hj, hb⟩
    simp only at hps hk6 hj hb
    obtain ⟨hkO, hlO⟩ := lk_ok hR hr d
    have hfl := flat_len hlO.all24
    have hno : ovf R d = false := decide_eq_false (by omega)
    have b0 : (0 = b) = False := by simp; omega
    have b1 : (1 = b) = False := by simp; omega
    have hd7 : d ≤ 601 := by
      cases d with
      | zero => omega
      | succ d => have := (pass_bound (pr := pr) (R := R) (d := d) fun k hk => hps k (by omega)).1; omega
    have hlk := lay_kn R d
    cases hn : (lay R d).length with
    | zero =>
      have hN : lay R d = [] := List.length_eq_zero_iff.1 hn
      have hst : stp pr R d = true := by unfold stp; rw [hN]; simp
      have hdep := dep_eq hst hps
      simp -implicitDefEqProofs only [lk_normal, cnt_F, outVn_zero, outHn_zero, ZB, Int.reduceToNat, Nat.reduceLT, Nat.reduceLeDiff, Int.reduceLE, Int.reduceLT, Nat.reduceEqDiff, Nat.reduceSub, SB, SV.known, packR, ne_eq, reduceCtorEq, Nat.reduceEqDiff, ↓reduceIte, if_true, if_false, eq_self, Nat.reduceAdd, Nat.reduceMul, Nat.reduceSub, forall_const, oneCellS, litOne, flat1, Kd.isSca, flat, TYB]
      refine ⟨.tup [.bool false, .bool true], _, 5, Sub.mk_id ?_ ?_ ?_ ?_ ?_, .nils, trivial, by simp [hdep, hno, hN], by rw [hdep], rfl⟩
      all_goals ((try simp only [LB, subS, subH, wfS, wfH, SV.ren, renL, SObj.ren, SV.wf, SObj.wf, wfL, SV.known, Nat.reduceEqDiff, ↓reduceIte, if_true, if_false, eq_self, Nat.reduceAdd, Nat.reduceLT, Nat.reduceLeDiff, implies_true, reduceCtorEq, forall_const]) <;> simp)
    | succ n =>
      rw [hn] at hj hlk
      have lL : (n + 1) * 24 ≤ ((lay R d).flatten ++ j).length := by rw [List.length_append, hfl, hn]; omega
      have ck : chkR ((lay R d).flatten ++ j) 0 (n + 1) = lay R d := by rw [← hn]; exact chkR_of hlO.all24 j
      have okE : ∀ i, i < n + 1 → (List.take 24 (List.drop (i * 24) ((lay R d).flatten ++ j))).length = 24 ∧ rackB (List.take 24 (List.drop (i * 24) ((lay R d).flatten ++ j))) = true := fun i hi => by
        rw [flat_get hlO.all24 (by omega) j]; exact hlO _ (getD_mem (by omega))
      have hE : Ext ([(3, .ints F e3)]) (outHn b (n + 1) ((lay R d).flatten ++ j) 27 ((0, .cells [.mp 1, .slice b 0 (n + 1) c, .int d] e) :: (1, .mp false ((kn R d).zip (lvl R d))) :: (2, .ints (frm R) 27) :: [(3, .ints F e3)])) := by
        intro k o hk
        simp only [hget_cons] at hk
        split at hk
        · rename_i h3; subst h3
          rw [hget_outHn, if_neg (by omega)]
          simp only [hget_cons]
          exact hk
        · cases hk
      have hlz : (kn R d).length = (lvl R d).length := (lvl_len R d).symm
      have n0 : ¬ ((n + 1 : Nat) : Int) = 0 := by omega
      have n600 : n + 1 ≤ 600 := by omega
      rw [outHn_succ] at hE
      simp only [outVn_succ, outHn_succ]
      cases ha : (lay R d).any pr with
      | true =>
        have hst : stp pr R d = true := by unfold stp; rw [ha]; simp
        have hdep := dep_eq hst hps
        simp -implicitDefEqProofs only [lk_normal, cnt_F, lL, ck, ha, hE, okE, n600, b0, b1, ZB, Int.reduceToNat, Nat.reduceLT, Nat.reduceLeDiff, Int.reduceLE, Int.reduceLT, Nat.reduceEqDiff, Nat.reduceSub, SB, SV.known, packR, ne_eq, reduceCtorEq, Nat.reduceEqDiff, ↓reduceIte, if_true, if_false, eq_self, Nat.reduceAdd, Nat.reduceMul, Nat.reduceSub, forall_const, oneCellS, litOne, flat1, Kd.isSca, flat, TYB]
        refine ⟨okE, .tup [.bool true, .bool true], _, 5, Sub.mk_id ?_ ?_ ?_ ?_ ?_, .slice b 0 (n + 1) c, by simp only [SV.wf]; omega, by simp [hdep, hno, ha], by rw [hdep], rfl⟩
        all_goals (clear hE okE; rcases hb with rfl | ⟨rfl, rfl, rfl⟩)
        all_goals ((try simp only [lay_zero, LB, subS, subH, wfS, wfH, SV.ren, renL, SObj.ren, SV.wf, SObj.wf, wfL, SV.known, Nat.reduceEqDiff, ↓reduceIte, if_true, if_false, eq_self, Nat.reduceAdd, Nat.reduceLT, Nat.reduceLeDiff, implies_true, reduceCtorEq, forall_const]) <;> simp)
      | false =>
        simp -implicitDefEqProofs only [lk_normal, cnt_F, step_F, lL, ck, ha, hE, okE, n600, n0, b0, b1, ZB, Int.reduceToNat, Nat.reduceLT, Nat.reduceLeDiff, Int.reduceLE, Int.reduceLT, Nat.reduceEqDiff, Nat.reduceSub, SB, SV.known, packR, ne_eq, reduceCtorEq, Nat.reduceEqDiff, ↓reduceIte, if_true, if_false, eq_self, Nat.reduceAdd, Nat.reduceMul, Nat.reduceSub, forall_const, oneCellS, litOne, flat1, Kd.isSca, flat, TYB]
        refine ⟨okE, d, lay R d, kn R d, lvl R d, j, rfl, rfl, rfl, hlO, hkO.all24, hlz, hn, hk6, by omega, fun c' j' hj' => ?_⟩
        have el : nwU (kn R d) (lay R d) = lay R (d + 1) := rfl
        have ek : kn R d ++ lay R (d + 1) = kn R (d + 1) := rfl
        have ev : lvl R d ++ List.replicate (lay R (d + 1)).length ((d : Int) + 1) = lvl R (d + 1) := by rw [lvl_succ, Int.natCast_add]; rfl
        have hst0 : stp pr R d = false := by
          unfold stp
          rw [hno, ha]
          cases hq : lay R d with
          | nil => rw [hq] at hn; simp at hn
          | cons x l => rfl
        have hps1 : ∀ k, k < d + 1 → stp pr R k = false := fun k hk => by
          by_cases hkd : k = d
          · subst hkd; exact hst0
          · exact hps k (by omega)
        rw [el] at hj' ⊢
        rw [ek, ev]
        clear hE okE
        refine ⟨fun h6 => ⟨(d + 1, 4, c', j'), ⟨hps1, h6, hj', .inl rfl⟩, by simp only; omega, Sub.mk_to 4 5 ?_ ?_ ?_ ?_ ?_ ?_ ?_⟩, fun h6 => ?_⟩
        all_goals rcases hb with rfl | ⟨rfl, rfl, rfl⟩
        all_goals (try (cases (lay R (d + 1)).length <;> simp only [outVn_zero, outVn_succ, outHn_zero, outHn_succ, LB, subS, subH, wfS, wfH, SV.ren, renL, SObj.ren, SV.wf, SObj.wf, wfL, SV.known, Nat.reduceEqDiff, ↓reduceIte, if_true, if_false, eq_self, Nat.reduceAdd, Nat.reduceLT, Nat.reduceLeDiff, implies_true, reduceCtorEq, forall_const] <;> simp; done))
        all_goals (try (cases (lay R (0 + 1)).length <;> simp only [lay_zero, outVn_zero, outVn_succ, outHn_zero, outHn_succ, LB, subS, subH, wfS, wfH, SV.ren, renL, SObj.ren, SV.wf, SObj.wf, wfL, SV.known, Nat.reduceEqDiff, ↓reduceIte, if_true, if_false, eq_self, Nat.reduceAdd, Nat.reduceLT, Nat.reduceLeDiff, implies_true, reduceCtorEq, forall_const] <;> simp; done))
        · have hst : stp pr R (d + 1) = true := by unfold stp ovf; rw [decide_eq_true (by omega)]; rfl
          have hdep := dep_eq hst hps1
          have hov : ovf R (d + 1) = true := decide_eq_true (by omega)
          refine ⟨.tup [.bool false, .bool false], (0, .cells [.mp 1, outVn 4 (lay R (d + 1)).length (lay R (d + 1)).length c', .int ((d + 1 : Nat) : Int)] e) :: (1, .mp false ((kn R (d + 1)).zip (lvl R (d + 1)))) :: (2, .ints (frm R) 27) :: [(3, .ints F e3)], 5, Sub.mk_to 4 5 ?_ ?_ ?_ ?_ ?_ ?_ ?_, outVn 4 (lay R (d + 1)).length (lay R (d + 1)).length c', by cases (lay R (d + 1)).length <;> simp [outVn, SV.wf], by rw [hdep, hov]; rfl, by rw [hdep], rfl⟩
          all_goals (cases (lay R (d + 1)).length <;> simp only [lay_zero, outVn_zero, outVn_succ, outHn_zero, outHn_succ, LB, subS, subH, wfS, wfH, SV.ren, renL, SObj.ren, SV.wf, SObj.wf, wfL, SV.known, Nat.reduceEqDiff, ↓reduceIte, if_true, if_false, eq_self, Nat.reduceAdd, Nat.reduceLT, Nat.reduceLeDiff, implies_true, reduceCtorEq, forall_const] <;> simp)
        · have hst : stp pr R (0 + 1) = true := by unfold stp ovf; rw [decide_eq_true (by omega)]; rfl
          have hdep := dep_eq hst hps1
          have hov : ovf R (0 + 1) = true := decide_eq_true (by omega)
          refine ⟨.tup [.bool false, .bool false], (0, .cells [.mp 1, outVn 4 (lay R (0 + 1)).length (lay R (0 + 1)).length c', .int ((0 + 1 : Nat) : Int)] e) :: (1, .mp false ((kn R (0 + 1)).zip (lvl R (0 + 1)))) :: (2, .ints (frm R) 27) :: [(3, .ints F e3)], 5, Sub.mk_to 4 5 ?_ ?_ ?_ ?_ ?_ ?_ ?_, outVn 4 (lay R (0 + 1)).length (lay R (0 + 1)).length c', by cases (lay R (0 + 1)).length <;> simp [outVn, SV.wf], by rw [hdep, hov]; rfl, by rw [hdep], rfl⟩
          all_goals (cases (lay R (0 + 1)).length <;> simp only [lay_zero, outVn_zero, outVn_succ, outHn_zero, outHn_succ, LB, subS, subH, wfS, wfH, SV.ren, renL, SObj.ren, SV.wf, SObj.wf, wfL, SV.known, Nat.reduceEqDiff, ↓reduceIte, if_true, if_false, eq_self, Nat.reduceAdd, Nat.reduceLT, Nat.reduceLeDiff, implies_true, reduceCtorEq, forall_const] <;> simp)
--@tbl never = impl.never
theorem never_ok (x : List Int) (hx : x.length = 24) : PureH Tryz.prog 75 [.arr x] [] (.bool false) := by
  refine pure_of_vc (X := ⟨Tryz.prog, tys, [], [], true, true, 0, [], []⟩) fn_75 ⟨tys_ok, .nil, .nil, mixed⟩ (n0 := 0) (Nat.le_of_ble_eq_true rfl) (by simp [wfL, SV.wf]) (wfH_spec (by simp [wfH, SObj.wf])) (Nat.le_refl _) (fun _ => by simp [SV.wf, wfL]) ?_
  simp -implicitDefEqProofs only [Tryz.f75, Option.getD_some, argS, hx, ZB, Int.reduceToNat, Nat.reduceLT, Nat.reduceLeDiff, Int.reduceLE, Int.reduceLT, Nat.reduceEqDiff, Nat.reduceSub, SB, SV.known, packR, ne_eq, reduceCtorEq, Nat.reduceEqDiff, ↓reduceIte, if_true, if_false, eq_self, Nat.reduceAdd, Nat.reduceMul, Nat.reduceSub, forall_const, oneCellS, litOne, flat1, Kd.isSca, flat, TYB]
theorem form1_ok (x F : List Int) (e : Nat) (hx : x.length = 24) (hF : F.length = 24) : PureH Tryz.prog 79 [.arr x, .ptr 3 0] [(3, .ints F e)] (.bool (decide (x = F))) := by
  have tkx : x.take 24 = x := List.take_of_length_le (by omega)
  have tkF : F.take 24 = F := List.take_of_length_le (by omega)
  have eqr := eqI_rack
  refine pure_of_vc (X := ⟨Tryz.prog, tys, [], [], true, true, 4, [], []⟩) fn_79 ⟨tys_ok, .nil, .nil, mixed⟩ (n0 := 4) (Nat.le_of_ble_eq_true rfl) (by simp [wfL, SV.wf]) (wfH_spec (by simp [wfH, SObj.wf])) (Nat.le_refl _) (fun _ => by simp [SV.wf, wfL]) ?_
  simp -implicitDefEqProofs only [Tryz.f79, Option.getD_some, argS, hx, tkx, hF, tkF, eqr, ZB, Int.reduceToNat, Nat.reduceLT, Nat.reduceLeDiff, Int.reduceLE, Int.reduceLT, Nat.reduceEqDiff, Nat.reduceSub, SB, SV.known, packR, ne_eq, reduceCtorEq, Nat.reduceEqDiff, ↓reduceIte, if_true, if_false, eq_self, Nat.reduceAdd, Nat.reduceMul, Nat.reduceSub, forall_const, oneCellS, litOne, flat1, Kd.isSca, flat, TYB]
def unB (pr : List Int → Bool) (R : List Int) : Bool := !ovf R (dep pr R) && (lay R (dep pr R)).any pr
def unO (pr : List Int → Bool) (R : List Int) : Bool := !ovf R (dep pr R)
def until_F : List SV → Heap → Nat → Nat → K1 → Prop
  | [.ptr p 0, .fn g []], H, n, m, κ => match hget H p with
    | some (.cells [.mp k, .slice b 0 1 1, .int 0] e) => match hget H k, hget H b with
      | some (.mp false l), some (.ints L e2) => (p ≠ k ∧ p ≠ b ∧ k ≠ b ∧ m ≤ p ∧ m ≤ k ∧ m ≤ b) ∧ ∃ (R : List Int) (pr : List Int → Bool), (g = 114 ∧ pr = sortB ∨ g = 75 ∧ pr = fun _ => false) ∧ R.length = 24 ∧ rackB R = true ∧ l = [frm R].zip [0] ∧ L = frm R ∧ e2 = 27 ∧
          ∀ lv : SV, lv.wf (n + 1) → κ (.tup [.bool (unB pr R), .bool (unO pr R)]) ((p, .cells [.mp k, lv, .int (dep pr R : Nat)] e) :: (k, .mp false ((kn R (dep pr R)).zip (lvl R (dep pr R)))) :: (b, .ints L e2) :: H) (n + 1)
      | _, _ => False
    | _ => False
  | [.ptr p 0, .fn g [.ptr f 0]], H, n, m, κ => match hget H p with
    | some (.cells [.mp k, .slice b 0 1 1, .int 0] e) => match hget H k, hget H b, hget H f with
      | some (.mp false l), some (.ints L e2), some (.ints F e3) => (p ≠ k ∧ p ≠ b ∧ k ≠ b ∧ m ≤ p ∧ m ≤ k ∧ m ≤ b) ∧ (f ≠ p ∧ f ≠ k ∧ f ≠ b ∧ m ≤ f) ∧ g = 79 ∧ F.length = 24 ∧ ∃ (R : List Int), R.length = 24 ∧ rackB R = true ∧ l = [frm R].zip [0] ∧ L = frm R ∧ e2 = 27 ∧
          ∀ lv : SV, lv.wf (n + 1) → κ (.tup [.bool (unB (fun x => decide (x = F)) R), .bool (unO (fun x => decide (x = F)) R)]) ((p, .cells [.mp k, lv, .int (dep (fun x => decide (x = F)) R : Nat)] e) :: (k, .mp false ((kn R (dep (fun x => decide (x = F)) R)).zip (lvl R (dep (fun x => decide (x = F)) R)))) :: (b, .ints L e2) :: (f, .ints F e3) :: H) (n + 1)
      | _, _, _ => False
    | _ => False
  | _, _, _, _, _ => False
--@tbl until = (*impl.search).until
theorem until_T : ∀ args H n m κ, until_F args H n m κ → GenOK Tryz.prog 74 args H n m κ := by
  intro args H n m κ h
  unfold until_F at h
  split at h
  · rename_i p g
    split at h
    · rename_i k b e h0
      split at h
      · rename_i l L e2 h1 h2
        obtain ⟨⟨n1, n2, n3, m0, m1, m2⟩, R, pr, hg, hR, hr, rfl, rfl, rfl, h⟩ := h
        have hc : ∀ x : List Int, x.length = 24 ∧ rackB x = true → PureH Tryz.prog g [.arr x] [] (.bool (pr x)) := by
          intro x hx
          rcases hg with ⟨rfl, rfl⟩ | ⟨rfl, rfl⟩
          · exact isSorted_ok x hx.1 hx.2
          · exact never_ok x hx.1
        have hw := until_plain g pr R e hR hr
        refine ⟨(fn_74).ent, fun B M w hH hwHH hwa hown hM => ?_⟩
        have p1 := (hwHH p _ h0).1
        have p2 := (hwHH k _ h1).1
        have p3 := (hwHH b _ h2).1
        have hwi : ∀ i, i < 4 → ext (fun j => if j = 0 then p else if j = 1 then k else b) 3 n i < n + 1 := fun i hi => by
          obtain rfl | rfl | rfl | rfl : i = 0 ∨ i = 1 ∨ i = 2 ∨ i = 3 := by omega
          · show p < n + 1; omega
          · show k < n + 1; omega
          · show b < n + 1; omega
          · show n + 0 < n + 1; omega
        refine GenOK.call (n := n) (m := m) (κ := κ) ?_ B M w hH hwHH hwa hown hM
        have := gen_of_vc (H := H) (n := n) (m := m) (κ := κ) fn_74 ⟨tys_ok, .cons (cnt_T g [] [] pr hc) .nil, .cons step_T .nil, mixed⟩ (Nat.le_of_ble_eq_true rfl) (by simp [wfL, SV.wf]) (wfH_spec (by simp [wfH, SObj.wf, SV.wf, wfL])) (by show 0 ≤ 3; omega) hw
          (fun j => if j = 0 then p else if j = 1 then k else b) (fun j hj => by
            obtain rfl | rfl | rfl : j = 0 ∨ j = 1 ∨ j = 2 := by omega
            · exact ⟨_, rfl⟩
            · exact ⟨_, rfl⟩
            · exact ⟨_, rfl⟩) (fun a1 a2 h3 h4 he => by
            obtain rfl | rfl | rfl : a1 = 0 ∨ a1 = 1 ∨ a1 = 2 := by omega
            all_goals obtain rfl | rfl | rfl : a2 = 0 ∨ a2 = 1 ∨ a2 = 2 := by omega
            all_goals simp at he ⊢
            all_goals omega) ?_ ?_ ?_ ?_
        · simpa [renL, SV.ren] using this
        · intro j o hj
          simp only [hget_cons] at hj
          split at hj
          · rename_i h0; cases hj; subst h0; exact h0
          · split at hj
            · rename_i h0; cases hj; subst h0; exact h1
            · split at hj
              · rename_i h0; cases hj; subst h0; exact h2
              · cases hj
        · intro j o hj _
          simp only [hget_cons] at hj
          split at hj
          · rename_i h0; subst h0; exact m0
          · split at hj
            · rename_i h0; subst h0; exact m1
            · split at hj
              · rename_i h0; subst h0; exact m2
              · cases hj
        · rintro v H' n' ⟨lv, hlv, rfl, rfl, rfl⟩
          refine ⟨fun i o hi _ _ => ?_, fun i o _ _ h1i => absurd h1i (by show ¬ i < 0; omega)⟩
          simp only [hget_cons] at hi
          split at hi
          · rename_i h0; subst h0; rfl
          · split at hi
            · rename_i h0; subst h0; rfl
            · split at hi
              · rename_i h0; subst h0; rfl
              · cases hi
        · rintro v H' n' ⟨lv, hlv, rfl, rfl, rfl⟩ _
          simpa [renH, SObj.ren, renL, SV.ren, ext3, unB, unO] using h (lv.ren (ext (fun j => if j = 0 then p else if j = 1 then k else b) 3 n)) (SV.wf_ren (n := 4) (fun i hi => hwi i hi) lv hlv)
      · exact h.elim
    · exact h.elim
  · rename_i p g f
    split at h
    · rename_i k b e h0
      split at h
      · rename_i l L e2 F e3 h1 h2 h3
        obtain ⟨⟨n1, n2, n3, m0, m1, m2⟩, ⟨q1, q2, q3, q4⟩, rfl, hF, R, hR, hr, rfl, rfl, rfl, h⟩ := h
        have hc : ∀ x : List Int, x.length = 24 ∧ rackB x = true → PureH Tryz.prog 79 [.arr x, .ptr 3 0] [(3, .ints F e3)] (.bool (decide (x = F))) := fun x hx => form1_ok x F e3 hx.1 hF
        have hw := until_form 79 (fun x => decide (x = F)) R e F e3 hR hr
        refine ⟨(fn_74).ent, fun B M w hH hwHH hwa hown hM => ?_⟩
        have p1 := (hwHH p _ h0).1
        have p2 := (hwHH k _ h1).1
        have p3 := (hwHH b _ h2).1
        have p4 := (hwHH f _ h3).1
        have hwi : ∀ i, i < 5 → ext (fun j => if j = 0 then p else if j = 1 then k else if j = 2 then b else f) 4 n i < n + 1 := fun i hi => by
          obtain rfl | rfl | rfl | rfl | rfl : i = 0 ∨ i = 1 ∨ i = 2 ∨ i = 3 ∨ i = 4 := by omega
          · show p < n + 1; omega
          · show k < n + 1; omega
          · show b < n + 1; omega
          · show f < n + 1; omega
          · show n + 0 < n + 1; omega
        refine GenOK.call (n := n) (m := m) (κ := κ) ?_ B M w hH hwHH hwa hown hM
        have := gen_of_vc (H := H) (n := n) (m := m) (κ := κ) fn_74 ⟨tys_ok, .cons (cnt_T _ [.ptr 3 0] [(3, .ints F e3)] _ hc) .nil, .cons step_T .nil, mixed⟩ (Nat.le_of_ble_eq_true rfl) (by simp [wfL, SV.wf]) (wfH_spec (by simp [wfH, SObj.wf, SV.wf, wfL])) (by show 0 ≤ 4; omega) hw
          (fun j => if j = 0 then p else if j = 1 then k else if j = 2 then b else f) (fun j hj => by
            obtain rfl | rfl | rfl | rfl : j = 0 ∨ j = 1 ∨ j = 2 ∨ j = 3 := by omega
            · exact ⟨_, rfl⟩
            · exact ⟨_, rfl⟩
            · exact ⟨_, rfl⟩
            · exact ⟨_, rfl⟩) (fun a1 a2 h3 h4 he => by
            obtain rfl | rfl | rfl | rfl : a1 = 0 ∨ a1 = 1 ∨ a1 = 2 ∨ a1 = 3 := by omega
            all_goals obtain rfl | rfl | rfl | rfl : a2 = 0 ∨ a2 = 1 ∨ a2 = 2 ∨ a2 = 3 := by omega
            all_goals simp at he ⊢
            all_goals omega) ?_ ?_ ?_ ?_
        · simpa [renL, SV.ren] using this
        · intro j o hj
          simp only [hget_cons] at hj
          split at hj
          · rename_i h0; cases hj; subst h0; exact h0
          · split at hj
            · rename_i h0; cases hj; subst h0; exact h1
            · split at hj
              · rename_i h0; cases hj; subst h0; exact h2
              · split at hj
                · rename_i h0; cases hj; subst h0; exact h3
                · cases hj
        · intro j o hj _
          simp only [hget_cons] at hj
          split at hj
          · rename_i h0; subst h0; exact m0
          · split at hj
            · rename_i h0; subst h0; exact m1
            · split at hj
              · rename_i h0; subst h0; exact m2
              · split at hj
                · rename_i h0; subst h0; exact q4
                · cases hj
        · rintro v H' n' ⟨lv, hlv, rfl, rfl, rfl⟩
          refine ⟨fun i o hi _ _ => ?_, fun i o _ _ h1i => absurd h1i (by show ¬ i < 0; omega)⟩
          simp only [hget_cons] at hi
          split at hi
          · rename_i h0; subst h0; rfl
          · split at hi
            · rename_i h0; subst h0; rfl
            · split at hi
              · rename_i h0; subst h0; rfl
              · split at hi
                · rename_i h0; subst h0; rfl
                · cases hi
        · rintro v H' n' ⟨lv, hlv, rfl, rfl, rfl⟩ _
          have e4 : ∀ ρ : Nat → Nat, ext ρ 4 n 0 = ρ 0 ∧ ext ρ 4 n 1 = ρ 1 ∧ ext ρ 4 n 2 = ρ 2 ∧ ext ρ 4 n 3 = ρ 3 := fun ρ => ⟨rfl, rfl, rfl, rfl⟩
          simpa [renH, SObj.ren, renL, SV.ren, e4, unB, unO] using h (lv.ren (ext (fun j => if j = 0 then p else if j = 1 then k else if j = 2 then b else f) 4 n)) (SV.wf_ren (n := 5) (fun i hi => hwi i hi) lv hlv)
      · exact h.elim
    · exact h.elim
  · exact h.elim
--@tbl CanBeSorted = impl.CanBeSorted
theorem unB_unO {pr : List Int → Bool} {R : List Int} (h : unB pr R = true) : unO pr R = true := by
  unfold unB at h
  rw [Bool.and_eq_true] at h
  exact h.1
--@tbl FewestTo = impl.FewestTo
/-! The search for shortest ways. -/
theorem ev_pnil (S : Env) : ev S (.const (.pointer none)) = .lit (.pointer none) := rfl
theorem sortingOf_vc (R : List Int) (hR : R.length = 24) :
    codeVC (⟨Tryz.prog, tys, [(62, IsRack_F)], [(70, searchFrom_F), (74, until_F)], true, true, 0, [], []⟩ : Cx) 0 (Tryz.f115.body.getD .skip) (argS 0 [.arr R]) [] 0
      (retK tys Tryz.f115.results.toList (finK 0 0 fun v H' n' => (rackB R = false ∧ v = .tup [.lit (.pointer none), .bool false] ∧ H' = [] ∧ n' = 0) ∨ (rackB R = true ∧ ∃ lv : SV, lv.wf 7 ∧ v = .tup [.ptr 6 0, .bool (unB sortB R)] ∧ H' = [(6, .cells [.ptr 3 0, .mp 5] 129), (3, .cells [.mp 1, lv, .int (dep sortB R : Nat)] 97), (1, .mp false ((kn R (dep sortB R)).zip (lvl R (dep sortB R)))), (5, .mp false [])] ∧ n' = 7))) := by
  have tkR : R.take 24 = R := List.take_of_length_le (by omega)
  cases hr : rackB R
  · simp -implicitDefEqProofs only [Tryz.f115, Option.getD_some, argS, IsRack_F, searchFrom_F, until_F, hR, tkR, hr, ev_pnil, ZB, Int.reduceToNat, Nat.reduceLT, Nat.reduceLeDiff, Int.reduceLE, Int.reduceLT, Nat.reduceEqDiff, Nat.reduceSub, SB, SV.known, packR, ne_eq, reduceCtorEq, Nat.reduceEqDiff, ↓reduceIte, if_true, if_false, eq_self, Nat.reduceAdd, Nat.reduceMul, Nat.reduceSub, forall_const, oneCellS, litOne, flat1, Kd.isSca, flat, TYB]
    refine ⟨_, [], 0, Sub.mk_id ?_ ?_ ?_ ?_ ?_, .inl ⟨rfl, rfl, rfl⟩⟩
    all_goals ((try simp only [LB, subS, subH, wfS, wfH, SV.ren, renL, SObj.ren, SV.wf, SObj.wf, wfL, SV.known, Nat.reduceEqDiff, ↓reduceIte, if_true, if_false, eq_self, Nat.reduceAdd, Nat.reduceLT, Nat.reduceLeDiff, implies_true, reduceCtorEq, forall_const]) <;> simp)
  · simp -implicitDefEqProofs only [Tryz.f115, Option.getD_some, argS, IsRack_F, searchFrom_F, until_F, hR, tkR, hr, ev_pnil, ZB, Int.reduceToNat, Nat.reduceLT, Nat.reduceLeDiff, Int.reduceLE, Int.reduceLT, Nat.reduceEqDiff, Nat.reduceSub, SB, SV.known, packR, ne_eq, reduceCtorEq, Nat.reduceEqDiff, ↓reduceIte, if_true, if_false, eq_self, Nat.reduceAdd, Nat.reduceMul, Nat.reduceSub, forall_const, oneCellS, litOne, flat1, Kd.isSca, flat, TYB]
    refine ⟨R, sortB, .inl rfl, hR, hr, rfl, rfl, fun lv hlv => ?_⟩
    have ho := unB_unO (pr := sortB) (R := R)
    cases hu : unB sortB R
    · simp -implicitDefEqProofs only [hu, ev_pnil, ZB, Int.reduceToNat, Nat.reduceLT, Nat.reduceLeDiff, Int.reduceLE, Int.reduceLT, Nat.reduceEqDiff, Nat.reduceSub, SB, SV.known, packR, ne_eq, reduceCtorEq, Nat.reduceEqDiff, ↓reduceIte, if_true, if_false, eq_self, Nat.reduceAdd, Nat.reduceMul, Nat.reduceSub, forall_const, oneCellS, litOne, flat1, Kd.isSca, flat, TYB]
      have hl7 : lv.wf 7 := SV.wf_mono (by omega) lv hlv
      refine ⟨_, _, 7, Sub.mk_id ?_ ?_ ?_ ?_ ?_, .inr ⟨lv, hl7, rfl, rfl, rfl⟩⟩
      all_goals ((try simp only [SV.ren_id, hl7, LB, subS, subH, wfS, wfH, SV.ren, renL, SObj.ren, SV.wf, SObj.wf, wfL, SV.known, Nat.reduceEqDiff, ↓reduceIte, if_true, if_false, eq_self, Nat.reduceAdd, Nat.reduceLT, Nat.reduceLeDiff, implies_true, reduceCtorEq, forall_const]) <;> simp)
    · simp -implicitDefEqProofs only [hu, ho hu, ev_pnil, ZB, Int.reduceToNat, Nat.reduceLT, Nat.reduceLeDiff, Int.reduceLE, Int.reduceLT, Nat.reduceEqDiff, Nat.reduceSub, SB, SV.known, packR, ne_eq, reduceCtorEq, Nat.reduceEqDiff, ↓reduceIte, if_true, if_false, eq_self, Nat.reduceAdd, Nat.reduceMul, Nat.reduceSub, forall_const, oneCellS, litOne, flat1, Kd.isSca, flat, TYB]
      have hl7 : lv.wf 7 := SV.wf_mono (by omega) lv hlv
      refine ⟨_, _, 7, Sub.mk_id ?_ ?_ ?_ ?_ ?_, .inr ⟨lv, hl7, rfl, rfl, rfl⟩⟩
      all_goals ((try simp only [SV.ren_id, hl7, LB, subS, subH, wfS, wfH, SV.ren, renL, SObj.ren, SV.wf, SObj.wf, wfL, SV.known, Nat.reduceEqDiff, ↓reduceIte, if_true, if_false, eq_self, Nat.reduceAdd, Nat.reduceLT, Nat.reduceLeDiff, implies_true, reduceCtorEq, forall_const]) <;> simp)
def sortingOf_F : List SV → Heap → Nat → Nat → K1 → Prop
  | [.arr R], H, n, _, κ => R.length = 24 ∧ (rackB R = false → κ (.tup [.lit (.pointer none), .bool false]) H n) ∧ (rackB R = true → ∀ lv : SV, lv.wf (n + 7) → κ (.tup [.ptr (n + 6) 0, .bool (unB sortB R)]) ((n + 6, .cells [.ptr (n + 3) 0, .mp (n + 5)] 129) :: (n + 3, .cells [.mp (n + 1), lv, .int (dep sortB R : Nat)] 97) :: (n + 1, .mp false ((kn R (dep sortB R)).zip (lvl R (dep sortB R)))) :: (n + 5, .mp false []) :: H) (n + 7))
  | _, _, _, _, _ => False
--@tbl sortingOf = impl.sortingOf
theorem sortingOf_T : ∀ args H n m κ, sortingOf_F args H n m κ → GenOK Tryz.prog 115 args H n m κ := by
  intro args H n m κ h
  unfold sortingOf_F at h
  split at h
  · rename_i R
    obtain ⟨hR, h1, h2⟩ := h
    have := gen_new (H := H) (n := n) (m := m) (κ := κ) fn_115 ⟨tys_ok, .cons IsRack_T .nil, .cons searchFrom_T (.cons until_T .nil), mixed⟩ rfl (Nat.le_of_ble_eq_true rfl) (by simp [wfL, SV.wf]) (sortingOf_vc R hR) (fun v H' n' hψ => by
      rcases hψ with ⟨hr, rfl, rfl, rfl⟩ | ⟨hr, lv, hlv, rfl, rfl, rfl⟩
      · simpa [SV.ren, renH, SObj.ren, renL] using h1 hr
      · simpa [SV.ren, renH, SObj.ren, renL] using h2 hr (lv.ren fun k => n + k) (SV.wf_ren (fun k hk => by omega) lv hlv))
    simpa [renL, SV.ren] using this
  · exact h.elim
def fpB (R : List Int) : Bool := rackB R && unB sortB R
def fpF (R : List Int) : Int := if fpB R = true then ((dep sortB R : Nat) : Int) else 0
--@tbl FewestPours = impl.FewestPours
theorem FewestPours_ok (R : List Int) (hR : R.length = 24) : PureH Tryz.prog 58 [.arr R] [] (.tup [.int (fpF R), .bool (fpB R)]) := by
  have tkR : R.take 24 = R := List.take_of_length_le (by omega)
  unfold fpF fpB
  cases hr : rackB R
  · refine pure_of_vc (X := ⟨Tryz.prog, tys, [], [(115, sortingOf_F)], true, true, 0, [], []⟩) fn_58 ⟨tys_ok, .nil, (.cons sortingOf_T .nil), mixed⟩ (n0 := 0) (Nat.le_of_ble_eq_true rfl) (by simp [wfL, SV.wf]) (wfH_spec (by simp [wfH, SObj.wf])) (Nat.le_refl _) (fun _ => by simp [SV.wf, wfL]) ?_
    simp -implicitDefEqProofs only [Tryz.f58, Option.getD_some, argS, sortingOf_F, hR, tkR, hr, ev_pnil, ZB, Int.reduceToNat, Nat.reduceLT, Nat.reduceLeDiff, Int.reduceLE, Int.reduceLT, Nat.reduceEqDiff, Nat.reduceSub, SB, SV.known, packR, ne_eq, reduceCtorEq, Nat.reduceEqDiff, ↓reduceIte, if_true, if_false, eq_self, Nat.reduceAdd, Nat.reduceMul, Nat.reduceSub, forall_const, oneCellS, litOne, flat1, Kd.isSca, flat, TYB]
  · cases hu : unB sortB R
    · refine pure_of_vc (X := ⟨Tryz.prog, tys, [], [(115, sortingOf_F)], true, true, 0, [], []⟩) fn_58 ⟨tys_ok, .nil, (.cons sortingOf_T .nil), mixed⟩ (n0 := 0) (Nat.le_of_ble_eq_true rfl) (by simp [wfL, SV.wf]) (wfH_spec (by simp [wfH, SObj.wf])) (Nat.le_refl _) (fun _ => by simp [SV.wf, wfL]) ?_
      simp -implicitDefEqProofs only [Tryz.f58, Option.getD_some, argS, sortingOf_F, hR, tkR, hr, hu, ZB, Int.reduceToNat, Nat.reduceLT, Nat.reduceLeDiff, Int.reduceLE, Int.reduceLT, Nat.reduceEqDiff, Nat.reduceSub, SB, SV.known, packR, ne_eq, reduceCtorEq, Nat.reduceEqDiff, ↓reduceIte, if_true, if_false, eq_self, Nat.reduceAdd, Nat.reduceMul, Nat.reduceSub, forall_const, oneCellS, litOne, flat1, Kd.isSca, flat, TYB]
      simp
    · refine pure_of_vc (X := ⟨Tryz.prog, tys, [], [(115, sortingOf_F)], true, true, 0, [], []⟩) fn_58 ⟨tys_ok, .nil, (.cons sortingOf_T .nil), mixed⟩ (n0 := 0) (Nat.le_of_ble_eq_true rfl) (by simp [wfL, SV.wf]) (wfH_spec (by simp [wfH, SObj.wf])) (Nat.le_refl _) (fun _ => by simp [SV.wf, wfL]) ?_
      simp -implicitDefEqProofs only [Tryz.f58, Option.getD_some, argS, sortingOf_F, hR, tkR, hr, hu, ZB, Int.reduceToNat, Nat.reduceLT, Nat.reduceLeDiff, Int.reduceLE, Int.reduceLT, Nat.reduceEqDiff, Nat.reduceSub, SB, SV.known, packR, ne_eq, reduceCtorEq, Nat.reduceEqDiff, ↓reduceIte, if_true, if_false, eq_self, Nat.reduceAdd, Nat.reduceMul, Nat.reduceSub, forall_const, oneCellS, litOne, flat1, Kd.isSca, flat, TYB]
      simp
def FewestPours_F : List SV → Heap → Option (Prop × SV)
  | [.arr R], _ => some (R.length = 24, .tup [.int (fpF R), .bool (fpB R)])
  | _, _ => none
theorem FewestPours_T : ∀ args H p v, FewestPours_F args H = some (p, v) → p → PureH Tryz.prog 58 args H v := by
  intro args H p v h hp
  unfold FewestPours_F at h
  split at h
  · cases h; exact (FewestPours_ok _ hp).any _
  · cases h
end Go.Proofs.YtmccafjblhbmkaaGreat
set_option maxRecDepth 100000
set_option linter.unusedSimpArgs false
set_option linter.unusedVariables false
namespace Go.Proofs.YtmccafjblhbmkaaGreat
open Go Go.RowKit
/-! Sorted racks in any order of the tubes. -/
def rlT (t : List Int) : Nat := (runsL t).length / 2
def clT (t : List Int) : Int := (runsL t).getD 0 0
def sdT (a b : List Int) : Prop := rlT a = 1 → rlT b = 1 → clT a ≠ clT b
theorem srt_of2 {R : List Int} : ∀ k, (∀ i, i < k → rcN R i ≤ 1) → (∀ i j, i < j → j < k → rcN R i = 1 → rcN R j = 1 → rcC R i ≠ rcC R j) → ∃ s, srtF R k = some s ∧ ∀ c ∈ s, ∃ i, i < k ∧ rcN R i = 1 ∧ rcC R i = c
  | 0, _, _ => ⟨[], rfl, fun c hc => nomatch hc⟩
  | k + 1, h1, h2 => by
    obtain ⟨s, hs, hc⟩ := srt_of2 k (fun i hi => h1 i (by omega)) (fun i j hij hj => h2 i j hij (by omega))
    have hk := h1 k (by omega)
    rw [srt_step hs]
    by_cases h0 : rcN R k = 0
    · rw [if_pos h0]
      exact ⟨s, rfl, fun c hcs => by obtain ⟨i, hi, h⟩ := hc c hcs; exact ⟨i, by omega, h⟩⟩
    · have h3 : ¬ (1 < rcN R k ∨ rcC R k ∈ s) := by
        rintro (h | h)
        · omega
        · obtain ⟨i, hi, g1, g2⟩ := hc _ h
          exact h2 i k hi (by omega) g1 (by omega) g2
      rw [if_neg h0, if_neg h3]
      refine ⟨_, rfl, fun c hcs => ?_⟩
      rcases List.mem_append.1 hcs with h | h
      · obtain ⟨i, hi, h⟩ := hc c h; exact ⟨i, by omega, h⟩
      · rw [List.mem_singleton] at h
        exact ⟨k, by omega, by omega, h.symm⟩
theorem sort_iff (R : List Int) : sortB R = true ↔ (∀ t ∈ tubs R, rlT t ≤ 1) ∧ (tubs R).Pairwise sdT := by
  have hl : (tubs R).length = 6 := by simp [tubs]
  have hg : ∀ i, (h : i < (tubs R).length) → (tubs R)[i] = tubeAt R i := fun i h => by simp [tubs]
  rw [List.pairwise_iff_getElem]
  constructor
  · intro h
    unfold sortB at h
    obtain ⟨s, hs⟩ := Option.isSome_iff_exists.1 h
    obtain ⟨h1, h2⟩ := srt_facts 6 s hs
    refine ⟨fun t ht => ?_, fun i j hi hj hij => ?_⟩
    · obtain ⟨i, hi, rfl⟩ := List.getElem_of_mem ht
      rw [hg i hi]
      have : rlT (tubeAt R i) = rcN R i := rfl
      rcases h1 i (by omega) with h | h <;> omega
    · rw [hg i hi, hg j hj]
      exact h2 i j hij (by omega)
  · rintro ⟨h1, h2⟩
    obtain ⟨s, hs, _⟩ := srt_of2 (R := R) 6 (fun i hi => by
      have := h1 (tubeAt R i) (by rw [← hg i (by omega)]; exact List.getElem_mem _)
      exact this) (fun i j hij hj => by
      have := h2 i j (by omega) (by omega) hij
      rw [hg, hg] at this
      exact this)
    unfold sortB
    rw [hs]; rfl
theorem sort_perm {A B : List Int} (h : (tubs A).Perm (tubs B)) : sortB A = sortB B := by
  rw [Bool.eq_iff_iff, sort_iff, sort_iff]
  have e1 : (∀ t ∈ tubs A, rlT t ≤ 1) ↔ (∀ t ∈ tubs B, rlT t ≤ 1) := ⟨fun g t ht => g t (h.mem_iff.2 ht), fun g t ht => g t (h.mem_iff.1 ht)⟩
  have e2 := h.pairwise_iff (R := sdT) (fun {x y} hxy hy hx e => hxy hx hy e.symm)
  rw [e1, e2]
theorem sort_frm {R : List Int} (hR : R.length = 24) : sortB (frm R) = sortB R := sort_perm (by rw [tubs_frm hR]; exact srtT_perm _)
/-! Plain racks. -/
theorem six_of {C : List Int} (hC : C.length = 6) (h : pnB C = true) : ∃ a b c d e : Fin 5, C = [0, ((a.val : Nat) : Int), ((b.val : Nat) : Int), ((c.val : Nat) : Int), ((d.val : Nat) : Int), ((e.val : Nat) : Int)] := by
  unfold pnB at h
  rw [Bool.and_eq_true] at h
  have h0 : C.getD 0 0 = 0 := by simpa using h.1
  match C, hC with
  | [x0, x1, x2, x3, x4, x5], _ =>
    have b := fun c (hc : c < 6) => in04_at (C := [x0, x1, x2, x3, x4, x5]) rfl h.2 hc
    have b1 := b 1 (by omega)
    have b2 := b 2 (by omega)
    have b3 := b 3 (by omega)
    have b4 := b 4 (by omega)
    have b5 := b 5 (by omega)
    simp only [List.getD_cons_zero, List.getD_cons_succ] at b1 b2 b3 b4 b5 h0
    refine ⟨⟨x1.toNat, by omega⟩, ⟨x2.toNat, by omega⟩, ⟨x3.toNat, by omega⟩, ⟨x4.toNat, by omega⟩, ⟨x5.toNat, by omega⟩, ?_⟩
    simp only [List.cons.injEq, and_true]
    exact ⟨h0, by omega, by omega, by omega, by omega, by omega⟩
theorem pn_facts {C : List Int} (hC : C.length = 6) (h : pnB C = true) : rackB (pnF C) = true ∧ sortB (pnF C) = true ∧ (cntL (pnF C)).set 0 0 = C ∧ fpB (pnF C) = true ∧ fpF (pnF C) = 0 := by
  have hk : rackB (pnF C) = true ∧ sortB (pnF C) = true ∧ (cntL (pnF C)).set 0 0 = C := by
    obtain ⟨a, b, c, d, e, rfl⟩ := six_of hC h
    have := pl_all a b c d e
    unfold plP at this
    simp only [Bool.and_eq_true, decide_eq_true_eq] at this
    exact ⟨this.1.1, this.1.2, this.2⟩
  obtain ⟨hr, hs, hc⟩ := hk
  have hl := pnF_len C
  have hf := sort_frm hl
  rw [hs] at hf
  have any0 : (lay (pnF C) 0).any sortB = true := by rw [lay_zero]; simp [hf]
  have ov0 : ovf (pnF C) 0 = false := by unfold ovf; rw [kn_zero]; rfl
  have hd : dep sortB (pnF C) = 0 := dep_eq (by unfold stp; rw [any0]; simp) (fun k hk => by omega)
  have hb : fpB (pnF C) = true := by
    unfold fpB unB
    rw [hr, hd, ov0, any0]; rfl
  refine ⟨hr, hs, hc, hb, ?_⟩
  unfold fpF
  rw [if_pos hb, hd]; rfl
/-! Undone pours. -/
theorem GL_pre (c : Nat → Nat → Bool) (m : Nat) : ∀ k, ∃ r, GL c (m + k) = GL c m ++ r
  | 0 => ⟨[], by simp⟩
  | k + 1 => by
    obtain ⟨r, hr⟩ := GL_pre c m k
    exact ⟨r ++ prG c (m + k), by rw [show m + (k + 1) = m + k + 1 by omega, GL_succ, hr, List.append_assoc]⟩
theorem GL_in (c : Nat → Nat → Bool) {a b : Nat} (ha : a < 6) (hb : b < 6) {np : Nat} (hnp : (GL c 36).length = np * 2) (j : List Int) : inP (GL c 36 ++ j) np [(a : Int), (b : Int)] = c a b := by
  have cut : ∀ i, i < np → ((GL c 36 ++ j).drop (i * 2)).take 2 = ((GL c 36).drop (i * 2)).take 2 := fun i hi => by
    rw [List.drop_append_of_le_length (by omega), List.take_append_of_le_length (by rw [List.length_drop]; omega)]
  cases hc : c a b
  · refine inP_not fun i hi he => ?_
    rw [cut i hi] at he
    obtain ⟨p, q, h1, h2, h3, h4⟩ := GL_pair c 36 (Nat.le_refl _) i (by omega)
    rw [he] at h4
    simp only [List.cons.injEq, and_true] at h4
    have e1 : a = p := by omega
    have e2 : b = q := by omega
    rw [e1, e2, h3] at hc; cases hc
  · obtain ⟨n, hn, _⟩ := GL_even c (a * 6 + b)
    have e1 : GL c (a * 6 + b + 1) = GL c (a * 6 + b) ++ [(a : Int), (b : Int)] := by
      have d1 : (a * 6 + b) / 6 = a := by omega
      have d2 : (a * 6 + b) % 6 = b := by omega
      rw [GL_succ]
      simp only [prG, d1, d2, hc, if_true]
    obtain ⟨r, hr⟩ := GL_pre c (a * 6 + b + 1) (36 - (a * 6 + b + 1))
    rw [show a * 6 + b + 1 + (36 - (a * 6 + b + 1)) = 36 by omega, e1] at hr
    have hl : n < np := by
      have := congrArg List.length hr
      rw [List.length_append, List.length_append, hn, hnp] at this
      simp at this; omega
    refine inP_of hl ?_
    rw [cut n hl, hr, List.append_assoc, List.drop_left' hn]; rfl
def uuC (R : List Int) (i j : Nat) : Bool := canF R i j && undF R [(i : Int), (j : Int)]
theorem unL_GL (R : List Int) : unL R = GL (uuC R) 36 := by
  obtain ⟨n, h1, h2⟩ := kept_GL (fun i j => canF R i j) (uuC R) (fun p => undF R p) (fun i j _ _ hc => by
    unfold uuC; rw [show canF R i j = true from hc]; simp) (fun i j _ _ h => by unfold uuC at h; simp at h; exact h.1) 36 (Nat.le_refl _)
  have e : PL R 36 = GL (fun i j => canF R i j) 36 := rfl
  unfold unL
  rw [e, show (GL (fun i j => canF R i j) 36).length / 2 = n by omega]
  exact h2
theorem un_in {R : List Int} {i j : Int} (hp : pourB R i j = true) {nu : Nat} (hnu : (upnF R).length = nu * 2) (k : List Int) : inP (upnF R ++ k) nu [i, j] = undF R [i, j] := by
  unfold pourB plF at hp
  simp only [Bool.and_eq_true, decide_eq_true_eq] at hp
  obtain ⟨⟨⟨hr, hi⟩, hj⟩, hc⟩ := hp
  obtain ⟨a, rfl⟩ := Int.eq_ofNat_of_zero_le hi.1
  obtain ⟨b, rfl⟩ := Int.eq_ofNat_of_zero_le hj.1
  have e : upnF R = GL (uuC R) 36 := by unfold upnF; rw [if_pos hr]; exact unL_GL R
  rw [e] at hnu ⊢
  have := GL_in (uuC R) (a := a) (b := b) (by omega) (by omega) hnu k
  rw [this]
  unfold uuC
  rw [show canF R (a : Int) (b : Int) = true from hc]; simp
/-! Mixed racks lead back. -/
theorem paR_cons (R L : List Int) (x y : Int) : ∀ k, paR R (x :: y :: L) (k + 1) = paR (pourF R x.toNat y.toNat) L k
  | 0 => by rw [paR_succ, paR_zero, paR_zero]; rfl
  | k + 1 => by
    rw [paR_succ, paR_cons R L x y k, paR_succ]
    have e1 : (x :: y :: L).getD ((k + 1) * 2) 0 = L.getD (k * 2) 0 := by rw [show (k + 1) * 2 = k * 2 + 1 + 1 by omega]; rfl
    have e2 : (x :: y :: L).getD ((k + 1) * 2 + 1) 0 = L.getD (k * 2 + 1) 0 := by rw [show (k + 1) * 2 + 1 = k * 2 + 1 + 1 + 1 by omega]; rfl
    rw [e1, e2]
theorem paC_cons (R L : List Int) (x y : Int) (k : Nat) : paC R (x :: y :: L) (k + 1) = paC (pourF R x.toNat y.toNat) L k := by
  unfold paC
  rw [paR_cons]
  have e1 : (x :: y :: L).getD ((k + 1) * 2) 0 = L.getD (k * 2) 0 := by rw [show (k + 1) * 2 = k * 2 + 1 + 1 by omega]; rfl
  have e2 : (x :: y :: L).getD ((k + 1) * 2 + 1) 0 = L.getD (k * 2 + 1) 0 := by rw [show (k + 1) * 2 + 1 = k * 2 + 1 + 1 + 1 by omega]; rfl
  rw [e1, e2]
theorem mx_back {R C : List Int} {len : Nat} (hR : R.length = 24) (hr : rackB R = true) (hC : ∀ k, k < len → 0 ≤ C.getD k 0) : ∀ k, k ≤ len → (∀ i, i < k → mxO R C i = true) → paR (mxK R C k).1 (rvF (mxK R C k).2 k) k = R ∧ ∀ i, i < k → paC (mxK R C k).1 (rvF (mxK R C k).2 k) i = true
  | 0, _, _ => ⟨rfl, fun i hi => by omega⟩
  | k + 1, hk, ho => by
    have ih := mx_back hR hr hC k (by omega) (fun i hi => ho i (by omega))
    obtain ⟨l24, rk⟩ := mxK_facts hR hr hC k (by omega) (fun i hi => ho i (by omega))
    have hne : SrL (mxK R C k).1 144 ≠ [] := by
      have := ho k (by omega)
      unfold mxO at this; simpa using this
    obtain ⟨_, _, _, _, hb⟩ := mxS_spec (hC k (by omega)) hne
    obtain ⟨f1, f2, f3, f4, f5, f6, f7⟩ := bk_fwd l24 rk hb
    have e1 : (mxK R C (k + 1)).1 = bkR (mxK R C k).1 ((mxS (mxK R C k).1 (C.getD k 0)).getD 0 0) ((mxS (mxK R C k).1 (C.getD k 0)).getD 1 0) ((mxS (mxK R C k).1 (C.getD k 0)).getD 2 0) := rfl
    have e2 : (mxK R C (k + 1)).2 = (mxK R C k).2 ++ [(mxS (mxK R C k).1 (C.getD k 0)).getD 0 0, (mxS (mxK R C k).1 (C.getD k 0)).getD 1 0] := rfl
    rw [e1, e2, rvF_snoc _ _ (mxK_len2 R C k)]
    refine ⟨by rw [paR_cons, f6]; exact ih.1, fun i hi => ?_⟩
    rcases i with _ | i
    · unfold paC cppB plF
      rw [paR_zero]
      simp only [List.getD_cons_zero, List.getD_cons_succ, Nat.zero_mul, Nat.zero_add]
      rw [f5, decide_eq_true f1, decide_eq_true f2]; rfl
    · rw [paC_cons, f6]
      exact ih.2 i (by omega)
theorem firstN_lt {p : Nat → Bool} : ∀ (f i q : Nat), i ≤ q → q < firstN p f i → p q = true
  | 0, i, q, h1, h2 => by simp only [firstN] at h2; omega
  | f + 1, i, q, h1, h2 => by
    simp only [firstN] at h2
    by_cases hp : p i = true
    · rw [if_pos hp] at h2
      rcases Nat.eq_or_lt_of_le h1 with h | h
      · rw [← h]; exact hp
      · exact firstN_lt f (i + 1) q h h2
    · rw [if_neg hp] at h2; omega
theorem mx_law {R C : List Int} {len : Nat} (hR : R.length = 24) (hC : C.length = len) (h : mxB R C len = true) : ∃ k, k ≤ len ∧ (mxP R C len).length = k * 2 ∧ len ≤ 20 ∧ doT (mxR R C len) (mxP R C len) k = [.arr R, .int (paS (mxR R C len) (mxP R C len) k), .bool true] ∧ (mxR R C len).length = 24 := by
  have hh := h
  unfold mxB at hh
  simp only [Bool.and_eq_true, decide_eq_true_eq] at hh
  obtain ⟨⟨hr, h20⟩, hn⟩ := hh
  have hnn : ∀ k, k < len → 0 ≤ C.getD k 0 := fun k hk => by
    have := List.all_eq_true.1 hn (C.getD k 0) (by
      rw [List.getD_eq_getElem?_getD, List.getElem?_eq_getElem (by omega)]
      rw [List.take_of_length_le (by omega)]
      exact List.getElem_mem _)
    simpa [nnm] using this
  have hN : mxN R C len ≤ len := by have := firstN_le (mxO R C) len 0; unfold mxN; omega
  have hO : ∀ i, i < mxN R C len → mxO R C i = true := fun i hi => firstN_lt len 0 i (Nat.zero_le _) hi
  obtain ⟨l24, rk⟩ := mxK_facts hR hr hnn _ hN hO
  obtain ⟨b1, b2⟩ := mx_back hR hr hnn _ hN hO
  have eR : mxR R C len = (mxK R C (mxN R C len)).1 := by unfold mxR; rw [if_pos h]
  have eP : mxP R C len = rvF (mxK R C (mxN R C len)).2 (mxN R C len) := by unfold mxP; rw [if_pos h]
  rw [eR, eP]
  refine ⟨mxN R C len, hN, rvF_len (mxK_len2 R C _), h20, ?_, l24⟩
  unfold doT
  rw [rk, doB_true b2, b1]; rfl
end Go.Proofs.YtmccafjblhbmkaaGreat
set_option maxRecDepth 100000
set_option linter.unusedSimpArgs false
set_option linter.unusedVariables false
namespace Go.Proofs.YtmccafjblhbmkaaGreat
open Go Go.RowKit
theorem eqI_p2 : EqI Tryz.prog 65 2 := eqI_of (D := 2) (by omega) (eqA_ints (i := (Tryz.prog.info? 3).getD default) Tryz.underlying65 (by kernel_rfl) (by kernel_rfl) rfl Tryz.underlying3) (by kernel_rfl)
--@tbl rPairs = laws.rPairs
--@tbl rIn = laws.rIn
--@tbl rPart = laws.rPart
end Go.Proofs.YtmccafjblhbmkaaGreat
set_option maxRecDepth 100000
set_option linter.unusedSimpArgs false
set_option linter.unusedVariables false
namespace Go.Proofs.YtmccafjblhbmkaaGreat
open Go Go.RowKit
--@tbl vPour = laws.vPour
theorem vPour_ok (L p : List Int) (e c m : Nat) (h1 : m * 2 ≤ L.length) (hp : p.length = 2) (hm : m ≤ 4611686018427387903) :
    PureH Tryz.prog 59 [.slice 0 0 m c, .arr p] [(0, .ints L e)] (.bool (inP L m p)) := by
  have tkp : p.take 2 = p := List.take_of_length_le (by omega)
  refine pure_of_vc (X := ⟨Tryz.prog, tys, [], [], true, true, 1, [], []⟩) fn_59 ⟨tys_ok, .nil, .nil, mixed⟩ (n0 := 1) (Nat.le_of_ble_eq_true rfl) (by simp [wfL, SV.wf]) (wfH_spec (by simp [wfH, SObj.wf])) (Nat.le_refl _) (fun _ => by simp [SV.wf, wfL]) ?_
  simp -implicitDefEqProofs only [Tryz.f59, Option.getD_some, argS, hp, tkp, ZB, Int.reduceToNat, Nat.reduceLT, Nat.reduceLeDiff, Int.reduceLE, Int.reduceLT, Nat.reduceEqDiff, Nat.reduceSub, SB, SV.known, packR, ne_eq, reduceCtorEq, Nat.reduceEqDiff, ↓reduceIte, if_true, if_false, eq_self, Nat.reduceAdd, Nat.reduceMul, Nat.reduceSub, forall_const, oneCellS, litOne, flat1, Kd.isSca, flat, TYB]
  refine loop_intro (fun i : Nat => [(5, .int i), (3, .ptr 1 0), (0, .slice 0 0 m c)]) (fun _ => [(1, .ints p 65), (0, .ints L e)]) 2 (fun i => i ≤ m ∧ ∀ j, j < i → (L.drop (j * 2)).take 2 ≠ p) (fun i => m - i) ?_ ?_
  · refine ⟨0, ⟨Nat.zero_le _, fun j hj => absurd hj (by omega)⟩, ?_⟩
    refine Sub.mk_id ?_ ?_ ?_ ?_ ?_
    all_goals ((try simp only [LB, subS, subH, wfS, wfH, SV.ren, renL, SObj.ren, SV.wf, SObj.wf, wfL, SV.known, Nat.reduceEqDiff, ↓reduceIte, if_true, if_false, eq_self, Nat.reduceAdd, Nat.reduceLT, Nat.reduceLeDiff, implies_true, reduceCtorEq, forall_const]) <;> simp)
  · rintro i ⟨hi, hno⟩
    by_cases hlt : i < m
    · have hil : (i : Int) < m := by omega
      have l2 : ((L.drop (i * 2)).take 2).length = 2 := by rw [List.length_take, List.length_drop]; omega
      have hL : i * 2 + 2 ≤ L.length := by omega
      have tkx : ((L.drop (i * 2)).take 2).take 2 = (L.drop (i * 2)).take 2 := List.take_of_length_le (by omega)
      have hyes := inP_of (L := L) (p := p) hlt
      have hnx : (L.drop (i * 2)).take 2 ≠ p → ∀ j, j < i + 1 → (L.drop (j * 2)).take 2 ≠ p := fun h j hj => by
        by_cases hji : j = i
        · subst hji; exact h
        · exact hno j (by omega)
      simp -implicitDefEqProofs only [lk_normal, hil, l2, hp, tkp, hL, eqI_p2, ZB, Int.reduceToNat, Nat.reduceLT, Nat.reduceLeDiff, Int.reduceLE, Int.reduceLT, Nat.reduceEqDiff, Nat.reduceSub, SB, SV.known, packR, ne_eq, reduceCtorEq, Nat.reduceEqDiff, ↓reduceIte, if_true, if_false, eq_self, Nat.reduceAdd, Nat.reduceMul, Nat.reduceSub, forall_const, oneCellS, litOne, flat1, Kd.isSca, flat, TYB]
      refine ⟨by omega, fun h => (hyes h).symm, fun h => ⟨by unfold In64; omega, i + 1, ⟨by omega, hnx h⟩, by omega, Sub.mk_id ?_ ?_ ?_ ?_ ?_⟩⟩
      all_goals ((try simp only [LB, subS, subH, wfS, wfH, SV.ren, renL, SObj.ren, SV.wf, SObj.wf, wfL, SV.known, Nat.reduceEqDiff, ↓reduceIte, if_true, if_false, eq_self, Nat.reduceAdd, Nat.reduceLT, Nat.reduceLeDiff, implies_true, reduceCtorEq, forall_const]) <;> simp)
    · have hil : ¬ (i : Int) < m := by omega
      obtain rfl : i = m := by omega
      simp -implicitDefEqProofs only [lk_normal, hil, inP_not hno, ZB, Int.reduceToNat, Nat.reduceLT, Nat.reduceLeDiff, Int.reduceLE, Int.reduceLT, Nat.reduceEqDiff, Nat.reduceSub, SB, SV.known, packR, ne_eq, reduceCtorEq, Nat.reduceEqDiff, ↓reduceIte, if_true, if_false, eq_self, Nat.reduceAdd, Nat.reduceMul, Nat.reduceSub, forall_const, oneCellS, litOne, flat1, Kd.isSca, flat, TYB]
theorem vPour_nil (p : List Int) (H : Heap) (hp : p.length = 2) : PureH Tryz.prog 59 [.nils, .arr p] H (.bool false) := by
  refine PureH.any ?_ H
  have tkp : p.take 2 = p := List.take_of_length_le (by omega)
  refine pure_of_vc (X := ⟨Tryz.prog, tys, [], [], true, true, 0, [], []⟩) fn_59 ⟨tys_ok, .nil, .nil, mixed⟩ (n0 := 0) (Nat.le_of_ble_eq_true rfl) (by simp [wfL, SV.wf]) (wfH_spec (by simp [wfH, SObj.wf])) (Nat.le_refl _) (fun _ => by simp [SV.wf, wfL]) ?_
  simp -implicitDefEqProofs only [Tryz.f59, Option.getD_some, argS, hp, tkp, ZB, Int.reduceToNat, Nat.reduceLT, Nat.reduceLeDiff, Int.reduceLE, Int.reduceLT, Nat.reduceEqDiff, Nat.reduceSub, SB, SV.known, packR, ne_eq, reduceCtorEq, Nat.reduceEqDiff, ↓reduceIte, if_true, if_false, eq_self, Nat.reduceAdd, Nat.reduceMul, Nat.reduceSub, forall_const, oneCellS, litOne, flat1, Kd.isSca, flat, TYB]
  refine loop_intro (fun i : Nat => [(5, .int 0), (3, .ptr 0 0), (0, .nils)]) (fun _ => [(0, .ints p 65)]) 1 (fun i => True) (fun i => 0) ?_ ?_
  · refine ⟨0, trivial, Sub.mk_id ?_ ?_ ?_ ?_ ?_⟩
    all_goals ((try simp only [LB, subS, subH, wfS, wfH, SV.ren, renL, SObj.ren, SV.wf, SObj.wf, wfL, SV.known, Nat.reduceEqDiff, ↓reduceIte, if_true, if_false, eq_self, Nat.reduceAdd, Nat.reduceLT, Nat.reduceLeDiff, implies_true, reduceCtorEq, forall_const]) <;> simp)
  · intro i hi
    simp -implicitDefEqProofs only [lk_normal, ZB, Int.reduceToNat, Nat.reduceLT, Nat.reduceLeDiff, Int.reduceLE, Int.reduceLT, Nat.reduceEqDiff, Nat.reduceSub, SB, SV.known, packR, ne_eq, reduceCtorEq, Nat.reduceEqDiff, ↓reduceIte, if_true, if_false, eq_self, Nat.reduceAdd, Nat.reduceMul, Nat.reduceSub, forall_const, oneCellS, litOne, flat1, Kd.isSca, flat, TYB]
def vPour_F : List SV → Heap → Option (Prop × SV)
  | [.slice a 0 m _, .arr p], H => match hget H a with
    | some (.ints L _) => some (m * 2 ≤ L.length ∧ p.length = 2 ∧ m ≤ 4611686018427387903, .bool (inP L m p))
    | _ => none
  | [.nils, .arr p], _ => some (p.length = 2, .bool false)
  | _, _ => none
theorem vPour_T : ∀ args H p v, vPour_F args H = some (p, v) → p → PureH Tryz.prog 59 args H v := by
  intro args H p v h hp
  unfold vPour_F at h
  split at h
  · rename_i a m c q
    split at h
    · rename_i L e g
      cases h
      exact one_block (vPour_ok L q e c m hp.1 hp.2.1 hp.2.2) g rfl (fun _ => trivial)
    · cases h
  · cases h
    exact vPour_nil _ H hp
  · cases h
def iuB (R : List Int) (i j : Int) : Bool := pourB R i j && undF R [i, j]
--@tbl IsUndone = impl.IsUndone
--@tbl sIsUndone = spec.IsUndone
theorem IsUndone_ok (R : List Int) (i j : Int) (hR : R.length = 24) : PureH Tryz.prog 49 [.arr R, .int i, .int j] [] (.tup [.bool (iuB R i j), .bool (pourB R i j)]) := by
  have tkR : R.take 24 = R := List.take_of_length_le (by omega)
  unfold iuB pourB
  cases hr : rackB R
  · refine pure_of_vc (X := ⟨Tryz.prog, tys, [(83, isAt_F), (100, canPour_F), (108, isUndone_F)], [], true, true, 0, [], []⟩) fn_49 ⟨tys_ok, (.cons isAt_T (.cons canPour_T (.cons isUndone_T .nil))), .nil, mixed⟩ (n0 := 0) (Nat.le_of_ble_eq_true rfl) (by simp [wfL, SV.wf]) (wfH_spec (by simp [wfH, SObj.wf])) (Nat.le_refl _) (fun _ => by simp [SV.wf, wfL]) ?_
    simp -implicitDefEqProofs only [Tryz.f49, Option.getD_some, argS, isAt_F, canPour_F, isUndone_F, hR, tkR, hr, ZB, Int.reduceToNat, Nat.reduceLT, Nat.reduceLeDiff, Int.reduceLE, Int.reduceLT, Nat.reduceEqDiff, Nat.reduceSub, SB, SV.known, packR, ne_eq, reduceCtorEq, Nat.reduceEqDiff, ↓reduceIte, if_true, if_false, eq_self, Nat.reduceAdd, Nat.reduceMul, Nat.reduceSub, forall_const, oneCellS, litOne, flat1, Kd.isSca, flat, TYB]
  cases hi : plF i
  · refine pure_of_vc (X := ⟨Tryz.prog, tys, [(83, isAt_F), (100, canPour_F), (108, isUndone_F)], [], true, true, 0, [], []⟩) fn_49 ⟨tys_ok, (.cons isAt_T (.cons canPour_T (.cons isUndone_T .nil))), .nil, mixed⟩ (n0 := 0) (Nat.le_of_ble_eq_true rfl) (by simp [wfL, SV.wf]) (wfH_spec (by simp [wfH, SObj.wf])) (Nat.le_refl _) (fun _ => by simp [SV.wf, wfL]) ?_
    simp -implicitDefEqProofs only [Tryz.f49, Option.getD_some, argS, isAt_F, canPour_F, isUndone_F, hR, tkR, hr, hi, ZB, Int.reduceToNat, Nat.reduceLT, Nat.reduceLeDiff, Int.reduceLE, Int.reduceLT, Nat.reduceEqDiff, Nat.reduceSub, SB, SV.known, packR, ne_eq, reduceCtorEq, Nat.reduceEqDiff, ↓reduceIte, if_true, if_false, eq_self, Nat.reduceAdd, Nat.reduceMul, Nat.reduceSub, forall_const, oneCellS, litOne, flat1, Kd.isSca, flat, TYB]
  cases hj : plF j
  · refine pure_of_vc (X := ⟨Tryz.prog, tys, [(83, isAt_F), (100, canPour_F), (108, isUndone_F)], [], true, true, 0, [], []⟩) fn_49 ⟨tys_ok, (.cons isAt_T (.cons canPour_T (.cons isUndone_T .nil))), .nil, mixed⟩ (n0 := 0) (Nat.le_of_ble_eq_true rfl) (by simp [wfL, SV.wf]) (wfH_spec (by simp [wfH, SObj.wf])) (Nat.le_refl _) (fun _ => by simp [SV.wf, wfL]) ?_
    simp -implicitDefEqProofs only [Tryz.f49, Option.getD_some, argS, isAt_F, canPour_F, isUndone_F, hR, tkR, hr, hi, hj, ZB, Int.reduceToNat, Nat.reduceLT, Nat.reduceLeDiff, Int.reduceLE, Int.reduceLT, Nat.reduceEqDiff, Nat.reduceSub, SB, SV.known, packR, ne_eq, reduceCtorEq, Nat.reduceEqDiff, ↓reduceIte, if_true, if_false, eq_self, Nat.reduceAdd, Nat.reduceMul, Nat.reduceSub, forall_const, oneCellS, litOne, flat1, Kd.isSca, flat, TYB]
  have hi' : 0 ≤ i ∧ i ≤ 5 := by unfold plF at hi; simpa using hi
  have hj' : 0 ≤ j ∧ j ≤ 5 := by unfold plF at hj; simpa using hj
  cases hc : canF R i j
  · refine pure_of_vc (X := ⟨Tryz.prog, tys, [(83, isAt_F), (100, canPour_F), (108, isUndone_F)], [], true, true, 0, [], []⟩) fn_49 ⟨tys_ok, (.cons isAt_T (.cons canPour_T (.cons isUndone_T .nil))), .nil, mixed⟩ (n0 := 0) (Nat.le_of_ble_eq_true rfl) (by simp [wfL, SV.wf]) (wfH_spec (by simp [wfH, SObj.wf])) (Nat.le_refl _) (fun _ => by simp [SV.wf, wfL]) ?_
    simp -implicitDefEqProofs only [Tryz.f49, Option.getD_some, argS, isAt_F, canPour_F, isUndone_F, hR, tkR, hr, hi, hj, hi', hj', hc, ZB, Int.reduceToNat, Nat.reduceLT, Nat.reduceLeDiff, Int.reduceLE, Int.reduceLT, Nat.reduceEqDiff, Nat.reduceSub, SB, SV.known, packR, ne_eq, reduceCtorEq, Nat.reduceEqDiff, ↓reduceIte, if_true, if_false, eq_self, Nat.reduceAdd, Nat.reduceMul, Nat.reduceSub, forall_const, oneCellS, litOne, flat1, Kd.isSca, flat, TYB]
  · refine pure_of_vc (X := ⟨Tryz.prog, tys, [(83, isAt_F), (100, canPour_F), (108, isUndone_F)], [], true, true, 0, [], []⟩) fn_49 ⟨tys_ok, (.cons isAt_T (.cons canPour_T (.cons isUndone_T .nil))), .nil, mixed⟩ (n0 := 0) (Nat.le_of_ble_eq_true rfl) (by simp [wfL, SV.wf]) (wfH_spec (by simp [wfH, SObj.wf])) (Nat.le_refl _) (fun _ => by simp [SV.wf, wfL]) ?_
    simp -implicitDefEqProofs only [Tryz.f49, Option.getD_some, argS, isAt_F, canPour_F, isUndone_F, hR, tkR, hr, hi, hj, hi', hj', hc, ZB, Int.reduceToNat, Nat.reduceLT, Nat.reduceLeDiff, Int.reduceLE, Int.reduceLT, Nat.reduceEqDiff, Nat.reduceSub, SB, SV.known, packR, ne_eq, reduceCtorEq, Nat.reduceEqDiff, ↓reduceIte, if_true, if_false, eq_self, Nat.reduceAdd, Nat.reduceMul, Nat.reduceSub, forall_const, oneCellS, litOne, flat1, Kd.isSca, flat, TYB]
theorem sIsUndone_ok (R : List Int) (i j : Int) (hR : R.length = 24) : PureH Tryz.prog 50 [.arr R, .int i, .int j] [] (.tup [.bool (iuB R i j), .bool (pourB R i j)]) := by
  have tkR : R.take 24 = R := List.take_of_length_le (by omega)
  unfold iuB pourB
  cases hr : rackB R
  · refine pure_of_vc (X := ⟨Tryz.prog, tys, [(64, l2Rack_F), (109, l2Place_F), (110, l2Can_F), (111, l5Undone_F)], [], true, true, 0, [], []⟩) fn_50 ⟨tys_ok, (.cons l2Rack_T (.cons l2Place_T (.cons l2Can_T (.cons l5Undone_T .nil)))), .nil, mixed⟩ (n0 := 0) (Nat.le_of_ble_eq_true rfl) (by simp [wfL, SV.wf]) (wfH_spec (by simp [wfH, SObj.wf])) (Nat.le_refl _) (fun _ => by simp [SV.wf, wfL]) ?_
    simp -implicitDefEqProofs only [Tryz.f50, Option.getD_some, argS, l2Rack_F, l2Place_F, l2Can_F, l5Undone_F, hR, tkR, hr, ZB, Int.reduceToNat, Nat.reduceLT, Nat.reduceLeDiff, Int.reduceLE, Int.reduceLT, Nat.reduceEqDiff, Nat.reduceSub, SB, SV.known, packR, ne_eq, reduceCtorEq, Nat.reduceEqDiff, ↓reduceIte, if_true, if_false, eq_self, Nat.reduceAdd, Nat.reduceMul, Nat.reduceSub, forall_const, oneCellS, litOne, flat1, Kd.isSca, flat, TYB]
  cases hi : plF i
  · refine pure_of_vc (X := ⟨Tryz.prog, tys, [(64, l2Rack_F), (109, l2Place_F), (110, l2Can_F), (111, l5Undone_F)], [], true, true, 0, [], []⟩) fn_50 ⟨tys_ok, (.cons l2Rack_T (.cons l2Place_T (.cons l2Can_T (.cons l5Undone_T .nil)))), .nil, mixed⟩ (n0 := 0) (Nat.le_of_ble_eq_true rfl) (by simp [wfL, SV.wf]) (wfH_spec (by simp [wfH, SObj.wf])) (Nat.le_refl _) (fun _ => by simp [SV.wf, wfL]) ?_
    simp -implicitDefEqProofs only [Tryz.f50, Option.getD_some, argS, l2Rack_F, l2Place_F, l2Can_F, l5Undone_F, hR, tkR, hr, hi, ZB, Int.reduceToNat, Nat.reduceLT, Nat.reduceLeDiff, Int.reduceLE, Int.reduceLT, Nat.reduceEqDiff, Nat.reduceSub, SB, SV.known, packR, ne_eq, reduceCtorEq, Nat.reduceEqDiff, ↓reduceIte, if_true, if_false, eq_self, Nat.reduceAdd, Nat.reduceMul, Nat.reduceSub, forall_const, oneCellS, litOne, flat1, Kd.isSca, flat, TYB]
  cases hj : plF j
  · refine pure_of_vc (X := ⟨Tryz.prog, tys, [(64, l2Rack_F), (109, l2Place_F), (110, l2Can_F), (111, l5Undone_F)], [], true, true, 0, [], []⟩) fn_50 ⟨tys_ok, (.cons l2Rack_T (.cons l2Place_T (.cons l2Can_T (.cons l5Undone_T .nil)))), .nil, mixed⟩ (n0 := 0) (Nat.le_of_ble_eq_true rfl) (by simp [wfL, SV.wf]) (wfH_spec (by simp [wfH, SObj.wf])) (Nat.le_refl _) (fun _ => by simp [SV.wf, wfL]) ?_
    simp -implicitDefEqProofs only [Tryz.f50, Option.getD_some, argS, l2Rack_F, l2Place_F, l2Can_F, l5Undone_F, hR, tkR, hr, hi, hj, ZB, Int.reduceToNat, Nat.reduceLT, Nat.reduceLeDiff, Int.reduceLE, Int.reduceLT, Nat.reduceEqDiff, Nat.reduceSub, SB, SV.known, packR, ne_eq, reduceCtorEq, Nat.reduceEqDiff, ↓reduceIte, if_true, if_false, eq_self, Nat.reduceAdd, Nat.reduceMul, Nat.reduceSub, forall_const, oneCellS, litOne, flat1, Kd.isSca, flat, TYB]
  have hi' : 0 ≤ i ∧ i ≤ 5 := by unfold plF at hi; simpa using hi
  have hj' : 0 ≤ j ∧ j ≤ 5 := by unfold plF at hj; simpa using hj
  cases hc : canF R i j
  · refine pure_of_vc (X := ⟨Tryz.prog, tys, [(64, l2Rack_F), (109, l2Place_F), (110, l2Can_F), (111, l5Undone_F)], [], true, true, 0, [], []⟩) fn_50 ⟨tys_ok, (.cons l2Rack_T (.cons l2Place_T (.cons l2Can_T (.cons l5Undone_T .nil)))), .nil, mixed⟩ (n0 := 0) (Nat.le_of_ble_eq_true rfl) (by simp [wfL, SV.wf]) (wfH_spec (by simp [wfH, SObj.wf])) (Nat.le_refl _) (fun _ => by simp [SV.wf, wfL]) ?_
    simp -implicitDefEqProofs only [Tryz.f50, Option.getD_some, argS, l2Rack_F, l2Place_F, l2Can_F, l5Undone_F, hR, tkR, hr, hi, hj, hi', hj', hc, ZB, Int.reduceToNat, Nat.reduceLT, Nat.reduceLeDiff, Int.reduceLE, Int.reduceLT, Nat.reduceEqDiff, Nat.reduceSub, SB, SV.known, packR, ne_eq, reduceCtorEq, Nat.reduceEqDiff, ↓reduceIte, if_true, if_false, eq_self, Nat.reduceAdd, Nat.reduceMul, Nat.reduceSub, forall_const, oneCellS, litOne, flat1, Kd.isSca, flat, TYB]
  · refine pure_of_vc (X := ⟨Tryz.prog, tys, [(64, l2Rack_F), (109, l2Place_F), (110, l2Can_F), (111, l5Undone_F)], [], true, true, 0, [], []⟩) fn_50 ⟨tys_ok, (.cons l2Rack_T (.cons l2Place_T (.cons l2Can_T (.cons l5Undone_T .nil)))), .nil, mixed⟩ (n0 := 0) (Nat.le_of_ble_eq_true rfl) (by simp [wfL, SV.wf]) (wfH_spec (by simp [wfH, SObj.wf])) (Nat.le_refl _) (fun _ => by simp [SV.wf, wfL]) ?_
    simp -implicitDefEqProofs only [Tryz.f50, Option.getD_some, argS, l2Rack_F, l2Place_F, l2Can_F, l5Undone_F, hR, tkR, hr, hi, hj, hi', hj', hc, ZB, Int.reduceToNat, Nat.reduceLT, Nat.reduceLeDiff, Int.reduceLE, Int.reduceLT, Nat.reduceEqDiff, Nat.reduceSub, SB, SV.known, packR, ne_eq, reduceCtorEq, Nat.reduceEqDiff, ↓reduceIte, if_true, if_false, eq_self, Nat.reduceAdd, Nat.reduceMul, Nat.reduceSub, forall_const, oneCellS, litOne, flat1, Kd.isSca, flat, TYB]
def IsUndone_F : List SV → Heap → Option (Prop × SV)
  | [.arr R, .int i, .int j], _ => some (R.length = 24, .tup [.bool (iuB R i j), .bool (pourB R i j)])
  | _, _ => none
theorem IsUndone_T : ∀ args H p v, IsUndone_F args H = some (p, v) → p → PureH Tryz.prog 49 args H v := by
  intro args H p v h hp
  unfold IsUndone_F at h
  split at h
  · cases h; exact (IsUndone_ok _ _ _ hp).any _
  · cases h
def sIsUndone_F : List SV → Heap → Option (Prop × SV)
  | [.arr R, .int i, .int j], _ => some (R.length = 24, .tup [.bool (iuB R i j), .bool (pourB R i j)])
  | _, _ => none
theorem sIsUndone_T : ∀ args H p v, sIsUndone_F args H = some (p, v) → p → PureH Tryz.prog 50 args H v := by
  intro args H p v h hp
  unfold sIsUndone_F at h
  split at h
  · cases h; exact (sIsUndone_ok _ _ _ hp).any _
  · cases h
/-! Pours that may be nil. -/
theorem doPoursN_ok (R : List Int) (hR : R.length = 24) : PureH Tryz.prog 116 [.arr R, .nils] [] (.tup [.arr R, .int 0, .bool true]) := by
  have tkR : R.take 24 = R := List.take_of_length_le (by omega)
  refine pure_of_vc (X := ⟨Tryz.prog, tys, [(131, isPlace_F), (100, canPour_F), (101, pour_F)], [], true, true, 0, [], []⟩) fn_116 ⟨tys_ok, (.cons isPlace_T (.cons canPour_T (.cons pour_T .nil))), .nil, mixed⟩ (n0 := 0) (Nat.le_of_ble_eq_true rfl) (by simp [wfL, SV.wf]) (wfH_spec (by simp [wfH, SObj.wf])) (Nat.le_refl _) (fun _ => by simp [SV.wf, wfL]) ?_
  simp -implicitDefEqProofs only [Tryz.f116, Option.getD_some, argS, isPlace_F, canPour_F, pour_F, hR, tkR, ZB, Int.reduceToNat, Nat.reduceLT, Nat.reduceLeDiff, Int.reduceLE, Int.reduceLT, Nat.reduceEqDiff, Nat.reduceSub, SB, SV.known, packR, ne_eq, reduceCtorEq, Nat.reduceEqDiff, ↓reduceIte, if_true, if_false, eq_self, Nat.reduceAdd, Nat.reduceMul, Nat.reduceSub, forall_const, oneCellS, litOne, flat1, Kd.isSca, flat, TYB]
  refine loop_intro (fun i : Nat => [(14, .int 0), (13, .int 0), (12, .nils), (7, .int 0), (6, .bool false), (5, .int 0), (4, .ptr 1 0), (2, .ptr 0 0)]) (fun i => [(1, .ints (List.replicate 24 0) 27), (0, .ints R 27)]) 2 (fun i => True) (fun i => 0) ?_ ?_
  · refine ⟨0, trivial, Sub.mk_id ?_ ?_ ?_ ?_ ?_⟩
    all_goals ((try simp only [LB, subS, subH, wfS, wfH, SV.ren, renL, SObj.ren, SV.wf, SObj.wf, wfL, SV.known, Nat.reduceEqDiff, ↓reduceIte, if_true, if_false, eq_self, Nat.reduceAdd, Nat.reduceLT, Nat.reduceLeDiff, implies_true, reduceCtorEq, forall_const]) <;> simp)
  · intro i hi
    simp -implicitDefEqProofs only [lk_normal, hR, tkR, ZB, Int.reduceToNat, Nat.reduceLT, Nat.reduceLeDiff, Int.reduceLE, Int.reduceLT, Nat.reduceEqDiff, Nat.reduceSub, SB, SV.known, packR, ne_eq, reduceCtorEq, Nat.reduceEqDiff, ↓reduceIte, if_true, if_false, eq_self, Nat.reduceAdd, Nat.reduceMul, Nat.reduceSub, forall_const, oneCellS, litOne, flat1, Kd.isSca, flat, TYB]
--@tbl doPours2 = impl.doPours
def doPours2_F : List SV → Heap → Option (Prop × SV)
  | [.arr R, .nils], _ => some (R.length = 24, .tup [.arr R, .int 0, .bool true])
  | _, _ => none
theorem doPours2_T : ∀ args H p v, doPours2_F args H = some (p, v) → p → PureH Tryz.prog 116 args H v := by
  intro args H p v h hp
  unfold doPours2_F at h
  split at h
  · cases h; exact (doPoursN_ok _ hp).any _
  · cases h
theorem DoPoursN_ok (R : List Int) (hR : R.length = 24) (hr : rackB R = true) : PureH Tryz.prog 60 [.arr R, .nils] [] (.tup [.arr R, .int 0, .bool true]) := by
  have tkR : R.take 24 = R := List.take_of_length_le (by omega)
  refine pure_of_vc (X := ⟨Tryz.prog, tys, [(62, IsRack_F), (116, doPours2_F)], [], true, true, 0, [], []⟩) fn_60 ⟨tys_ok, (.cons IsRack_T (.cons doPours2_T .nil)), .nil, mixed⟩ (n0 := 0) (Nat.le_of_ble_eq_true rfl) (by simp [wfL, SV.wf]) (wfH_spec (by simp [wfH, SObj.wf])) (Nat.le_refl _) (fun _ => by simp [SV.wf, wfL]) ?_
  simp -implicitDefEqProofs only [Tryz.f60, Option.getD_some, argS, IsRack_F, doPours2_F, hR, tkR, hr, ZB, Int.reduceToNat, Nat.reduceLT, Nat.reduceLeDiff, Int.reduceLE, Int.reduceLT, Nat.reduceEqDiff, Nat.reduceSub, SB, SV.known, packR, ne_eq, reduceCtorEq, Nat.reduceEqDiff, ↓reduceIte, if_true, if_false, eq_self, Nat.reduceAdd, Nat.reduceMul, Nat.reduceSub, forall_const, oneCellS, litOne, flat1, Kd.isSca, flat, TYB]
--@tbl DoPours2 = impl.DoPours
def DoPours2_F : List SV → Heap → Option (Prop × SV)
  | [.arr R, .slice b 0 len c], H => DoPours_F [.arr R, .slice b 0 len c] H
  | [.arr R, .nils], _ => some (R.length = 24 ∧ rackB R = true, .tup [.arr R, .int 0, .bool true])
  | _, _ => none
theorem DoPours2_T : ∀ args H p v, DoPours2_F args H = some (p, v) → p → PureH Tryz.prog 60 args H v := by
  intro args H p v h hp
  unfold DoPours2_F at h
  split at h
  · exact DoPours_T _ _ _ _ h hp
  · cases h; exact (DoPoursN_ok _ hp.1 hp.2).any _
  · cases h
end Go.Proofs.YtmccafjblhbmkaaGreat
set_option maxRecDepth 100000
set_option linter.unusedSimpArgs false
set_option linter.unusedVariables false
namespace Go.Proofs.YtmccafjblhbmkaaGreat
open Go Go.RowKit
/-- A code of bytes: nil, or a window of a block. -/
def BytV (kc : Nat) (v : SV) (H : Heap) : Prop := (v = .nils ∧ ∃ o, hget H kc = some o) ∨ ∃ (off len cap : Nat) (L : List Int), v = .slice kc off len cap ∧ hget H kc = some (.winU off L) ∧ L.length = len ∧ len ≤ 1000000000 ∧ ∀ x ∈ L, 0 ≤ x ∧ x ≤ 255
theorem BytV.wf {kc n : Nat} {v : SV} {H : Heap} (h : BytV kc v H) (hw : hwf n H) : v.wf n ∧ kc < n := by
  rcases h with ⟨rfl, o, h⟩ | ⟨off, len, cap, L, rfl, h, _⟩
  · exact ⟨trivial, (hw _ _ h).1⟩
  · exact ⟨(hw _ _ h).1, (hw _ _ h).1⟩
theorem BytV.one {kc : Nat} {v : SV} {H : Heap} (h : BytV kc v H) : oneCellS v = true := by
  rcases h with ⟨rfl, o, h⟩ | ⟨off, len, cap, L, rfl, h, _⟩ <;> rfl
theorem BytV.at {kc : Nat} {v : SV} {H H' : Heap} (h : BytV kc v H) (hf : ∀ o, hget H kc = some o → hget H' kc = some o) : BytV kc v H' := by
  rcases h with ⟨rfl, o, h⟩ | ⟨off, len, cap, L, rfl, h, h2⟩
  · exact .inl ⟨rfl, o, hf _ h⟩
  · exact .inr ⟨off, len, cap, L, rfl, hf _ h, h2⟩
/-- A cursor, its bytes, and the number of draws. -/
def CurH (c kc a : Nat) (H : Heap) : Prop := ∃ (v : SV) (s : Int), hget H c = some (.cells [v, .int a, .lit (.int .u64 s)] 85) ∧ BytV kc v H ∧ kc ≠ c
/-- What draws leave. -/
structure Drawn (c kc a k n : Nat) (H H' : Heap) (n' : Nat) : Prop where
  le : n ≤ n'
  wf : hwf n' H'
  cur : ∃ a', a ≤ a' ∧ a' ≤ a + k ∧ CurH c kc a' H'
  fr : ∀ i o, i < n → i ≠ c → hget H i = some o → hget H' i = some o
theorem u8_in {x : Int} (h : 0 ≤ x ∧ x ≤ 255) : In64 x := by unfold In64; omega
theorem and_255 (x : Int) : 0 ≤ IntKind.u64.wrap ((BitVec.ofInt IntKind.u64.bits x &&& BitVec.ofInt IntKind.u64.bits 255).toNat : Int) ∧ IntKind.u64.wrap ((BitVec.ofInt IntKind.u64.bits x &&& BitVec.ofInt IntKind.u64.bits 255).toNat : Int) ≤ 255 := by
  have h : (BitVec.ofInt IntKind.u64.bits x &&& BitVec.ofInt IntKind.u64.bits 255).toNat ≤ 255 := by
    rw [BitVec.toNat_and]
    exact Nat.le_trans Nat.and_le_right (by decide)
  generalize (BitVec.ofInt IntKind.u64.bits x &&& BitVec.ofInt IntKind.u64.bits 255).toNat = y at h ⊢
  have e : IntKind.u64.wrap (y : Int) = y := by
    unfold IntKind.wrap
    have h2 : ((y : Int) % (2 ^ IntKind.u64.bits : Int)) = y := Int.emod_eq_of_lt (by omega) (by show (y : Int) < 18446744073709551616; omega)
    simp only [h2]
    rfl
  rw [e]; omega
def next_F : List SV → Heap → Nat → Nat → K1 → Prop
  | [.ptr c 0], H, n, m, κ => ∃ kc a, CurH c kc a H ∧ m ≤ c ∧ a ≤ 1000000 ∧ ∀ x H', 0 ≤ x → x ≤ 255 → Drawn c kc a 1 n H H' n → κ (.int x) H' n
  | _, _, _, _, _ => False
theorem next_vc (c kc a m n : Nat) (H : Heap) (hC : CurH c kc a H) (hm : m ≤ c) (ha : a ≤ 1000000) (hwH : hwf n H) :
    codeVC (⟨Tryz.prog, tys, [], [], true, true, m, [], []⟩ : Cx) n (Tryz.f122.body.getD .skip) (argS 0 [.ptr c 0]) H n
      (retK tys Tryz.f122.results.toList fun v H' n' => ∃ x : Int, v = .int x ∧ 0 ≤ x ∧ x ≤ 255 ∧ Drawn c kc a 1 n H H' n ∧ n' = n) := by
  obtain ⟨v, s, h1, h2, h6⟩ := hC
  have hc := (hwH _ _ h1).1
  obtain ⟨hvw, hk⟩ := h2.wf hwH
  have fin : ∀ s', Drawn c kc a 1 n H ((c, .cells [v, .int ((a : Int) + 1), .lit (.int .u64 s')] 85) :: (c, .cells [v, .int ((a : Int) + 1), .lit (.int .u64 s)] 85) :: H) n := fun s' =>
    ⟨Nat.le_refl _, hwf_cons (hwf_cons hwH hc (by simp [SObj.wf, wfL, SV.wf]; exact hvw)) hc (by simp [SObj.wf, wfL, SV.wf]; exact hvw),
      ⟨a + 1, by omega, by omega, v, s', by simp [hget_cons], h2.at (fun o ho => by rw [hget_cons, if_neg h6, hget_cons, if_neg h6]; exact ho), h6⟩,
      fun i o _ hi ho => by rw [hget_cons, if_neg hi, hget_cons, if_neg hi]; exact ho⟩
  rcases h2 with ⟨rfl, o, h2⟩ | ⟨off, len, cap, L, rfl, h2, h3, h4, h5⟩
  · have hil : ¬ (a : Int) < 0 := by omega
    have hil2 : ¬ (a : Int) + 1 ≤ 0 := by omega
    simp -implicitDefEqProofs only [Tryz.f122, Option.getD_some, argS, h1, hil, hil2, ZB, Int.reduceToNat, Nat.reduceLT, Nat.reduceLeDiff, Int.reduceLE, Int.reduceLT, Nat.reduceEqDiff, Nat.reduceSub, SB, SV.known, packR, ne_eq, reduceCtorEq, Nat.reduceEqDiff, ↓reduceIte, if_true, if_false, eq_self, Nat.reduceAdd, Nat.reduceMul, Nat.reduceSub, forall_const, oneCellS, litOne, flat1, Kd.isSca, flat, TYB]
    exact ⟨by unfold In64; omega, hm, hm, u8_in (and_255 _), _, rfl, (and_255 _).1, (and_255 _).2, fin _⟩
  by_cases hal : a < len
  · have hil : (a : Int) < len := by omega
    have hil2 : (a : Int) + 1 ≤ len := by omega
    have gL : off ≤ off + a ∧ off + a < off + L.length := by omega
    have ga : off + a - off = a := by omega
    have bL : 0 ≤ L.getD a 0 ∧ L.getD a 0 ≤ 255 := by
      rw [List.getD_eq_getElem?_getD, List.getElem?_eq_getElem (by omega)]
      exact h5 _ (List.getElem_mem _)
    have iL := u8_in bL
    simp -implicitDefEqProofs only [Tryz.f122, Option.getD_some, argS, h1, h2, hil, hil2, gL, ga, iL, ZB, Int.reduceToNat, Nat.reduceLT, Nat.reduceLeDiff, Int.reduceLE, Int.reduceLT, Nat.reduceEqDiff, Nat.reduceSub, SB, SV.known, packR, ne_eq, reduceCtorEq, Nat.reduceEqDiff, ↓reduceIte, if_true, if_false, eq_self, Nat.reduceAdd, Nat.reduceMul, Nat.reduceSub, forall_const, oneCellS, litOne, flat1, Kd.isSca, flat, TYB]
    exact ⟨by omega, by unfold In64; omega, hm, hm, _, rfl, bL.1, bL.2, fin _⟩
  · have hil : ¬ (a : Int) < len := by omega
    have hil2 : ¬ (a : Int) + 1 ≤ len := by omega
    simp -implicitDefEqProofs only [Tryz.f122, Option.getD_some, argS, h1, h2, hil, hil2, ZB, Int.reduceToNat, Nat.reduceLT, Nat.reduceLeDiff, Int.reduceLE, Int.reduceLT, Nat.reduceEqDiff, Nat.reduceSub, SB, SV.known, packR, ne_eq, reduceCtorEq, Nat.reduceEqDiff, ↓reduceIte, if_true, if_false, eq_self, Nat.reduceAdd, Nat.reduceMul, Nat.reduceSub, forall_const, oneCellS, litOne, flat1, Kd.isSca, flat, TYB]
    exact ⟨by unfold In64; omega, hm, hm, u8_in (and_255 _), _, rfl, (and_255 _).1, (and_255 _).2, fin _⟩
theorem fnx_next : FnOK Tryz.prog 122 Tryz.f122 (Tryz.f122.body.getD .skip) [] [] := ⟨Tryz.func122, rfl, by kernel_rfl, by kernel_rfl⟩
theorem next_T : ∀ args H n m κ, next_F args H n m κ → GenOK Tryz.prog 122 args H n m κ := by
  intro args H n m κ h
  unfold next_F at h
  split at h
  · rename_i c
    obtain ⟨kc, a, hC, hm, ha, h1⟩ := h
    exact gen_direct (X := ⟨Tryz.prog, tys, [], [], true, true, m, [], []⟩) fnx_next ⟨tys_ok, .nil, .nil, mixed⟩ rfl (Nat.le_of_ble_eq_true rfl) (fun hwH hwa => next_vc c kc a m n H hC hm ha hwH) fun hwH v H' n' hψ h3 h4 h5 => by
      obtain ⟨x, rfl, g1, g2, g3, rfl⟩ := hψ
      exact h1 x H' g1 g2 g3
  · exact h.elim
theorem Drawn.trans {c kc a k a' k' n n1 n2 : Nat} {H H1 H2 : Heap} (h1 : Drawn c kc a k n H H1 n1) (h2 : Drawn c kc a' k' n1 H1 H2 n2) (h : a' ≤ a + k) (h' : a ≤ a') : Drawn c kc a (k + k') n H H2 n2 :=
  ⟨Nat.le_trans h1.le h2.le, h2.wf, by
    obtain ⟨b, g1, g2, g3⟩ := h2.cur
    exact ⟨b, by omega, by omega, g3⟩, fun i o hi hc ho => h2.fr i o (Nat.lt_of_lt_of_le hi h1.le) hc (h1.fr i o hi hc ho)⟩
theorem Drawn.more {c kc a k k' n n1 : Nat} {H H1 : Heap} (h1 : Drawn c kc a k n H H1 n1) (h : k ≤ k') : Drawn c kc a k' n H H1 n1 :=
  ⟨h1.le, h1.wf, by
    obtain ⟨b, g1, g2, g3⟩ := h1.cur
    exact ⟨b, g1, by omega, g3⟩, h1.fr⟩
/-- A number below another one. -/
def pick_F : List SV → Heap → Nat → Nat → K1 → Prop
  | [.ptr c 0, .int k], H, n, m, κ => ∃ kc a, CurH c kc a H ∧ m ≤ c ∧ a ≤ 999990 ∧ ∀ (x : Int) H', 0 ≤ x → (x < k ∨ x = 0) → Drawn c kc a 2 n H H' n → κ (.int x) H' n
  | _, _, _, _, _ => False
theorem pick_vc (c kc a m n : Nat) (k : Int) (H : Heap) (hC : CurH c kc a H) (hm : m ≤ c) (ha : a ≤ 999990) (hwH : hwf n H) :
    codeVC (⟨Tryz.prog, tys, [], [(122, next_F)], true, true, m, [122], []⟩ : Cx) n (Tryz.f68.body.getD .skip) (argS 0 [.ptr c 0, .int k]) H n
      (retK tys Tryz.f68.results.toList fun v H' n' => ∃ x : Int, v = .int x ∧ 0 ≤ x ∧ (x < k ∨ x = 0) ∧ Drawn c kc a 2 n H H' n ∧ n' = n) := by
  have d0 : Drawn c kc a 2 n H H n := ⟨Nat.le_refl _, hwH, ⟨a, Nat.le_refl _, by omega, hC⟩, fun i o _ _ h => h⟩
  by_cases hk : k ≤ 1
  · simp -implicitDefEqProofs only [Tryz.f68, Option.getD_some, argS, hk, ZB, Int.reduceToNat, Nat.reduceLT, Nat.reduceLeDiff, Int.reduceLE, Int.reduceLT, Nat.reduceEqDiff, Nat.reduceSub, SB, SV.known, packR, ne_eq, reduceCtorEq, Nat.reduceEqDiff, ↓reduceIte, if_true, if_false, eq_self, Nat.reduceAdd, Nat.reduceMul, Nat.reduceSub, forall_const, oneCellS, litOne, flat1, Kd.isSca, flat, TYB]
    exact ⟨0, rfl, Int.le_refl _, .inr rfl, d0⟩
  · simp -implicitDefEqProofs only [Tryz.f68, Option.getD_some, argS, next_F, hk, ZB, Int.reduceToNat, Nat.reduceLT, Nat.reduceLeDiff, Int.reduceLE, Int.reduceLT, Nat.reduceEqDiff, Nat.reduceSub, SB, SV.known, packR, ne_eq, reduceCtorEq, Nat.reduceEqDiff, ↓reduceIte, if_true, if_false, eq_self, Nat.reduceAdd, Nat.reduceMul, Nat.reduceSub, forall_const, oneCellS, litOne, flat1, Kd.isSca, flat, TYB]
    refine ⟨kc, a, hC, hm, by omega, fun x H1 hx0 hx1 hd1 => ?_⟩
    obtain ⟨a1, ha1, ha1', hC1⟩ := hd1.cur
    by_cases hk2 : 200 < k
    · simp -implicitDefEqProofs only [next_F, hk2, ZB, Int.reduceToNat, Nat.reduceLT, Nat.reduceLeDiff, Int.reduceLE, Int.reduceLT, Nat.reduceEqDiff, Nat.reduceSub, SB, SV.known, packR, ne_eq, reduceCtorEq, Nat.reduceEqDiff, ↓reduceIte, if_true, if_false, eq_self, Nat.reduceAdd, Nat.reduceMul, Nat.reduceSub, forall_const, oneCellS, litOne, flat1, Kd.isSca, flat, TYB]
      refine ⟨⟨by unfold In64; omega, kc, a1, hC1, hm, by omega, fun y H2 hy0 hy1 hd2 => ?_⟩, fun h => absurd trivial h⟩
      have hr := Int.tmod_lt_of_pos (x * 256 + y) (show 0 < k by omega)
      have hr0 := Int.tmod_nonneg k (show 0 ≤ x * 256 + y by omega)
      exact ⟨by unfold In64; omega, by omega, _, rfl, hr0, .inl hr, hd1.trans hd2 ha1' ha1⟩
    · simp -implicitDefEqProofs only [next_F, hk2, ZB, Int.reduceToNat, Nat.reduceLT, Nat.reduceLeDiff, Int.reduceLE, Int.reduceLT, Nat.reduceEqDiff, Nat.reduceSub, SB, SV.known, packR, ne_eq, reduceCtorEq, Nat.reduceEqDiff, ↓reduceIte, if_true, if_false, eq_self, Nat.reduceAdd, Nat.reduceMul, Nat.reduceSub, forall_const, oneCellS, litOne, flat1, Kd.isSca, flat, TYB]
      exact ⟨by omega, _, rfl, Int.tmod_nonneg k hx0, .inl (Int.tmod_lt_of_pos x (show 0 < k by omega)), hd1.more (by omega)⟩
theorem fnx_pick : FnOK Tryz.prog 68 Tryz.f68 (Tryz.f68.body.getD .skip) [122] [] := ⟨Tryz.func68, rfl, by kernel_rfl, by kernel_rfl⟩
theorem pick_T : ∀ args H n m κ, pick_F args H n m κ → GenOK Tryz.prog 68 args H n m κ := by
  intro args H n m κ h
  unfold pick_F at h
  split at h
  · rename_i c k
    obtain ⟨kc, a, hC, hm, ha, h1⟩ := h
    exact gen_direct (X := ⟨Tryz.prog, tys, [], [(122, next_F)], true, true, m, [122], []⟩) fnx_pick ⟨tys_ok, .nil, .cons next_T .nil, mixed⟩ rfl (Nat.le_of_ble_eq_true rfl) (fun hwH hwa => pick_vc c kc a m n k H hC hm ha hwH) fun hwH v H' n' hψ h3 h4 h5 => by
      obtain ⟨x, rfl, g1, g2, g3, rfl⟩ := hψ
      exact h1 x H' g1 g2 g3
  · exact h.elim
def one_F : List SV → Heap → Nat → Nat → K1 → Prop
  | [.ptr c 0, .int _], H, n, m, κ => ∃ kc a, CurH c kc a H ∧ m ≤ c ∧ a ≤ 999990 ∧ ∀ (b : Bool) H', Drawn c kc a 2 n H H' n → κ (.bool b) H' n
  | _, _, _, _, _ => False
theorem one_vc (c kc a m n : Nat) (k : Int) (H : Heap) (hC : CurH c kc a H) (hm : m ≤ c) (ha : a ≤ 999990) (hwH : hwf n H) :
    codeVC (⟨Tryz.prog, tys, [], [(68, pick_F)], true, true, m, [68], []⟩ : Cx) n (Tryz.f78.body.getD .skip) (argS 0 [.ptr c 0, .int k]) H n
      (retK tys Tryz.f78.results.toList fun v H' n' => ∃ b : Bool, v = .bool b ∧ Drawn c kc a 2 n H H' n ∧ n' = n) := by
  simp -implicitDefEqProofs only [Tryz.f78, Option.getD_some, argS, pick_F, ZB, Int.reduceToNat, Nat.reduceLT, Nat.reduceLeDiff, Int.reduceLE, Int.reduceLT, Nat.reduceEqDiff, Nat.reduceSub, SB, SV.known, packR, ne_eq, reduceCtorEq, Nat.reduceEqDiff, ↓reduceIte, if_true, if_false, eq_self, Nat.reduceAdd, Nat.reduceMul, Nat.reduceSub, forall_const, oneCellS, litOne, flat1, Kd.isSca, flat, TYB]
  exact ⟨kc, a, hC, hm, ha, fun x H1 _ _ hd1 => ⟨_, rfl, hd1⟩⟩
theorem fnx_one : FnOK Tryz.prog 78 Tryz.f78 (Tryz.f78.body.getD .skip) [68] [] := ⟨Tryz.func78, rfl, by kernel_rfl, by kernel_rfl⟩
theorem one_T : ∀ args H n m κ, one_F args H n m κ → GenOK Tryz.prog 78 args H n m κ := by
  intro args H n m κ h
  unfold one_F at h
  split at h
  · rename_i c k
    obtain ⟨kc, a, hC, hm, ha, h1⟩ := h
    exact gen_direct (X := ⟨Tryz.prog, tys, [], [(68, pick_F)], true, true, m, [68], []⟩) fnx_one ⟨tys_ok, .nil, .cons pick_T .nil, mixed⟩ rfl (Nat.le_of_ble_eq_true rfl) (fun hwH hwa => one_vc c kc a m n k H hC hm ha hwH) fun hwH v H' n' hψ h3 h4 h5 => by
      obtain ⟨b, rfl, g3, rfl⟩ := hψ
      exact h1 b H' g3
  · exact h.elim
/-- One of some numbers. -/
def among_F : List SV → Heap → Nat → Nat → K1 → Prop
  | [.ptr c 0, .slice b 0 len _], H, n, m, κ => match hget H b with
    | some (.ints L _) => 0 < len ∧ len ≤ L.length ∧ len ≤ 1000 ∧ b < n ∧ b ≠ c ∧ ∃ kc a, CurH c kc a H ∧ m ≤ c ∧ a ≤ 999990 ∧ ∀ (i : Nat) H', i < len → Drawn c kc a 2 n H H' n → κ (.int (L.getD i 0)) H' n
    | _ => False
  | _, _, _, _, _ => False
theorem among_vc (c kc a m n b len cap e : Nat) (L : List Int) (H : Heap) (hb : hget H b = some (.ints L e)) (hl : 0 < len ∧ len ≤ L.length) (hl2 : len ≤ 1000) (hbn : b < n) (hbc : b ≠ c) (hC : CurH c kc a H) (hm : m ≤ c) (ha : a ≤ 999990) (hwH : hwf n H) :
    codeVC (⟨Tryz.prog, tys, [], [(68, pick_F)], true, true, m, [68], []⟩ : Cx) n (Tryz.f67.body.getD .skip) (argS 0 [.ptr c 0, .slice b 0 len cap]) H n
      (retK tys Tryz.f67.results.toList fun v H' n' => ∃ i : Nat, v = .int (L.getD i 0) ∧ i < len ∧ Drawn c kc a 2 n H H' n ∧ n' = n) := by
  simp -implicitDefEqProofs only [Tryz.f67, Option.getD_some, argS, pick_F, hb, ZB, Int.reduceToNat, Nat.reduceLT, Nat.reduceLeDiff, Int.reduceLE, Int.reduceLT, Nat.reduceEqDiff, Nat.reduceSub, SB, SV.known, packR, ne_eq, reduceCtorEq, Nat.reduceEqDiff, ↓reduceIte, if_true, if_false, eq_self, Nat.reduceAdd, Nat.reduceMul, Nat.reduceSub, forall_const, oneCellS, litOne, flat1, Kd.isSca, flat, TYB]
  refine ⟨kc, a, hC, hm, ha, fun x H1 hx0 hx1 hd1 => ?_⟩
  obtain ⟨i, rfl⟩ : ∃ i : Nat, x = i := ⟨x.toNat, by omega⟩
  have hi : i < len := by omega
  have hil : (i : Int) < len := by omega
  have hb1 := hd1.fr b _ hbn hbc hb
  simp -implicitDefEqProofs only [hb1, hil, ZB, Int.reduceToNat, Nat.reduceLT, Nat.reduceLeDiff, Int.reduceLE, Int.reduceLT, Nat.reduceEqDiff, Nat.reduceSub, SB, SV.known, packR, ne_eq, reduceCtorEq, Nat.reduceEqDiff, ↓reduceIte, if_true, if_false, eq_self, Nat.reduceAdd, Nat.reduceMul, Nat.reduceSub, forall_const, oneCellS, litOne, flat1, Kd.isSca, flat, TYB]
  exact ⟨by omega, by omega, i, rfl, hi, hd1⟩
theorem fnx_among : FnOK Tryz.prog 67 Tryz.f67 (Tryz.f67.body.getD .skip) [68] [] := ⟨Tryz.func67, rfl, by kernel_rfl, by kernel_rfl⟩
theorem among_T : ∀ args H n m κ, among_F args H n m κ → GenOK Tryz.prog 67 args H n m κ := by
  intro args H n m κ h
  unfold among_F at h
  split at h
  · rename_i c b len cap
    split at h
    · rename_i L e hb
      obtain ⟨g1, g2, g3, g4, g5, kc, a, hC, hm, ha, h1⟩ := h
      exact gen_direct (X := ⟨Tryz.prog, tys, [], [(68, pick_F)], true, true, m, [68], []⟩) fnx_among ⟨tys_ok, .nil, .cons pick_T .nil, mixed⟩ rfl (Nat.le_of_ble_eq_true rfl) (fun hwH hwa => among_vc c kc a m n b len cap e L H hb ⟨g1, g2⟩ g3 g4 g5 hC hm ha hwH) fun hwH v H' n' hψ h3 h4 h5 => by
        obtain ⟨i, rfl, hi, g6, rfl⟩ := hψ
        exact h1 i H' hi g6
    · exact h.elim
  · exact h.elim
theorem CurH.lt {c kc a n : Nat} {H : Heap} (h : CurH c kc a H) (hw : hwf n H) : c < n ∧ kc < n ∧ kc ≠ c := by
  obtain ⟨v, s, h1, h2, h6⟩ := h
  exact ⟨(hw _ _ h1).1, (h2.wf hw).2, h6⟩
theorem CurH.cons {c kc a k : Nat} {H : Heap} (h : CurH c kc a H) (o : SObj) (h1 : k ≠ c) (h2 : k ≠ kc) : CurH c kc a ((k, o) :: H) := by
  obtain ⟨v, s, g1, g2, g6⟩ := h
  exact ⟨v, s, by rw [hget_cons, if_neg (fun e => h1 e.symm)]; exact g1, g2.at (fun o ho => by rw [hget_cons, if_neg (fun e => h2 e.symm)]; exact ho), g6⟩
/-- A block put beside. -/
theorem Drawn.put {c kc a k n0 n n' k0 : Nat} {H0 H : Heap} (h : Drawn c kc a k n0 H0 H n) (hc : c < n0 ∧ kc < n0 ∧ kc ≠ c) (o : SObj) (h0 : n0 ≤ k0) (hk : k0 < n') (hn : n ≤ n') (ho : o.wf n') : Drawn c kc a k n0 H0 ((k0, o) :: H) n' := by
  obtain ⟨b, g1, g2, g3⟩ := h.cur
  exact ⟨Nat.le_trans h.le hn, hwf_cons (hwf_mono hn h.wf) hk ho, ⟨b, g1, g2, g3.cons o (by omega) (by omega)⟩, fun i o' hi hic ho' => by
    rw [hget_cons, if_neg (by omega)]
    exact h.fr i o' hi hic ho'⟩
theorem Drawn.start {c kc a n : Nat} {H : Heap} (h : CurH c kc a H) (hw : hwf n H) : Drawn c kc a 0 n H H n := ⟨Nat.le_refl _, hw, ⟨a, Nat.le_refl _, Nat.le_refl _, h⟩, fun _ _ _ _ h => h⟩
/-- One of a few numbers, drawn from a list just made. -/
theorem among_new {c kc a k n0 n m : Nat} {H0 H : Heap} {κ : K1} (h : Drawn c kc a k n0 H0 H n) (hC : CurH c kc a H0) (hw0 : hwf n0 H0) (hm : m ≤ c) (ha : a + k ≤ 999980) (L : List Int) (e len cap : Nat) (hl : 0 < len ∧ len ≤ L.length) (hl2 : len ≤ 1000)
    (hκ : ∀ (i : Nat) H', i < len → Drawn c kc a (k + 2) n0 H0 H' (n + 1) → κ (.int (L.getD i 0)) H' (n + 1)) : among_F [.ptr c 0, .slice n 0 len cap] ((n, .ints L e) :: H) (n + 1) m κ := by
  obtain ⟨q1, q2, q3⟩ := hC.lt hw0
  have h2 := h.put (hC.lt hw0) (k0 := n) (n' := n + 1) (.ints L e) h.le (by omega) (by omega) trivial
  obtain ⟨b, g1, g2, g3⟩ := h2.cur
  have hle := h.le
  simp only [among_F, hget_cons, if_true]
  exact ⟨hl.1, hl.2, hl2, by omega, by omega, kc, b, g3, hm, by omega, fun i H' hi hd => hκ i H' hi (h2.trans hd g2 g1)⟩
def place_F : List SV → Heap → Nat → Nat → K1 → Prop
  | [.ptr c 0], H, n, m, κ => ∃ kc a, CurH c kc a H ∧ m ≤ c ∧ a ≤ 999900 ∧ ∀ (x : Int) H' n', In64 x → Drawn c kc a 4 n H H' n' → κ (.int x) H' n'
  | _, _, _, _, _ => False
theorem place_vc (c kc a m n : Nat) (H : Heap) (hC : CurH c kc a H) (hm : m ≤ c) (ha : a ≤ 999900) (hwH : hwf n H) :
    codeVC (⟨Tryz.prog, tys, [], [(68, pick_F), (78, one_F), (67, among_F)], true, true, m, [68, 78, 67], []⟩ : Cx) n (Tryz.f134.body.getD .skip) (argS 0 [.ptr c 0]) H n
      (retK tys Tryz.f134.results.toList fun v H' n' => ∃ x : Int, v = .int x ∧ In64 x ∧ Drawn c kc a 4 n H H' n') := by
  simp -implicitDefEqProofs only [Tryz.f134, Option.getD_some, argS, one_F, ZB, Int.reduceToNat, Nat.reduceLT, Nat.reduceLeDiff, Int.reduceLE, Int.reduceLT, Nat.reduceEqDiff, Nat.reduceSub, SB, SV.known, packR, ne_eq, reduceCtorEq, Nat.reduceEqDiff, ↓reduceIte, if_true, if_false, eq_self, Nat.reduceAdd, Nat.reduceMul, Nat.reduceSub, forall_const, oneCellS, litOne, flat1, Kd.isSca, flat, TYB]
  refine ⟨kc, a, hC, hm, by omega, fun b H1 hd1 => ?_⟩
  obtain ⟨a1, ha1, ha1', hC1⟩ := hd1.cur
  cases b
  · simp -implicitDefEqProofs only [pick_F, ZB, Int.reduceToNat, Nat.reduceLT, Nat.reduceLeDiff, Int.reduceLE, Int.reduceLT, Nat.reduceEqDiff, Nat.reduceSub, SB, SV.known, packR, ne_eq, reduceCtorEq, Nat.reduceEqDiff, ↓reduceIte, if_true, if_false, eq_self, Nat.reduceAdd, Nat.reduceMul, Nat.reduceSub, forall_const, oneCellS, litOne, flat1, Kd.isSca, flat, TYB]
    exact ⟨kc, a1, hC1, hm, by omega, fun x H2 hx0 hx1 hd2 => ⟨x, rfl, by unfold In64; omega, hd1.trans hd2 ha1' ha1⟩⟩
  · simp -implicitDefEqProofs only [ZB, Int.reduceToNat, Nat.reduceLT, Nat.reduceLeDiff, Int.reduceLE, Int.reduceLT, Nat.reduceEqDiff, Nat.reduceSub, SB, SV.known, packR, ne_eq, reduceCtorEq, Nat.reduceEqDiff, ↓reduceIte, if_true, if_false, eq_self, Nat.reduceAdd, Nat.reduceMul, Nat.reduceSub, forall_const, oneCellS, litOne, flat1, Kd.isSca, flat, TYB]
    refine among_new hd1 hC hwH hm (by omega) _ _ _ _ (by simp) (by omega) fun i H' hi hd => ?_
    have hI : In64 (([-1, 6, 4611686018427387904] : List Int).getD i 0) := by
      match i, hi with
      | 0, _ => simp [In64]
      | 1, _ => simp [In64]
      | 2, _ => simp [In64]
    simp -implicitDefEqProofs only [ZB, Int.reduceToNat, Nat.reduceLT, Nat.reduceLeDiff, Int.reduceLE, Int.reduceLT, Nat.reduceEqDiff, Nat.reduceSub, SB, SV.known, packR, ne_eq, reduceCtorEq, Nat.reduceEqDiff, ↓reduceIte, if_true, if_false, eq_self, Nat.reduceAdd, Nat.reduceMul, Nat.reduceSub, forall_const, oneCellS, litOne, flat1, Kd.isSca, flat, TYB]
    exact ⟨_, rfl, hI, hd⟩
theorem fnx_place : FnOK Tryz.prog 134 Tryz.f134 (Tryz.f134.body.getD .skip) [68, 78, 67] [] := ⟨Tryz.func134, rfl, by kernel_rfl, by kernel_rfl⟩
theorem place_T : ∀ args H n m κ, place_F args H n m κ → GenOK Tryz.prog 134 args H n m κ := by
  intro args H n m κ h
  unfold place_F at h
  split at h
  · rename_i c
    obtain ⟨kc, a, hC, hm, ha, h1⟩ := h
    exact gen_direct (X := ⟨Tryz.prog, tys, [], [(68, pick_F), (78, one_F), (67, among_F)], true, true, m, [68, 78, 67], []⟩) fnx_place ⟨tys_ok, .nil, .cons pick_T (.cons one_T (.cons among_T .nil)), mixed⟩ rfl (Nat.le_of_ble_eq_true rfl) (fun hwH hwa => place_vc c kc a m n H hC hm ha hwH) fun hwH v H' n' hψ h3 h4 h5 => by
      obtain ⟨x, rfl, hI, g3⟩ := hψ
      exact h1 x H' n' hI g3
  · exact h.elim
theorem Drawn.push {c kc a k n0 n : Nat} {H0 H : Heap} (h : Drawn c kc a k n0 H0 H n) (hc : c < n0 ∧ kc < n0 ∧ kc ≠ c) (o : SObj) (ho : o.wf (n + 1)) : Drawn c kc a k n0 H0 ((n, o) :: H) (n + 1) := h.put hc o h.le (by omega) (by omega) ho
theorem Drawn.pushI {c kc a k n0 n : Nat} {H0 H : Heap} (h : Drawn c kc a k n0 H0 H n) (hc : c < n0 ∧ kc < n0 ∧ kc ≠ c) {L : List Int} {e : Nat} : Drawn c kc a k n0 H0 ((n, .ints L e) :: H) (n + 1) := h.push hc _ trivial
theorem Drawn.putI {c kc a k n0 n k0 : Nat} {H0 H : Heap} (h : Drawn c kc a k n0 H0 H n) (hc : c < n0 ∧ kc < n0 ∧ kc ≠ c) {L : List Int} {e : Nat} (h0 : n0 ≤ k0) (hk : k0 < n) : Drawn c kc a k n0 H0 ((k0, .ints L e) :: H) n := h.put hc _ h0 hk (Nat.le_refl _) trivial
/-- What is kept of one's own blocks. -/
def Fr (n0 n : Nat) (H H' : Heap) : Prop := ∀ j o, n0 ≤ j → j < n → hget H j = some o → hget H' j = some o
theorem Fr.use {n0 n j : Nat} {H H' : Heap} {o : SObj} (h : Fr n0 n H H') (h1 : n0 ≤ j) (h2 : j < n) (h3 : hget H j = some o) : hget H' j = some o := h j o h1 h2 h3
theorem Drawn.own {c kc a k n0 n n' : Nat} {H H' : Heap} (h : Drawn c kc a k n H H' n') (hc : c < n0) : Fr n0 n H H' := fun j o h1 h2 h3 => h.fr j o h2 (by omega) h3
theorem among_use {c kc a k n0 n m b len cap e : Nat} {H0 H : Heap} {κ : K1} {L : List Int} (h : Drawn c kc a k n0 H0 H n) (hc : c < n0 ∧ kc < n0 ∧ kc ≠ c) (hm : m ≤ c) (ha : a + k ≤ 999980) (hb : hget H b = some (.ints L e)) (h0 : n0 ≤ b) (hl : 0 < len ∧ len ≤ L.length ∧ len ≤ 1000)
    (hκ : ∀ (x : Int) H', x ∈ L → Drawn c kc a (k + 2) n0 H0 H' n → Fr n0 n H H' → κ (.int x) H' n) : among_F [.ptr c 0, .slice b 0 len cap] H n m κ := by
  obtain ⟨b', g1, g2, g3⟩ := h.cur
  have hbn := (h.wf _ _ hb).1
  simp only [among_F, hb]
  refine ⟨hl.1, hl.2.1, hl.2.2, hbn, by omega, kc, b', g3, hm, by omega, fun i H' hi hd => hκ _ H' ?_ (h.trans hd g2 g1) (hd.own hc.1)⟩
  rw [List.getD_eq_getElem?_getD, List.getElem?_eq_getElem (by omega)]
  exact List.getElem_mem _
theorem pick_use {c kc a k n0 n m : Nat} {H0 H : Heap} {κ : K1} (h : Drawn c kc a k n0 H0 H n) (hc : c < n0 ∧ kc < n0 ∧ kc ≠ c) (hm : m ≤ c) (ha : a + k ≤ 999980) {z : Int}
    (hκ : ∀ (x : Int) H', 0 ≤ x → (x < z ∨ x = 0) → Drawn c kc a (k + 2) n0 H0 H' n → Fr n0 n H H' → κ (.int x) H' n) : pick_F [.ptr c 0, .int z] H n m κ := by
  obtain ⟨b', g1, g2, g3⟩ := h.cur
  exact ⟨kc, b', g3, hm, by omega, fun x H' h1 h2 hd => hκ x H' h1 h2 (h.trans hd g2 g1) (hd.own hc.1)⟩
theorem one_use {c kc a k n0 n m : Nat} {H0 H : Heap} {κ : K1} (h : Drawn c kc a k n0 H0 H n) (hc : c < n0 ∧ kc < n0 ∧ kc ≠ c) (hm : m ≤ c) (ha : a + k ≤ 999980) {z : Int}
    (hκ : ∀ (x : Bool) H', Drawn c kc a (k + 2) n0 H0 H' n → Fr n0 n H H' → κ (.bool x) H' n) : one_F [.ptr c 0, .int z] H n m κ := by
  obtain ⟨b', g1, g2, g3⟩ := h.cur
  exact ⟨kc, b', g3, hm, by omega, fun x H' hd => hκ x H' (h.trans hd g2 g1) (hd.own hc.1)⟩
theorem place_use {c kc a k n0 n m : Nat} {H0 H : Heap} {κ : K1} (h : Drawn c kc a k n0 H0 H n) (hc : c < n0 ∧ kc < n0 ∧ kc ≠ c) (hm : m ≤ c) (ha : a + k ≤ 999900)
    (hκ : ∀ (x : Int) H' n', In64 x → Drawn c kc a (k + 4) n0 H0 H' n' → n ≤ n' → Fr n0 n H H' → κ (.int x) H' n') : place_F [.ptr c 0] H n m κ := by
  obtain ⟨b', g1, g2, g3⟩ := h.cur
  exact ⟨kc, b', g3, hm, by omega, fun x H' n' hI hd => hκ x H' n' hI (h.trans hd g2 g1) hd.le (hd.own hc.1)⟩
end Go.Proofs.YtmccafjblhbmkaaGreat
