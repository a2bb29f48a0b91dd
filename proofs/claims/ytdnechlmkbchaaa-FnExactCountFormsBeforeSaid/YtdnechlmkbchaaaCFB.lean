/- Walks: CountFormsBefore. -/
import Derived.Test.YtdnechlmkbchaaaRbL
set_option maxRecDepth 100000
set_option linter.unusedSimpArgs false
set_option linter.unusedVariables false
namespace Go.Proofs.Ytdnechlmkbchaaa
open Go Go.RowKit
def fms (Q : List (List Int)) : List (List Int) := Q.map frm
theorem fms_24 {Q : List (List Int)} (h : all24 Q) : all24 (fms Q) := fun x hx => by
  obtain ⟨y, hy, rfl⟩ := List.mem_map.1 hx
  exact frm_len (h y hy)
theorem fms_take {Q : List (List Int)} (i : Nat) (hi : i < Q.length) : fms (Q.take (i + 1)) = fms (Q.take i) ++ [frm (Q.getD i [])] := by
  unfold fms
  rw [take_succ_getD Q i hi, List.map_append]; rfl
theorem nwF_nodup (xs : List (List Int)) : (nwF [] xs).Nodup := by
  refine snoc_ind (P := fun xs => (nwF [] xs).Nodup) (by simp [nwF]) (fun l x ih => ?_) xs
  by_cases h : x ∈ [] ++ nwF [] l
  · rw [nwF_old h]; exact ih
  · rw [nwF_new h, List.nodup_append]
    refine ⟨ih, by simp, fun a ha b hb hab => ?_⟩
    rw [List.mem_singleton] at hb
    subst hb; subst hab
    exact h (by simpa using ha)
theorem insA_count {w : Nat} {xs : List (List Int)} (h : ∀ x ∈ xs, x.length = w) : (insA [] xs).length = (nwF [] xs).length := by
  have n1 : (insA [] xs).Nodup := (insA_pw xs h).imp fun {a b} hab he => by subst he; rw [lexC_refl] at hab; omega
  have n2 := nwF_nodup xs
  refine ((List.perm_ext_iff_of_nodup n1 n2).2 fun z => ?_).length_eq
  rw [insA_mem]
  exact ⟨fun hz => by simpa using nwF_all [] xs z hz, fun hz => (nwF_sub [] xs z hz).1⟩
def cfF (R : List Int) : Int := if rackB R = true then (nwF [] (fms (befL R))).length else 0
--@tbl CountFormsBefore = impl.CountFormsBefore
--@tbl sCountFormsBefore = spec.CountFormsBefore
theorem CountFormsBefore_ok (R : List Int) (hR : R.length = 24) : PureH Try.prog 24 [.arr R] [] (.tup [.int (cfF R), .bool (rackB R)]) := by
  have tkR : R.take 24 = R := List.take_of_length_le (by omega)
  unfold cfF
  cases hr : rackB R
  · refine pure_of_vc (X := ⟨Try.prog, tys, [(51, IsRack_F), (54, formOf_F)], [(63, before_F)], true, true, 0, [], []⟩) fn_24 ⟨tys_ok, (.cons IsRack_T (.cons formOf_T .nil)), (.cons before_T .nil), mixed⟩ (n0 := 0) (Nat.le_of_ble_eq_true rfl) (by simp [wfL, SV.wf]) (wfH_spec (by simp [wfH, SObj.wf])) (Nat.le_refl _) (fun _ => by simp [SV.wf, wfL]) ?_
    simp -implicitDefEqProofs only [Try.f24, Option.getD_some, argS, IsRack_F, formOf_F, before_F, hR, tkR, hr, freshK, Wrap.ap, ZB, Int.reduceToNat, Nat.reduceLT, Nat.reduceLeDiff, Int.reduceLE, Int.reduceLT, Nat.reduceEqDiff, Nat.reduceSub, SB, SV.known, packR, ne_eq, reduceCtorEq, Nat.reduceEqDiff, ↓reduceIte, if_true, if_false, eq_self, Nat.reduceAdd, Nat.reduceMul, Nat.reduceSub, forall_const, oneCellS, Kd.isSca, flat, TYB]
  · have b24 := befL_24 hR
    have bl := befL_le hR
    refine pure_of_vc (X := ⟨Try.prog, tys, [(51, IsRack_F), (54, formOf_F)], [(63, before_F)], true, true, 0, [], []⟩) fn_24 ⟨tys_ok, (.cons IsRack_T (.cons formOf_T .nil)), (.cons before_T .nil), mixed⟩ (n0 := 0) (Nat.le_of_ble_eq_true rfl) (by simp [wfL, SV.wf]) (wfH_spec (by simp [wfH, SObj.wf])) (Nat.le_refl _) (fun _ => by simp [SV.wf, wfL]) ?_
    simp -implicitDefEqProofs only [Try.f24, Option.getD_some, argS, IsRack_F, formOf_F, before_F, hR, tkR, hr, freshK, Wrap.ap, ZB, Int.reduceToNat, Nat.reduceLT, Nat.reduceLeDiff, Int.reduceLE, Int.reduceLT, Nat.reduceEqDiff, Nat.reduceSub, SB, SV.known, packR, ne_eq, reduceCtorEq, Nat.reduceEqDiff, ↓reduceIte, if_true, if_false, eq_self, Nat.reduceAdd, Nat.reduceMul, Nat.reduceSub, forall_const, oneCellS, Kd.isSca, flat, TYB]
    generalize befL R = B at *
    have bf := flat_len b24
    refine ⟨fun h0 => ?_, fun h0 cp jp hjp => ?_⟩
    · obtain rfl : B = [] := List.length_eq_zero_iff.1 (by rw [h0] at bf; simp at bf; omega)
      refine loop_intro (fun _ : Unit => [(14, .int 0), (13, .int 0), (12, .nils), (4, .mp 1), (1, .ptr 0 0)]) (fun _ => [(1, .mp true []), (0, .ints R 29)]) 2 (fun _ => True) (fun _ => 0) ?_ ?_
      · refine ⟨(), trivial, Sub.mk_id ?_ ?_ ?_ ?_ ?_⟩
        all_goals ((try simp only [LB, subS, subH, wfS, wfH, SV.ren, renL, SObj.ren, SV.wf, SObj.wf, wfL, SV.known, Nat.reduceEqDiff, ↓reduceIte, if_true, if_false, eq_self, Nat.reduceAdd, Nat.reduceLT, Nat.reduceLeDiff, implies_true, reduceCtorEq, forall_const]) <;> simp)
      · intro _ _
        simp -implicitDefEqProofs only [lk_normal, Int.lt_irrefl, ZB, Int.reduceToNat, Nat.reduceLT, Nat.reduceLeDiff, Int.reduceLE, Int.reduceLT, Nat.reduceEqDiff, Nat.reduceSub, SB, SV.known, packR, ne_eq, reduceCtorEq, Nat.reduceEqDiff, ↓reduceIte, if_true, if_false, eq_self, Nat.reduceAdd, Nat.reduceMul, Nat.reduceSub, forall_const, oneCellS, Kd.isSca, flat, TYB]
        rfl
    · have lenP : (B.flatten ++ jp).length = cp * 24 := by rw [List.length_append]; omega
      refine loop_intro (fun s : Nat => [(14, .int s), (13, .int B.length), (12, .slice 2 0 B.length cp), (4, .mp 1), (1, .ptr 0 0)])
        (fun s => [(2, .ints (B.flatten ++ jp) 29), (1, .mp true (mk1 (nwF [] (fms (B.take s))))), (0, .ints R 29)]) 3
        (fun s => s ≤ B.length) (fun s => B.length - s) ?_ ?_
      · refine ⟨0, by omega, Sub.mk_id ?_ ?_ ?_ ?_ ?_⟩
        all_goals ((try simp only [LB, subS, subH, wfS, wfH, SV.ren, renL, SObj.ren, SV.wf, SObj.wf, wfL, SV.known, Nat.reduceEqDiff, ↓reduceIte, if_true, if_false, eq_self, Nat.reduceAdd, Nat.reduceLT, Nat.reduceLeDiff, implies_true, reduceCtorEq, forall_const]) <;> simp [fms, nwF, mk1])
      · intro i hi
        have f24 := fms_24 (fun x hx => b24 x (List.mem_of_mem_take hx) : all24 (B.take i))
        have n24 : all24 (nwF [] (fms (B.take i))) := fun x hx => f24 x (nwF_sub _ _ x hx).1
        by_cases hlt : i < B.length
        · have hil : (i : Int) < B.length := by omega
          have eP : List.take 24 (List.drop (i * 24) (B.flatten ++ jp)) = B.getD i [] := flat_get b24 hlt jp
          have xm := getD_mem hlt
          have x24 := b24 _ xm
          have es := fms_take i hlt
          have fl : (frm (B.getD i [])).length = 24 := frm_len x24
          have kI := keyI_rack
          have kOK := mk1_keys n24
          have tkx : List.take 24 (B.getD i []) = B.getD i [] := List.take_of_length_le (by omega)
          have ms : mset (mk1 (nwF [] (fms (B.take i)))) (frm (B.getD i [])) 1 = mk1 (nwF [] (fms (B.take (i + 1)))) := by
            rw [es]
            by_cases hin : frm (B.getD i []) ∈ nwF [] (fms (B.take i))
            · rw [mset_mk1_in hin, nwF_old (by simpa using hin)]
            · rw [mset_mk1 hin, nwF_new (by simpa using hin)]
          generalize B.getD i [] = x at *
          simp -implicitDefEqProofs only [lk_normal, formOf_F, hil, eP, lenP, x24, tkx, fl, kI, kOK, ms, ZB, Int.reduceToNat, Nat.reduceLT, Nat.reduceLeDiff, Int.reduceLE, Int.reduceLT, Nat.reduceEqDiff, Nat.reduceSub, SB, SV.known, packR, ne_eq, reduceCtorEq, Nat.reduceEqDiff, ↓reduceIte, if_true, if_false, eq_self, Nat.reduceAdd, Nat.reduceMul, Nat.reduceSub, forall_const, oneCellS, Kd.isSca, flat, TYB]
          refine ⟨by omega, by omega, by unfold In64; omega, i + 1, by omega, by omega, Sub.mk_id ?_ ?_ ?_ ?_ ?_⟩
          all_goals ((try simp only [LB, subS, subH, wfS, wfH, SV.ren, renL, SObj.ren, SV.wf, SObj.wf, wfL, SV.known, Nat.reduceEqDiff, ↓reduceIte, if_true, if_false, eq_self, Nat.reduceAdd, Nat.reduceLT, Nat.reduceLeDiff, implies_true, reduceCtorEq, forall_const]) <;> simp)
        · have hil : ¬ (i : Int) < B.length := by omega
          obtain rfl : i = B.length := by omega
          simp -implicitDefEqProofs only [lk_normal, hil, ZB, Int.reduceToNat, Nat.reduceLT, Nat.reduceLeDiff, Int.reduceLE, Int.reduceLT, Nat.reduceEqDiff, Nat.reduceSub, SB, SV.known, packR, ne_eq, reduceCtorEq, Nat.reduceEqDiff, ↓reduceIte, if_true, if_false, eq_self, Nat.reduceAdd, Nat.reduceMul, Nat.reduceSub, forall_const, oneCellS, Kd.isSca, flat, TYB]
          rw [List.take_of_length_le (Nat.le_refl _), mk1_len]
theorem sCountFormsBefore_ok (R : List Int) (hR : R.length = 24) : PureH Try.prog 23 [.arr R] [] (.tup [.int (cfF R), .bool (rackB R)]) := by
  have tkR : R.take 24 = R := List.take_of_length_le (by omega)
  unfold cfF
  cases hr : rackB R
  · refine pure_of_vc (X := ⟨Try.prog, tys, [(46, l2Rack_F), (49, l3Form_F)], [(61, l5Racks_F), (62, l5Put_F)], true, true, 0, [], []⟩) fn_23 ⟨tys_ok, (.cons l2Rack_T (.cons l3Form_T .nil)), (.cons l5Racks_T (.cons l5Put_T .nil)), mixed⟩ (n0 := 0) (Nat.le_of_ble_eq_true rfl) (by simp [wfL, SV.wf]) (wfH_spec (by simp [wfH, SObj.wf])) (Nat.le_refl _) (fun _ => by simp [SV.wf, wfL]) ?_
    simp -implicitDefEqProofs only [Try.f23, Option.getD_some, argS, l2Rack_F, l3Form_F, l5Racks_F, l5Put_F, hR, tkR, hr, freshK, Wrap.ap, ZB, Int.reduceToNat, Nat.reduceLT, Nat.reduceLeDiff, Int.reduceLE, Int.reduceLT, Nat.reduceEqDiff, Nat.reduceSub, SB, SV.known, packR, ne_eq, reduceCtorEq, Nat.reduceEqDiff, ↓reduceIte, if_true, if_false, eq_self, Nat.reduceAdd, Nat.reduceMul, Nat.reduceSub, forall_const, oneCellS, Kd.isSca, flat, TYB]
  · have b24 := befL_24 hR
    have bl := befL_le hR
    refine pure_of_vc (X := ⟨Try.prog, tys, [(46, l2Rack_F), (49, l3Form_F)], [(61, l5Racks_F), (62, l5Put_F)], true, true, 0, [], []⟩) fn_23 ⟨tys_ok, (.cons l2Rack_T (.cons l3Form_T .nil)), (.cons l5Racks_T (.cons l5Put_T .nil)), mixed⟩ (n0 := 0) (Nat.le_of_ble_eq_true rfl) (by simp [wfL, SV.wf]) (wfH_spec (by simp [wfH, SObj.wf])) (Nat.le_refl _) (fun _ => by simp [SV.wf, wfL]) ?_
    simp -implicitDefEqProofs only [Try.f23, Option.getD_some, argS, l2Rack_F, l3Form_F, l5Racks_F, l5Put_F, hR, tkR, hr, freshK, Wrap.ap, ZB, Int.reduceToNat, Nat.reduceLT, Nat.reduceLeDiff, Int.reduceLE, Int.reduceLT, Nat.reduceEqDiff, Nat.reduceSub, SB, SV.known, packR, ne_eq, reduceCtorEq, Nat.reduceEqDiff, ↓reduceIte, if_true, if_false, eq_self, Nat.reduceAdd, Nat.reduceMul, Nat.reduceSub, forall_const, oneCellS, Kd.isSca, flat, TYB]
    generalize befL R = B at *
    have bf := flat_len b24
    refine fun cp jp hjp => ?_
    have lenP : (B.flatten ++ jp).length = cp * 24 := by rw [List.length_append]; omega
    refine loop_intro (fun s : Nat × Nat × List Int => [(6, .int s.1), (5, .slice 2 0 B.length cp), (4, .slice 1 0 (insA [] (fms (B.take s.1))).length s.2.1), (1, .ptr 0 0)])
      (fun s => [(2, .ints (B.flatten ++ jp) 29), (1, .ints ((insA [] (fms (B.take s.1))).flatten ++ s.2.2) 29), (0, .ints R 29)]) 3
      (fun s => s.1 ≤ B.length ∧ s.2.2.length + (insA [] (fms (B.take s.1))).length * 24 = s.2.1 * 24) (fun s => B.length - s.1) ?_ ?_
    · refine ⟨(0, 0, []), ⟨by simp, by simp [fms, insA]⟩, Sub.mk_id ?_ ?_ ?_ ?_ ?_⟩
      all_goals ((try simp only [LB, subS, subH, wfS, wfH, SV.ren, renL, SObj.ren, SV.wf, SObj.wf, wfL, SV.known, Nat.reduceEqDiff, ↓reduceIte, if_true, if_false, eq_self, Nat.reduceAdd, Nat.reduceLT, Nat.reduceLeDiff, implies_true, reduceCtorEq, forall_const]) <;> simp [fms, insA])
    · rintro ⟨i, c, j⟩ ⟨hi, hj⟩
      simp only at hi hj
      have f24 := fms_24 (fun x hx => b24 x (List.mem_of_mem_take hx) : all24 (B.take i))
      have g24 : all24 (insA [] (fms (B.take i))) := insA_len f24
      have hfl := flat_len g24
      have hcard := insA_card (fms (B.take i))
      have hcl : (fms (B.take i)).length ≤ 144 := by unfold fms; rw [List.length_map, List.length_take]; omega
      by_cases hlt : i < B.length
      · have hil : (i : Int) < B.length := by omega
        have eP : List.take 24 (List.drop (i * 24) (B.flatten ++ jp)) = B.getD i [] := flat_get b24 hlt jp
        have xm := getD_mem hlt
        have x24 := b24 _ xm
        have fl : (frm (B.getD i [])).length = 24 := frm_len x24
        have es : insA [] (fms (B.take (i + 1))) = insU (frm (B.getD i [])) (insA [] (fms (B.take i))) := by rw [fms_take i hlt, insA_snoc]
        have tkx : List.take 24 (B.getD i []) = B.getD i [] := List.take_of_length_le (by omega)
        have hL : ((insA [] (fms (B.take i))).flatten ++ j).length = c * 24 := by rw [List.length_append, hfl]; omega
        have hl2 : (insA [] (fms (B.take i))).length ≤ 1000 := by omega
        generalize B.getD i [] = x at *
        simp -implicitDefEqProofs only [lk_normal, l3Form_F, l5Put_F, hil, eP, lenP, x24, tkx, fl, hL, hl2, ZB, Int.reduceToNat, Nat.reduceLT, Nat.reduceLeDiff, Int.reduceLE, Int.reduceLT, Nat.reduceEqDiff, Nat.reduceSub, SB, SV.known, packR, ne_eq, reduceCtorEq, Nat.reduceEqDiff, ↓reduceIte, if_true, if_false, eq_self, Nat.reduceAdd, Nat.reduceMul, Nat.reduceSub, forall_const, oneCellS, Kd.isSca, flat, TYB]
        refine ⟨by omega, by omega, _, j, rfl, rfl, g24, fun h1 => ?_, fun h1 c' j' hj' => ?_⟩
        · refine ⟨by unfold In64; omega, (i + 1, c, j), ⟨by simp only; omega, by simp only [es, h1]; exact hj⟩, by simp only; omega, Sub.mk_id ?_ ?_ ?_ ?_ ?_⟩
          all_goals (try simp only [es, h1])
          all_goals ((try simp only [LB, subS, subH, wfS, wfH, SV.ren, renL, SObj.ren, SV.wf, SObj.wf, wfL, SV.known, Nat.reduceEqDiff, ↓reduceIte, if_true, if_false, eq_self, Nat.reduceAdd, Nat.reduceLT, Nat.reduceLeDiff, implies_true, reduceCtorEq, forall_const]) <;> simp)
        · refine ⟨by unfold In64; omega, (i + 1, c', j'), ⟨by simp only; omega, by simp only [es, h1]; exact hj'⟩, by simp only; omega, Sub.mk_to 1 3 ?_ ?_ ?_ ?_ ?_ ?_ ?_⟩
          all_goals (try simp only [es, h1])
          all_goals ((try simp only [LB, subS, subH, wfS, wfH, SV.ren, renL, SObj.ren, SV.wf, SObj.wf, wfL, SV.known, Nat.reduceEqDiff, ↓reduceIte, if_true, if_false, eq_self, Nat.reduceAdd, Nat.reduceLT, Nat.reduceLeDiff, implies_true, reduceCtorEq, forall_const]) <;> simp)
      · have hil : ¬ (i : Int) < B.length := by omega
        obtain rfl : i = B.length := by omega
        simp -implicitDefEqProofs only [lk_normal, hil, ZB, Int.reduceToNat, Nat.reduceLT, Nat.reduceLeDiff, Int.reduceLE, Int.reduceLT, Nat.reduceEqDiff, Nat.reduceSub, SB, SV.known, packR, ne_eq, reduceCtorEq, Nat.reduceEqDiff, ↓reduceIte, if_true, if_false, eq_self, Nat.reduceAdd, Nat.reduceMul, Nat.reduceSub, forall_const, oneCellS, Kd.isSca, flat, TYB]
        rw [List.take_of_length_le (Nat.le_refl _), insA_count (fms_24 b24)]
def CountFormsBefore_F : List SV → Heap → Option (Prop × SV)
  | [.arr R], _ => some (R.length = 24, .tup [.int (cfF R), .bool (rackB R)])
  | _, _ => none
theorem CountFormsBefore_T : ∀ args H p v, CountFormsBefore_F args H = some (p, v) → p → PureH Try.prog 24 args H v := by
  intro args H p v h hp
  unfold CountFormsBefore_F at h
  split at h
  · cases h; exact (CountFormsBefore_ok _ hp).any _
  · cases h
def sCountFormsBefore_F : List SV → Heap → Option (Prop × SV)
  | [.arr R], _ => some (R.length = 24, .tup [.int (cfF R), .bool (rackB R)])
  | _, _ => none
theorem sCountFormsBefore_T : ∀ args H p v, sCountFormsBefore_F args H = some (p, v) → p → PureH Try.prog 23 args H v := by
  intro args H p v h hp
  unfold sCountFormsBefore_F at h
  split at h
  · cases h; exact (sCountFormsBefore_ok _ hp).any _
  · cases h
theorem lawCountFormsBefore (R : List Int) (hR : R.length = 24) (_ : ∀ x ∈ R, In64 x) : PureH Try.prog 5 [.arr R] [] (.bool true) := by
  have tkR : R.take 24 = R := List.take_of_length_le (by omega)
  cases hr : rackB R
  all_goals
    refine pure_of_vc (X := ⟨Try.prog, tys, [(16, toRack_F), (24, CountFormsBefore_F), (23, sCountFormsBefore_F)], [], true, true, 0, [], []⟩) fn_5 ⟨tys_ok, (.cons toRack_T (.cons CountFormsBefore_T (.cons sCountFormsBefore_T .nil))), .nil, mixed⟩ (n0 := 0) (Nat.le_of_ble_eq_true rfl) (by simp [wfL, SV.wf]) (wfH_spec (by simp [wfH, SObj.wf])) (Nat.le_refl _) (fun _ => by simp [SV.wf, wfL]) ?_
    simp -implicitDefEqProofs only [Try.f5, Option.getD_some, argS, toRack_F, CountFormsBefore_F, sCountFormsBefore_F, hR, tkR, hr, ZB, Int.reduceToNat, Nat.reduceLT, Nat.reduceLeDiff, Int.reduceLE, Int.reduceLT, Nat.reduceEqDiff, Nat.reduceSub, SB, SV.known, packR, ne_eq, reduceCtorEq, Nat.reduceEqDiff, ↓reduceIte, if_true, if_false, eq_self, Nat.reduceAdd, Nat.reduceMul, Nat.reduceSub, forall_const, oneCellS, Kd.isSca, flat, TYB]
end Go.Proofs.Ytdnechlmkbchaaa
