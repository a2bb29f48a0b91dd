/- Texts of this claim, joined (CFB, Del3, Sl3, Arg, Rule, RulC, Com, Good, GPath, Path, Backs, BTo, UPours, Sort, View, FP1, FP0, Dist, Bfs, Beh, Hid, Rank, IsV, CS, SO0, Cd, FP2, VS, Draw). -/
import Derived.Test.YtmccafjblhbmkaaGreatQ1
import Derived.Test.YtmccafjblhbmkaaGreatQ2
import Derived.Test.YtmccafjblhbmkaaGreatQ3
import Derived.Test.YtmccafjblhbmkaaGreatQ4
import Derived.Test.YtmccafjblhbmkaaGreatQ5
import Derived.Test.YtmccafjblhbmkaaGreatQ6
set_option maxRecDepth 100000
set_option linter.unusedSimpArgs false
set_option linter.unusedVariables false
namespace Go.Proofs.YtmccafjblhbmkaaGreat
open Go Go.RowKit
def fms (Q : List (List Int)) : List (List Int) := Q.map frm
theorem fms_24 {Q : List (List Int)} (h : all24 Q) : all24 (fms Q) := fun x hx => by
  obtain ⟨y, hy, rfl⟩ := List.mem_map.1 hx
  exact frm_len (h y hy)
theorem fms_take {Q : List (List Int)} (i : Nat) (hi : i < Q.length) : fms (Q.take (i + 1)) = fms (Q.take i) ++ [frm (Q.getD i [])] := by
  unfold fms
  rw [take_succ_getD Q i hi, List.map_append]; rfl
theorem nwF_nodup (xs : List (List Int)) : (nwF [] xs).Nodup := by
  refine snoc_ind (P := fun xs => (nwF [] xs).Nodup) (by simp [nwF]) (fun l x ih => ?_) xs
  by_cases h : x ∈ [] ++ nwF [] l
  · rw [nwF_old h]; exact ih
  · rw [nwF_new h, List.nodup_append]
    refine ⟨ih, by simp, fun a ha b hb hab => ?_⟩
    rw [List.mem_singleton] at hb
    subst hb; subst hab
    exact h (by simpa using ha)
theorem insA_count {w : Nat} {xs : List (List Int)} (h : ∀ x ∈ xs, x.length = w) : (insA [] xs).length = (nwF [] xs).length := by
  have n1 : (insA [] xs).Nodup := (insA_pw xs h).imp fun {a b} hab he => by subst he; rw [lexC_refl] at hab; omega
  have n2 := nwF_nodup xs
  refine ((List.perm_ext_iff_of_nodup n1 n2).2 fun z => ?_).length_eq
  rw [insA_mem]
  exact ⟨fun hz => by simpa using nwF_all [] xs z hz, fun hz => (nwF_sub [] xs z hz).1⟩
def cfF (R : List Int) : Int := if rackB R = true then (nwF [] (fms (befL R))).length else 0
--@tbl CountFormsBefore = impl.CountFormsBefore
--@tbl sCountFormsBefore = spec.CountFormsBefore
theorem CountFormsBefore_ok (R : List Int) (hR : R.length = 24) : PureH Tryz.prog 31 [.arr R] [] (.tup [.int (cfF R), .bool (rackB R)]) := by
  have tkR : R.take 24 = R := List.take_of_length_le (by omega)
  unfold cfF
  cases hr : rackB R
  · refine pure_of_vc (X := ⟨Tryz.prog, tys, [(62, IsRack_F), (63, formOf_F)], [(91, before_F)], true, true, 0, [], []⟩) fn_31 ⟨tys_ok, (.cons IsRack_T (.cons formOf_T .nil)), (.cons before_T .nil), mixed⟩ (n0 := 0) (Nat.le_of_ble_eq_true rfl) (by simp [wfL, SV.wf]) (wfH_spec (by simp [wfH, SObj.wf])) (Nat.le_refl _) (fun _ => by simp [SV.wf, wfL]) ?_
    simp -implicitDefEqProofs only [Tryz.f31, Option.getD_some, argS, IsRack_F, formOf_F, before_F, hR, tkR, hr, freshK, Wrap.ap, ZB, Int.reduceToNat, Nat.reduceLT, Nat.reduceLeDiff, Int.reduceLE, Int.reduceLT, Nat.reduceEqDiff, Nat.reduceSub, SB, SV.known, packR, ne_eq, reduceCtorEq, Nat.reduceEqDiff, ↓reduceIte, if_true, if_false, eq_self, Nat.reduceAdd, Nat.reduceMul, Nat.reduceSub, forall_const, oneCellS, litOne, flat1, Kd.isSca, flat, TYB]
  · have b24 := befL_24 hR
    have bl := befL_le hR
    refine pure_of_vc (X := ⟨Tryz.prog, tys, [(62, IsRack_F), (63, formOf_F)], [(91, before_F)], true, true, 0, [], []⟩) fn_31 ⟨tys_ok, (.cons IsRack_T (.cons formOf_T .nil)), (.cons before_T .nil), mixed⟩ (n0 := 0) (Nat.le_of_ble_eq_true rfl) (by simp [wfL, SV.wf]) (wfH_spec (by simp [wfH, SObj.wf])) (Nat.le_refl _) (fun _ => by simp [SV.wf, wfL]) ?_
    simp -implicitDefEqProofs only [Tryz.f31, Option.getD_some, argS, IsRack_F, formOf_F, before_F, hR, tkR, hr, freshK, Wrap.ap, ZB, Int.reduceToNat, Nat.reduceLT, Nat.reduceLeDiff, Int.reduceLE, Int.reduceLT, Nat.reduceEqDiff, Nat.reduceSub, SB, SV.known, packR, ne_eq, reduceCtorEq, Nat.reduceEqDiff, ↓reduceIte, if_true, if_false, eq_self, Nat.reduceAdd, Nat.reduceMul, Nat.reduceSub, forall_const, oneCellS, litOne, flat1, Kd.isSca, flat, TYB]
    generalize befL R = B at *
    have bf := flat_len b24
    refine ⟨fun h0 => ?_, fun h0 cp jp hjp => ?_⟩
    · obtain rfl : B = [] := List.length_eq_zero_iff.1 (by rw [h0] at bf; simp at bf; omega)
      refine loop_intro (fun _ : Unit => [(14, .int 0), (13, .int 0), (12, .nils), (4, .mp 1), (1, .ptr 0 0)]) (fun _ => [(1, .mp true []), (0, .ints R 27)]) 2 (fun _ => True) (fun _ => 0) ?_ ?_
      · refine ⟨(), trivial, Sub.mk_id ?_ ?_ ?_ ?_ ?_⟩
        all_goals ((try simp only [LB, subS, subH, wfS, wfH, SV.ren, renL, SObj.ren, SV.wf, SObj.wf, wfL, SV.known, Nat.reduceEqDiff, ↓reduceIte, if_true, if_false, eq_self, Nat.reduceAdd, Nat.reduceLT, Nat.reduceLeDiff, implies_true, reduceCtorEq, forall_const]) <;> simp)
      · intro _ _
        simp -implicitDefEqProofs only [lk_normal, Int.lt_irrefl, ZB, Int.reduceToNat, Nat.reduceLT, Nat.reduceLeDiff, Int.reduceLE, Int.reduceLT, Nat.reduceEqDiff, Nat.reduceSub, SB, SV.known, packR, ne_eq, reduceCtorEq, Nat.reduceEqDiff, ↓reduceIte, if_true, if_false, eq_self, Nat.reduceAdd, Nat.reduceMul, Nat.reduceSub, forall_const, oneCellS, litOne, flat1, Kd.isSca, flat, TYB]
        rfl
    · have lenP : (B.flatten ++ jp).length = cp * 24 := by rw [List.length_append]; omega
      refine loop_intro (fun s : Nat => [(14, .int s), (13, .int B.length), (12, .slice 2 0 B.length cp), (4, .mp 1), (1, .ptr 0 0)])
        (fun s => [(2, .ints (B.flatten ++ jp) 27), (1, .mp true (mk1 (nwF [] (fms (B.take s))))), (0, .ints R 27)]) 3
        (fun s => s ≤ B.length) (fun s => B.length - s) ?_ ?_
      · refine ⟨0, by omega, Sub.mk_id ?_ ?_ ?_ ?_ ?_⟩
        all_goals ((try simp only [LB, subS, subH, wfS, wfH, SV.ren, renL, SObj.ren, SV.wf, SObj.wf, wfL, SV.known, Nat.reduceEqDiff, ↓reduceIte, if_true, if_false, eq_self, Nat.reduceAdd, Nat.reduceLT, Nat.reduceLeDiff, implies_true, reduceCtorEq, forall_const]) <;> simp [fms, nwF, mk1])
      · intro i hi
        have f24 := fms_24 (fun x hx => b24 x (List.mem_of_mem_take hx) : all24 (B.take i))
        have n24 : all24 (nwF [] (fms (B.take i))) := fun x hx => f24 x (nwF_sub _ _ x hx).1
        by_cases hlt : i < B.length
        · have hil : (i : Int) < B.length := by omega
          have eP : List.take 24 (List.drop (i * 24) (B.flatten ++ jp)) = B.getD i [] := flat_get b24 hlt jp
          have xm := getD_mem hlt
          have x24 := b24 _ xm
          have es := fms_take i hlt
          have fl : (frm (B.getD i [])).length = 24 := frm_len x24
          have kI := keyI_rack
          have kOK := mk1_keys n24
          have tkx : List.take 24 (B.getD i []) = B.getD i [] := List.take_of_length_le (by omega)
          have ms : mset (mk1 (nwF [] (fms (B.take i)))) (frm (B.getD i [])) 1 = mk1 (nwF [] (fms (B.take (i + 1)))) := by
            rw [es]
            by_cases hin : frm (B.getD i []) ∈ nwF [] (fms (B.take i))
            · rw [mset_mk1_in hin, nwF_old (by simpa using hin)]
            · rw [mset_mk1 hin, nwF_new (by simpa using hin)]
          generalize B.getD i [] = x at *
          simp -implicitDefEqProofs only [lk_normal, formOf_F, hil, eP, lenP, x24, tkx, fl, kI, kOK, ms, ZB, Int.reduceToNat, Nat.reduceLT, Nat.reduceLeDiff, Int.reduceLE, Int.reduceLT, Nat.reduceEqDiff, Nat.reduceSub, SB, SV.known, packR, ne_eq, reduceCtorEq, Nat.reduceEqDiff, ↓reduceIte, if_true, if_false, eq_self, Nat.reduceAdd, Nat.reduceMul, Nat.reduceSub, forall_const, oneCellS, litOne, flat1, Kd.isSca, flat, TYB]
          refine ⟨by omega, by omega, by unfold In64; omega, i + 1, by omega, by omega, Sub.mk_id ?_ ?_ ?_ ?_ ?_⟩
          all_goals ((try simp only [LB, subS, subH, wfS, wfH, SV.ren, renL, SObj.ren, SV.wf, SObj.wf, wfL, SV.known, Nat.reduceEqDiff, ↓reduceIte, if_true, if_false, eq_self, Nat.reduceAdd, Nat.reduceLT, Nat.reduceLeDiff, implies_true, reduceCtorEq, forall_const]) <;> simp)
        · have hil : ¬ (i : Int) < B.length := by omega
          obtain rfl : i = B.length := by omega
          simp -implicitDefEqProofs only [lk_normal, hil, ZB, Int.reduceToNat, Nat.reduceLT, Nat.reduceLeDiff, Int.reduceLE, Int.reduceLT, Nat.reduceEqDiff, Nat.reduceSub, SB, SV.known, packR, ne_eq, reduceCtorEq, Nat.reduceEqDiff, ↓reduceIte, if_true, if_false, eq_self, Nat.reduceAdd, Nat.reduceMul, Nat.reduceSub, forall_const, oneCellS, litOne, flat1, Kd.isSca, flat, TYB]
          rw [List.take_of_length_le (Nat.le_refl _), mk1_len]
theorem sCountFormsBefore_ok (R : List Int) (hR : R.length = 24) : PureH Tryz.prog 32 [.arr R] [] (.tup [.int (cfF R), .bool (rackB R)]) := by
  have tkR : R.take 24 = R := List.take_of_length_le (by omega)
  unfold cfF
  cases hr : rackB R
  · refine pure_of_vc (X := ⟨Tryz.prog, tys, [(64, l2Rack_F), (65, l3Form_F)], [(92, l5Racks_F), (94, l5Put_F)], true, true, 0, [], []⟩) fn_32 ⟨tys_ok, (.cons l2Rack_T (.cons l3Form_T .nil)), (.cons l5Racks_T (.cons l5Put_T .nil)), mixed⟩ (n0 := 0) (Nat.le_of_ble_eq_true rfl) (by simp [wfL, SV.wf]) (wfH_spec (by simp [wfH, SObj.wf])) (Nat.le_refl _) (fun _ => by simp [SV.wf, wfL]) ?_
    simp -implicitDefEqProofs only [Tryz.f32, Option.getD_some, argS, l2Rack_F, l3Form_F, l5Racks_F, l5Put_F, hR, tkR, hr, freshK, Wrap.ap, ZB, Int.reduceToNat, Nat.reduceLT, Nat.reduceLeDiff, Int.reduceLE, Int.reduceLT, Nat.reduceEqDiff, Nat.reduceSub, SB, SV.known, packR, ne_eq, reduceCtorEq, Nat.reduceEqDiff, ↓reduceIte, if_true, if_false, eq_self, Nat.reduceAdd, Nat.reduceMul, Nat.reduceSub, forall_const, oneCellS, litOne, flat1, Kd.isSca, flat, TYB]
  · have b24 := befL_24 hR
    have bl := befL_le hR
    refine pure_of_vc (X := ⟨Tryz.prog, tys, [(64, l2Rack_F), (65, l3Form_F)], [(92, l5Racks_F), (94, l5Put_F)], true, true, 0, [], []⟩) fn_32 ⟨tys_ok, (.cons l2Rack_T (.cons l3Form_T .nil)), (.cons l5Racks_T (.cons l5Put_T .nil)), mixed⟩ (n0 := 0) (Nat.le_of_ble_eq_true rfl) (by simp [wfL, SV.wf]) (wfH_spec (by simp [wfH, SObj.wf])) (Nat.le_refl _) (fun _ => by simp [SV.wf, wfL]) ?_
    simp -implicitDefEqProofs only [Tryz.f32, Option.getD_some, argS, l2Rack_F, l3Form_F, l5Racks_F, l5Put_F, hR, tkR, hr, freshK, Wrap.ap, ZB, Int.reduceToNat, Nat.reduceLT, Nat.reduceLeDiff, Int.reduceLE, Int.reduceLT, Nat.reduceEqDiff, Nat.reduceSub, SB, SV.known, packR, ne_eq, reduceCtorEq, Nat.reduceEqDiff, ↓reduceIte, if_true, if_false, eq_self, Nat.reduceAdd, Nat.reduceMul, Nat.reduceSub, forall_const, oneCellS, litOne, flat1, Kd.isSca, flat, TYB]
    generalize befL R = B at *
    have bf := flat_len b24
    refine fun cp jp hjp => ?_
    have lenP : (B.flatten ++ jp).length = cp * 24 := by rw [List.length_append]; omega
    refine loop_intro (fun s : Nat × Nat × List Int => [(6, .int s.1), (5, .slice 2 0 B.length cp), (4, .slice 1 0 (insA [] (fms (B.take s.1))).length s.2.1), (1, .ptr 0 0)])
      (fun s => [(2, .ints (B.flatten ++ jp) 27), (1, .ints ((insA [] (fms (B.take s.1))).flatten ++ s.2.2) 27), (0, .ints R 27)]) 3
      (fun s => s.1 ≤ B.length ∧ s.2.2.length + (insA [] (fms (B.take s.1))).length * 24 = s.2.1 * 24) (fun s => B.length - s.1) ?_ ?_
    · refine ⟨(0, 0, []), ⟨by simp, by simp [fms, insA]⟩, Sub.mk_id ?_ ?_ ?_ ?_ ?_⟩
      all_goals ((try simp only [LB, subS, subH, wfS, wfH, SV.ren, renL, SObj.ren, SV.wf, SObj.wf, wfL, SV.known, Nat.reduceEqDiff, ↓reduceIte, if_true, if_false, eq_self, Nat.reduceAdd, Nat.reduceLT, Nat.reduceLeDiff, implies_true, reduceCtorEq, forall_const]) <;> simp [fms, insA])
    · rintro ⟨i, c, j⟩ ⟨hi, hj⟩
      simp only at hi hj
      have f24 := fms_24 (fun x hx => b24 x (List.mem_of_mem_take hx) : all24 (B.take i))
      have g24 : all24 (insA [] (fms (B.take i))) := insA_len f24
      have hfl := flat_len g24
      have hcard := insA_card (fms (B.take i))
      have hcl : (fms (B.take i)).length ≤ 144 := by unfold fms; rw [List.length_map, List.length_take]; omega
      by_cases hlt : i < B.length
      · have hil : (i : Int) < B.length := by omega
        have eP : List.take 24 (List.drop (i * 24) (B.flatten ++ jp)) = B.getD i [] := flat_get b24 hlt jp
        have xm := getD_mem hlt
        have x24 := b24 _ xm
        have fl : (frm (B.getD i [])).length = 24 := frm_len x24
        have es : insA [] (fms (B.take (i + 1))) = insU (frm (B.getD i [])) (insA [] (fms (B.take i))) := by rw [fms_take i hlt, insA_snoc]
        have tkx : List.take 24 (B.getD i []) = B.getD i [] := List.take_of_length_le (by omega)
        have hL : ((insA [] (fms (B.take i))).flatten ++ j).length = c * 24 := by rw [List.length_append, hfl]; omega
        have hl2 : (insA [] (fms (B.take i))).length ≤ 1000 := by omega
        generalize B.getD i [] = x at *
        simp -implicitDefEqProofs only [lk_normal, l3Form_F, l5Put_F, hil, eP, lenP, x24, tkx, fl, hL, hl2, ZB, Int.reduceToNat, Nat.reduceLT, Nat.reduceLeDiff, Int.reduceLE, Int.reduceLT, Nat.reduceEqDiff, Nat.reduceSub, SB, SV.known, packR, ne_eq, reduceCtorEq, Nat.reduceEqDiff, ↓reduceIte, if_true, if_false, eq_self, Nat.reduceAdd, Nat.reduceMul, Nat.reduceSub, forall_const, oneCellS, litOne, flat1, Kd.isSca, flat, TYB]
        refine ⟨by omega, by omega, _, j, rfl, rfl, g24, fun h1 => ?_, fun h1 c' j' hj' => ?_⟩
        · refine ⟨by unfold In64; omega, (i + 1, c, j), ⟨by simp only; omega, by simp only [es, h1]; exact hj⟩, by simp only; omega, Sub.mk_id ?_ ?_ ?_ ?_ ?_⟩
          all_goals (try simp only [es, h1])
          all_goals ((try simp only [LB, subS, subH, wfS, wfH, SV.ren, renL, SObj.ren, SV.wf, SObj.wf, wfL, SV.known, Nat.reduceEqDiff, ↓reduceIte, if_true, if_false, eq_self, Nat.reduceAdd, Nat.reduceLT, Nat.reduceLeDiff, implies_true, reduceCtorEq, forall_const]) <;> simp)
        · refine ⟨by unfold In64; omega, (i + 1, c', j'), ⟨by simp only; omega, by simp only [es, h1]; exact hj'⟩, by simp only; omega, Sub.mk_to 1 3 ?_ ?_ ?_ ?_ ?_ ?_ ?_⟩
          all_goals (try simp only [es, h1])
          all_goals ((try simp only [LB, subS, subH, wfS, wfH, SV.ren, renL, SObj.ren, SV.wf, SObj.wf, wfL, SV.known, Nat.reduceEqDiff, ↓reduceIte, if_true, if_false, eq_self, Nat.reduceAdd, Nat.reduceLT, Nat.reduceLeDiff, implies_true, reduceCtorEq, forall_const]) <;> simp)
      · have hil : ¬ (i : Int) < B.length := by omega
        obtain rfl : i = B.length := by omega
        simp -implicitDefEqProofs only [lk_normal, hil, ZB, Int.reduceToNat, Nat.reduceLT, Nat.reduceLeDiff, Int.reduceLE, Int.reduceLT, Nat.reduceEqDiff, Nat.reduceSub, SB, SV.known, packR, ne_eq, reduceCtorEq, Nat.reduceEqDiff, ↓reduceIte, if_true, if_false, eq_self, Nat.reduceAdd, Nat.reduceMul, Nat.reduceSub, forall_const, oneCellS, litOne, flat1, Kd.isSca, flat, TYB]
        rw [List.take_of_length_le (Nat.le_refl _), insA_count (fms_24 b24)]
def CountFormsBefore_F : List SV → Heap → Option (Prop × SV)
  | [.arr R], _ => some (R.length = 24, .tup [.int (cfF R), .bool (rackB R)])
  | _, _ => none
theorem CountFormsBefore_T : ∀ args H p v, CountFormsBefore_F args H = some (p, v) → p → PureH Tryz.prog 31 args H v := by
  intro args H p v h hp
  unfold CountFormsBefore_F at h
  split at h
  · cases h; exact (CountFormsBefore_ok _ hp).any _
  · cases h
def sCountFormsBefore_F : List SV → Heap → Option (Prop × SV)
  | [.arr R], _ => some (R.length = 24, .tup [.int (cfF R), .bool (rackB R)])
  | _, _ => none
theorem sCountFormsBefore_T : ∀ args H p v, sCountFormsBefore_F args H = some (p, v) → p → PureH Tryz.prog 32 args H v := by
  intro args H p v h hp
  unfold sCountFormsBefore_F at h
  split at h
  · cases h; exact (sCountFormsBefore_ok _ hp).any _
  · cases h
end Go.Proofs.YtmccafjblhbmkaaGreat
set_option maxRecDepth 100000
set_option linter.unusedSimpArgs false
set_option linter.unusedVariables false
namespace Go.Proofs.YtmccafjblhbmkaaGreat
open Go Go.RowKit
def chk3 (L : List Int) (off len : Nat) : List (List Int) := (List.range len).map fun i => (L.drop (off + i * 3)).take 3
theorem chk3_len (L : List Int) (off len : Nat) : (chk3 L off len).length = len := by simp [chk3]
theorem chk3_getD (L : List Int) (off len k : Nat) (h : k < len) : (chk3 L off len).getD k [] = (L.drop (off + k * 3)).take 3 := by simp [chk3, List.getD, h]
theorem chk3_succ (L : List Int) (off k : Nat) : chk3 L off (k + 1) = chk3 L off k ++ [(L.drop (off + k * 3)).take 3] := by
  unfold chk3
  rw [List.range_succ, List.map_append]; rfl
/-- What is kept3. -/
def kept3 (np : List Int → Bool) (L : List Int) (k : Nat) : List Int := ((chk3 L 0 k).filter np).flatten
theorem kept3_zero (np : List Int → Bool) (L : List Int) : kept3 np L 0 = [] := rfl
theorem kept3_succ (np : List Int → Bool) (L : List Int) (k : Nat) : kept3 np L (k + 1) = kept3 np L k ++ if np ((L.drop (k * 3)).take 3) = true then (L.drop (k * 3)).take 3 else [] := by
  unfold kept3
  rw [chk3_succ, List.filter_append, List.flatten_append, Nat.zero_add]
  congr 1
  simp only [List.filter_cons, List.filter_nil]
  split <;> simp
theorem kept3_even (np : List Int → Bool) (L : List Int) : ∀ k, k * 3 ≤ L.length → ∃ i, (kept3 np L k).length = i * 3 ∧ i ≤ k
  | 0, _ => ⟨0, rfl, by omega⟩
  | k + 1, h => by
    obtain ⟨i, h1, h2⟩ := kept3_even np L k (by omega)
    rw [kept3_succ, List.length_append, h1]
    split
    · exact ⟨i + 1, by rw [List.length_take, List.length_drop]; omega, by omega⟩
    · exact ⟨i, by simp, by omega⟩
theorem kept3_all {np : List Int → Bool} {L : List Int} : ∀ k, k * 3 ≤ L.length → (∀ i, i < k → np ((L.drop (i * 3)).take 3) = true) → kept3 np L k = L.take (k * 3)
  | 0, _, _ => by simp [kept3_zero]
  | k + 1, h, hn => by
    rw [kept3_succ, if_pos (hn k (by omega)), kept3_all k (by omega) fun i hi => hn i (by omega), show (k + 1) * 3 = k * 3 + 3 by omega, List.take_add]
theorem kept3_app (np : List Int → Bool) (L M : List Int) : ∀ k, k * 3 ≤ L.length → kept3 np (L ++ M) k = kept3 np L k
  | 0, _ => rfl
  | k + 1, h => by
    have e : ((L ++ M).drop (k * 3)).take 3 = (L.drop (k * 3)).take 3 := by
      rw [List.drop_append_of_le_length (by omega), List.take_append_of_le_length (by rw [List.length_drop]; omega)]
    rw [kept3_succ, kept3_succ, kept3_app np L M k (by omega), e]

theorem indexFuncP3_ok (g : Nat) (caps : List SV) (H Hc : Heap) (pr : List Int → Bool) (n0 b : Nat) (L : List Int) (e len cap : Nat) (hb : hget H b = some (.ints L e)) (hl : len * 3 ≤ L.length) (hm : len ≤ 9223372036854775806)
    (Q : List Int → Prop) (hQ : ∀ i, i < len → Q ((L.drop (i * 3)).take 3)) (hc : ∀ x : List Int, Q x → PureH Tryz.prog g (.arr x :: caps) Hc (.bool (pr x))) (hE : Ext Hc H) (hw : wfL n0 caps) (hwH : hwf n0 H) :
    PureH Tryz.prog 143 [.slice b 0 len cap, .fn g caps] H (.int (idxG pr (chk3 L 0 len))) := by
  have hE2 := chk3_len L 0 len
  have h00 : b < n0 := (hwH b _ hb).1
  refine pure_of_vc (X := ⟨Tryz.prog, tys, [(g, fun args H' => match args with | .arr x :: r => some (r = caps ∧ Ext Hc H' ∧ Q x, .bool (pr x)) | _ => none)], [], true, true, n0, [], []⟩) fn_143
    ⟨tys_ok, .cons (fun args H' p v h hp => ?_) .nil, .nil, mixed⟩ (n0 := n0) (Nat.le_of_ble_eq_true rfl) ⟨by simpa [SV.wf] using h00, by simpa [SV.wf] using hw, trivial⟩ hwH (Nat.le_refl _) (fun _ => trivial) ?_
  · split at h
    · cases h
      obtain ⟨rfl, hx1, hx⟩ := hp
      exact (hc _ hx).weaken hx1 (fun _ => trivial)
    · cases h
  simp -implicitDefEqProofs only [Tryz.f143, Option.getD_some, argS, hb, SB, SV.known, packR, ne_eq, reduceCtorEq, Nat.reduceEqDiff, ↓reduceIte, if_true, if_false, eq_self, Nat.reduceAdd, Nat.reduceMul, Nat.reduceSub, forall_const, oneCellS, litOne, flat1, Kd.isSca, flat, TYB]
  refine loop_intro (fun i : Nat => [(0, .slice b 0 len cap), (1, .fn g caps), (7, .int len), (8, .int i)]) (fun i => H) n0 (fun i => i ≤ len ∧ ∀ k, k < i → pr ((chk3 L 0 len).getD k []) = false) (fun i => len - i) ?_ ?_
  · refine ⟨0, ⟨by omega, by simp⟩, Sub.same ?_ ?_ hwH (Nat.le_refl _)⟩
    · simp [subS, subH, wfS, wfH, SV.ren, renL, SObj.ren, SV.wf, SObj.wf, wfL, sget_cons, hget_cons, SV.known, renL_id]
    · simp [subS, subH, wfS, wfH, SV.ren, renL, SObj.ren, SV.wf, SObj.wf, wfL, sget_cons, hget_cons, hw, h00]
  · intro i hi
    obtain ⟨hi1, hi2⟩ := hi
    simp -implicitDefEqProofs only [lk_normal, hb, SB, SV.known, packR, ne_eq, reduceCtorEq, Nat.reduceEqDiff, ↓reduceIte, if_true, if_false, eq_self, Nat.reduceAdd, Nat.reduceMul, Nat.reduceSub, forall_const, oneCellS, litOne, flat1, Kd.isSca, flat, TYB]
    refine ⟨fun h => ?_, fun h => ?_⟩
    · have hlt : i < len := by omega
      have e1 : 0 + (i : Int).toNat * 3 = i * 3 := by simp
      have e2 : (L.drop (i * 3)).take 3 = (chk3 L 0 len).getD i [] := by rw [chk3_getD L 0 len i hlt, Nat.zero_add]
      have e3 : Q ((chk3 L 0 len).getD i []) := by rw [← e2]; exact hQ i hlt
      simp only [Int.toNat_natCast, Nat.zero_add, e2]
      refine ⟨by omega, by omega, by omega, ⟨hE, e3⟩, ?_⟩
      cases hp : pr ((chk3 L 0 len).getD i []) with
      | true =>
        simp -implicitDefEqProofs only [SB, SV.known, packR, ne_eq, reduceCtorEq, Nat.reduceEqDiff, ↓reduceIte, if_true, if_false, eq_self, Nat.reduceAdd, Nat.reduceMul, Nat.reduceSub, forall_const, oneCellS, litOne, flat1, Kd.isSca, flat, TYB]
        rw [idxG_hit (by omega) hp hi2]
      | false =>
        simp -implicitDefEqProofs only [lk_normal, SB, SV.known, packR, ne_eq, reduceCtorEq, Nat.reduceEqDiff, ↓reduceIte, if_true, if_false, eq_self, Nat.reduceAdd, Nat.reduceMul, Nat.reduceSub, forall_const, oneCellS, litOne, flat1, Kd.isSca, flat, TYB]
        refine ⟨by unfold In64; omega, i + 1, ⟨by omega, fun k hk => ?_⟩, by omega, Sub.same ?_ ?_ hwH (Nat.le_refl _)⟩
        · by_cases hki : k = i
          · subst hki; exact hp
          · exact hi2 k (by omega)
        · simp [subS, subH, wfS, wfH, SV.ren, renL, SObj.ren, SV.wf, SObj.wf, wfL, sget_cons, hget_cons, SV.known, renL_id]
        · simp [subS, subH, wfS, wfH, SV.ren, renL, SObj.ren, SV.wf, SObj.wf, wfL, sget_cons, hget_cons, hw, h00]
    · obtain rfl : i = len := by omega
      rw [idxG_none (by rw [hE2]; exact hi2)]
theorem deleteFunc3_ok (g : Nat) (hg : g ≠ 143) (caps : List SV) (Hc : Heap) (pr : List Int → Bool) (b : Nat) (L : List Int) (e len cap : Nat) (hlen : L.length = cap * 3) (hlc : len ≤ cap) (hm : len ≤ 3074457345618258602)
    (Q : List Int → Prop) (hQ : ∀ i, i < len → Q ((L.drop (i * 3)).take 3)) (hc : ∀ x : List Int, Q x → PureH Tryz.prog g (.arr x :: caps) Hc (.bool (pr x))) (hw : wfL b caps) (hwH : hwf b Hc) :
    UpdP Tryz.prog 98 [.slice b 0 len cap, .fn g caps] b Hc (.ints L e)
      (.ints (kept3 (fun x => !pr x) L len ++ List.replicate (len * 3 - (kept3 (fun x => !pr x) L len).length) 0 ++ L.drop (len * 3)) e) (.slice b 0 ((kept3 (fun x => !pr x) L len).length / 3) cap) := by
  have hl2 : len * 3 ≤ L.length := by omega
  have hb0 : hget ((b, SObj.ints L e) :: Hc) b = some (.ints L e) := by rw [hget_cons, if_pos rfl]
  have hwf1 : ∀ o : SObj, (∀ n, o.wf n) → hwf (b + 1) ((b, o) :: Hc) := fun o ho => hwf_cons (hwf_mono (by omega) hwH) (by omega) (ho _)
  have hw1 : wfL (b + 1) caps := wfL_mono (by omega) caps hw
  have hE : ∀ o : SObj, Ext Hc ((b, o) :: Hc) := fun o => Ext.cons hwH (Nat.le_refl _) (Ext.refl Hc)
  refine upd_of_vc (X := ⟨Tryz.prog, tys, [(143, fun args H' => some (args = [.slice b 0 len cap, .fn g caps] ∧ H' = (b, .ints L e) :: Hc, .int (idxG pr (chk3 L 0 len)))),
      (g, fun args H' => match args with | .arr x :: r => some (r = caps ∧ Ext Hc H' ∧ Q x, .bool (pr x)) | _ => none)], [], true, true, b, [], []⟩) fn_98
    ⟨tys_ok, .cons (fun args H' p v h hp => ?_) (.cons (fun args H' p v h hp => ?_) .nil), .nil, mixed⟩ (n0 := b + 1) (by omega) (Nat.le_of_ble_eq_true rfl) ⟨by simp [SV.wf], by simpa [SV.wf] using hw1, trivial⟩ (hwf1 _ fun _ => trivial) (fun k o1 hk => (hwH k o1 hk).1) rfl rfl (fun _ => trivial) (by simp [SV.wf]) ?_
  · cases h
    obtain ⟨rfl, rfl⟩ := hp
    exact indexFuncP3_ok g caps _ Hc pr (b + 1) b L e len cap hb0 hl2 (by omega) Q hQ hc (hE _) hw1 (hwf1 _ fun _ => trivial)
  · split at h
    · cases h
      obtain ⟨rfl, hx1, hx⟩ := hp
      exact (hc _ hx).weaken hx1 (fun _ => trivial)
    · cases h
  simp -implicitDefEqProofs only [Tryz.f98, Option.getD_some, argS, hb0, hg, SB, SV.known, packR, ne_eq, reduceCtorEq, Nat.reduceEqDiff, ↓reduceIte, if_true, if_false, eq_self, Nat.reduceAdd, Nat.reduceMul, Nat.reduceSub, forall_const, oneCellS, litOne, flat1, Kd.isSca, flat, TYB]
  have hkl := kept3_even (fun x => !pr x) L len hl2
  have hwc : hwf (b + 1) Hc := hwf_mono (by omega) hwH
  by_cases hneg : idxG pr (chk3 L 0 len) < 0
  · obtain ⟨h1, h2⟩ := idxG_none' [] hneg
    have hk : kept3 (fun x => !pr x) L len = L.take (len * 3) := kept3_all len hl2 fun i hi => by
      have := h2 i (by rw [chk3_len]; exact hi)
      rw [chk3_getD L 0 len i hi, Nat.zero_add] at this
      simp [this]
    have hkl : (L.take (len * 3)).length = len * 3 := by rw [List.length_take]; omega
    rw [h1, hk, hkl]
    refine ⟨fun _ => ⟨?_, ?_⟩, fun hx => absurd rfl hx⟩
    · rw [show len * 3 / 3 = len by omega]
    · simp
  · obtain ⟨i0, h1, h2, h3, h4⟩ := idxG_some' [] hneg
    rw [chk3_len] at h2
    rw [chk3_getD L 0 len i0 h2, Nat.zero_add] at h3
    have hk0 : kept3 (fun x => !pr x) L i0 = L.take (i0 * 3) := kept3_all i0 (by omega) fun i hi => by
      have := h4 i hi
      rw [chk3_getD L 0 len i (by omega), Nat.zero_add] at this
      simp [this]
    have hk1 : kept3 (fun x => !pr x) L (i0 + 1) = L.take (i0 * 3) := by
      rw [kept3_succ, hk0, h3]; simp
    rw [h1]
    refine ⟨fun hx => absurd hx (by omega), fun _ => ?_⟩
    (try (and_intros <;> try (first | omega | (unfold In64; omega) | trivial | assumption)))
    refine loop_intro (fun s : Nat × Nat × List Int => [(6, .int s.1), (5, .int s.2.1), (0, .slice b 0 len cap), (1, .fn g caps)]) (fun s => [(b, .ints (kept3 (fun x => !pr x) L s.1 ++ s.2.2 ++ L.drop (s.1 * 3)) e)] ++ Hc) (b + 1)
      (fun s => s.1 ≤ len ∧ (kept3 (fun x => !pr x) L s.1).length = s.2.1 * 3 ∧ s.2.1 < s.1 ∧ s.2.2.length + s.2.1 * 3 = s.1 * 3) (fun s => len - s.1) ?_ ?_
    · have e1 : (L.drop (i0 * 3)).take 3 ++ L.drop ((i0 + 1) * 3) = L.drop (i0 * 3) := by
        rw [show (i0 + 1) * 3 = i0 * 3 + 3 by omega, ← List.drop_drop]; exact List.take_append_drop 3 _
      refine ⟨(i0 + 1, i0, (L.drop (i0 * 3)).take 3), ⟨by simp only; omega, by simp only; rw [hk1, List.length_take]; omega, by simp only; omega, by simp only; rw [List.length_take, List.length_drop]; omega⟩, Sub.mk_ext ?_ ?_ ?_ ?_ (Nat.le_refl _) (hE _) hwc⟩
      · simp [subS, subH, wfS, wfH, SV.ren, renL, SObj.ren, SV.wf, SObj.wf, wfL, sget_cons, hget_cons, SV.known, renL_id]
      · rw [hk1, List.append_assoc, e1, List.take_append_drop]
        simp [subS, subH, wfS, wfH, SV.ren, renL, SObj.ren, SV.wf, SObj.wf, wfL, sget_cons, hget_cons]
      · simp [subS, subH, wfS, wfH, SV.ren, renL, SObj.ren, SV.wf, SObj.wf, wfL, sget_cons, hget_cons, hw1]
      · simp [subS, subH, wfS, wfH, SV.ren, renL, SObj.ren, SV.wf, SObj.wf, wfL, sget_cons, hget_cons]
    · rintro ⟨j, i, mid⟩ ⟨g1, g2, g3, g4⟩
      simp only at g1 g2 g3 g4
      have lenL : (kept3 (fun x => !pr x) L j ++ mid ++ L.drop (j * 3)).length = cap * 3 := by
        rw [List.length_append, List.length_append, List.length_drop]; omega
      by_cases hlt : j < len
      · have ex : ((kept3 (fun x => !pr x) L j ++ mid ++ L.drop (j * 3)).drop (j * 3)).take 3 = (L.drop (j * 3)).take 3 := by
          rw [List.drop_left' (by rw [List.length_append]; omega)]
        have l2 : ((L.drop (j * 3)).take 3).length = 3 := by rw [List.length_take, List.length_drop]; omega
        have es := kept3_succ (fun x => !pr x) L j
        have tt : List.take 3 ((L.drop (j * 3)).take 3) = (L.drop (j * 3)).take 3 := by simp [List.take_take]
        have hjl : (j : Int) < len := by omega
        have hQj := hQ j hlt
        have dl : (L.drop (j * 3)).take 3 ++ L.drop ((j + 1) * 3) = L.drop (j * 3) := by
          rw [show (j + 1) * 3 = j * 3 + 3 by omega, ← List.drop_drop]; exact List.take_append_drop 3 _
        have hE2 : ∀ o1 o2 o3 : SObj, Ext Hc ((b + 1, o1) :: (b + 1, o2) :: (b, o3) :: Hc) := fun o1 o2 o3 => Ext.cons hwH (by omega) (Ext.cons hwH (by omega) (hE _))
        cases hp : pr ((L.drop (j * 3)).take 3) with
        | true =>
          rw [hp] at es
          simp only [Bool.not_true, Bool.false_eq_true, if_false, List.append_nil] at es
          simp -implicitDefEqProofs only [lk_normal, hget_cons, List.cons_append, List.nil_append, hg, lenL, ex, l2, tt, hp, hjl, hE2, hQj, ZB, Int.reduceToNat, Nat.reduceLT, Nat.reduceLeDiff, Int.reduceLE, Int.reduceLT, Nat.reduceEqDiff, Nat.reduceSub, SB, SV.known, packR, ne_eq, reduceCtorEq, Nat.reduceEqDiff, ↓reduceIte, if_true, if_false, eq_self, Nat.reduceAdd, Nat.reduceMul, Nat.reduceSub, forall_const, oneCellS, litOne, flat1, Kd.isSca, flat, TYB]
          (try (and_intros <;> try (first | omega | (unfold In64; omega) | trivial | assumption)))
          refine ⟨(j + 1, i, mid ++ (L.drop (j * 3)).take 3), ⟨by simp only; omega, by simp only; rw [es]; exact g2, by simp only; omega, by simp only; rw [List.length_append, l2]; omega⟩, by simp only; omega, Sub.mk_ext (l := [(b, _)]) ?_ ?_ ?_ ?_ (Nat.le_refl _) (hE2 _ _ _) hwc⟩
          · simp [subS, subH, wfS, wfH, SV.ren, renL, SObj.ren, SV.wf, SObj.wf, wfL, sget_cons, hget_cons, SV.known, renL_id]
          · rw [es]
            simp only [List.append_assoc, dl]
            simp [subS, subH, wfS, wfH, SV.ren, renL, SObj.ren, SV.wf, SObj.wf, wfL, sget_cons, hget_cons]
          · simp [subS, subH, wfS, wfH, SV.ren, renL, SObj.ren, SV.wf, SObj.wf, wfL, sget_cons, hget_cons, hw1]
          · simp [subS, subH, wfS, wfH, SV.ren, renL, SObj.ren, SV.wf, SObj.wf, wfL, sget_cons, hget_cons]
        | false =>
          rw [hp] at es
          simp only [Bool.not_false, if_true] at es
          have hbb : ¬ b = b + 1 := by omega
          have st : List.take (i * 3) (kept3 (fun x => !pr x) L j ++ mid ++ L.drop (j * 3)) ++ (L.drop (j * 3)).take 3 ++ List.drop (i * 3 + 3) (kept3 (fun x => !pr x) L j ++ mid ++ L.drop (j * 3)) = kept3 (fun x => !pr x) L (j + 1) ++ (mid.drop 3 ++ (L.drop (j * 3)).take 3) ++ L.drop ((j + 1) * 3) := by
            rw [es, ← List.drop_drop, List.append_assoc (kept3 (fun x => !pr x) L j), List.take_left' g2, List.drop_left' g2, List.drop_append_of_le_length (by omega)]
            simp only [List.append_assoc, dl]
          simp -implicitDefEqProofs only [lk_normal, hget_cons, List.cons_append, List.nil_append, hg, lenL, ex, l2, tt, hp, hjl, hE2, hQj, hbb, st, ZB, Int.reduceToNat, Nat.reduceLT, Nat.reduceLeDiff, Int.reduceLE, Int.reduceLT, Nat.reduceEqDiff, Nat.reduceSub, SB, SV.known, packR, ne_eq, reduceCtorEq, Nat.reduceEqDiff, ↓reduceIte, if_true, if_false, eq_self, Nat.reduceAdd, Nat.reduceMul, Nat.reduceSub, forall_const, oneCellS, litOne, flat1, Kd.isSca, flat, TYB]
          (try (and_intros <;> try (first | omega | (unfold In64; omega) | trivial | assumption)))
          refine ⟨(j + 1, i + 1, mid.drop 3 ++ (L.drop (j * 3)).take 3), ⟨by simp only; omega, by simp only; rw [es, List.length_append, g2, l2]; omega, by simp only; omega, by simp only; rw [List.length_append, l2, List.length_drop]; omega⟩, by simp only; omega, Sub.mk_ext (l := [(b, _)]) ?_ ?_ ?_ ?_ (Nat.le_refl _) (Ext.cons hwH (Nat.le_refl _) (hE2 _ _ _)) hwc⟩
          · simp [subS, subH, wfS, wfH, SV.ren, renL, SObj.ren, SV.wf, SObj.wf, wfL, sget_cons, hget_cons, SV.known, renL_id]
          · simp [subS, subH, wfS, wfH, SV.ren, renL, SObj.ren, SV.wf, SObj.wf, wfL, sget_cons, hget_cons]
          · simp [subS, subH, wfS, wfH, SV.ren, renL, SObj.ren, SV.wf, SObj.wf, wfL, sget_cons, hget_cons, hw1]
          · simp [subS, subH, wfS, wfH, SV.ren, renL, SObj.ren, SV.wf, SObj.wf, wfL, sget_cons, hget_cons]
      · have hjl : ¬ (j : Int) < len := by omega
        obtain rfl : j = len := by omega
        simp -implicitDefEqProofs only [lk_normal, hget_cons, List.cons_append, List.nil_append, hg, lenL, hjl, ZB, Int.reduceToNat, Nat.reduceLT, Nat.reduceLeDiff, Int.reduceLE, Int.reduceLT, Nat.reduceEqDiff, Nat.reduceSub, SB, SV.known, packR, ne_eq, reduceCtorEq, Nat.reduceEqDiff, ↓reduceIte, if_true, if_false, eq_self, Nat.reduceAdd, Nat.reduceMul, Nat.reduceSub, forall_const, oneCellS, litOne, flat1, Kd.isSca, flat, TYB]
        have c1 : cutOff cap i 0 3 = i * 3 := by unfold cutOff; rw [if_neg (by omega)]; omega
        have c2 : i * 3 + (j - i) * 3 = j * 3 := by omega
        rw [c1, c2, g2]
        refine ⟨by omega, by omega, by omega, by omega, by omega, by omega, ?_, ?_⟩
        · rw [show i * 3 / 3 = i by omega]
        · rw [List.append_assoc (kept3 (fun x => !pr x) L j), List.take_left' g2, ← List.append_assoc, List.drop_left' (by rw [List.length_append]; omega), show (j - i) * 3 = j * 3 - i * 3 by omega]
/-- On a slice that is nil. -/
theorem deleteFunc3_nil (g : Nat) (caps : List SV) (H : Heap) (n0 : Nat) (hw : wfL n0 caps) (hwH : hwf n0 H) : PureH Tryz.prog 98 [.nils, .fn g caps] H .nils := by
  have h1 : PureH Tryz.prog 143 [.nils, .fn g caps] H (.int (-1)) := by
    refine pure_of_vc (X := ⟨Tryz.prog, tys, [], [], true, true, n0, [], []⟩) fn_143 ⟨tys_ok, .nil, .nil, mixed⟩ (n0 := n0) (Nat.le_of_ble_eq_true rfl) ⟨trivial, by simpa [SV.wf] using hw, trivial⟩ hwH (Nat.le_refl _) (fun _ => trivial) ?_
    simp -implicitDefEqProofs only [Tryz.f143, Option.getD_some, argS, SB, SV.known, packR, ne_eq, reduceCtorEq, Nat.reduceEqDiff, ↓reduceIte, if_true, if_false, eq_self, Nat.reduceAdd, Nat.reduceMul, Nat.reduceSub, forall_const, oneCellS, litOne, flat1, Kd.isSca, flat, TYB]
    refine loop_intro (fun i : Unit => [(0, .nils), (1, .fn g caps), (7, .int 0), (8, .int 0)]) (fun i => H) n0 (fun i => True) (fun i => 0) ?_ ?_
    · refine ⟨(), trivial, Sub.same ?_ ?_ hwH (Nat.le_refl _)⟩
      · simp [subS, subH, wfS, wfH, SV.ren, renL, SObj.ren, SV.wf, SObj.wf, wfL, sget_cons, hget_cons, SV.known, renL_id]
      · simp [subS, subH, wfS, wfH, SV.ren, renL, SObj.ren, SV.wf, SObj.wf, wfL, sget_cons, hget_cons, hw]
    · intro _ _
      simp -implicitDefEqProofs only [lk_normal, SB, SV.known, packR, ne_eq, reduceCtorEq, Nat.reduceEqDiff, ↓reduceIte, if_true, if_false, eq_self, Nat.reduceAdd, Nat.reduceMul, Nat.reduceSub, forall_const, oneCellS, litOne, flat1, Kd.isSca, flat, TYB]
      simp
  refine pure_of_vc (X := ⟨Tryz.prog, tys, [(143, fun args H' => some (args = [.nils, .fn g caps] ∧ H' = H, .int (-1)))], [], true, true, n0, [], []⟩) fn_98 ⟨tys_ok, .cons (fun args H' p v h hp => ?_) .nil, .nil, mixed⟩ (n0 := n0) (Nat.le_of_ble_eq_true rfl) ⟨trivial, by simpa [SV.wf] using hw, trivial⟩ hwH (Nat.le_refl _) (fun _ => trivial) ?_
  · cases h
    obtain ⟨rfl, rfl⟩ := hp
    exact h1
  simp -implicitDefEqProofs only [Tryz.f98, Option.getD_some, argS, SB, SV.known, packR, ne_eq, reduceCtorEq, Nat.reduceEqDiff, ↓reduceIte, if_true, if_false, eq_self, Nat.reduceAdd, Nat.reduceMul, Nat.reduceSub, forall_const, oneCellS, litOne, flat1, Kd.isSca, flat, TYB]
end Go.Proofs.YtmccafjblhbmkaaGreat
set_option maxRecDepth 100000
set_option linter.unusedSimpArgs false
set_option linter.unusedVariables false
namespace Go.Proofs.YtmccafjblhbmkaaGreat
open Go Go.RowKit
--@tbl eqSource = laws.eqSource
--@tbl eqS3 = laws.eqSourceS
/-! Marks. -/
--@tbl mark3 = laws.markSourceS
--@tbl held3 = laws.heldSourceS
end Go.Proofs.YtmccafjblhbmkaaGreat
set_option maxRecDepth 100000
set_option linter.unusedSimpArgs false
set_option linter.unusedVariables false
namespace Go.Proofs.YtmccafjblhbmkaaGreat
open Go Go.RowKit
--@tbl toIntA2 = laws.toIntA2
end Go.Proofs.YtmccafjblhbmkaaGreat
set_option maxRecDepth 100000
set_option linter.unusedSimpArgs false
set_option linter.unusedVariables false
namespace Go.Proofs.YtmccafjblhbmkaaGreat
open Go Go.RowKit
/-- Depths that a rack fits. -/
def forB (R D : List Int) : Bool := rackB R && D.all isDep && fitF R D
/-! Moved layers. -/
end Go.Proofs.YtmccafjblhbmkaaGreat
set_option maxRecDepth 100000
set_option linter.unusedSimpArgs false
set_option linter.unusedVariables false
namespace Go.Proofs.YtmccafjblhbmkaaGreat
open Go Go.RowKit
/-! CountRules. -/
end Go.Proofs.YtmccafjblhbmkaaGreat
set_option maxRecDepth 100000
set_option linter.unusedSimpArgs false
set_option linter.unusedVariables false
namespace Go.Proofs.YtmccafjblhbmkaaGreat
open Go Go.RowKit
/-! DeleteFunc with a closure over a rack and depths. -/
/-! The lists. -/
end Go.Proofs.YtmccafjblhbmkaaGreat
set_option maxRecDepth 100000
set_option linter.unusedSimpArgs false
set_option linter.unusedVariables false
namespace Go.Proofs.YtmccafjblhbmkaaGreat
open Go Go.RowKit
def goodF (R p : List Int) : Bool := decide (bndF (pourF R (p.getD 0 0).toNat (p.getD 1 0).toNat) < bndF R)
def gdL (R : List Int) : List Int := kept (fun p => goodF R p) (PL R 36) ((PL R 36).length / 2)
end Go.Proofs.YtmccafjblhbmkaaGreat
set_option maxRecDepth 100000
set_option linter.unusedSimpArgs false
set_option linter.unusedVariables false
namespace Go.Proofs.YtmccafjblhbmkaaGreat
open Go Go.RowKit
def stR (R : List Int) : List Int := if gdL R = [] then R else pourF R ((gdL R).getD 0 0).toNat ((gdL R).getD 1 0).toNat
def gpR (R : List Int) : Nat → List Int
  | 0 => R
  | n + 1 => stR (gpR R n)
def gpL (R : List Int) : Nat → List Int
  | 0 => []
  | n + 1 => gpL R n ++ (gdL (gpR R n)).take 2
attribute [local irreducible] gpR gpL gdL pourF bndF canF goodF
end Go.Proofs.YtmccafjblhbmkaaGreat
set_option maxRecDepth 100000
set_option linter.unusedSimpArgs false
set_option linter.unusedVariables false
namespace Go.Proofs.YtmccafjblhbmkaaGreat
open Go Go.RowKit
def cppB (R : List Int) (i j : Int) : Bool := plF i && plF j && canF R i j
attribute [local irreducible] pourF bndF canF goodF cppB
end Go.Proofs.YtmccafjblhbmkaaGreat
set_option maxRecDepth 100000
set_option linter.unusedSimpArgs false
set_option linter.unusedVariables false
namespace Go.Proofs.YtmccafjblhbmkaaGreat
open Go Go.RowKit
attribute [local irreducible] bkR bkB bk2 bkT --@tbl PourBacks = impl.PourBacks
end Go.Proofs.YtmccafjblhbmkaaGreat
set_option maxRecDepth 100000
set_option linter.unusedSimpArgs false
set_option linter.unusedVariables false
namespace Go.Proofs.YtmccafjblhbmkaaGreat
open Go Go.RowKit
def delAB_F (g : Nat) (pr : List Int → List Int → List Int → Bool) (Q : List Int → List Int → List Int → Prop) : List SV → Heap → Nat → Nat → K1 → Prop
  | [.slice b 0 len cap, .fn f [.ptr k 0, .ptr k2 0]], H, n, m, κ => match hget H b, hget H k, hget H k2 with
    | some (.ints L e), some (.ints R _), some (.ints D _) => f = g ∧ (R.length = 24 ∧ D.length = 24) ∧ L.length = cap * 3 ∧ len ≤ cap ∧ len ≤ 3074457345618258602 ∧ (b ≠ k ∧ b ≠ k2 ∧ k ≠ k2) ∧ m ≤ b ∧ (∀ i, i < len → Q R D ((L.drop (i * 3)).take 3)) ∧
        κ (.slice b 0 ((kept3 (fun x => !pr R D x) L len).length / 3) cap) ((b, .ints (kept3 (fun x => !pr R D x) L len ++ List.replicate (len * 3 - (kept3 (fun x => !pr R D x) L len).length) 0 ++ L.drop (len * 3)) e) :: H) n
    | _, _, _ => False
  | [.nils, .fn _ [.ptr k 0, .ptr k2 0]], H, n, _, κ => match hget H k, hget H k2 with
    | some (.ints _ _), some (.ints _ _) => κ .nils H n
    | _, _ => False
  | _, _, _, _, _ => False
--@tbl delAB = slices.DeleteFunc[[]impl.Source,impl.Source]
theorem delAB_T (g : Nat) (pr : List Int → List Int → List Int → Bool) (Q : List Int → List Int → List Int → Prop) (hg : g ≠ 143) (hc : ∀ (R D : List Int) (e e' : Nat) (p : List Int), R.length = 24 → D.length = 24 → Q R D p → PureH Tryz.prog g [.arr p, .ptr 0 0, .ptr 1 0] [(0, .ints R e), (1, .ints D e')] (.bool (pr R D p))) :
    ∀ args H n m κ, delAB_F g pr Q args H n m κ → GenOK Tryz.prog 98 args H n m κ := by
  intro args H n m κ h
  unfold delAB_F at h
  split at h
  · rename_i b len cap f k k2
    split at h
    · rename_i L e R e2 D e3 h1 h2 h3
      obtain ⟨rfl, ⟨hR, hD⟩, hL, hlc, hm, ⟨hb1, hb2, hb3⟩, hmb, hQ, h⟩ := h
      have hu := deleteFunc3_ok f hg [.ptr 0 0, .ptr 1 0] [(0, .ints R e2), (1, .ints D e3)] (pr R D) 2 L e len cap hL hlc hm (Q R D) hQ (fun x hx => hc R D e2 e3 x hR hD hx) (by simp [wfL, SV.wf]) (wfH_spec (by simp [wfH, SObj.wf]))
      have := gen_of_upd (H := H) (n := n) (m := m) (κ := κ) hu (fun j => if j = 2 then b else if j = 1 then k2 else k) (fun j o1 hj => by
        simp only [hget_cons] at hj
        split at hj
        · rename_i hj1; cases hj; rw [if_pos hj1]; exact h1
        · rename_i hj1
          rw [if_neg hj1]
          split at hj
          · rename_i hj0; cases hj; rw [if_neg (by omega)]; exact h2
          · split at hj
            · rename_i hj2; cases hj; rw [if_pos hj2]; exact h3
            · cases hj) (fun j1 o1 j2 o2 g1 g2 he => by
        have dom : ∀ j o, hget [(2, SObj.ints L e), (0, .ints R e2), (1, .ints D e3)] j = some o → j = 2 ∨ j = 0 ∨ j = 1 := fun j o hj => by
          simp only [hget_cons] at hj
          split at hj
          · omega
          · split at hj
            · omega
            · split at hj
              · omega
              · cases hj
        rcases dom j1 o1 g1 with rfl | rfl | rfl <;> rcases dom j2 o2 g2 with rfl | rfl | rfl <;> simp at he <;> omega) (by simpa using hmb) rfl (fun n hn => by simpa [SV.wf, SV.ren] using hn) (by simpa [SV.ren] using h)
      simpa [renL, SV.ren] using this
    · exact h.elim
  · rename_i f k k2
    split at h
    · have hp := deleteFunc3_nil f [.ptr k 0, .ptr k2 0] [] (k + k2 + 1) (by simp [wfL, SV.wf]; omega) (hwf_nil _)
      refine ⟨hp.ent, fun B M w hH hwH hwa hown hM => ?_⟩
      refine (hp.call B w (HR.nil B w)).mono fun e w' hh => ?_
      exact ⟨.nils, H, n, B, hh.1, h, Nat.le_refl _, trivial, hwH, fun _ _ => rfl, hH.of_below hh.2, hown, Kept.of_below hh.2⟩
    · exact h.elim
  · exact h.elim

def btP (A B s : List Int) : Bool := decide (bkR B (s.getD 0 0) (s.getD 1 0) (s.getD 2 0) = A)
def btQ (_ B s : List Int) : Prop := s.length = 3 ∧ rackB B = true ∧ bkB B (s.getD 0 0) (s.getD 1 0) (s.getD 2 0) = true
theorem btQ_of {A B : List Int} (hr : rackB B = true) (i : Nat) (junk : List Int) (h : i * 3 + 3 ≤ (SrL B 144).length) : btQ A B (List.take 3 (List.drop (i * 3) (SrL B 144 ++ junk))) := by
  obtain ⟨a, b, c, h1, h2⟩ := SrL_trip B 144 i h
  rw [List.drop_append_of_le_length (by omega), List.take_append_of_le_length (by rw [List.length_drop]; omega), h2]
  exact ⟨rfl, hr, h1⟩
theorem bt1_ok (B A : List Int) (e e' : Nat) (s : List Int) (hB : B.length = 24) (hA : A.length = 24) (hq : btQ A B s) : PureH Tryz.prog 99 [.arr s, .ptr 0 0, .ptr 1 0] [(0, .ints B e), (1, .ints A e')] (.bool (!btP A B s)) := by
  have tkA : A.take 24 = A := List.take_of_length_le (by omega)
  have tkB : B.take 24 = B := List.take_of_length_le (by omega)
  obtain ⟨h1, h2, h3⟩ := hq
  have tks : s.take 3 = s := List.take_of_length_le (by omega)
  have h4 := bk_21 h3
  have bl := bkR_len hB (s.getD 0 0) (s.getD 1 0) (s.getD 2 0)
  have tkb : (bkR B (s.getD 0 0) (s.getD 1 0) (s.getD 2 0)).take 24 = bkR B (s.getD 0 0) (s.getD 1 0) (s.getD 2 0) := List.take_of_length_le (by omega)
  have eqr := eqI_rack
  unfold btP
  refine pure_of_vc (X := ⟨Tryz.prog, tys, [(87, back_F)], [], true, true, 2, [], []⟩) fn_99 ⟨tys_ok, (.cons back_T .nil), .nil, mixed⟩ (n0 := 2) (Nat.le_of_ble_eq_true rfl) (by simp [wfL, SV.wf]) (wfH_spec (by simp [wfH, SObj.wf])) (Nat.le_refl _) (fun _ => by simp [SV.wf, wfL]) ?_
  simp -implicitDefEqProofs only [Tryz.f99, Option.getD_some, argS, back_F, hA, hB, tkA, tkB, tks, h1, h2, h3, h4, bl, tkb, eqr, ZB, Int.reduceToNat, Nat.reduceLT, Nat.reduceLeDiff, Int.reduceLE, Int.reduceLT, Nat.reduceEqDiff, Nat.reduceSub, SB, SV.known, packR, ne_eq, reduceCtorEq, Nat.reduceEqDiff, ↓reduceIte, if_true, if_false, eq_self, Nat.reduceAdd, Nat.reduceMul, Nat.reduceSub, forall_const, oneCellS, litOne, flat1, Kd.isSca, flat, TYB]
def btDel_F := delAB_F 99 (fun B A s => !btP A B s) (fun B A s => btQ A B s)
--@tbl btDel = slices.DeleteFunc[[]impl.Source,impl.Source]
theorem btDel_T : ∀ args H n m κ, btDel_F args H n m κ → GenOK Tryz.prog 98 args H n m κ := delAB_T _ _ _ (by decide) bt1_ok
def btL (A B : List Int) : List Int := kept3 (fun s => btP A B s) (SrL B 144) ((SrL B 144).length / 3)
def btoB (A B : List Int) : Bool := rackB A && rackB B
def btoF (A B : List Int) : List Int := if btoB A B = true then btL A B else []
theorem btoF_three (A B : List Int) : ∃ k, (btoF A B).length = k * 3 ∧ k ≤ 144 := by
  unfold btoF
  split
  · obtain ⟨m, hm, hm36⟩ := SrL_three B 144
    obtain ⟨k, hk, hkm⟩ := kept3_even (fun s => btP A B s) (SrL B 144) m (by omega)
    have e2 : (SrL B 144).length / 3 = m := by omega
    exact ⟨k, by unfold btL; rw [e2]; exact hk, by omega⟩
  · exact ⟨0, rfl, by omega⟩
theorem BackTo_ok (A B : List Int) (hA : A.length = 24) (hB : B.length = 24) : FreshP Tryz.prog 36 [.arr A, .arr B] [] (btoF A B) ((btoF A B).length / 3) 3 48 (decide (btoB A B = false ∨ SrL B 144 = [])) (.more [.bool (btoB A B)]) := by
  have tkA : A.take 24 = A := List.take_of_length_le (by omega)
  have tkB : B.take 24 = B := List.take_of_length_le (by omega)
  unfold btoF btoB
  cases h1 : rackB A
  · refine fresh_of_vc (X := ⟨Tryz.prog, tys, [(62, IsRack_F)], [(89, sources_F), (98, btDel_F)], true, true, 0, [], []⟩) fn_36 ⟨tys_ok, (.cons IsRack_T .nil), (.cons sources_T (.cons btDel_T .nil)), mixed⟩ (n0 := 0) rfl (Nat.le_of_ble_eq_true rfl) (by simp [wfL, SV.wf]) (wfH_spec (by simp [wfH, SObj.wf])) (Nat.le_refl _) ?_
    simp -implicitDefEqProofs only [Tryz.f36, Option.getD_some, argS, IsRack_F, sources_F, btDel_F, hA, hB, tkA, tkB, h1, freshK, Wrap.ap, ZB, Int.reduceToNat, Nat.reduceLT, Nat.reduceLeDiff, Int.reduceLE, Int.reduceLT, Nat.reduceEqDiff, Nat.reduceSub, SB, SV.known, packR, ne_eq, reduceCtorEq, Nat.reduceEqDiff, ↓reduceIte, if_true, if_false, eq_self, Nat.reduceAdd, Nat.reduceMul, Nat.reduceSub, forall_const, oneCellS, litOne, flat1, Kd.isSca, flat, TYB]
    exact .inl ⟨by simp, rfl, rfl⟩
  cases h2 : rackB B
  · refine fresh_of_vc (X := ⟨Tryz.prog, tys, [(62, IsRack_F)], [(89, sources_F), (98, btDel_F)], true, true, 0, [], []⟩) fn_36 ⟨tys_ok, (.cons IsRack_T .nil), (.cons sources_T (.cons btDel_T .nil)), mixed⟩ (n0 := 0) rfl (Nat.le_of_ble_eq_true rfl) (by simp [wfL, SV.wf]) (wfH_spec (by simp [wfH, SObj.wf])) (Nat.le_refl _) ?_
    simp -implicitDefEqProofs only [Tryz.f36, Option.getD_some, argS, IsRack_F, sources_F, btDel_F, hA, hB, tkA, tkB, h1, h2, freshK, Wrap.ap, ZB, Int.reduceToNat, Nat.reduceLT, Nat.reduceLeDiff, Int.reduceLE, Int.reduceLT, Nat.reduceEqDiff, Nat.reduceSub, SB, SV.known, packR, ne_eq, reduceCtorEq, Nat.reduceEqDiff, ↓reduceIte, if_true, if_false, eq_self, Nat.reduceAdd, Nat.reduceMul, Nat.reduceSub, forall_const, oneCellS, litOne, flat1, Kd.isSca, flat, TYB]
    exact .inl ⟨by simp, rfl, rfl⟩
  refine fresh_of_vc (X := ⟨Tryz.prog, tys, [(62, IsRack_F)], [(89, sources_F), (98, btDel_F)], true, true, 0, [], []⟩) fn_36 ⟨tys_ok, (.cons IsRack_T .nil), (.cons sources_T (.cons btDel_T .nil)), mixed⟩ (n0 := 0) rfl (Nat.le_of_ble_eq_true rfl) (by simp [wfL, SV.wf]) (wfH_spec (by simp [wfH, SObj.wf])) (Nat.le_refl _) ?_
  simp -implicitDefEqProofs only [Tryz.f36, Option.getD_some, argS, IsRack_F, sources_F, btDel_F, hA, hB, tkA, tkB, h1, h2, freshK, Wrap.ap, btDel_F, delAB_F, Bool.not_not, ZB, Int.reduceToNat, Nat.reduceLT, Nat.reduceLeDiff, Int.reduceLE, Int.reduceLT, Nat.reduceEqDiff, Nat.reduceSub, SB, SV.known, packR, ne_eq, reduceCtorEq, Nat.reduceEqDiff, ↓reduceIte, if_true, if_false, eq_self, Nat.reduceAdd, Nat.reduceMul, Nat.reduceSub, forall_const, oneCellS, litOne, flat1, Kd.isSca, flat, TYB]
  obtain ⟨m, hm, hm36⟩ := SrL_three B 144
  have e2 : (SrL B 144).length / 3 = m := by omega
  have uf : btL A B = kept3 (fun s => btP A B s) (SrL B 144) m := by unfold btL; rw [e2]
  refine ⟨fun h0 => ?_, fun h0 cap junk hj => ?_⟩
  · refine .inl ⟨by simp [h0], ?_, rfl⟩
    rw [uf, show m = 0 by rw [h0] at hm; simp at hm; omega]; rfl
  · have ka := kept3_app (fun s => btP A B s) (SrL B 144) junk m (by omega)
    obtain ⟨k, hk, hkm⟩ := kept3_even (fun s => btP A B s) (SrL B 144) m (by omega)
    rw [e2, ka]
    refine ⟨by rw [List.length_append]; omega, by omega, by omega, fun i hi => btQ_of h2 i junk (by omega), .inr ⟨2, cap, List.replicate (m * 3 - (kept3 (fun s => btP A B s) (SrL B 144) m).length) 0 ++ List.drop (m * 3) (SrL B 144 ++ junk), ?_, ?_, by omega, ?_, by simp [h0]⟩⟩
    · rw [uf]; rfl
    · rw [uf, hget_cons, if_pos rfl, List.append_assoc]
    · rw [uf, List.length_append, List.length_replicate, List.length_drop, List.length_append]
      omega
theorem sBackTo_ok (A B : List Int) (hA : A.length = 24) (hB : B.length = 24) : FreshP Tryz.prog 37 [.arr A, .arr B] [] (btoF A B) ((btoF A B).length / 3) 3 48 false (.more [.bool (btoB A B)]) := by
  have tkA : A.take 24 = A := List.take_of_length_le (by omega)
  have tkB : B.take 24 = B := List.take_of_length_le (by omega)
  have eqr := eqI_rack
  unfold btoF btoB
  cases h1 : rackB A
  · refine fresh_of_vc (X := ⟨Tryz.prog, tys, [(64, l2Rack_F), (88, l5Back_F)], [(90, l5Sources_F)], true, true, 0, [], []⟩) fn_37 ⟨tys_ok, (.cons l2Rack_T (.cons l5Back_T .nil)), (.cons l5Sources_T .nil), mixed⟩ (n0 := 0) rfl (Nat.le_of_ble_eq_true rfl) (by simp [wfL, SV.wf]) (wfH_spec (by simp [wfH, SObj.wf])) (Nat.le_refl _) ?_
    simp -implicitDefEqProofs only [Tryz.f37, Option.getD_some, argS, l2Rack_F, l5Back_F, l5Sources_F, hA, hB, tkA, tkB, h1, freshK, Wrap.ap, ZB, Int.reduceToNat, Nat.reduceLT, Nat.reduceLeDiff, Int.reduceLE, Int.reduceLT, Nat.reduceEqDiff, Nat.reduceSub, SB, SV.known, packR, ne_eq, reduceCtorEq, Nat.reduceEqDiff, ↓reduceIte, if_true, if_false, eq_self, Nat.reduceAdd, Nat.reduceMul, Nat.reduceSub, forall_const, oneCellS, litOne, flat1, Kd.isSca, flat, TYB]
    exact .inr ⟨2, 0, [], rfl, rfl, by omega, by simp, by simp⟩
  cases h2 : rackB B
  · refine fresh_of_vc (X := ⟨Tryz.prog, tys, [(64, l2Rack_F), (88, l5Back_F)], [(90, l5Sources_F)], true, true, 0, [], []⟩) fn_37 ⟨tys_ok, (.cons l2Rack_T (.cons l5Back_T .nil)), (.cons l5Sources_T .nil), mixed⟩ (n0 := 0) rfl (Nat.le_of_ble_eq_true rfl) (by simp [wfL, SV.wf]) (wfH_spec (by simp [wfH, SObj.wf])) (Nat.le_refl _) ?_
    simp -implicitDefEqProofs only [Tryz.f37, Option.getD_some, argS, l2Rack_F, l5Back_F, l5Sources_F, hA, hB, tkA, tkB, h1, h2, freshK, Wrap.ap, ZB, Int.reduceToNat, Nat.reduceLT, Nat.reduceLeDiff, Int.reduceLE, Int.reduceLT, Nat.reduceEqDiff, Nat.reduceSub, SB, SV.known, packR, ne_eq, reduceCtorEq, Nat.reduceEqDiff, ↓reduceIte, if_true, if_false, eq_self, Nat.reduceAdd, Nat.reduceMul, Nat.reduceSub, forall_const, oneCellS, litOne, flat1, Kd.isSca, flat, TYB]
    exact .inr ⟨2, 0, [], rfl, rfl, by omega, by simp, by simp⟩
  obtain ⟨m, hm, hm36⟩ := SrL_three B 144
  have e2 : (SrL B 144).length / 3 = m := by omega
  have uf : btL A B = kept3 (fun s => btP A B s) (SrL B 144) m := by unfold btL; rw [e2]
  refine fresh_of_vc (X := ⟨Tryz.prog, tys, [(64, l2Rack_F), (88, l5Back_F)], [(90, l5Sources_F)], true, true, 0, [], []⟩) fn_37 ⟨tys_ok, (.cons l2Rack_T (.cons l5Back_T .nil)), (.cons l5Sources_T .nil), mixed⟩ (n0 := 0) rfl (Nat.le_of_ble_eq_true rfl) (by simp [wfL, SV.wf]) (wfH_spec (by simp [wfH, SObj.wf])) (Nat.le_refl _) ?_
  simp -implicitDefEqProofs only [Tryz.f37, Option.getD_some, argS, l2Rack_F, l5Back_F, l5Sources_F, hA, hB, tkA, tkB, h1, h2, e2, freshK, Wrap.ap, ZB, Int.reduceToNat, Nat.reduceLT, Nat.reduceLeDiff, Int.reduceLE, Int.reduceLT, Nat.reduceEqDiff, Nat.reduceSub, SB, SV.known, packR, ne_eq, reduceCtorEq, Nat.reduceEqDiff, ↓reduceIte, if_true, if_false, eq_self, Nat.reduceAdd, Nat.reduceMul, Nat.reduceSub, forall_const, oneCellS, litOne, flat1, Kd.isSca, flat, TYB]
  rw [uf]
  have hqs := fun i => btQ_of (A := A) (B := B) h2 i []
  rw [List.append_nil] at hqs
  generalize SrL B 144 = P at *
  intro cap junk hj
  refine loop_intro (fun s : Nat × Nat × Nat × List Int => [(8, .int s.1), (7, .slice 3 0 m cap), (6, .slice 2 0 s.2.1 s.2.2.1), (2, .ptr 0 0), (3, .ptr 1 0)]) (fun s => [(2, .ints (kept3 (fun s => btP A B s) P s.1 ++ s.2.2.2) 48), (3, .ints (P ++ junk) 48), (0, .ints A 27), (1, .ints B 27)]) 4
    (fun s => s.1 ≤ m ∧ (kept3 (fun s => btP A B s) P s.1).length = s.2.1 * 3 ∧ s.2.1 ≤ s.1 ∧ s.2.2.2.length + s.2.1 * 3 = s.2.2.1 * 3) (fun s => m - s.1) ?_ ?_
  · refine ⟨(0, 0, 0, []), ?_, Sub.mk_id ?_ ?_ ?_ ?_ ?_⟩
    all_goals (try (simp only [kept3_zero, List.append_nil, LB, subS, subH, wfS, wfH, SV.ren, renL, SObj.ren, SV.wf, SObj.wf, wfL, SV.known, Nat.reduceEqDiff, ↓reduceIte, if_true, if_false, eq_self, Nat.reduceAdd, Nat.reduceLT, Nat.reduceLeDiff, implies_true, reduceCtorEq, forall_const]; done))
    all_goals (try (simp only [kept3_zero, List.append_nil, LB, subS, subH, wfS, wfH, SV.ren, renL, SObj.ren, SV.wf, SObj.wf, wfL, SV.known, Nat.reduceEqDiff, ↓reduceIte, if_true, if_false, eq_self, Nat.reduceAdd, Nat.reduceLT, Nat.reduceLeDiff, implies_true, reduceCtorEq, forall_const]; simp; done))
    all_goals (try (simp only [kept3_zero, List.append_nil, LB, subS, subH, wfS, wfH, SV.ren, renL, SObj.ren, SV.wf, SObj.wf, wfL, SV.known, Nat.reduceEqDiff, ↓reduceIte, if_true, if_false, eq_self, Nat.reduceAdd, Nat.reduceLT, Nat.reduceLeDiff, implies_true, reduceCtorEq, forall_const]; (and_intros <;> (first | omega | rfl | (simp; done) | (simp; omega))); done))
    all_goals (try dsimp only)
    all_goals (and_intros <;> try (first | omega | (unfold In64; omega) | trivial | assumption))
    all_goals simp [kept3_zero]
  · rintro ⟨i, n, capo, jo⟩ ⟨hi, hL, hni, hjo⟩
    simp only at hi hL hni hjo
    have lenL : (kept3 (fun s => btP A B s) P i ++ jo).length = capo * 3 := by rw [List.length_append]; omega
    have tkL : (kept3 (fun s => btP A B s) P i ++ jo).take (n * 3) = kept3 (fun s => btP A B s) P i := List.take_left' hL
    have lenP : (P ++ junk).length = cap * 3 := by rw [List.length_append]; omega
    by_cases hlt : i < m
    · have hil : (i : Int) < m := by omega
      have eP : List.take 3 (List.drop (i * 3) (P ++ junk)) = List.take 3 (List.drop (i * 3) P) := by
        rw [List.drop_append_of_le_length (by omega), List.take_append_of_le_length (by rw [List.length_drop]; omega)]
      have es := kept3_succ (fun s => btP A B s) P i
      obtain ⟨q1, q2, q3⟩ := hqs i (by omega)
      generalize hx : List.take 3 (List.drop (i * 3) P) = x at *
      have tx : List.take 3 x = x := List.take_of_length_le (by omega)
      have bl := bkR_len hB (x.getD 0 0) (x.getD 1 0) (x.getD 2 0)
      have tkb : (bkR B (x.getD 0 0) (x.getD 1 0) (x.getD 2 0)).take 24 = bkR B (x.getD 0 0) (x.getD 1 0) (x.getD 2 0) := List.take_of_length_le (by omega)
      have h4 := bk_21 q3
      have hT : bkT B (x.getD 0 0) (x.getD 1 0) (x.getD 2 0) = bkR B (x.getD 0 0) (x.getD 1 0) (x.getD 2 0) := by unfold bkT; rw [if_pos q3]
      by_cases hc : bkR B (x.getD 0 0) (x.getD 1 0) (x.getD 2 0) = A
      · have hp : btP A B x = true := by unfold btP; rw [hc]; simp
        rw [hp] at es
        simp only [if_true] at es
        simp -implicitDefEqProofs only [lk_normal, l5Back_F, hil, hA, hB, tkA, tkB, h2, eP, q1, q3, h4, hT, tx, bl, tkb, hc, eqr, lenP, lenL, tkL, ZB, Int.reduceToNat, Nat.reduceLT, Nat.reduceLeDiff, Int.reduceLE, Int.reduceLT, Nat.reduceEqDiff, Nat.reduceSub, SB, SV.known, packR, ne_eq, reduceCtorEq, Nat.reduceEqDiff, ↓reduceIte, if_true, if_false, eq_self, Nat.reduceAdd, Nat.reduceMul, Nat.reduceSub, forall_const, oneCellS, litOne, flat1, Kd.isSca, flat, TYB]
        (try (and_intros <;> try (first | omega | (unfold In64; omega) | trivial | assumption)))

        intro junk' cap' hj'
        (try (and_intros <;> try (first | omega | (unfold In64; omega) | trivial | assumption)))
        refine ⟨(i + 1, n + 1, cap', junk'), ?_, ?_, Sub.mk_to 2 6 ?_ ?_ ?_ ?_ ?_ ?_ ?_⟩
        all_goals (try (simp only [es, LB, subS, subH, wfS, wfH, SV.ren, renL, SObj.ren, SV.wf, SObj.wf, wfL, SV.known, Nat.reduceEqDiff, ↓reduceIte, if_true, if_false, eq_self, Nat.reduceAdd, Nat.reduceLT, Nat.reduceLeDiff, implies_true, reduceCtorEq, forall_const]; done))
        all_goals (try (simp only [es, LB, subS, subH, wfS, wfH, SV.ren, renL, SObj.ren, SV.wf, SObj.wf, wfL, SV.known, Nat.reduceEqDiff, ↓reduceIte, if_true, if_false, eq_self, Nat.reduceAdd, Nat.reduceLT, Nat.reduceLeDiff, implies_true, reduceCtorEq, forall_const]; simp; done))
        all_goals (try (simp only [es, LB, subS, subH, wfS, wfH, SV.ren, renL, SObj.ren, SV.wf, SObj.wf, wfL, SV.known, Nat.reduceEqDiff, ↓reduceIte, if_true, if_false, eq_self, Nat.reduceAdd, Nat.reduceLT, Nat.reduceLeDiff, implies_true, reduceCtorEq, forall_const]; (and_intros <;> (first | omega | rfl | (simp; done) | (simp; omega))); done))
        all_goals (try dsimp only)
        all_goals (and_intros <;> try (first | omega | (unfold In64; omega) | trivial | assumption))
        all_goals (try (rw [es, List.length_append, hL]; simp; omega))
      · have hp : btP A B x = false := by unfold btP; exact decide_eq_false hc
        rw [hp] at es
        simp only [Bool.false_eq_true, if_false, List.append_nil] at es
        simp -implicitDefEqProofs only [lk_normal, l5Back_F, hil, hA, hB, tkA, tkB, h2, eP, q1, q3, h4, hT, tx, bl, tkb, hc, eqr, lenP, lenL, tkL, ZB, Int.reduceToNat, Nat.reduceLT, Nat.reduceLeDiff, Int.reduceLE, Int.reduceLT, Nat.reduceEqDiff, Nat.reduceSub, SB, SV.known, packR, ne_eq, reduceCtorEq, Nat.reduceEqDiff, ↓reduceIte, if_true, if_false, eq_self, Nat.reduceAdd, Nat.reduceMul, Nat.reduceSub, forall_const, oneCellS, litOne, flat1, Kd.isSca, flat, TYB]
        (try (and_intros <;> try (first | omega | (unfold In64; omega) | trivial | assumption)))

        refine ⟨(i + 1, n, capo, jo), ?_, ?_, Sub.mk_id ?_ ?_ ?_ ?_ ?_⟩
        all_goals (try (simp only [es, LB, subS, subH, wfS, wfH, SV.ren, renL, SObj.ren, SV.wf, SObj.wf, wfL, SV.known, Nat.reduceEqDiff, ↓reduceIte, if_true, if_false, eq_self, Nat.reduceAdd, Nat.reduceLT, Nat.reduceLeDiff, implies_true, reduceCtorEq, forall_const]; done))
        all_goals (try (simp only [es, LB, subS, subH, wfS, wfH, SV.ren, renL, SObj.ren, SV.wf, SObj.wf, wfL, SV.known, Nat.reduceEqDiff, ↓reduceIte, if_true, if_false, eq_self, Nat.reduceAdd, Nat.reduceLT, Nat.reduceLeDiff, implies_true, reduceCtorEq, forall_const]; simp; done))
        all_goals (try (simp only [es, LB, subS, subH, wfS, wfH, SV.ren, renL, SObj.ren, SV.wf, SObj.wf, wfL, SV.known, Nat.reduceEqDiff, ↓reduceIte, if_true, if_false, eq_self, Nat.reduceAdd, Nat.reduceLT, Nat.reduceLeDiff, implies_true, reduceCtorEq, forall_const]; (and_intros <;> (first | omega | rfl | (simp; done) | (simp; omega))); done))
        all_goals (try dsimp only)
        all_goals (and_intros <;> try (first | omega | (unfold In64; omega) | trivial | assumption))
        all_goals (try (rw [es]; exact hL))
    · have hil : ¬ (i : Int) < m := by omega
      obtain rfl : i = m := by omega
      simp -implicitDefEqProofs only [lk_normal, hil, lenP, lenL, tkL, ZB, Int.reduceToNat, Nat.reduceLT, Nat.reduceLeDiff, Int.reduceLE, Int.reduceLT, Nat.reduceEqDiff, Nat.reduceSub, SB, SV.known, packR, ne_eq, reduceCtorEq, Nat.reduceEqDiff, ↓reduceIte, if_true, if_false, eq_self, Nat.reduceAdd, Nat.reduceMul, Nat.reduceSub, forall_const, oneCellS, litOne, flat1, Kd.isSca, flat, TYB]
      refine .inr ⟨2, capo, jo, ?_, ?_, by omega, ?_, by simp⟩
      · rw [hL]; simp [Wrap.ap]
      · simp [hget_cons]
      · omega
def BackTo_F : List SV → Heap → Nat → Nat → K1 → Prop
  | [.arr A, .arr B], H, n, _, κ => (A.length = 24 ∧ B.length = 24) ∧ freshK (.more [.bool (btoB A B)]) (btoF A B) ((btoF A B).length / 3) 3 48 (decide (btoB A B = false ∨ SrL B 144 = [])) H n κ
  | _, _, _, _, _ => False
--@tbl BackTo = impl.BackTo
theorem BackTo_T : ∀ args H n m κ, BackTo_F args H n m κ → GenOK Tryz.prog 36 args H n m κ := by
  intro args H n m κ h
  unfold BackTo_F at h
  split at h
  · exact gen_of_fresh (BackTo_ok _ _ h.1.1 h.1.2) (fun k o hk => by cases hk) h.2
  · exact h.elim
def sBackTo_F : List SV → Heap → Nat → Nat → K1 → Prop
  | [.arr A, .arr B], H, n, _, κ => (A.length = 24 ∧ B.length = 24) ∧ freshK (.more [.bool (btoB A B)]) (btoF A B) ((btoF A B).length / 3) 3 48 (false) H n κ
  | _, _, _, _, _ => False
--@tbl sBackTo = spec.BackTo
theorem sBackTo_T : ∀ args H n m κ, sBackTo_F args H n m κ → GenOK Tryz.prog 37 args H n m κ := by
  intro args H n m κ h
  unfold sBackTo_F at h
  split at h
  · exact gen_of_fresh (sBackTo_ok _ _ h.1.1 h.1.2) (fun k o hk => by cases hk) h.2
  · exact h.elim
end Go.Proofs.YtmccafjblhbmkaaGreat
set_option maxRecDepth 100000
set_option linter.unusedSimpArgs false
set_option linter.unusedVariables false
namespace Go.Proofs.YtmccafjblhbmkaaGreat
open Go Go.RowKit
end Go.Proofs.YtmccafjblhbmkaaGreat
set_option maxRecDepth 100000
set_option linter.unusedSimpArgs false
set_option linter.unusedVariables false
namespace Go.Proofs.YtmccafjblhbmkaaGreat
open Go Go.RowKit
/-! IsStuck. -/
end Go.Proofs.YtmccafjblhbmkaaGreat
set_option maxRecDepth 100000
set_option linter.unusedSimpArgs false
set_option linter.unusedVariables false
namespace Go.Proofs.YtmccafjblhbmkaaGreat
open Go Go.RowKit
/-! Colors counted. -/
--@tbl countColors = impl.countColors
--@tbl l2Counts = spec.l2Counts
/-! Views. -/
end Go.Proofs.YtmccafjblhbmkaaGreat
set_option maxRecDepth 100000
set_option linter.unusedSimpArgs false
set_option linter.unusedVariables false
namespace Go.Proofs.YtmccafjblhbmkaaGreat
open Go Go.RowKit
def cpO (R : List Int) (i j : Int) : Bool := rackB R && plF i && plF j && !decide (i = j)
def poF (R : List Int) : List Int := if rackB R = true then PL R 36 else []
theorem PoursOf_ok (R : List Int) (hR : R.length = 24) : FreshP Tryz.prog 41 [.arr R] [] (poF R) ((poF R).length / 2) 2 65 (decide (rackB R = false ∨ PL R 36 = [])) (.more [.bool (rackB R)]) := by
  have tkR : R.take 24 = R := List.take_of_length_le (by omega)
  unfold poF
  cases hr : rackB R
  · refine fresh_of_vc (X := ⟨Tryz.prog, tys, [(62, IsRack_F)], [(102, pours_F)], true, true, 0, [], []⟩) fn_41 ⟨tys_ok, (.cons IsRack_T .nil), (.cons pours_T .nil), mixed⟩ (n0 := 0) rfl (Nat.le_of_ble_eq_true rfl) (by simp [wfL, SV.wf]) (wfH_spec (by simp [wfH, SObj.wf])) (Nat.le_refl _) ?_
    simp -implicitDefEqProofs only [Tryz.f41, Option.getD_some, argS, IsRack_F, pours_F, hR, tkR, hr, freshK, Wrap.ap, ZB, Int.reduceToNat, Nat.reduceLT, Nat.reduceLeDiff, Int.reduceLE, Int.reduceLT, Nat.reduceEqDiff, Nat.reduceSub, SB, SV.known, packR, ne_eq, reduceCtorEq, Nat.reduceEqDiff, ↓reduceIte, if_true, if_false, eq_self, Nat.reduceAdd, Nat.reduceMul, Nat.reduceSub, forall_const, oneCellS, litOne, flat1, Kd.isSca, flat, TYB]
    exact .inl ⟨by simp, rfl, rfl⟩
  · refine fresh_of_vc (X := ⟨Tryz.prog, tys, [(62, IsRack_F)], [(102, pours_F)], true, true, 0, [], []⟩) fn_41 ⟨tys_ok, (.cons IsRack_T .nil), (.cons pours_T .nil), mixed⟩ (n0 := 0) rfl (Nat.le_of_ble_eq_true rfl) (by simp [wfL, SV.wf]) (wfH_spec (by simp [wfH, SObj.wf])) (Nat.le_refl _) ?_
    simp -implicitDefEqProofs only [Tryz.f41, Option.getD_some, argS, IsRack_F, pours_F, hR, tkR, hr, freshK, Wrap.ap, ZB, Int.reduceToNat, Nat.reduceLT, Nat.reduceLeDiff, Int.reduceLE, Int.reduceLT, Nat.reduceEqDiff, Nat.reduceSub, SB, SV.known, packR, ne_eq, reduceCtorEq, Nat.reduceEqDiff, ↓reduceIte, if_true, if_false, eq_self, Nat.reduceAdd, Nat.reduceMul, Nat.reduceSub, forall_const, oneCellS, litOne, flat1, Kd.isSca, flat, TYB]
    exact ⟨fun h1 => .inl ⟨by simp [h1], h1, rfl⟩, fun h cap junk hj => .inr ⟨1, cap, junk, rfl, by simp [hget_cons], by omega, hj, by simpa using h⟩⟩
def PoursOf_F : List SV → Heap → Nat → Nat → K1 → Prop
  | [.arr R], H, n, _, κ => R.length = 24 ∧ freshK (.more [.bool (rackB R)]) (poF R) ((poF R).length / 2) 2 65 (decide (rackB R = false ∨ PL R 36 = [])) H n κ
  | _, _, _, _, _ => False
theorem PoursOf_T : ∀ args H n m κ, PoursOf_F args H n m κ → GenOK Tryz.prog 41 args H n m κ := by
  intro args H n m κ h
  unfold PoursOf_F at h
  split at h
  · exact gen_of_fresh (PoursOf_ok _ h.1) (fun k o hk => by cases hk) h.2
  · exact h.elim
end Go.Proofs.YtmccafjblhbmkaaGreat
set_option maxRecDepth 100000
set_option linter.unusedSimpArgs false
set_option linter.unusedVariables false
namespace Go.Proofs.YtmccafjblhbmkaaGreat
open Go Go.RowKit
/-- Is a pair among these? -/
def inP (L : List Int) (m : Nat) (p : List Int) : Bool := (List.range m).any fun i => decide ((L.drop (i * 2)).take 2 = p)
theorem inP_of {L p : List Int} {m i : Nat} (hi : i < m) (h : (L.drop (i * 2)).take 2 = p) : inP L m p = true := List.any_eq_true.2 ⟨i, List.mem_range.2 hi, by simp [h]⟩
theorem inP_not {L p : List Int} {m : Nat} (h : ∀ i, i < m → (L.drop (i * 2)).take 2 ≠ p) : inP L m p = false := List.any_eq_false.2 fun i hi => by simpa using h i (List.mem_range.1 hi)
theorem PL_pre (R : List Int) (m : Nat) : ∀ k, ∃ r, PL R (m + k) = PL R m ++ r
  | 0 => ⟨[], by simp⟩
  | k + 1 => by
    obtain ⟨r, h⟩ := PL_pre R m k
    exact ⟨r ++ prK R (m + k), by rw [show m + (k + 1) = m + k + 1 by omega, PL_succ, h, List.append_assoc]⟩
theorem pl_of {R : List Int} {x y : Int} (h : cpO R x y = true) : rackB R = true ∧ (0 ≤ x ∧ x ≤ 5) ∧ (0 ≤ y ∧ y ≤ 5) ∧ x ≠ y := by
  unfold cpO at h
  simp only [Bool.and_eq_true, Bool.not_eq_true', decide_eq_false_iff_not] at h
  exact ⟨h.1.1.1, pl_bd h.1.1.2, pl_bd h.1.2, h.2⟩
theorem in_ok {R : List Int} {x y : Int} (h : cpO R x y = true) {np : Nat} (hnp : (PL R 36).length = np * 2) : ∀ j : List Int, inP (PL R 36 ++ j) np [x, y] = canF R x y := by
  intro j
  obtain ⟨_, hx, hy, hxy⟩ := pl_of h
  obtain ⟨a, rfl⟩ : ∃ a : Nat, x = a := ⟨x.toNat, by omega⟩
  obtain ⟨b, rfl⟩ : ∃ b : Nat, y = b := ⟨y.toNat, by omega⟩
  have cut : ∀ i, i < np → ((PL R 36 ++ j).drop (i * 2)).take 2 = ((PL R 36).drop (i * 2)).take 2 := fun i hi => by
    rw [List.drop_append_of_le_length (by omega), List.take_append_of_le_length (by rw [List.length_drop]; omega)]
  cases hc : canF R a b
  · refine inP_not fun i hi he => ?_
    rw [cut i hi] at he
    obtain ⟨p, q, h1, h2, h3, h4⟩ := GL_pair (fun i j => canF R i j) 36 (Nat.le_refl _) i (by rw [← PL_GL]; omega)
    rw [← PL_GL, he] at h4
    simp only [List.cons.injEq, and_true] at h4
    have : canF R a b = true := by rw [h4.1, h4.2]; exact h3
    rw [hc] at this; cases this
  · obtain ⟨n, hn, _⟩ := PL_even R (a * 6 + b)
    have e1 := PL_at R a b (by omega)
    rw [if_pos hc] at e1
    obtain ⟨r, hr⟩ := PL_pre R (a * 6 + b + 1) (36 - (a * 6 + b + 1))
    rw [show a * 6 + b + 1 + (36 - (a * 6 + b + 1)) = 36 by omega, e1] at hr
    have hl : n < np := by
      have := congrArg List.length hr
      rw [List.length_append, List.length_append, hn, hnp] at this
      simp at this; omega
    refine inP_of hl ?_
    rw [cut n hl, hr, List.append_assoc, List.drop_left' hn]; rfl
/-! A pour exchanges cells. -/
/-! Sorted racks. -/
end Go.Proofs.YtmccafjblhbmkaaGreat
set_option maxRecDepth 100000
set_option linter.unusedSimpArgs false
set_option linter.unusedVariables false
namespace Go.Proofs.YtmccafjblhbmkaaGreat
open Go Go.RowKit
def diX (R : List Int) (q : Nat) : List Int := frm (pourF R ((ulF R).getD (q * 2) 0).toNat ((ulF R).getD (q * 2 + 1) 0).toNat)
end Go.Proofs.YtmccafjblhbmkaaGreat
set_option maxRecDepth 100000
set_option linter.unusedSimpArgs false
set_option linter.unusedVariables false
namespace Go.Proofs.YtmccafjblhbmkaaGreat
open Go Go.RowKit
/-- Forms one pour behind. -/
def sucC (x : List Int) : Nat := (ulF x).length / 2
def sucU (x : List Int) : List (List Int) := (List.range (sucC x)).map (diX x)
/-- A list of valid racks. -/
def okU (Q : List (List Int)) : Prop := ∀ x ∈ Q, x.length = 24 ∧ rackB x = true
theorem okU.all24 {Q : List (List Int)} (h : okU Q) : all24 Q := fun x hx => (h x hx).1
theorem flat_getW {w : Nat} : ∀ {Q : List (List Int)}, (∀ x ∈ Q, x.length = w) → ∀ {i : Nat}, i < Q.length → (Q.flatten.drop (i * w)).take w = Q.getD i []
  | [], _, i, hi => by simp at hi
  | x :: Q, h, i, hi => by
    have hx := h x (List.mem_cons_self ..)
    rw [List.flatten_cons]
    cases i with
    | zero => rw [Nat.zero_mul, List.drop_zero, List.take_left' hx]; rfl
    | succ i =>
      rw [show (i + 1) * w = w + i * w by rw [Nat.add_mul]; omega, ← List.drop_drop, List.drop_left' hx, flat_getW (fun y hy => h y (List.mem_cons_of_mem _ hy)) (by simpa using hi)]
      rfl
/-! Layers. -/
def lk (R : List Int) : Nat → List (List Int) × List (List Int)
  | 0 => ([frm R], [frm R])
  | d + 1 => ((lk R d).1 ++ nwF (lk R d).1 ((lk R d).2.flatMap sucU), nwF (lk R d).1 ((lk R d).2.flatMap sucU))
def kn (R : List Int) (d : Nat) : List (List Int) := (lk R d).1
/-! When a search stops. -/
/-! Levels. -/
/-! Maps from racks to numbers. -/
end Go.Proofs.YtmccafjblhbmkaaGreat
set_option maxRecDepth 100000
set_option linter.unusedSimpArgs false
set_option linter.unusedVariables false
namespace Go.Proofs.YtmccafjblhbmkaaGreat
open Go Go.RowKit
/-! Racks behind a rack. -/
/-- A pair that is listed is one by the condition. -/
theorem GL_pairB (c : Nat → Nat → Bool) : ∀ m, m ≤ 36 → ∀ i, i * 2 + 2 ≤ (GL c m).length → ∃ a b : Nat, a < 6 ∧ b < 6 ∧ c a b = true ∧ (GL c m).getD (i * 2) 0 = (a : Int) ∧ (GL c m).getD (i * 2 + 1) 0 = (b : Int)
  | 0, _, i, h => by simp [GL_zero] at h
  | m + 1, hm, i, h => by
    obtain ⟨n, hn, _⟩ := GL_even c m
    rw [GL_succ, List.length_append, hn] at h
    rw [GL_succ]
    by_cases hi : i * 2 + 2 ≤ n * 2
    · obtain ⟨a, b, h1, h2, h3, h4, h5⟩ := GL_pairB c m (by omega) i (by omega)
      refine ⟨a, b, h1, h2, h3, ?_, ?_⟩
      · rw [getD_app _ _ _ (by omega)]; exact h4
      · rw [getD_app _ _ _ (by omega)]; exact h5
    · unfold prG at h ⊢
      split at h
      · rename_i hc
        simp at h
        have hin : i = n := by omega
        subst hin
        refine ⟨m / 6, m % 6, by omega, by omega, hc, ?_, ?_⟩
        · rw [if_pos hc, List.getD_eq_getElem?_getD, List.getElem?_append_right (by omega), hn]; simp
        · rw [if_pos hc, List.getD_eq_getElem?_getD, List.getElem?_append_right (by omega), hn]; simp [Nat.add_sub_cancel_left]
      · simp at h; omega
def okR (D : List Int) (Q : List (List Int)) : Prop := ∀ x ∈ Q, x.length = 24 ∧ forB x D = true
theorem okR.all24 {D : List Int} {Q : List (List Int)} (h : okR D Q) : all24 Q := fun x hx => (h x hx).1
end Go.Proofs.YtmccafjblhbmkaaGreat
set_option maxRecDepth 100000
set_option linter.unusedSimpArgs false
set_option linter.unusedVariables false
namespace Go.Proofs.YtmccafjblhbmkaaGreat
open Go Go.RowKit
def is1 (x c : Int) : Int := if x = c then 1 else 0
/-- How many cells of a tube have a color. -/
def cn (t : List Int) (c : Int) : Int := is1 (t.getD 0 0) c + is1 (t.getD 1 0) c + is1 (t.getD 2 0) c + is1 (t.getD 3 0) c
/-- Of a tube's layers below its uppermost one, from the j-th on, those with a color. -/
def hcn (t : List Int) (j : Nat) (c : Int) : Int := (if j ≤ 0 ∧ 2 ≤ layN t then is1 (t.getD 0 0) c else 0) + (if j ≤ 1 ∧ 3 ≤ layN t then is1 (t.getD 1 0) c else 0) + (if j ≤ 2 ∧ 4 ≤ layN t then is1 (t.getD 2 0) c else 0)
/-- What the last tubes hide. -/
def remT (R : List Int) (c : Int) : Nat → Int
  | 0 => 0
  | m + 1 => hcn (tubeAt R (5 - m)) 0 c + remT R c m
def wr (x : Int) : Int := IntKind.i64.wrap x
/-! The view of a rack. -/
end Go.Proofs.YtmccafjblhbmkaaGreat
set_option maxRecDepth 100000
set_option linter.unusedSimpArgs false
set_option linter.unusedVariables false
namespace Go.Proofs.YtmccafjblhbmkaaGreat
open Go Go.RowKit
structure rkI (R L : List Int) (i j : Nat) : Prop where
  a : L.length = 6
  b : L.getD 0 0 = 0
  c : ∀ c : Nat, 1 ≤ c → c < 6 → hcn (tubeAt R i) j c + remT R c (5 - i) ≤ L.getD c 0 ∧ L.getD c 0 ≤ 24
structure rkJ (R L : List Int) (i : Nat) : Prop where
  a : L.length = 6
  b : L.getD 0 0 = 0
  c : ∀ c : Nat, 1 ≤ c → c < 6 → remT R c (6 - i) ≤ L.getD c 0 ∧ L.getD c 0 ≤ 24
end Go.Proofs.YtmccafjblhbmkaaGreat
set_option maxRecDepth 100000
set_option linter.unusedSimpArgs false
set_option linter.unusedVariables false
namespace Go.Proofs.YtmccafjblhbmkaaGreat
open Go Go.RowKit
/-! Both mean the same. -/
end Go.Proofs.YtmccafjblhbmkaaGreat
set_option maxRecDepth 100000
set_option linter.unusedSimpArgs false
set_option linter.unusedVariables false
namespace Go.Proofs.YtmccafjblhbmkaaGreat
open Go Go.RowKit
/-! Orders are some, and not too many. -/
/-! The rack in which each tube has the color of its top. -/
theorem list_ext24 {L M : List Int} (hL : L.length = 24) (hM : M.length = 24) (h : ∀ q, q < 24 → L.getD q 0 = M.getD q 0) : L = M := by
  apply List.ext_getElem (by omega)
  intro q h1 h2
  have := h q (by omega)
  simp only [List.getD, List.getElem?_eq_getElem h1, List.getElem?_eq_getElem h2, Option.getD_some] at this
  exact this
/-! Views are compared. -/
/-! The walks. -/
--@tbl ChanceSorted = impl.ChanceSorted
--@tbl sChanceSorted = spec.ChanceSorted
--@tbl l7Empty = spec.l7Empty
end Go.Proofs.YtmccafjblhbmkaaGreat
set_option maxRecDepth 100000
set_option linter.unusedSimpArgs false
set_option linter.unusedVariables false
namespace Go.Proofs.YtmccafjblhbmkaaGreat
open Go Go.RowKit
/-- Pouring back what has been poured. -/
theorem pb_ok {R : List Int} (hR : R.length = 24) (hr : rackB R = true) {i j : Nat} (hi : i < 6) (hj : j < 6) (hc : canF R i j = true) : bkB (pourF R i j) i j (pmN R i j) = true ∧ bkR (pourF R i j) i j (pmN R i j) = R := by
  obtain ⟨g1, g2, g3, g4, g5, g6, g7⟩ := can_facts hR hr (show 0 ≤ (i : Int) ∧ (i : Int) ≤ 5 by omega) (show 0 ≤ (j : Int) ∧ (j : Int) ≤ 5 by omega) hc
  simp only [Int.toNat_natCast] at g2 g3 g4 g5 g6 g7
  have hij : i ≠ j := by omega
  obtain ⟨M, hM⟩ : ∃ M : Nat, pmN R i j = M := ⟨(pmN R i j).toNat, by omega⟩
  have eN : pourF R i j = pmR R i j M := by unfold pourF; rw [hM]; rfl
  have eM : (pmN R i j).toNat = M := by omega
  rw [eM] at g5 g6
  have li := tubeAt_len hR hi
  have lj := tubeAt_len hR hj
  obtain ⟨r, e1, e2⟩ := topF_run _ li g2
  have et1 : (topF (tubeAt R i)).1 = (tubeAt R i).getD (layN (tubeAt R i) - 1) 0 := by rw [e1]
  have et2 : (topF (tubeAt R i)).2 = (r : Int) := by rw [e1]
  have hmr : M ≤ r := by
    have : pmN R i j ≤ (r : Int) := by unfold pmN; rw [et2]; omega
    omega
  have cell := pmR_cell hR hi hj hij M g5 g6
  obtain ⟨⟨p1, p2⟩, ⟨p3, p4⟩, _⟩ := pm_facts hR hr hi hj hij g5 g6
  have hN : (pmR R i j M).length = 24 := by rw [pmR_len, hR]
  have nlj := tubeAt_len hN hj
  have hl4 := lay_le _ li
  obtain ⟨s, f1, f2⟩ := topF_run _ nlj (by omega)
  have tc : (topF (tubeAt (pmR R i j M) j)).1 = (topF (tubeAt R i)).1 := by
    rw [f1, p4, tubeAt_getD _ _ _ (by omega), cell j _ hj (by omega), if_neg (by omega), if_pos (by omega)]
  have ts : (topF (tubeAt (pmR R i j M) j)).2 = (s : Int) := by rw [f1]
  have sM : M ≤ s := by
    rcases Nat.lt_or_ge s M with h | h
    · exfalso
      rcases f2.2.2.2 with h1 | h1
      · omega
      · apply h1
        rw [p4, tubeAt_getD _ _ _ (by omega), tubeAt_getD _ _ _ (by omega), cell j _ hj (by omega), cell j _ hj (by omega), if_neg (by omega), if_pos (by omega), if_neg (by omega), if_pos (by omega)]
    · exact h
  have hb1 : bk1 (pmR R i j M) i j M = true := by
    unfold bk1 plF
    simp only [Int.toNat_natCast]
    simp only [Bool.and_eq_true, decide_eq_true_eq, Bool.not_eq_true', decide_eq_false_iff_not]
    rw [ts, p2]
    exact ⟨⟨⟨by omega, by omega⟩, g1⟩, by omega⟩
  have eB : bkR (pmR R i j M) i j M = R := by
    unfold bkR
    simp only [Int.toNat_natCast]
    have hP : (pmR (pmR R i j M) j i M).length = 24 := by rw [pmR_len, hN]
    refine list_ext24 hP hR fun q hq => ?_
    have cell2 := pmR_cell hN hj hi (Ne.symm hij) M (by omega) (by omega) (q / 4) (q % 4) (by omega) (by omega)
    have cq := cell (q / 4) (q % 4) (by omega) (by omega)
    rw [show q / 4 * 4 + q % 4 = q by omega] at cell2 cq
    rw [cell2, cq, p2, p4, tc]
    have cj := (tube_cells lj (tubeAt_ok hr hj)).2 (q % 4)
    have ri : ∀ k, k < 4 → layN (tubeAt R i) - M ≤ k → k < layN (tubeAt R i) → R.getD (i * 4 + k) 0 = (topF (tubeAt R i)).1 := fun k hk h1 h2 => by
      rw [et1, ← tubeAt_getD _ _ _ hk]
      have := e2.2.2.1 (layN (tubeAt R i) - 1 - k) (by omega)
      rw [show layN (tubeAt R i) - 1 - (layN (tubeAt R i) - 1 - k) = k by omega] at this
      exact this
    by_cases c1 : q / 4 = j ∧ layN (tubeAt R j) + M - M ≤ q % 4 ∧ q % 4 < layN (tubeAt R j) + M
    · rw [if_pos c1]
      have := cj (by omega)
      rw [tubeAt_getD _ _ _ (by omega), show j * 4 + q % 4 = q by omega] at this
      exact this.symm
    · rw [if_neg c1]
      by_cases c2 : q / 4 = i ∧ layN (tubeAt R i) - M ≤ q % 4 ∧ q % 4 < layN (tubeAt R i) - M + M
      · rw [if_pos c2]
        have := ri (q % 4) (by omega) c2.2.1 (by omega)
        rw [show i * 4 + q % 4 = q by omega] at this
        exact this.symm
      · rw [if_neg c2, if_neg (by omega), if_neg (by omega)]
  have e3 : (M : Int).toNat = M := Int.toNat_natCast M
  rw [eN, hM]
  refine ⟨?_, eB⟩
  unfold bkB bk2
  rw [eB, hb1, hc]
  simp only [Int.toNat_natCast]
  simp [eN, hM]
/-- A possible source: pouring leads back to the rack. -/
theorem bk_fwd {R : List Int} {i j m : Int} (hR : R.length = 24) (hr : rackB R = true) (h : bkB R i j m = true) : (0 ≤ i ∧ i ≤ 5) ∧ (0 ≤ j ∧ j ≤ 5) ∧ (1 ≤ m ∧ m ≤ 4) ∧ rackB (bkR R i j m) = true ∧ canF (bkR R i j m) i j = true ∧ pourF (bkR R i j m) i.toNat j.toNat = R ∧ pmN (bkR R i j m) i.toNat j.toNat = m := by
  have h2 := bk_21 h
  have h1 := h2
  unfold bk2 at h1
  rw [Bool.and_eq_true] at h1
  obtain ⟨f1, f2, f3, f4, f5, f6, f7⟩ := bk1_facts hR h1.1
  unfold bkB at h
  simp only [Bool.and_eq_true, decide_eq_true_eq] at h
  exact ⟨f1, f2, ⟨f4, by omega⟩, bk_rack hR hr h1.1, h1.2, h.1.2, h.2⟩
theorem so_back {R s : List Int} (hR : R.length = 24) (h : pbkB R s = true) : pourB (pbkT R s) (s.getD 0 0) (s.getD 1 0) = true ∧ pourT (pbkT R s) (s.getD 0 0) (s.getD 1 0) = R ∧ pourM (pbkT R s) (s.getD 0 0) (s.getD 1 0) = s.getD 2 0 := by
  unfold pbkB at h
  rw [Bool.and_eq_true] at h
  obtain ⟨h1, h2, h3, h4, h5, h6, h7⟩ := bk_fwd hR h.1 h.2
  have e : pbkT R s = bkR R (s.getD 0 0) (s.getD 1 0) (s.getD 2 0) := by unfold pbkT bkT; rw [if_pos h.1, if_pos h.2]
  have hp : pourB (bkR R (s.getD 0 0) (s.getD 1 0) (s.getD 2 0)) (s.getD 0 0) (s.getD 1 0) = true := by
    unfold pourB plF
    rw [h4, h5, decide_eq_true h1, decide_eq_true h2]; rfl
  rw [e]
  refine ⟨hp, ?_, ?_⟩
  · unfold pourT; rw [if_pos hp]; exact h6
  · unfold pourM; rw [if_pos hp]; exact h7
/-! The list of sources. -/
def triB (R : List Int) (q : Nat) : Bool := bkB R ((q / 24 : Nat) : Int) ((q / 4 % 6 : Nat) : Int) ((q % 4 + 1 : Nat) : Int)
def triF (q : Nat) : List Int := [((q / 24 : Nat) : Int), ((q / 4 % 6 : Nat) : Int), ((q % 4 + 1 : Nat) : Int)]
def triL (R : List Int) : List (List Int) := ((List.range 144).filter (triB R)).map triF
theorem SrL_tri (R : List Int) : SrL R 144 = (triL R).flatten := by
  unfold SrL triL
  generalize List.range 144 = l
  induction l with
  | nil => rfl
  | cons q l ih =>
    rw [List.flatMap_cons, ih]
    show (if triB R q = true then triF q else []) ++ _ = _
    by_cases h : triB R q = true
    · rw [List.filter_cons_of_pos h, List.map_cons, List.flatten_cons, if_pos h]
    · rw [List.filter_cons_of_neg h, if_neg h]; rfl
theorem triL_3 (R : List Int) : ∀ x ∈ triL R, x.length = 3 := fun x hx => by
  unfold triL at hx
  obtain ⟨q, _, rfl⟩ := List.mem_map.1 hx; rfl
theorem SrL_n (R : List Int) : (SrL R 144).length = (triL R).length * 3 := by rw [SrL_tri, flat_lenW (triL_3 R)]
theorem SrL_get (R : List Int) {q : Nat} (hq : q < (triL R).length) : ((SrL R 144).drop (q * 3)).take 3 = (triL R).getD q [] := by rw [SrL_tri]; exact flat_getW (triL_3 R) hq
theorem triL_mem {R : List Int} (hR : R.length = 24) (hr : rackB R = true) {i j m : Int} : [i, j, m] ∈ triL R ↔ bkB R i j m = true := by
  unfold triL
  rw [List.mem_map]
  constructor
  · rintro ⟨q, hq, e⟩
    have := (List.mem_filter.1 hq).2
    unfold triF at e
    obtain ⟨rfl, rfl, rfl⟩ : ((q / 24 : Nat) : Int) = i ∧ ((q / 4 % 6 : Nat) : Int) = j ∧ ((q % 4 + 1 : Nat) : Int) = m := by simpa using e
    exact this
  · intro h
    obtain ⟨h1, h2, h3, _⟩ := bk_fwd hR hr h
    refine ⟨(i.toNat * 6 + j.toNat) * 4 + (m.toNat - 1), List.mem_filter.2 ⟨List.mem_range.2 (by omega), ?_⟩, ?_⟩
    · unfold triB
      rw [show (((((i.toNat * 6 + j.toNat) * 4 + (m.toNat - 1)) / 24 : Nat)) : Int) = i by omega, show (((((i.toNat * 6 + j.toNat) * 4 + (m.toNat - 1)) / 4 % 6 : Nat)) : Int) = j by omega, show (((((i.toNat * 6 + j.toNat) * 4 + (m.toNat - 1)) % 4 + 1 : Nat)) : Int) = m by omega]
      exact h
    · unfold triF
      rw [show (((((i.toNat * 6 + j.toNat) * 4 + (m.toNat - 1)) / 24 : Nat)) : Int) = i by omega, show (((((i.toNat * 6 + j.toNat) * 4 + (m.toNat - 1)) / 4 % 6 : Nat)) : Int) = j by omega, show (((((i.toNat * 6 + j.toNat) * 4 + (m.toNat - 1)) % 4 + 1 : Nat)) : Int) = m by omega]
theorem triL_at (R : List Int) {q : Nat} (hq : q < (triL R).length) : ∃ i j m : Int, (triL R).getD q [] = [i, j, m] := by
  have h3 := triL_3 R _ (getD_mem hq)
  match h : (triL R).getD q [], h3 with
  | [a, b, c], _ => exact ⟨a, b, c, rfl⟩
/-- Which pours lead from one rack to another one. -/
def toB (A B : List Int) (i j : Int) : Bool := decide (pourF A i.toNat j.toNat = B)
def anyP (A B : List Int) (q : Nat) : Bool := (List.range q).any fun k => toB A B ((PL A 36).getD (k * 2) 0) ((PL A 36).getD (k * 2 + 1) 0)
theorem anyP_succ (A B : List Int) (q : Nat) : anyP A B (q + 1) = (anyP A B q || toB A B ((PL A 36).getD (q * 2) 0) ((PL A 36).getD (q * 2 + 1) 0)) := by
  unfold anyP; rw [List.range_succ, List.any_append]; simp
theorem PL_at' {A : List Int} {i j : Nat} (hr : rackB A = true) (hi : i < 6) (hj : j < 6) (hij : i ≠ j) (hc : canF A i j = true) {np : Nat} (hnp : (PL A 36).length = np * 2) : ∃ q, q < np ∧ (PL A 36).getD (q * 2) 0 = (i : Int) ∧ (PL A 36).getD (q * 2 + 1) 0 = (j : Int) := by
  have ho : cpO A i j = true := by
    unfold cpO plF
    rw [hr, decide_eq_true (show 0 ≤ (i : Int) ∧ (i : Int) ≤ 5 by omega), decide_eq_true (show 0 ≤ (j : Int) ∧ (j : Int) ≤ 5 by omega), decide_eq_false (show ¬ (i : Int) = j by omega)]; rfl
  have := in_ok ho hnp []
  rw [hc, List.append_nil] at this
  unfold inP at this
  obtain ⟨q, hq, he⟩ := List.any_eq_true.1 this
  have hq := List.mem_range.1 hq
  have he : ((PL A 36).drop (q * 2)).take 2 = [(i : Int), (j : Int)] := by simpa using he
  have g : ∀ k, k < 2 → (PL A 36).getD (q * 2 + k) 0 = (((PL A 36).drop (q * 2)).take 2).getD k 0 := fun k hk => by
    simp [List.getD, List.getElem?_take, hk]
  have g0 := g 0 (by omega)
  have g1 := g 1 (by omega)
  rw [he] at g0 g1
  exact ⟨q, hq, g0, g1⟩
theorem so_to {A B : List Int} (hA : A.length = 24) (hB : B.length = 24) (h : btoB A B = true) {np : Nat} (hnp : (PL A 36).length = np * 2) : anyP A B np = decide (0 < (btoF A B).length / 3) := by
  have hh := h
  unfold btoB at hh
  rw [Bool.and_eq_true] at hh
  obtain ⟨ha, hb⟩ := hh
  have ef : btoF A B = kept3 (fun s => btP A B s) (SrL B 144) (triL B).length := by
    unfold btoF btL
    rw [if_pos h, SrL_n, Nat.mul_div_cancel _ (by omega)]
  have ek : ∀ k, k ≤ (triL B).length → (kept3 (fun s => btP A B s) (SrL B 144) k) = (((triL B).take k).filter fun s => btP A B s).flatten := fun k hk => by
    unfold kept3
    congr 2
    refine List.ext_getElem (by rw [chk3_len, List.length_take]; omega) fun q h1 h2 => ?_
    have e1 := chk3_getD (SrL B 144) 0 k q (by rw [chk3_len] at h1; exact h1)
    rw [chk3_len] at h1
    rw [Nat.zero_add, SrL_get B (by omega), List.getD_eq_getElem?_getD, List.getElem?_eq_getElem (by rw [chk3_len]; exact h1)] at e1
    rw [List.getElem_take]
    have e2 : (triL B).getD q [] = (triL B)[q]'(by omega) := by rw [List.getD_eq_getElem?_getD, List.getElem?_eq_getElem (by omega)]; rfl
    rw [← e2]; exact e1
  rw [ef, ek _ (Nat.le_refl _), List.take_length, flat_lenW (w := 3) (fun x hx => triL_3 B x (List.mem_filter.1 hx).1), Nat.mul_div_cancel _ (by omega)]
  rw [Bool.eq_iff_iff, decide_eq_true_eq, List.length_pos_iff_exists_mem]
  unfold anyP
  rw [List.any_eq_true]
  constructor
  · rintro ⟨q, hq, he⟩
    have hq := List.mem_range.1 hq
    obtain ⟨i, j, hi, hj, hc, gi, gj⟩ := GL_pairB (fun i j => canF A i j) 36 (by omega) q (by rw [← PL_GL]; omega)
    rw [← PL_GL] at gi gj
    rw [gi, gj] at he
    have he : pourF A i j = B := by simpa [toB] using he
    obtain ⟨b1, b2⟩ := pb_ok hA ha hi hj hc
    rw [he] at b1 b2
    refine ⟨[(i : Int), (j : Int), pmN A i j], List.mem_filter.2 ⟨(triL_mem hB hb).2 b1, ?_⟩⟩
    unfold btP
    exact decide_eq_true b2
  · rintro ⟨x, hx⟩
    obtain ⟨hx1, hx2⟩ := List.mem_filter.1 hx
    obtain ⟨q, hq, rfl⟩ := List.getElem_of_mem hx1
    obtain ⟨i, j, m, e⟩ := triL_at B hq
    have e2 : (triL B).getD q [] = (triL B)[q]'(by omega) := by rw [List.getD_eq_getElem?_getD, List.getElem?_eq_getElem (by omega)]; rfl
    rw [e2] at e
    rw [e] at hx1 hx2
    have hb' := (triL_mem hB hb).1 hx1
    obtain ⟨h1, h2, h3, h4, h5, h6, h7⟩ := bk_fwd hB hb hb'
    have hx2 : bkR B i j m = A := by simpa [btP] using hx2
    rw [hx2] at h5 h6
    obtain ⟨a, rfl⟩ := Int.eq_ofNat_of_zero_le h1.1
    obtain ⟨b, rfl⟩ := Int.eq_ofNat_of_zero_le h2.1
    have hab := (can_facts hA ha h1 h2 h5).1
    obtain ⟨q, hq, g1, g2⟩ := PL_at' ha (show a < 6 by omega) (show b < 6 by omega) (by omega) h5 hnp
    refine ⟨q, List.mem_range.2 hq, ?_⟩
    rw [g1, g2]
    unfold toB
    exact decide_eq_true (by simpa using h6)
/-! Racks before. -/
theorem befN_tri (R : List Int) : befN R = (triL R).length := by unfold befN; rw [SrL_n, Nat.mul_div_cancel _ (by omega)]
theorem befL_card {R : List Int} (hR : R.length = 24) : (befL R).length ≤ (SrL R 144).length / 3 := by
  rw [befL_ins hR]
  have := insA_card (bks R (befN R))
  rw [bks_len] at this
  exact this
theorem befL_nil {R : List Int} (hR : R.length = 24) : (befL R = []) ↔ (SrL R 144 = []) := by
  have hl := SrL_n R
  rw [befL_ins hR, befN_tri]
  constructor
  · intro h
    rcases Nat.eq_zero_or_pos (triL R).length with h0 | h0
    · exact List.length_eq_zero_iff.1 (by omega)
    · have : bkk R 0 ∈ insA [] (bks R (triL R).length) := (insA_mem _ _).2 (List.mem_map.2 ⟨0, List.mem_range.2 h0, rfl⟩)
      rw [h] at this; cases this
  · intro h
    rw [h] at hl
    have : (triL R).length = 0 := by simp at hl; omega
    rw [this]; rfl
theorem befL_at {R : List Int} (hR : R.length = 24) {q : Nat} (hq : q < (triL R).length) : bkR R (((triL R).getD q []).getD 0 0) (((triL R).getD q []).getD 1 0) (((triL R).getD q []).getD 2 0) ∈ befL R := by
  have g : ∀ k, k < 3 → (SrL R 144).getD (q * 3 + k) 0 = ((triL R).getD q []).getD k 0 := fun k hk => by
    rw [← SrL_get R hq]; simp [List.getD, List.getElem?_take, hk]
  rw [← g 0 (by omega), ← g 1 (by omega), ← g 2 (by omega), befL_ins hR]
  exact (insA_mem _ _).2 (List.mem_map.2 ⟨q, List.mem_range.2 (by rw [befN_tri]; exact hq), rfl⟩)
theorem cf_le {R : List Int} (hR : R.length = 24) : (nwF [] (fms (befL R))).length ≤ (befL R).length := by
  have := insA_count (fms_24 (befL_24 hR))
  rw [← this]
  have := insA_card (fms (befL R))
  have e : (fms (befL R)).length = (befL R).length := by simp [fms]
  omega
end Go.Proofs.YtmccafjblhbmkaaGreat
set_option maxRecDepth 100000
set_option linter.unusedSimpArgs false
set_option linter.unusedVariables false
namespace Go.Proofs.YtmccafjblhbmkaaGreat
open Go Go.RowKit
def cd1 : Code → Code
  | .seq a _ => a
  | c => c
def cd2 : Code → Code
  | .seq _ b => b
  | c => c
def cdN : Nat → Code → Code
  | 0, c => c
  | k + 1, c => cdN k (cd2 c)
/-- The first statements, and another code behind them. -/
def cdP : Nat → Code → Code → Code
  | 0, _, r => r
  | k + 1, .seq a b, r => .seq a (cdP k b r)
  | _ + 1, c, _ => c
theorem cd_cut {X : Cx} {p : Nat} {c a b : Code} {S : Env} {H : Heap} {n : Nat} {K : KE} (h : c = .seq a b) : codeVC X p c S H n K = codeVC X p a S H n (seqK (codeVC X p b) K) := by rw [h]; rfl
/-- The same slots below a number. -/
theorem sget_skip (t t' : Nat) (v : SV) (S : Env) (h : t ≠ t') : sget ((t', v) :: S) t = sget S t := by
  unfold sget
  rw [List.lookup_cons]
  have : (t == t') = false := by simpa using h
  rw [this]
theorem freshK_of {wr : Wrap} {L : List Int} {len es e : Nat} {nl : Bool} {H : Heap} {n : Nat} {κ : K1} (h1 : L = [] → κ (wr.ap .nils) H n) (h2 : ∀ (cap : Nat) (junk : List Int), junk.length + L.length = cap * es → κ (wr.ap (.slice n 0 len cap)) ((n, .ints (L ++ junk) e) :: H) (n + 1)) : freshK wr L len es e nl H n κ := ⟨fun _ h => h1 h, fun _ => h2⟩
end Go.Proofs.YtmccafjblhbmkaaGreat
set_option maxRecDepth 100000
set_option linter.unusedSimpArgs false
set_option linter.unusedVariables false
namespace Go.Proofs.YtmccafjblhbmkaaGreat
open Go Go.RowKit
end Go.Proofs.YtmccafjblhbmkaaGreat
set_option maxRecDepth 100000
set_option linter.unusedSimpArgs false
set_option linter.unusedVariables false
namespace Go.Proofs.YtmccafjblhbmkaaGreat
open Go Go.RowKit
theorem eqS_fields : ∀ (fs : List Field) (L M : List Int) (off : Nat), off + fs.length = L.length → L.length = M.length →
    (∀ (j : Nat) (f : Field), fs[j]? = some f → f.name ≠ "_" ∧ f.type = 3 ∧ f.offset = off + j) → ∀ d, 2 ≤ d → ∀ w, (Op.eqFields d (ints L) (ints M) fs).run Tryz.prog w = .ok (decide (L.drop off = M.drop off)) w
  | [], L, M, off, h1, h2, _, d, hd, w => by
    rw [List.drop_of_length_le (by simp at h1; omega), List.drop_of_length_le (by simp at h1; omega)]
    simp [Op.eqFields]
  | f :: fs, L, M, off, h1, h2, hf, d, hd, w => by
    obtain ⟨f1, f2, f3⟩ := hf 0 f rfl
    rw [List.length_cons] at h1
    have ih := eqS_fields fs L M (off + 1) (by omega) h2 (fun j g hg => by
      obtain ⟨a, b, c⟩ := hf (j + 1) g (by simpa using hg)
      exact ⟨a, b, by omega⟩) d hd w
    have hk : (tys 3).k = .int := rfl
    have p1 := runPart_int hk L off (by omega) w
    have p2 := runPart_int hk M off (by omega) w
    obtain ⟨d, rfl⟩ : ∃ d', d = d' + 1 := ⟨d - 1, by omega⟩
    have h3 := run_equalIn_int w d 3 .i64 .i64 (L.getD off 0) (M.getD off 0) Tryz.underlying3
    simp only [Op.eqFields, if_pos f1, f2, f3, Nat.add_zero, Sem.run_bind, p1, p2, h3, Result.andThen_ok]
    have e1 : L.drop off = L.getD off 0 :: L.drop (off + 1) := by
      rw [List.drop_eq_getElem_cons (by omega)]; simp only [List.getD, List.getElem?_eq_getElem (show off < L.length by omega), Option.getD_some]
    have e2 : M.drop off = M.getD off 0 :: M.drop (off + 1) := by
      rw [List.drop_eq_getElem_cons (by omega)]; simp only [List.getD, List.getElem?_eq_getElem (show off < M.length by omega), Option.getD_some]
    by_cases hx : L.getD off 0 = M.getD off 0
    · simp only [hx, beq_self_eq_true, Bool.not_true, Bool.false_eq_true, if_false, ih]
      congr 1
      rw [decide_eq_decide, e1, e2, hx]
      constructor
      · intro h; rw [h]
      · intro h; exact (List.cons.inj h).2
    · have h1 : ¬ L.drop off = M.drop off := fun h => by rw [e1, e2] at h; exact hx (List.cons.inj h).1
      have h2 : (L.getD off 0 == M.getD off 0) = false := by simpa using hx
      simp only [h2, h1, decide_false, Bool.not_false, if_true]
      simp
theorem eqI_src : EqI Tryz.prog 48 3 := by
  have hu := Tryz.underlying48
  refine eqI_of (D := 3) (by omega) ?_ (by kernel_rfl)
  intro d hd L M hL hM w
  obtain ⟨d, rfl⟩ : ∃ d', d = d' + 1 := ⟨d - 1, by omega⟩
  rw [run_equalIn_struct w d _ (ints L) (ints M) (by simp only [Program.fieldsOf, hu]) (by kernel_rfl)]
  have := eqS_fields (Tryz.prog.fieldsOf 48).toList L M 0 (by simp [Program.fieldsOf, hu]; omega) (by omega) (by
    simp only [Program.fieldsOf, hu]
    intro j f hf
    rcases j with _ | _ | _ | j <;> simp at hf <;> subst hf <;> exact ⟨by decide, rfl, rfl⟩) d (by omega) w
  simpa using this
/-! Sources. -/
--@tbl vSources = laws.vSources
theorem vSources_ok (L1 L2 : List Int) (e1 e2 c1 c2 m : Nat) (h1 : m * 3 ≤ L1.length) (h2 : m * 3 ≤ L2.length) (h : L1.take (m * 3) = L2.take (m * 3)) (hm : m ≤ 3074457345618258602) :
    PureH Tryz.prog 38 [.slice 0 0 m c1, .slice 1 0 m c2] [(0, .ints L1 e1), (1, .ints L2 e2)] (.bool true) := by
  refine pure_of_vc (X := ⟨Tryz.prog, tys, [], [], true, true, 2, [], []⟩) fn_38 ⟨tys_ok, .nil, .nil, mixed⟩ (n0 := 2) (Nat.le_of_ble_eq_true rfl) (by simp [wfL, SV.wf]) (wfH_spec (by simp [wfH, SObj.wf])) (Nat.le_refl _) (fun _ => by simp [SV.wf, wfL]) ?_
  simp -implicitDefEqProofs only [Tryz.f38, Option.getD_some, argS, ZB, Int.reduceToNat, Nat.reduceLT, Nat.reduceLeDiff, Int.reduceLE, Int.reduceLT, Nat.reduceEqDiff, Nat.reduceSub, SB, SV.known, packR, ne_eq, reduceCtorEq, Nat.reduceEqDiff, ↓reduceIte, if_true, if_false, eq_self, Nat.reduceAdd, Nat.reduceMul, Nat.reduceSub, forall_const, oneCellS, litOne, flat1, Kd.isSca, flat, TYB]
  refine loop_intro (fun i : Nat => [(5, .int i), (0, .slice 0 0 m c1), (1, .slice 1 0 m c2)]) (fun _ => [(0, .ints L1 e1), (1, .ints L2 e2)]) 2 (fun i => i ≤ m) (fun i => m - i) ?_ ?_
  · refine ⟨0, ?_, Sub.mk_id ?_ ?_ ?_ ?_ ?_⟩
    all_goals (try (simp only [LB, subS, subH, wfS, wfH, SV.ren, renL, SObj.ren, SV.wf, SObj.wf, wfL, SV.known, Nat.reduceEqDiff, ↓reduceIte, if_true, if_false, eq_self, Nat.reduceAdd, Nat.reduceLT, Nat.reduceLeDiff, implies_true, reduceCtorEq, forall_const]; done))
    all_goals (try (simp only [LB, subS, subH, wfS, wfH, SV.ren, renL, SObj.ren, SV.wf, SObj.wf, wfL, SV.known, Nat.reduceEqDiff, ↓reduceIte, if_true, if_false, eq_self, Nat.reduceAdd, Nat.reduceLT, Nat.reduceLeDiff, implies_true, reduceCtorEq, forall_const]; simp; done))
    all_goals (try (simp only [LB, subS, subH, wfS, wfH, SV.ren, renL, SObj.ren, SV.wf, SObj.wf, wfL, SV.known, Nat.reduceEqDiff, ↓reduceIte, if_true, if_false, eq_self, Nat.reduceAdd, Nat.reduceLT, Nat.reduceLeDiff, implies_true, reduceCtorEq, forall_const]; (and_intros <;> (first | omega | rfl | (simp; done) | (simp; omega))); done))
    all_goals (try dsimp only)
    all_goals (and_intros <;> try (first | omega | (unfold In64; omega) | trivial | assumption))
  · intro i hi
    by_cases hlt : i < m
    · have hil : (i : Int) < m := by omega
      have ee : (L1.drop (i * 3)).take 3 = (L2.drop (i * 3)).take 3 := by
        have := congrArg (fun l => (List.drop (i * 3) l).take 3) h
        simp only [List.drop_take, List.take_take] at this
        rw [Nat.min_eq_left (by omega)] at this
        exact this
      have l2 : ((L2.drop (i * 3)).take 3).length = 3 := by rw [List.length_take, List.length_drop]; omega
      simp -implicitDefEqProofs only [lk_normal, hil, ee, l2, eqI_src, ZB, Int.reduceToNat, Nat.reduceLT, Nat.reduceLeDiff, Int.reduceLE, Int.reduceLT, Nat.reduceEqDiff, Nat.reduceSub, SB, SV.known, packR, ne_eq, reduceCtorEq, Nat.reduceEqDiff, ↓reduceIte, if_true, if_false, eq_self, Nat.reduceAdd, Nat.reduceMul, Nat.reduceSub, forall_const, oneCellS, litOne, flat1, Kd.isSca, flat, TYB]
      (try (and_intros <;> try (first | omega | (unfold In64; omega) | trivial | assumption)))
      refine ⟨i + 1, ?_, ?_, Sub.mk_id ?_ ?_ ?_ ?_ ?_⟩
      all_goals (try (simp only [LB, subS, subH, wfS, wfH, SV.ren, renL, SObj.ren, SV.wf, SObj.wf, wfL, SV.known, Nat.reduceEqDiff, ↓reduceIte, if_true, if_false, eq_self, Nat.reduceAdd, Nat.reduceLT, Nat.reduceLeDiff, implies_true, reduceCtorEq, forall_const]; done))
      all_goals (try (simp only [LB, subS, subH, wfS, wfH, SV.ren, renL, SObj.ren, SV.wf, SObj.wf, wfL, SV.known, Nat.reduceEqDiff, ↓reduceIte, if_true, if_false, eq_self, Nat.reduceAdd, Nat.reduceLT, Nat.reduceLeDiff, implies_true, reduceCtorEq, forall_const]; simp; done))
      all_goals (try (simp only [LB, subS, subH, wfS, wfH, SV.ren, renL, SObj.ren, SV.wf, SObj.wf, wfL, SV.known, Nat.reduceEqDiff, ↓reduceIte, if_true, if_false, eq_self, Nat.reduceAdd, Nat.reduceLT, Nat.reduceLeDiff, implies_true, reduceCtorEq, forall_const]; (and_intros <;> (first | omega | rfl | (simp; done) | (simp; omega))); done))
      all_goals (try dsimp only)
      all_goals (and_intros <;> try (first | omega | (unfold In64; omega) | trivial | assumption))
    · have hil : ¬ (i : Int) < m := by omega
      simp -implicitDefEqProofs only [lk_normal, hil, ZB, Int.reduceToNat, Nat.reduceLT, Nat.reduceLeDiff, Int.reduceLE, Int.reduceLT, Nat.reduceEqDiff, Nat.reduceSub, SB, SV.known, packR, ne_eq, reduceCtorEq, Nat.reduceEqDiff, ↓reduceIte, if_true, if_false, eq_self, Nat.reduceAdd, Nat.reduceMul, Nat.reduceSub, forall_const, oneCellS, litOne, flat1, Kd.isSca, flat, TYB]
theorem vSources_ns (L2 : List Int) (e2 c2 : Nat) : PureH Tryz.prog 38 [.nils, .slice 0 0 0 c2] [(0, .ints L2 e2)] (.bool true) := by
  refine pure_of_vc (X := ⟨Tryz.prog, tys, [], [], true, true, 1, [], []⟩) fn_38 ⟨tys_ok, .nil, .nil, mixed⟩ (n0 := 1) (Nat.le_of_ble_eq_true rfl) (by simp [wfL, SV.wf]) (wfH_spec (by simp [wfH, SObj.wf])) (Nat.le_refl _) (fun _ => by simp [SV.wf, wfL]) ?_
  simp -implicitDefEqProofs only [Tryz.f38, Option.getD_some, argS, ZB, Int.reduceToNat, Nat.reduceLT, Nat.reduceLeDiff, Int.reduceLE, Int.reduceLT, Nat.reduceEqDiff, Nat.reduceSub, SB, SV.known, packR, ne_eq, reduceCtorEq, Nat.reduceEqDiff, ↓reduceIte, if_true, if_false, eq_self, Nat.reduceAdd, Nat.reduceMul, Nat.reduceSub, forall_const, oneCellS, litOne, flat1, Kd.isSca, flat, TYB]
  refine loop_intro (fun i : Nat => [(5, .int 0), (0, .nils), (1, .slice 0 0 0 c2)]) (fun _ => [(0, .ints L2 e2)]) 1 (fun i => True) (fun i => 0) ?_ ?_
  · refine ⟨0, ?_, Sub.mk_id ?_ ?_ ?_ ?_ ?_⟩
    all_goals (try (simp only [LB, subS, subH, wfS, wfH, SV.ren, renL, SObj.ren, SV.wf, SObj.wf, wfL, SV.known, Nat.reduceEqDiff, ↓reduceIte, if_true, if_false, eq_self, Nat.reduceAdd, Nat.reduceLT, Nat.reduceLeDiff, implies_true, reduceCtorEq, forall_const]; done))
    all_goals (try (simp only [LB, subS, subH, wfS, wfH, SV.ren, renL, SObj.ren, SV.wf, SObj.wf, wfL, SV.known, Nat.reduceEqDiff, ↓reduceIte, if_true, if_false, eq_self, Nat.reduceAdd, Nat.reduceLT, Nat.reduceLeDiff, implies_true, reduceCtorEq, forall_const]; simp; done))
    all_goals (try (simp only [LB, subS, subH, wfS, wfH, SV.ren, renL, SObj.ren, SV.wf, SObj.wf, wfL, SV.known, Nat.reduceEqDiff, ↓reduceIte, if_true, if_false, eq_self, Nat.reduceAdd, Nat.reduceLT, Nat.reduceLeDiff, implies_true, reduceCtorEq, forall_const]; (and_intros <;> (first | omega | rfl | (simp; done) | (simp; omega))); done))
    all_goals (try dsimp only)
    all_goals (and_intros <;> try (first | omega | (unfold In64; omega) | trivial | assumption))
  · intro i hi
    simp -implicitDefEqProofs only [lk_normal, ZB, Int.reduceToNat, Nat.reduceLT, Nat.reduceLeDiff, Int.reduceLE, Int.reduceLT, Nat.reduceEqDiff, Nat.reduceSub, SB, SV.known, packR, ne_eq, reduceCtorEq, Nat.reduceEqDiff, ↓reduceIte, if_true, if_false, eq_self, Nat.reduceAdd, Nat.reduceMul, Nat.reduceSub, forall_const, oneCellS, litOne, flat1, Kd.isSca, flat, TYB]
theorem vSources_sn (L1 : List Int) (e1 c1 : Nat) : PureH Tryz.prog 38 [.slice 0 0 0 c1, .nils] [(0, .ints L1 e1)] (.bool true) := by
  refine pure_of_vc (X := ⟨Tryz.prog, tys, [], [], true, true, 1, [], []⟩) fn_38 ⟨tys_ok, .nil, .nil, mixed⟩ (n0 := 1) (Nat.le_of_ble_eq_true rfl) (by simp [wfL, SV.wf]) (wfH_spec (by simp [wfH, SObj.wf])) (Nat.le_refl _) (fun _ => by simp [SV.wf, wfL]) ?_
  simp -implicitDefEqProofs only [Tryz.f38, Option.getD_some, argS, ZB, Int.reduceToNat, Nat.reduceLT, Nat.reduceLeDiff, Int.reduceLE, Int.reduceLT, Nat.reduceEqDiff, Nat.reduceSub, SB, SV.known, packR, ne_eq, reduceCtorEq, Nat.reduceEqDiff, ↓reduceIte, if_true, if_false, eq_self, Nat.reduceAdd, Nat.reduceMul, Nat.reduceSub, forall_const, oneCellS, litOne, flat1, Kd.isSca, flat, TYB]
  refine loop_intro (fun i : Nat => [(5, .int 0), (0, .slice 0 0 0 c1), (1, .nils)]) (fun _ => [(0, .ints L1 e1)]) 1 (fun i => True) (fun i => 0) ?_ ?_
  · refine ⟨0, ?_, Sub.mk_id ?_ ?_ ?_ ?_ ?_⟩
    all_goals (try (simp only [LB, subS, subH, wfS, wfH, SV.ren, renL, SObj.ren, SV.wf, SObj.wf, wfL, SV.known, Nat.reduceEqDiff, ↓reduceIte, if_true, if_false, eq_self, Nat.reduceAdd, Nat.reduceLT, Nat.reduceLeDiff, implies_true, reduceCtorEq, forall_const]; done))
    all_goals (try (simp only [LB, subS, subH, wfS, wfH, SV.ren, renL, SObj.ren, SV.wf, SObj.wf, wfL, SV.known, Nat.reduceEqDiff, ↓reduceIte, if_true, if_false, eq_self, Nat.reduceAdd, Nat.reduceLT, Nat.reduceLeDiff, implies_true, reduceCtorEq, forall_const]; simp; done))
    all_goals (try (simp only [LB, subS, subH, wfS, wfH, SV.ren, renL, SObj.ren, SV.wf, SObj.wf, wfL, SV.known, Nat.reduceEqDiff, ↓reduceIte, if_true, if_false, eq_self, Nat.reduceAdd, Nat.reduceLT, Nat.reduceLeDiff, implies_true, reduceCtorEq, forall_const]; (and_intros <;> (first | omega | rfl | (simp; done) | (simp; omega))); done))
    all_goals (try dsimp only)
    all_goals (and_intros <;> try (first | omega | (unfold In64; omega) | trivial | assumption))
  · intro i hi
    simp -implicitDefEqProofs only [lk_normal, ZB, Int.reduceToNat, Nat.reduceLT, Nat.reduceLeDiff, Int.reduceLE, Int.reduceLT, Nat.reduceEqDiff, Nat.reduceSub, SB, SV.known, packR, ne_eq, reduceCtorEq, Nat.reduceEqDiff, ↓reduceIte, if_true, if_false, eq_self, Nat.reduceAdd, Nat.reduceMul, Nat.reduceSub, forall_const, oneCellS, litOne, flat1, Kd.isSca, flat, TYB]
theorem vSources_nn (H : Heap) : PureH Tryz.prog 38 [.nils, .nils] H (.bool true) := by
  refine PureH.any ?_ H
  refine pure_of_vc (X := ⟨Tryz.prog, tys, [], [], true, true, 0, [], []⟩) fn_38 ⟨tys_ok, .nil, .nil, mixed⟩ (n0 := 0) (Nat.le_of_ble_eq_true rfl) (by simp [wfL, SV.wf]) (wfH_spec (by simp [wfH, SObj.wf])) (Nat.le_refl _) (fun _ => by simp [SV.wf, wfL]) ?_
  simp -implicitDefEqProofs only [Tryz.f38, Option.getD_some, argS, ZB, Int.reduceToNat, Nat.reduceLT, Nat.reduceLeDiff, Int.reduceLE, Int.reduceLT, Nat.reduceEqDiff, Nat.reduceSub, SB, SV.known, packR, ne_eq, reduceCtorEq, Nat.reduceEqDiff, ↓reduceIte, if_true, if_false, eq_self, Nat.reduceAdd, Nat.reduceMul, Nat.reduceSub, forall_const, oneCellS, litOne, flat1, Kd.isSca, flat, TYB]
  refine loop_intro (fun i : Nat => [(5, .int 0), (0, .nils), (1, .nils)]) (fun _ => []) 0 (fun i => True) (fun i => 0) ?_ ?_
  · refine ⟨0, ?_, Sub.mk_id ?_ ?_ ?_ ?_ ?_⟩
    all_goals (try (simp only [LB, subS, subH, wfS, wfH, SV.ren, renL, SObj.ren, SV.wf, SObj.wf, wfL, SV.known, Nat.reduceEqDiff, ↓reduceIte, if_true, if_false, eq_self, Nat.reduceAdd, Nat.reduceLT, Nat.reduceLeDiff, implies_true, reduceCtorEq, forall_const]; done))
    all_goals (try (simp only [LB, subS, subH, wfS, wfH, SV.ren, renL, SObj.ren, SV.wf, SObj.wf, wfL, SV.known, Nat.reduceEqDiff, ↓reduceIte, if_true, if_false, eq_self, Nat.reduceAdd, Nat.reduceLT, Nat.reduceLeDiff, implies_true, reduceCtorEq, forall_const]; simp; done))
    all_goals (try (simp only [LB, subS, subH, wfS, wfH, SV.ren, renL, SObj.ren, SV.wf, SObj.wf, wfL, SV.known, Nat.reduceEqDiff, ↓reduceIte, if_true, if_false, eq_self, Nat.reduceAdd, Nat.reduceLT, Nat.reduceLeDiff, implies_true, reduceCtorEq, forall_const]; (and_intros <;> (first | omega | rfl | (simp; done) | (simp; omega))); done))
    all_goals (try dsimp only)
    all_goals (and_intros <;> try (first | omega | (unfold In64; omega) | trivial | assumption))
  · intro i hi
    simp -implicitDefEqProofs only [lk_normal, ZB, Int.reduceToNat, Nat.reduceLT, Nat.reduceLeDiff, Int.reduceLE, Int.reduceLT, Nat.reduceEqDiff, Nat.reduceSub, SB, SV.known, packR, ne_eq, reduceCtorEq, Nat.reduceEqDiff, ↓reduceIte, if_true, if_false, eq_self, Nat.reduceAdd, Nat.reduceMul, Nat.reduceSub, forall_const, oneCellS, litOne, flat1, Kd.isSca, flat, TYB]
def vSources_F : List SV → Heap → Option (Prop × SV)
  | [.slice a 0 l1 _, .slice b 0 l2 _], H => match hget H a, hget H b with
    | some (.ints L1 _), some (.ints L2 _) => some (a ≠ b ∧ l1 = l2 ∧ l1 * 3 ≤ L1.length ∧ l2 * 3 ≤ L2.length ∧ L1.take (l1 * 3) = L2.take (l2 * 3) ∧ l1 ≤ 3074457345618258602, .bool true)
    | _, _ => none
  | [.nils, .slice b 0 l2 _], H => match hget H b with
    | some (.ints _ _) => some (l2 = 0, .bool true)
    | _ => none
  | [.slice a 0 l1 _, .nils], H => match hget H a with
    | some (.ints _ _) => some (l1 = 0, .bool true)
    | _ => none
  | [.nils, .nils], _ => some (True, .bool true)
  | _, _ => none
theorem vSources_T : ∀ args H p v, vSources_F args H = some (p, v) → p → PureH Tryz.prog 38 args H v := by
  intro args H p v h hp
  unfold vSources_F at h
  split at h
  · rename_i a l1 c1 b l2 c2
    split at h
    · rename_i L1 e1 L2 e2 g1 g2
      cases h
      obtain ⟨hab, rfl, q1, q2, q3, q4⟩ := hp
      have := (vSources_ok L1 L2 e1 e2 c1 c2 l1 q1 q2 q3 q4).sub (H := H) (fun j => if j = 0 then a else b) (fun j o hj => by
        simp only [hget_cons] at hj
        split at hj
        · rename_i hj0; cases hj; refine ⟨?_, fun _ => by omega, by simp [hj0]⟩; show hget H (if j = 0 then a else b) = _; rw [if_pos hj0]; exact g1
        · rename_i hj0
          split at hj
          · rename_i hj1; cases hj; refine ⟨?_, fun _ => by omega, by simp [hj1]⟩; show hget H (if j = 0 then a else b) = _; rw [if_neg hj0]; exact g2
          · cases hj) (fun x hx y hy he => by
        simp at hx hy
        rcases hx with rfl | rfl <;> rcases hy with rfl | rfl <;> simp at he <;> omega) (fun _ => trivial)
      simpa [renL, SV.ren] using this
    · cases h
  · rename_i b l2 c2
    split at h
    · rename_i L2 e2 g2
      cases h
      subst hp
      exact one_block (vSources_ns L2 e2 c2) g2 rfl (fun _ => trivial)
    · cases h
  · rename_i a l1 c1
    split at h
    · rename_i L1 e1 g1
      cases h
      subst hp
      exact one_block (vSources_sn L1 e1 c1) g1 rfl (fun _ => trivial)
    · cases h
  · cases h
    exact vSources_nn H
  · cases h
/-- Two fresh lists that are alike. -/
theorem vSources_al {L j j' : List Int} {n : Nat} (h : L.length = n * 3) (hn : n ≤ 3074457345618258602) : n * 3 ≤ (L ++ j).length ∧ n * 3 ≤ (L ++ j').length ∧ List.take (n * 3) (L ++ j) = List.take (n * 3) (L ++ j') ∧ n ≤ 3074457345618258602 :=
  ⟨by rw [List.length_append]; omega, by rw [List.length_append]; omega, by rw [List.take_left' h, List.take_left' h], hn⟩
/-! Racks. -/
--@tbl vRacks = laws.vRacks
theorem vRacks_ok (L1 L2 : List Int) (e1 e2 c1 c2 m : Nat) (h1 : m * 24 ≤ L1.length) (h2 : m * 24 ≤ L2.length) (h : L1.take (m * 24) = L2.take (m * 24)) (hm : m ≤ 384307168202282325) :
    PureH Tryz.prog 39 [.slice 0 0 m c1, .slice 1 0 m c2] [(0, .ints L1 e1), (1, .ints L2 e2)] (.bool true) := by
  refine pure_of_vc (X := ⟨Tryz.prog, tys, [], [], true, true, 2, [], []⟩) fn_39 ⟨tys_ok, .nil, .nil, mixed⟩ (n0 := 2) (Nat.le_of_ble_eq_true rfl) (by simp [wfL, SV.wf]) (wfH_spec (by simp [wfH, SObj.wf])) (Nat.le_refl _) (fun _ => by simp [SV.wf, wfL]) ?_
  simp -implicitDefEqProofs only [Tryz.f39, Option.getD_some, argS, ZB, Int.reduceToNat, Nat.reduceLT, Nat.reduceLeDiff, Int.reduceLE, Int.reduceLT, Nat.reduceEqDiff, Nat.reduceSub, SB, SV.known, packR, ne_eq, reduceCtorEq, Nat.reduceEqDiff, ↓reduceIte, if_true, if_false, eq_self, Nat.reduceAdd, Nat.reduceMul, Nat.reduceSub, forall_const, oneCellS, litOne, flat1, Kd.isSca, flat, TYB]
  refine loop_intro (fun i : Nat => [(5, .int i), (0, .slice 0 0 m c1), (1, .slice 1 0 m c2)]) (fun _ => [(0, .ints L1 e1), (1, .ints L2 e2)]) 2 (fun i => i ≤ m) (fun i => m - i) ?_ ?_
  · refine ⟨0, ?_, Sub.mk_id ?_ ?_ ?_ ?_ ?_⟩
    all_goals (try (simp only [LB, subS, subH, wfS, wfH, SV.ren, renL, SObj.ren, SV.wf, SObj.wf, wfL, SV.known, Nat.reduceEqDiff, ↓reduceIte, if_true, if_false, eq_self, Nat.reduceAdd, Nat.reduceLT, Nat.reduceLeDiff, implies_true, reduceCtorEq, forall_const]; done))
    all_goals (try (simp only [LB, subS, subH, wfS, wfH, SV.ren, renL, SObj.ren, SV.wf, SObj.wf, wfL, SV.known, Nat.reduceEqDiff, ↓reduceIte, if_true, if_false, eq_self, Nat.reduceAdd, Nat.reduceLT, Nat.reduceLeDiff, implies_true, reduceCtorEq, forall_const]; simp; done))
    all_goals (try (simp only [LB, subS, subH, wfS, wfH, SV.ren, renL, SObj.ren, SV.wf, SObj.wf, wfL, SV.known, Nat.reduceEqDiff, ↓reduceIte, if_true, if_false, eq_self, Nat.reduceAdd, Nat.reduceLT, Nat.reduceLeDiff, implies_true, reduceCtorEq, forall_const]; (and_intros <;> (first | omega | rfl | (simp; done) | (simp; omega))); done))
    all_goals (try dsimp only)
    all_goals (and_intros <;> try (first | omega | (unfold In64; omega) | trivial | assumption))
  · intro i hi
    by_cases hlt : i < m
    · have hil : (i : Int) < m := by omega
      have ee : (L1.drop (i * 24)).take 24 = (L2.drop (i * 24)).take 24 := by
        have := congrArg (fun l => (List.drop (i * 24) l).take 24) h
        simp only [List.drop_take, List.take_take] at this
        rw [Nat.min_eq_left (by omega)] at this
        exact this
      have l2 : ((L2.drop (i * 24)).take 24).length = 24 := by rw [List.length_take, List.length_drop]; omega
      simp -implicitDefEqProofs only [lk_normal, hil, ee, l2, eqI_rack, ZB, Int.reduceToNat, Nat.reduceLT, Nat.reduceLeDiff, Int.reduceLE, Int.reduceLT, Nat.reduceEqDiff, Nat.reduceSub, SB, SV.known, packR, ne_eq, reduceCtorEq, Nat.reduceEqDiff, ↓reduceIte, if_true, if_false, eq_self, Nat.reduceAdd, Nat.reduceMul, Nat.reduceSub, forall_const, oneCellS, litOne, flat1, Kd.isSca, flat, TYB]
      (try (and_intros <;> try (first | omega | (unfold In64; omega) | trivial | assumption)))
      refine ⟨i + 1, ?_, ?_, Sub.mk_id ?_ ?_ ?_ ?_ ?_⟩
      all_goals (try (simp only [LB, subS, subH, wfS, wfH, SV.ren, renL, SObj.ren, SV.wf, SObj.wf, wfL, SV.known, Nat.reduceEqDiff, ↓reduceIte, if_true, if_false, eq_self, Nat.reduceAdd, Nat.reduceLT, Nat.reduceLeDiff, implies_true, reduceCtorEq, forall_const]; done))
      all_goals (try (simp only [LB, subS, subH, wfS, wfH, SV.ren, renL, SObj.ren, SV.wf, SObj.wf, wfL, SV.known, Nat.reduceEqDiff, ↓reduceIte, if_true, if_false, eq_self, Nat.reduceAdd, Nat.reduceLT, Nat.reduceLeDiff, implies_true, reduceCtorEq, forall_const]; simp; done))
      all_goals (try (simp only [LB, subS, subH, wfS, wfH, SV.ren, renL, SObj.ren, SV.wf, SObj.wf, wfL, SV.known, Nat.reduceEqDiff, ↓reduceIte, if_true, if_false, eq_self, Nat.reduceAdd, Nat.reduceLT, Nat.reduceLeDiff, implies_true, reduceCtorEq, forall_const]; (and_intros <;> (first | omega | rfl | (simp; done) | (simp; omega))); done))
      all_goals (try dsimp only)
      all_goals (and_intros <;> try (first | omega | (unfold In64; omega) | trivial | assumption))
    · have hil : ¬ (i : Int) < m := by omega
      simp -implicitDefEqProofs only [lk_normal, hil, ZB, Int.reduceToNat, Nat.reduceLT, Nat.reduceLeDiff, Int.reduceLE, Int.reduceLT, Nat.reduceEqDiff, Nat.reduceSub, SB, SV.known, packR, ne_eq, reduceCtorEq, Nat.reduceEqDiff, ↓reduceIte, if_true, if_false, eq_self, Nat.reduceAdd, Nat.reduceMul, Nat.reduceSub, forall_const, oneCellS, litOne, flat1, Kd.isSca, flat, TYB]
theorem vRacks_ns (L2 : List Int) (e2 c2 : Nat) : PureH Tryz.prog 39 [.nils, .slice 0 0 0 c2] [(0, .ints L2 e2)] (.bool true) := by
  refine pure_of_vc (X := ⟨Tryz.prog, tys, [], [], true, true, 1, [], []⟩) fn_39 ⟨tys_ok, .nil, .nil, mixed⟩ (n0 := 1) (Nat.le_of_ble_eq_true rfl) (by simp [wfL, SV.wf]) (wfH_spec (by simp [wfH, SObj.wf])) (Nat.le_refl _) (fun _ => by simp [SV.wf, wfL]) ?_
  simp -implicitDefEqProofs only [Tryz.f39, Option.getD_some, argS, ZB, Int.reduceToNat, Nat.reduceLT, Nat.reduceLeDiff, Int.reduceLE, Int.reduceLT, Nat.reduceEqDiff, Nat.reduceSub, SB, SV.known, packR, ne_eq, reduceCtorEq, Nat.reduceEqDiff, ↓reduceIte, if_true, if_false, eq_self, Nat.reduceAdd, Nat.reduceMul, Nat.reduceSub, forall_const, oneCellS, litOne, flat1, Kd.isSca, flat, TYB]
  refine loop_intro (fun i : Nat => [(5, .int 0), (0, .nils), (1, .slice 0 0 0 c2)]) (fun _ => [(0, .ints L2 e2)]) 1 (fun i => True) (fun i => 0) ?_ ?_
  · refine ⟨0, ?_, Sub.mk_id ?_ ?_ ?_ ?_ ?_⟩
    all_goals (try (simp only [LB, subS, subH, wfS, wfH, SV.ren, renL, SObj.ren, SV.wf, SObj.wf, wfL, SV.known, Nat.reduceEqDiff, ↓reduceIte, if_true, if_false, eq_self, Nat.reduceAdd, Nat.reduceLT, Nat.reduceLeDiff, implies_true, reduceCtorEq, forall_const]; done))
    all_goals (try (simp only [LB, subS, subH, wfS, wfH, SV.ren, renL, SObj.ren, SV.wf, SObj.wf, wfL, SV.known, Nat.reduceEqDiff, ↓reduceIte, if_true, if_false, eq_self, Nat.reduceAdd, Nat.reduceLT, Nat.reduceLeDiff, implies_true, reduceCtorEq, forall_const]; simp; done))
    all_goals (try (simp only [LB, subS, subH, wfS, wfH, SV.ren, renL, SObj.ren, SV.wf, SObj.wf, wfL, SV.known, Nat.reduceEqDiff, ↓reduceIte, if_true, if_false, eq_self, Nat.reduceAdd, Nat.reduceLT, Nat.reduceLeDiff, implies_true, reduceCtorEq, forall_const]; (and_intros <;> (first | omega | rfl | (simp; done) | (simp; omega))); done))
    all_goals (try dsimp only)
    all_goals (and_intros <;> try (first | omega | (unfold In64; omega) | trivial | assumption))
  · intro i hi
    simp -implicitDefEqProofs only [lk_normal, ZB, Int.reduceToNat, Nat.reduceLT, Nat.reduceLeDiff, Int.reduceLE, Int.reduceLT, Nat.reduceEqDiff, Nat.reduceSub, SB, SV.known, packR, ne_eq, reduceCtorEq, Nat.reduceEqDiff, ↓reduceIte, if_true, if_false, eq_self, Nat.reduceAdd, Nat.reduceMul, Nat.reduceSub, forall_const, oneCellS, litOne, flat1, Kd.isSca, flat, TYB]
theorem vRacks_sn (L1 : List Int) (e1 c1 : Nat) : PureH Tryz.prog 39 [.slice 0 0 0 c1, .nils] [(0, .ints L1 e1)] (.bool true) := by
  refine pure_of_vc (X := ⟨Tryz.prog, tys, [], [], true, true, 1, [], []⟩) fn_39 ⟨tys_ok, .nil, .nil, mixed⟩ (n0 := 1) (Nat.le_of_ble_eq_true rfl) (by simp [wfL, SV.wf]) (wfH_spec (by simp [wfH, SObj.wf])) (Nat.le_refl _) (fun _ => by simp [SV.wf, wfL]) ?_
  simp -implicitDefEqProofs only [Tryz.f39, Option.getD_some, argS, ZB, Int.reduceToNat, Nat.reduceLT, Nat.reduceLeDiff, Int.reduceLE, Int.reduceLT, Nat.reduceEqDiff, Nat.reduceSub, SB, SV.known, packR, ne_eq, reduceCtorEq, Nat.reduceEqDiff, ↓reduceIte, if_true, if_false, eq_self, Nat.reduceAdd, Nat.reduceMul, Nat.reduceSub, forall_const, oneCellS, litOne, flat1, Kd.isSca, flat, TYB]
  refine loop_intro (fun i : Nat => [(5, .int 0), (0, .slice 0 0 0 c1), (1, .nils)]) (fun _ => [(0, .ints L1 e1)]) 1 (fun i => True) (fun i => 0) ?_ ?_
  · refine ⟨0, ?_, Sub.mk_id ?_ ?_ ?_ ?_ ?_⟩
    all_goals (try (simp only [LB, subS, subH, wfS, wfH, SV.ren, renL, SObj.ren, SV.wf, SObj.wf, wfL, SV.known, Nat.reduceEqDiff, ↓reduceIte, if_true, if_false, eq_self, Nat.reduceAdd, Nat.reduceLT, Nat.reduceLeDiff, implies_true, reduceCtorEq, forall_const]; done))
    all_goals (try (simp only [LB, subS, subH, wfS, wfH, SV.ren, renL, SObj.ren, SV.wf, SObj.wf, wfL, SV.known, Nat.reduceEqDiff, ↓reduceIte, if_true, if_false, eq_self, Nat.reduceAdd, Nat.reduceLT, Nat.reduceLeDiff, implies_true, reduceCtorEq, forall_const]; simp; done))
    all_goals (try (simp only [LB, subS, subH, wfS, wfH, SV.ren, renL, SObj.ren, SV.wf, SObj.wf, wfL, SV.known, Nat.reduceEqDiff, ↓reduceIte, if_true, if_false, eq_self, Nat.reduceAdd, Nat.reduceLT, Nat.reduceLeDiff, implies_true, reduceCtorEq, forall_const]; (and_intros <;> (first | omega | rfl | (simp; done) | (simp; omega))); done))
    all_goals (try dsimp only)
    all_goals (and_intros <;> try (first | omega | (unfold In64; omega) | trivial | assumption))
  · intro i hi
    simp -implicitDefEqProofs only [lk_normal, ZB, Int.reduceToNat, Nat.reduceLT, Nat.reduceLeDiff, Int.reduceLE, Int.reduceLT, Nat.reduceEqDiff, Nat.reduceSub, SB, SV.known, packR, ne_eq, reduceCtorEq, Nat.reduceEqDiff, ↓reduceIte, if_true, if_false, eq_self, Nat.reduceAdd, Nat.reduceMul, Nat.reduceSub, forall_const, oneCellS, litOne, flat1, Kd.isSca, flat, TYB]
theorem vRacks_nn (H : Heap) : PureH Tryz.prog 39 [.nils, .nils] H (.bool true) := by
  refine PureH.any ?_ H
  refine pure_of_vc (X := ⟨Tryz.prog, tys, [], [], true, true, 0, [], []⟩) fn_39 ⟨tys_ok, .nil, .nil, mixed⟩ (n0 := 0) (Nat.le_of_ble_eq_true rfl) (by simp [wfL, SV.wf]) (wfH_spec (by simp [wfH, SObj.wf])) (Nat.le_refl _) (fun _ => by simp [SV.wf, wfL]) ?_
  simp -implicitDefEqProofs only [Tryz.f39, Option.getD_some, argS, ZB, Int.reduceToNat, Nat.reduceLT, Nat.reduceLeDiff, Int.reduceLE, Int.reduceLT, Nat.reduceEqDiff, Nat.reduceSub, SB, SV.known, packR, ne_eq, reduceCtorEq, Nat.reduceEqDiff, ↓reduceIte, if_true, if_false, eq_self, Nat.reduceAdd, Nat.reduceMul, Nat.reduceSub, forall_const, oneCellS, litOne, flat1, Kd.isSca, flat, TYB]
  refine loop_intro (fun i : Nat => [(5, .int 0), (0, .nils), (1, .nils)]) (fun _ => []) 0 (fun i => True) (fun i => 0) ?_ ?_
  · refine ⟨0, ?_, Sub.mk_id ?_ ?_ ?_ ?_ ?_⟩
    all_goals (try (simp only [LB, subS, subH, wfS, wfH, SV.ren, renL, SObj.ren, SV.wf, SObj.wf, wfL, SV.known, Nat.reduceEqDiff, ↓reduceIte, if_true, if_false, eq_self, Nat.reduceAdd, Nat.reduceLT, Nat.reduceLeDiff, implies_true, reduceCtorEq, forall_const]; done))
    all_goals (try (simp only [LB, subS, subH, wfS, wfH, SV.ren, renL, SObj.ren, SV.wf, SObj.wf, wfL, SV.known, Nat.reduceEqDiff, ↓reduceIte, if_true, if_false, eq_self, Nat.reduceAdd, Nat.reduceLT, Nat.reduceLeDiff, implies_true, reduceCtorEq, forall_const]; simp; done))
    all_goals (try (simp only [LB, subS, subH, wfS, wfH, SV.ren, renL, SObj.ren, SV.wf, SObj.wf, wfL, SV.known, Nat.reduceEqDiff, ↓reduceIte, if_true, if_false, eq_self, Nat.reduceAdd, Nat.reduceLT, Nat.reduceLeDiff, implies_true, reduceCtorEq, forall_const]; (and_intros <;> (first | omega | rfl | (simp; done) | (simp; omega))); done))
    all_goals (try dsimp only)
    all_goals (and_intros <;> try (first | omega | (unfold In64; omega) | trivial | assumption))
  · intro i hi
    simp -implicitDefEqProofs only [lk_normal, ZB, Int.reduceToNat, Nat.reduceLT, Nat.reduceLeDiff, Int.reduceLE, Int.reduceLT, Nat.reduceEqDiff, Nat.reduceSub, SB, SV.known, packR, ne_eq, reduceCtorEq, Nat.reduceEqDiff, ↓reduceIte, if_true, if_false, eq_self, Nat.reduceAdd, Nat.reduceMul, Nat.reduceSub, forall_const, oneCellS, litOne, flat1, Kd.isSca, flat, TYB]
def vRacks_F : List SV → Heap → Option (Prop × SV)
  | [.slice a 0 l1 _, .slice b 0 l2 _], H => match hget H a, hget H b with
    | some (.ints L1 _), some (.ints L2 _) => some (a ≠ b ∧ l1 = l2 ∧ l1 * 24 ≤ L1.length ∧ l2 * 24 ≤ L2.length ∧ L1.take (l1 * 24) = L2.take (l2 * 24) ∧ l1 ≤ 384307168202282325, .bool true)
    | _, _ => none
  | [.nils, .slice b 0 l2 _], H => match hget H b with
    | some (.ints _ _) => some (l2 = 0, .bool true)
    | _ => none
  | [.slice a 0 l1 _, .nils], H => match hget H a with
    | some (.ints _ _) => some (l1 = 0, .bool true)
    | _ => none
  | [.nils, .nils], _ => some (True, .bool true)
  | _, _ => none
theorem vRacks_T : ∀ args H p v, vRacks_F args H = some (p, v) → p → PureH Tryz.prog 39 args H v := by
  intro args H p v h hp
  unfold vRacks_F at h
  split at h
  · rename_i a l1 c1 b l2 c2
    split at h
    · rename_i L1 e1 L2 e2 g1 g2
      cases h
      obtain ⟨hab, rfl, q1, q2, q3, q4⟩ := hp
      have := (vRacks_ok L1 L2 e1 e2 c1 c2 l1 q1 q2 q3 q4).sub (H := H) (fun j => if j = 0 then a else b) (fun j o hj => by
        simp only [hget_cons] at hj
        split at hj
        · rename_i hj0; cases hj; refine ⟨?_, fun _ => by omega, by simp [hj0]⟩; show hget H (if j = 0 then a else b) = _; rw [if_pos hj0]; exact g1
        · rename_i hj0
          split at hj
          · rename_i hj1; cases hj; refine ⟨?_, fun _ => by omega, by simp [hj1]⟩; show hget H (if j = 0 then a else b) = _; rw [if_neg hj0]; exact g2
          · cases hj) (fun x hx y hy he => by
        simp at hx hy
        rcases hx with rfl | rfl <;> rcases hy with rfl | rfl <;> simp at he <;> omega) (fun _ => trivial)
      simpa [renL, SV.ren] using this
    · cases h
  · rename_i b l2 c2
    split at h
    · rename_i L2 e2 g2
      cases h
      subst hp
      exact one_block (vRacks_ns L2 e2 c2) g2 rfl (fun _ => trivial)
    · cases h
  · rename_i a l1 c1
    split at h
    · rename_i L1 e1 g1
      cases h
      subst hp
      exact one_block (vRacks_sn L1 e1 c1) g1 rfl (fun _ => trivial)
    · cases h
  · cases h
    exact vRacks_nn H
  · cases h
/-- Two fresh lists that are alike. -/
theorem vRacks_al {L j j' : List Int} {n : Nat} (h : L.length = n * 24) (hn : n ≤ 384307168202282325) : n * 24 ≤ (L ++ j).length ∧ n * 24 ≤ (L ++ j').length ∧ List.take (n * 24) (L ++ j) = List.take (n * 24) (L ++ j') ∧ n ≤ 384307168202282325 :=
  ⟨by rw [List.length_append]; omega, by rw [List.length_append]; omega, by rw [List.take_left' h, List.take_left' h], hn⟩
/-! Pairs. -/
--@tbl vPairs = laws.vPairs
end Go.Proofs.YtmccafjblhbmkaaGreat
set_option maxRecDepth 100000
set_option linter.unusedSimpArgs false
set_option linter.unusedVariables false
namespace Go.Proofs.YtmccafjblhbmkaaGreat
open Go Go.RowKit
/-- A code of bytes: nil, or a window of a block. -/
def BytV (kc : Nat) (v : SV) (H : Heap) : Prop := (v = .nils ∧ ∃ o, hget H kc = some o) ∨ ∃ (off len cap : Nat) (L : List Int), v = .slice kc off len cap ∧ hget H kc = some (.winU off L) ∧ L.length = len ∧ len ≤ 1000000000 ∧ ∀ x ∈ L, 0 ≤ x ∧ x ≤ 255
theorem BytV.wf {kc n : Nat} {v : SV} {H : Heap} (h : BytV kc v H) (hw : hwf n H) : v.wf n ∧ kc < n := by
  rcases h with ⟨rfl, o, h⟩ | ⟨off, len, cap, L, rfl, h, _⟩
  · exact ⟨trivial, (hw _ _ h).1⟩
  · exact ⟨(hw _ _ h).1, (hw _ _ h).1⟩
theorem BytV.one {kc : Nat} {v : SV} {H : Heap} (h : BytV kc v H) : oneCellS v = true := by
  rcases h with ⟨rfl, o, h⟩ | ⟨off, len, cap, L, rfl, h, _⟩ <;> rfl
theorem BytV.at {kc : Nat} {v : SV} {H H' : Heap} (h : BytV kc v H) (hf : ∀ o, hget H kc = some o → hget H' kc = some o) : BytV kc v H' := by
  rcases h with ⟨rfl, o, h⟩ | ⟨off, len, cap, L, rfl, h, h2⟩
  · exact .inl ⟨rfl, o, hf _ h⟩
  · exact .inr ⟨off, len, cap, L, rfl, hf _ h, h2⟩
/-- A cursor, its bytes, and the number of draws. -/
def CurH (c kc a : Nat) (H : Heap) : Prop := ∃ (v : SV) (s : Int), hget H c = some (.cells [v, .int a, .lit (.int .u64 s)] 85) ∧ BytV kc v H ∧ kc ≠ c
/-- What draws leave. -/
structure Drawn (c kc a k n : Nat) (H H' : Heap) (n' : Nat) : Prop where
  le : n ≤ n'
  wf : hwf n' H'
  cur : ∃ a', a ≤ a' ∧ a' ≤ a + k ∧ CurH c kc a' H'
  fr : ∀ i o, i < n → i ≠ c → hget H i = some o → hget H' i = some o
theorem u8_in {x : Int} (h : 0 ≤ x ∧ x ≤ 255) : In64 x := by unfold In64; omega
theorem and_255 (x : Int) : 0 ≤ IntKind.u64.wrap ((BitVec.ofInt IntKind.u64.bits x &&& BitVec.ofInt IntKind.u64.bits 255).toNat : Int) ∧ IntKind.u64.wrap ((BitVec.ofInt IntKind.u64.bits x &&& BitVec.ofInt IntKind.u64.bits 255).toNat : Int) ≤ 255 := by
  have h : (BitVec.ofInt IntKind.u64.bits x &&& BitVec.ofInt IntKind.u64.bits 255).toNat ≤ 255 := by
    rw [BitVec.toNat_and]
    exact Nat.le_trans Nat.and_le_right (by decide)
  generalize (BitVec.ofInt IntKind.u64.bits x &&& BitVec.ofInt IntKind.u64.bits 255).toNat = y at h ⊢
  have e : IntKind.u64.wrap (y : Int) = y := by
    unfold IntKind.wrap
    have h2 : ((y : Int) % (2 ^ IntKind.u64.bits : Int)) = y := Int.emod_eq_of_lt (by omega) (by show (y : Int) < 18446744073709551616; omega)
    simp only [h2]
    rfl
  rw [e]; omega
def next_F : List SV → Heap → Nat → Nat → K1 → Prop
  | [.ptr c 0], H, n, m, κ => ∃ kc a, CurH c kc a H ∧ m ≤ c ∧ a ≤ 1000000 ∧ ∀ x H', 0 ≤ x → x ≤ 255 → Drawn c kc a 1 n H H' n → κ (.int x) H' n
  | _, _, _, _, _ => False
theorem next_vc (c kc a m n : Nat) (H : Heap) (hC : CurH c kc a H) (hm : m ≤ c) (ha : a ≤ 1000000) (hwH : hwf n H) :
    codeVC (⟨Tryz.prog, tys, [], [], true, true, m, [], []⟩ : Cx) n (Tryz.f122.body.getD .skip) (argS 0 [.ptr c 0]) H n
      (retK tys Tryz.f122.results.toList fun v H' n' => ∃ x : Int, v = .int x ∧ 0 ≤ x ∧ x ≤ 255 ∧ Drawn c kc a 1 n H H' n ∧ n' = n) := by
  obtain ⟨v, s, h1, h2, h6⟩ := hC
  have hc := (hwH _ _ h1).1
  obtain ⟨hvw, hk⟩ := h2.wf hwH
  have fin : ∀ s', Drawn c kc a 1 n H ((c, .cells [v, .int ((a : Int) + 1), .lit (.int .u64 s')] 85) :: (c, .cells [v, .int ((a : Int) + 1), .lit (.int .u64 s)] 85) :: H) n := fun s' =>
    ⟨Nat.le_refl _, hwf_cons (hwf_cons hwH hc (by simp [SObj.wf, wfL, SV.wf]; exact hvw)) hc (by simp [SObj.wf, wfL, SV.wf]; exact hvw),
      ⟨a + 1, by omega, by omega, v, s', by simp [hget_cons], h2.at (fun o ho => by rw [hget_cons, if_neg h6, hget_cons, if_neg h6]; exact ho), h6⟩,
      fun i o _ hi ho => by rw [hget_cons, if_neg hi, hget_cons, if_neg hi]; exact ho⟩
  rcases h2 with ⟨rfl, o, h2⟩ | ⟨off, len, cap, L, rfl, h2, h3, h4, h5⟩
  · have hil : ¬ (a : Int) < 0 := by omega
    have hil2 : ¬ (a : Int) + 1 ≤ 0 := by omega
    simp -implicitDefEqProofs only [Tryz.f122, Option.getD_some, argS, h1, hil, hil2, ZB, Int.reduceToNat, Nat.reduceLT, Nat.reduceLeDiff, Int.reduceLE, Int.reduceLT, Nat.reduceEqDiff, Nat.reduceSub, SB, SV.known, packR, ne_eq, reduceCtorEq, Nat.reduceEqDiff, ↓reduceIte, if_true, if_false, eq_self, Nat.reduceAdd, Nat.reduceMul, Nat.reduceSub, forall_const, oneCellS, litOne, flat1, Kd.isSca, flat, TYB]
    exact ⟨by unfold In64; omega, hm, hm, u8_in (and_255 _), _, rfl, (and_255 _).1, (and_255 _).2, fin _⟩
  by_cases hal : a < len
  · have hil : (a : Int) < len := by omega
    have hil2 : (a : Int) + 1 ≤ len := by omega
    have gL : off ≤ off + a ∧ off + a < off + L.length := by omega
    have ga : off + a - off = a := by omega
    have bL : 0 ≤ L.getD a 0 ∧ L.getD a 0 ≤ 255 := by
      rw [List.getD_eq_getElem?_getD, List.getElem?_eq_getElem (by omega)]
      exact h5 _ (List.getElem_mem _)
    have iL := u8_in bL
    simp -implicitDefEqProofs only [Tryz.f122, Option.getD_some, argS, h1, h2, hil, hil2, gL, ga, iL, ZB, Int.reduceToNat, Nat.reduceLT, Nat.reduceLeDiff, Int.reduceLE, Int.reduceLT, Nat.reduceEqDiff, Nat.reduceSub, SB, SV.known, packR, ne_eq, reduceCtorEq, Nat.reduceEqDiff, ↓reduceIte, if_true, if_false, eq_self, Nat.reduceAdd, Nat.reduceMul, Nat.reduceSub, forall_const, oneCellS, litOne, flat1, Kd.isSca, flat, TYB]
    exact ⟨by omega, by unfold In64; omega, hm, hm, _, rfl, bL.1, bL.2, fin _⟩
  · have hil : ¬ (a : Int) < len := by omega
    have hil2 : ¬ (a : Int) + 1 ≤ len := by omega
    simp -implicitDefEqProofs only [Tryz.f122, Option.getD_some, argS, h1, h2, hil, hil2, ZB, Int.reduceToNat, Nat.reduceLT, Nat.reduceLeDiff, Int.reduceLE, Int.reduceLT, Nat.reduceEqDiff, Nat.reduceSub, SB, SV.known, packR, ne_eq, reduceCtorEq, Nat.reduceEqDiff, ↓reduceIte, if_true, if_false, eq_self, Nat.reduceAdd, Nat.reduceMul, Nat.reduceSub, forall_const, oneCellS, litOne, flat1, Kd.isSca, flat, TYB]
    exact ⟨by unfold In64; omega, hm, hm, u8_in (and_255 _), _, rfl, (and_255 _).1, (and_255 _).2, fin _⟩
theorem fnx_next : FnOK Tryz.prog 122 Tryz.f122 (Tryz.f122.body.getD .skip) [] [] := ⟨Tryz.func122, rfl, by kernel_rfl, by kernel_rfl⟩
theorem next_T : ∀ args H n m κ, next_F args H n m κ → GenOK Tryz.prog 122 args H n m κ := by
  intro args H n m κ h
  unfold next_F at h
  split at h
  · rename_i c
    obtain ⟨kc, a, hC, hm, ha, h1⟩ := h
    exact gen_direct (X := ⟨Tryz.prog, tys, [], [], true, true, m, [], []⟩) fnx_next ⟨tys_ok, .nil, .nil, mixed⟩ rfl (Nat.le_of_ble_eq_true rfl) (fun hwH hwa => next_vc c kc a m n H hC hm ha hwH) fun hwH v H' n' hψ h3 h4 h5 => by
      obtain ⟨x, rfl, g1, g2, g3, rfl⟩ := hψ
      exact h1 x H' g1 g2 g3
  · exact h.elim
theorem Drawn.trans {c kc a k a' k' n n1 n2 : Nat} {H H1 H2 : Heap} (h1 : Drawn c kc a k n H H1 n1) (h2 : Drawn c kc a' k' n1 H1 H2 n2) (h : a' ≤ a + k) (h' : a ≤ a') : Drawn c kc a (k + k') n H H2 n2 :=
  ⟨Nat.le_trans h1.le h2.le, h2.wf, by
    obtain ⟨b, g1, g2, g3⟩ := h2.cur
    exact ⟨b, by omega, by omega, g3⟩, fun i o hi hc ho => h2.fr i o (Nat.lt_of_lt_of_le hi h1.le) hc (h1.fr i o hi hc ho)⟩
theorem Drawn.more {c kc a k k' n n1 : Nat} {H H1 : Heap} (h1 : Drawn c kc a k n H H1 n1) (h : k ≤ k') : Drawn c kc a k' n H H1 n1 :=
  ⟨h1.le, h1.wf, by
    obtain ⟨b, g1, g2, g3⟩ := h1.cur
    exact ⟨b, g1, by omega, g3⟩, h1.fr⟩
/-- A number below another one. -/
def pick_F : List SV → Heap → Nat → Nat → K1 → Prop
  | [.ptr c 0, .int k], H, n, m, κ => ∃ kc a, CurH c kc a H ∧ m ≤ c ∧ a ≤ 999990 ∧ ∀ (x : Int) H', 0 ≤ x → (x < k ∨ x = 0) → Drawn c kc a 2 n H H' n → κ (.int x) H' n
  | _, _, _, _, _ => False
theorem pick_vc (c kc a m n : Nat) (k : Int) (H : Heap) (hC : CurH c kc a H) (hm : m ≤ c) (ha : a ≤ 999990) (hwH : hwf n H) :
    codeVC (⟨Tryz.prog, tys, [], [(122, next_F)], true, true, m, [122], []⟩ : Cx) n (Tryz.f68.body.getD .skip) (argS 0 [.ptr c 0, .int k]) H n
      (retK tys Tryz.f68.results.toList fun v H' n' => ∃ x : Int, v = .int x ∧ 0 ≤ x ∧ (x < k ∨ x = 0) ∧ Drawn c kc a 2 n H H' n ∧ n' = n) := by
  have d0 : Drawn c kc a 2 n H H n := ⟨Nat.le_refl _, hwH, ⟨a, Nat.le_refl _, by omega, hC⟩, fun i o _ _ h => h⟩
  by_cases hk : k ≤ 1
  · simp -implicitDefEqProofs only [Tryz.f68, Option.getD_some, argS, hk, ZB, Int.reduceToNat, Nat.reduceLT, Nat.reduceLeDiff, Int.reduceLE, Int.reduceLT, Nat.reduceEqDiff, Nat.reduceSub, SB, SV.known, packR, ne_eq, reduceCtorEq, Nat.reduceEqDiff, ↓reduceIte, if_true, if_false, eq_self, Nat.reduceAdd, Nat.reduceMul, Nat.reduceSub, forall_const, oneCellS, litOne, flat1, Kd.isSca, flat, TYB]
    exact ⟨0, rfl, Int.le_refl _, .inr rfl, d0⟩
  · simp -implicitDefEqProofs only [Tryz.f68, Option.getD_some, argS, next_F, hk, ZB, Int.reduceToNat, Nat.reduceLT, Nat.reduceLeDiff, Int.reduceLE, Int.reduceLT, Nat.reduceEqDiff, Nat.reduceSub, SB, SV.known, packR, ne_eq, reduceCtorEq, Nat.reduceEqDiff, ↓reduceIte, if_true, if_false, eq_self, Nat.reduceAdd, Nat.reduceMul, Nat.reduceSub, forall_const, oneCellS, litOne, flat1, Kd.isSca, flat, TYB]
    refine ⟨kc, a, hC, hm, by omega, fun x H1 hx0 hx1 hd1 => ?_⟩
    obtain ⟨a1, ha1, ha1', hC1⟩ := hd1.cur
    by_cases hk2 : 200 < k
    · simp -implicitDefEqProofs only [next_F, hk2, ZB, Int.reduceToNat, Nat.reduceLT, Nat.reduceLeDiff, Int.reduceLE, Int.reduceLT, Nat.reduceEqDiff, Nat.reduceSub, SB, SV.known, packR, ne_eq, reduceCtorEq, Nat.reduceEqDiff, ↓reduceIte, if_true, if_false, eq_self, Nat.reduceAdd, Nat.reduceMul, Nat.reduceSub, forall_const, oneCellS, litOne, flat1, Kd.isSca, flat, TYB]
      refine ⟨⟨by unfold In64; omega, kc, a1, hC1, hm, by omega, fun y H2 hy0 hy1 hd2 => ?_⟩, fun h => absurd trivial h⟩
      have hr := Int.tmod_lt_of_pos (x * 256 + y) (show 0 < k by omega)
      have hr0 := Int.tmod_nonneg k (show 0 ≤ x * 256 + y by omega)
      exact ⟨by unfold In64; omega, by omega, _, rfl, hr0, .inl hr, hd1.trans hd2 ha1' ha1⟩
    · simp -implicitDefEqProofs only [next_F, hk2, ZB, Int.reduceToNat, Nat.reduceLT, Nat.reduceLeDiff, Int.reduceLE, Int.reduceLT, Nat.reduceEqDiff, Nat.reduceSub, SB, SV.known, packR, ne_eq, reduceCtorEq, Nat.reduceEqDiff, ↓reduceIte, if_true, if_false, eq_self, Nat.reduceAdd, Nat.reduceMul, Nat.reduceSub, forall_const, oneCellS, litOne, flat1, Kd.isSca, flat, TYB]
      exact ⟨by omega, _, rfl, Int.tmod_nonneg k hx0, .inl (Int.tmod_lt_of_pos x (show 0 < k by omega)), hd1.more (by omega)⟩
theorem fnx_pick : FnOK Tryz.prog 68 Tryz.f68 (Tryz.f68.body.getD .skip) [122] [] := ⟨Tryz.func68, rfl, by kernel_rfl, by kernel_rfl⟩
theorem pick_T : ∀ args H n m κ, pick_F args H n m κ → GenOK Tryz.prog 68 args H n m κ := by
  intro args H n m κ h
  unfold pick_F at h
  split at h
  · rename_i c k
    obtain ⟨kc, a, hC, hm, ha, h1⟩ := h
    exact gen_direct (X := ⟨Tryz.prog, tys, [], [(122, next_F)], true, true, m, [122], []⟩) fnx_pick ⟨tys_ok, .nil, .cons next_T .nil, mixed⟩ rfl (Nat.le_of_ble_eq_true rfl) (fun hwH hwa => pick_vc c kc a m n k H hC hm ha hwH) fun hwH v H' n' hψ h3 h4 h5 => by
      obtain ⟨x, rfl, g1, g2, g3, rfl⟩ := hψ
      exact h1 x H' g1 g2 g3
  · exact h.elim
def one_F : List SV → Heap → Nat → Nat → K1 → Prop
  | [.ptr c 0, .int _], H, n, m, κ => ∃ kc a, CurH c kc a H ∧ m ≤ c ∧ a ≤ 999990 ∧ ∀ (b : Bool) H', Drawn c kc a 2 n H H' n → κ (.bool b) H' n
  | _, _, _, _, _ => False
theorem one_vc (c kc a m n : Nat) (k : Int) (H : Heap) (hC : CurH c kc a H) (hm : m ≤ c) (ha : a ≤ 999990) (hwH : hwf n H) :
    codeVC (⟨Tryz.prog, tys, [], [(68, pick_F)], true, true, m, [68], []⟩ : Cx) n (Tryz.f78.body.getD .skip) (argS 0 [.ptr c 0, .int k]) H n
      (retK tys Tryz.f78.results.toList fun v H' n' => ∃ b : Bool, v = .bool b ∧ Drawn c kc a 2 n H H' n ∧ n' = n) := by
  simp -implicitDefEqProofs only [Tryz.f78, Option.getD_some, argS, pick_F, ZB, Int.reduceToNat, Nat.reduceLT, Nat.reduceLeDiff, Int.reduceLE, Int.reduceLT, Nat.reduceEqDiff, Nat.reduceSub, SB, SV.known, packR, ne_eq, reduceCtorEq, Nat.reduceEqDiff, ↓reduceIte, if_true, if_false, eq_self, Nat.reduceAdd, Nat.reduceMul, Nat.reduceSub, forall_const, oneCellS, litOne, flat1, Kd.isSca, flat, TYB]
  exact ⟨kc, a, hC, hm, ha, fun x H1 _ _ hd1 => ⟨_, rfl, hd1⟩⟩
theorem fnx_one : FnOK Tryz.prog 78 Tryz.f78 (Tryz.f78.body.getD .skip) [68] [] := ⟨Tryz.func78, rfl, by kernel_rfl, by kernel_rfl⟩
theorem one_T : ∀ args H n m κ, one_F args H n m κ → GenOK Tryz.prog 78 args H n m κ := by
  intro args H n m κ h
  unfold one_F at h
  split at h
  · rename_i c k
    obtain ⟨kc, a, hC, hm, ha, h1⟩ := h
    exact gen_direct (X := ⟨Tryz.prog, tys, [], [(68, pick_F)], true, true, m, [68], []⟩) fnx_one ⟨tys_ok, .nil, .cons pick_T .nil, mixed⟩ rfl (Nat.le_of_ble_eq_true rfl) (fun hwH hwa => one_vc c kc a m n k H hC hm ha hwH) fun hwH v H' n' hψ h3 h4 h5 => by
      obtain ⟨b, rfl, g3, rfl⟩ := hψ
      exact h1 b H' g3
  · exact h.elim
/-- One of some numbers. -/
def among_F : List SV → Heap → Nat → Nat → K1 → Prop
  | [.ptr c 0, .slice b 0 len _], H, n, m, κ => match hget H b with
    | some (.ints L _) => 0 < len ∧ len ≤ L.length ∧ len ≤ 1000 ∧ b < n ∧ b ≠ c ∧ ∃ kc a, CurH c kc a H ∧ m ≤ c ∧ a ≤ 999990 ∧ ∀ (i : Nat) H', i < len → Drawn c kc a 2 n H H' n → κ (.int (L.getD i 0)) H' n
    | _ => False
  | _, _, _, _, _ => False
theorem among_vc (c kc a m n b len cap e : Nat) (L : List Int) (H : Heap) (hb : hget H b = some (.ints L e)) (hl : 0 < len ∧ len ≤ L.length) (hl2 : len ≤ 1000) (hbn : b < n) (hbc : b ≠ c) (hC : CurH c kc a H) (hm : m ≤ c) (ha : a ≤ 999990) (hwH : hwf n H) :
    codeVC (⟨Tryz.prog, tys, [], [(68, pick_F)], true, true, m, [68], []⟩ : Cx) n (Tryz.f67.body.getD .skip) (argS 0 [.ptr c 0, .slice b 0 len cap]) H n
      (retK tys Tryz.f67.results.toList fun v H' n' => ∃ i : Nat, v = .int (L.getD i 0) ∧ i < len ∧ Drawn c kc a 2 n H H' n ∧ n' = n) := by
  simp -implicitDefEqProofs only [Tryz.f67, Option.getD_some, argS, pick_F, hb, ZB, Int.reduceToNat, Nat.reduceLT, Nat.reduceLeDiff, Int.reduceLE, Int.reduceLT, Nat.reduceEqDiff, Nat.reduceSub, SB, SV.known, packR, ne_eq, reduceCtorEq, Nat.reduceEqDiff, ↓reduceIte, if_true, if_false, eq_self, Nat.reduceAdd, Nat.reduceMul, Nat.reduceSub, forall_const, oneCellS, litOne, flat1, Kd.isSca, flat, TYB]
  refine ⟨kc, a, hC, hm, ha, fun x H1 hx0 hx1 hd1 => ?_⟩
  obtain ⟨i, rfl⟩ : ∃ i : Nat, x = i := ⟨x.toNat, by omega⟩
  have hi : i < len := by omega
  have hil : (i : Int) < len := by omega
  have hb1 := hd1.fr b _ hbn hbc hb
  simp -implicitDefEqProofs only [hb1, hil, ZB, Int.reduceToNat, Nat.reduceLT, Nat.reduceLeDiff, Int.reduceLE, Int.reduceLT, Nat.reduceEqDiff, Nat.reduceSub, SB, SV.known, packR, ne_eq, reduceCtorEq, Nat.reduceEqDiff, ↓reduceIte, if_true, if_false, eq_self, Nat.reduceAdd, Nat.reduceMul, Nat.reduceSub, forall_const, oneCellS, litOne, flat1, Kd.isSca, flat, TYB]
  exact ⟨by omega, by omega, i, rfl, hi, hd1⟩
theorem fnx_among : FnOK Tryz.prog 67 Tryz.f67 (Tryz.f67.body.getD .skip) [68] [] := ⟨Tryz.func67, rfl, by kernel_rfl, by kernel_rfl⟩
theorem among_T : ∀ args H n m κ, among_F args H n m κ → GenOK Tryz.prog 67 args H n m κ := by
  intro args H n m κ h
  unfold among_F at h
  split at h
  · rename_i c b len cap
    split at h
    · rename_i L e hb
      obtain ⟨g1, g2, g3, g4, g5, kc, a, hC, hm, ha, h1⟩ := h
      exact gen_direct (X := ⟨Tryz.prog, tys, [], [(68, pick_F)], true, true, m, [68], []⟩) fnx_among ⟨tys_ok, .nil, .cons pick_T .nil, mixed⟩ rfl (Nat.le_of_ble_eq_true rfl) (fun hwH hwa => among_vc c kc a m n b len cap e L H hb ⟨g1, g2⟩ g3 g4 g5 hC hm ha hwH) fun hwH v H' n' hψ h3 h4 h5 => by
        obtain ⟨i, rfl, hi, g6, rfl⟩ := hψ
        exact h1 i H' hi g6
    · exact h.elim
  · exact h.elim
theorem CurH.lt {c kc a n : Nat} {H : Heap} (h : CurH c kc a H) (hw : hwf n H) : c < n ∧ kc < n ∧ kc ≠ c := by
  obtain ⟨v, s, h1, h2, h6⟩ := h
  exact ⟨(hw _ _ h1).1, (h2.wf hw).2, h6⟩
theorem CurH.cons {c kc a k : Nat} {H : Heap} (h : CurH c kc a H) (o : SObj) (h1 : k ≠ c) (h2 : k ≠ kc) : CurH c kc a ((k, o) :: H) := by
  obtain ⟨v, s, g1, g2, g6⟩ := h
  exact ⟨v, s, by rw [hget_cons, if_neg (fun e => h1 e.symm)]; exact g1, g2.at (fun o ho => by rw [hget_cons, if_neg (fun e => h2 e.symm)]; exact ho), g6⟩
/-- A block put beside. -/
theorem Drawn.put {c kc a k n0 n n' k0 : Nat} {H0 H : Heap} (h : Drawn c kc a k n0 H0 H n) (hc : c < n0 ∧ kc < n0 ∧ kc ≠ c) (o : SObj) (h0 : n0 ≤ k0) (hk : k0 < n') (hn : n ≤ n') (ho : o.wf n') : Drawn c kc a k n0 H0 ((k0, o) :: H) n' := by
  obtain ⟨b, g1, g2, g3⟩ := h.cur
  exact ⟨Nat.le_trans h.le hn, hwf_cons (hwf_mono hn h.wf) hk ho, ⟨b, g1, g2, g3.cons o (by omega) (by omega)⟩, fun i o' hi hic ho' => by
    rw [hget_cons, if_neg (by omega)]
    exact h.fr i o' hi hic ho'⟩
theorem Drawn.start {c kc a n : Nat} {H : Heap} (h : CurH c kc a H) (hw : hwf n H) : Drawn c kc a 0 n H H n := ⟨Nat.le_refl _, hw, ⟨a, Nat.le_refl _, Nat.le_refl _, h⟩, fun _ _ _ _ h => h⟩
/-- One of a few numbers, drawn from a list just made. -/
theorem among_new {c kc a k n0 n m : Nat} {H0 H : Heap} {κ : K1} (h : Drawn c kc a k n0 H0 H n) (hC : CurH c kc a H0) (hw0 : hwf n0 H0) (hm : m ≤ c) (ha : a + k ≤ 999980) (L : List Int) (e len cap : Nat) (hl : 0 < len ∧ len ≤ L.length) (hl2 : len ≤ 1000)
    (hκ : ∀ (i : Nat) H', i < len → Drawn c kc a (k + 2) n0 H0 H' (n + 1) → κ (.int (L.getD i 0)) H' (n + 1)) : among_F [.ptr c 0, .slice n 0 len cap] ((n, .ints L e) :: H) (n + 1) m κ := by
  obtain ⟨q1, q2, q3⟩ := hC.lt hw0
  have h2 := h.put (hC.lt hw0) (k0 := n) (n' := n + 1) (.ints L e) h.le (by omega) (by omega) trivial
  obtain ⟨b, g1, g2, g3⟩ := h2.cur
  have hle := h.le
  simp only [among_F, hget_cons, if_true]
  exact ⟨hl.1, hl.2, hl2, by omega, by omega, kc, b, g3, hm, by omega, fun i H' hi hd => hκ i H' hi (h2.trans hd g2 g1)⟩
def place_F : List SV → Heap → Nat → Nat → K1 → Prop
  | [.ptr c 0], H, n, m, κ => ∃ kc a, CurH c kc a H ∧ m ≤ c ∧ a ≤ 999900 ∧ ∀ (x : Int) H' n', In64 x → Drawn c kc a 4 n H H' n' → κ (.int x) H' n'
  | _, _, _, _, _ => False
theorem place_vc (c kc a m n : Nat) (H : Heap) (hC : CurH c kc a H) (hm : m ≤ c) (ha : a ≤ 999900) (hwH : hwf n H) :
    codeVC (⟨Tryz.prog, tys, [], [(68, pick_F), (78, one_F), (67, among_F)], true, true, m, [68, 78, 67], []⟩ : Cx) n (Tryz.f134.body.getD .skip) (argS 0 [.ptr c 0]) H n
      (retK tys Tryz.f134.results.toList fun v H' n' => ∃ x : Int, v = .int x ∧ In64 x ∧ Drawn c kc a 4 n H H' n') := by
  simp -implicitDefEqProofs only [Tryz.f134, Option.getD_some, argS, one_F, ZB, Int.reduceToNat, Nat.reduceLT, Nat.reduceLeDiff, Int.reduceLE, Int.reduceLT, Nat.reduceEqDiff, Nat.reduceSub, SB, SV.known, packR, ne_eq, reduceCtorEq, Nat.reduceEqDiff, ↓reduceIte, if_true, if_false, eq_self, Nat.reduceAdd, Nat.reduceMul, Nat.reduceSub, forall_const, oneCellS, litOne, flat1, Kd.isSca, flat, TYB]
  refine ⟨kc, a, hC, hm, by omega, fun b H1 hd1 => ?_⟩
  obtain ⟨a1, ha1, ha1', hC1⟩ := hd1.cur
  cases b
  · simp -implicitDefEqProofs only [pick_F, ZB, Int.reduceToNat, Nat.reduceLT, Nat.reduceLeDiff, Int.reduceLE, Int.reduceLT, Nat.reduceEqDiff, Nat.reduceSub, SB, SV.known, packR, ne_eq, reduceCtorEq, Nat.reduceEqDiff, ↓reduceIte, if_true, if_false, eq_self, Nat.reduceAdd, Nat.reduceMul, Nat.reduceSub, forall_const, oneCellS, litOne, flat1, Kd.isSca, flat, TYB]
    exact ⟨kc, a1, hC1, hm, by omega, fun x H2 hx0 hx1 hd2 => ⟨x, rfl, by unfold In64; omega, hd1.trans hd2 ha1' ha1⟩⟩
  · simp -implicitDefEqProofs only [ZB, Int.reduceToNat, Nat.reduceLT, Nat.reduceLeDiff, Int.reduceLE, Int.reduceLT, Nat.reduceEqDiff, Nat.reduceSub, SB, SV.known, packR, ne_eq, reduceCtorEq, Nat.reduceEqDiff, ↓reduceIte, if_true, if_false, eq_self, Nat.reduceAdd, Nat.reduceMul, Nat.reduceSub, forall_const, oneCellS, litOne, flat1, Kd.isSca, flat, TYB]
    refine among_new hd1 hC hwH hm (by omega) _ _ _ _ (by simp) (by omega) fun i H' hi hd => ?_
    have hI : In64 (([-1, 6, 4611686018427387904] : List Int).getD i 0) := by
      match i, hi with
      | 0, _ => simp [In64]
      | 1, _ => simp [In64]
      | 2, _ => simp [In64]
    simp -implicitDefEqProofs only [ZB, Int.reduceToNat, Nat.reduceLT, Nat.reduceLeDiff, Int.reduceLE, Int.reduceLT, Nat.reduceEqDiff, Nat.reduceSub, SB, SV.known, packR, ne_eq, reduceCtorEq, Nat.reduceEqDiff, ↓reduceIte, if_true, if_false, eq_self, Nat.reduceAdd, Nat.reduceMul, Nat.reduceSub, forall_const, oneCellS, litOne, flat1, Kd.isSca, flat, TYB]
    exact ⟨_, rfl, hI, hd⟩
theorem fnx_place : FnOK Tryz.prog 134 Tryz.f134 (Tryz.f134.body.getD .skip) [68, 78, 67] [] := ⟨Tryz.func134, rfl, by kernel_rfl, by kernel_rfl⟩
theorem place_T : ∀ args H n m κ, place_F args H n m κ → GenOK Tryz.prog 134 args H n m κ := by
  intro args H n m κ h
  unfold place_F at h
  split at h
  · rename_i c
    obtain ⟨kc, a, hC, hm, ha, h1⟩ := h
    exact gen_direct (X := ⟨Tryz.prog, tys, [], [(68, pick_F), (78, one_F), (67, among_F)], true, true, m, [68, 78, 67], []⟩) fnx_place ⟨tys_ok, .nil, .cons pick_T (.cons one_T (.cons among_T .nil)), mixed⟩ rfl (Nat.le_of_ble_eq_true rfl) (fun hwH hwa => place_vc c kc a m n H hC hm ha hwH) fun hwH v H' n' hψ h3 h4 h5 => by
      obtain ⟨x, rfl, hI, g3⟩ := hψ
      exact h1 x H' n' hI g3
  · exact h.elim
theorem Drawn.push {c kc a k n0 n : Nat} {H0 H : Heap} (h : Drawn c kc a k n0 H0 H n) (hc : c < n0 ∧ kc < n0 ∧ kc ≠ c) (o : SObj) (ho : o.wf (n + 1)) : Drawn c kc a k n0 H0 ((n, o) :: H) (n + 1) := h.put hc o h.le (by omega) (by omega) ho
theorem Drawn.pushI {c kc a k n0 n : Nat} {H0 H : Heap} (h : Drawn c kc a k n0 H0 H n) (hc : c < n0 ∧ kc < n0 ∧ kc ≠ c) {L : List Int} {e : Nat} : Drawn c kc a k n0 H0 ((n, .ints L e) :: H) (n + 1) := h.push hc _ trivial
theorem Drawn.putI {c kc a k n0 n k0 : Nat} {H0 H : Heap} (h : Drawn c kc a k n0 H0 H n) (hc : c < n0 ∧ kc < n0 ∧ kc ≠ c) {L : List Int} {e : Nat} (h0 : n0 ≤ k0) (hk : k0 < n) : Drawn c kc a k n0 H0 ((k0, .ints L e) :: H) n := h.put hc _ h0 hk (Nat.le_refl _) trivial
/-- What is kept of one's own blocks. -/
def Fr (n0 n : Nat) (H H' : Heap) : Prop := ∀ j o, n0 ≤ j → j < n → hget H j = some o → hget H' j = some o
theorem Fr.use {n0 n j : Nat} {H H' : Heap} {o : SObj} (h : Fr n0 n H H') (h1 : n0 ≤ j) (h2 : j < n) (h3 : hget H j = some o) : hget H' j = some o := h j o h1 h2 h3
theorem Drawn.own {c kc a k n0 n n' : Nat} {H H' : Heap} (h : Drawn c kc a k n H H' n') (hc : c < n0) : Fr n0 n H H' := fun j o h1 h2 h3 => h.fr j o h2 (by omega) h3
theorem among_use {c kc a k n0 n m b len cap e : Nat} {H0 H : Heap} {κ : K1} {L : List Int} (h : Drawn c kc a k n0 H0 H n) (hc : c < n0 ∧ kc < n0 ∧ kc ≠ c) (hm : m ≤ c) (ha : a + k ≤ 999980) (hb : hget H b = some (.ints L e)) (h0 : n0 ≤ b) (hl : 0 < len ∧ len ≤ L.length ∧ len ≤ 1000)
    (hκ : ∀ (x : Int) H', x ∈ L → Drawn c kc a (k + 2) n0 H0 H' n → Fr n0 n H H' → κ (.int x) H' n) : among_F [.ptr c 0, .slice b 0 len cap] H n m κ := by
  obtain ⟨b', g1, g2, g3⟩ := h.cur
  have hbn := (h.wf _ _ hb).1
  simp only [among_F, hb]
  refine ⟨hl.1, hl.2.1, hl.2.2, hbn, by omega, kc, b', g3, hm, by omega, fun i H' hi hd => hκ _ H' ?_ (h.trans hd g2 g1) (hd.own hc.1)⟩
  rw [List.getD_eq_getElem?_getD, List.getElem?_eq_getElem (by omega)]
  exact List.getElem_mem _
theorem pick_use {c kc a k n0 n m : Nat} {H0 H : Heap} {κ : K1} (h : Drawn c kc a k n0 H0 H n) (hc : c < n0 ∧ kc < n0 ∧ kc ≠ c) (hm : m ≤ c) (ha : a + k ≤ 999980) {z : Int}
    (hκ : ∀ (x : Int) H', 0 ≤ x → (x < z ∨ x = 0) → Drawn c kc a (k + 2) n0 H0 H' n → Fr n0 n H H' → κ (.int x) H' n) : pick_F [.ptr c 0, .int z] H n m κ := by
  obtain ⟨b', g1, g2, g3⟩ := h.cur
  exact ⟨kc, b', g3, hm, by omega, fun x H' h1 h2 hd => hκ x H' h1 h2 (h.trans hd g2 g1) (hd.own hc.1)⟩
theorem one_use {c kc a k n0 n m : Nat} {H0 H : Heap} {κ : K1} (h : Drawn c kc a k n0 H0 H n) (hc : c < n0 ∧ kc < n0 ∧ kc ≠ c) (hm : m ≤ c) (ha : a + k ≤ 999980) {z : Int}
    (hκ : ∀ (x : Bool) H', Drawn c kc a (k + 2) n0 H0 H' n → Fr n0 n H H' → κ (.bool x) H' n) : one_F [.ptr c 0, .int z] H n m κ := by
  obtain ⟨b', g1, g2, g3⟩ := h.cur
  exact ⟨kc, b', g3, hm, by omega, fun x H' hd => hκ x H' (h.trans hd g2 g1) (hd.own hc.1)⟩
theorem place_use {c kc a k n0 n m : Nat} {H0 H : Heap} {κ : K1} (h : Drawn c kc a k n0 H0 H n) (hc : c < n0 ∧ kc < n0 ∧ kc ≠ c) (hm : m ≤ c) (ha : a + k ≤ 999900)
    (hκ : ∀ (x : Int) H' n', In64 x → Drawn c kc a (k + 4) n0 H0 H' n' → n ≤ n' → Fr n0 n H H' → κ (.int x) H' n') : place_F [.ptr c 0] H n m κ := by
  obtain ⟨b', g1, g2, g3⟩ := h.cur
  exact ⟨kc, b', g3, hm, by omega, fun x H' n' hI hd => hκ x H' n' hI (h.trans hd g2 g1) hd.le (hd.own hc.1)⟩
end Go.Proofs.YtmccafjblhbmkaaGreat
