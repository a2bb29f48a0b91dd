/- Walks: RacksBefore, GardensBefore. -/
import Derived.Test.YtdnechlmkbchaaaRb
import Derived.Test.YtdnechlmkbchaaaDelR
set_option maxRecDepth 100000
set_option linter.unusedSimpArgs false
set_option linter.unusedVariables false
namespace Go.Proofs.Ytdnechlmkbchaaa
open Go Go.RowKit
def before_F : List SV → Heap → Nat → Nat → K1 → Prop
  | [.arr R], H, n, _, κ => (R.length = 24 ∧ rackB R = true) ∧ freshK .one (befL R).flatten (befL R).length 24 29 true H n κ
  | _, _, _, _, _ => False
--@tbl before = impl.before
theorem before_T : ∀ args H n m κ, before_F args H n m κ → GenOK Try.prog 63 args H n m κ := by
  intro args H n m κ h
  unfold before_F at h
  split at h
  · exact gen_of_fresh (before_ok _ h.1.1 h.1.2) (fun k o hk => by cases hk) h.2
  · exact h.elim
def l5Racks_F : List SV → Heap → Nat → Nat → K1 → Prop
  | [.arr R], H, n, _, κ => (R.length = 24 ∧ rackB R = true) ∧ freshK .one (befL R).flatten (befL R).length 24 29 false H n κ
  | _, _, _, _, _ => False
--@tbl l5Racks = spec.l5Racks
theorem l5Racks_T : ∀ args H n m κ, l5Racks_F args H n m κ → GenOK Try.prog 61 args H n m κ := by
  intro args H n m κ h
  unfold l5Racks_F at h
  split at h
  · exact gen_of_fresh (l5Racks_ok _ h.1.1 h.1.2) (fun k o hk => by cases hk) h.2
  · exact h.elim
/-! What is left of a law that compares lists of racks. -/
theorem lawSRn {L : List Int} {m : Nat} (nl : Bool) (hm : L.length = m * 24) (hb : m ≤ 2000000) : ∀ (cap : Nat) (junk : List Int), junk.length + L.length = cap * 24 →
    (nl = true → L = [] → m = 0 ∧ (nl = true → L = [] → m = 0) ∧ ((nl = true → ¬L = []) → ∀ (cap : Nat) (junk_1 : List Int), junk_1.length + L.length = cap * 24 → m * 24 ≤ (L ++ junk_1).length ∧ m * 24 ≤ (L ++ junk).length ∧ List.take (m * 24) (L ++ junk_1) = List.take (m * 24) (L ++ junk) ∧ m ≤ 384307168202282325)) ∧
    ((nl = true → ¬L = []) → ∀ (cap : Nat) (junk_1 : List Int), junk_1.length + L.length = cap * 24 →
      (m * 24 ≤ (L ++ junk_1).length ∧ m * 24 ≤ (L ++ junk).length ∧ List.take (m * 24) (L ++ junk_1) = List.take (m * 24) (L ++ junk) ∧ m ≤ 384307168202282325) ∧ m ≤ 2000000 ∧ m ≤ 2000000 ∧
      (nl = true → L = [] → m = 0 ∧ m ≤ 2000000) ∧ ((nl = true → ¬L = []) → ∀ (cap : Nat) (junk_2 : List Int), junk_2.length + L.length = cap * 24 →
        (m * 24 ≤ (L ++ junk_2).length ∧ m * 24 ≤ (L ++ junk).length ∧ List.take (m * 24) (L ++ junk_2) = List.take (m * 24) (L ++ junk) ∧ m ≤ 384307168202282325) ∧ m ≤ 2000000)) := by
  have tL : ∀ J : List Int, List.take (m * 24) (L ++ J) = L := fun J => List.take_left' hm
  have lL : ∀ J : List Int, m * 24 ≤ (L ++ J).length := fun J => by rw [List.length_append]; omega
  have l0 : L = [] → m = 0 := fun h => by rw [h] at hm; simp at hm; omega
  intro cap junk hj
  exact ⟨fun _ h => ⟨l0 h, fun _ h => l0 h, fun _ cap1 junk1 hj1 => ⟨lL _, lL _, by rw [tL, tL], by omega⟩⟩, fun _ cap1 junk1 hj1 => ⟨⟨lL _, lL _, by rw [tL, tL], by omega⟩, hb, hb, fun _ h => ⟨l0 h, hb⟩, fun _ cap2 junk2 hj2 => ⟨⟨lL _, lL _, by rw [tL, tL], by omega⟩, hb⟩⟩⟩
def rbL (R : List Int) : List (List Int) := if rackB R = true then befL R else []
theorem rbL_24 {R : List Int} (hR : R.length = 24) : all24 (rbL R) := by
  unfold rbL
  split
  · exact befL_24 hR
  · intro x hx; simp at hx
theorem rbL_le {R : List Int} (hR : R.length = 24) : (rbL R).length ≤ 144 := by
  unfold rbL
  split
  · exact befL_le hR
  · simp
--@tbl RacksBefore = impl.RacksBefore
--@tbl sRacksBefore = spec.RacksBefore
theorem RacksBefore_ok (R : List Int) (hR : R.length = 24) : FreshP Try.prog 28 [.arr R] [] (rbL R).flatten (rbL R).length 24 29 true (.more [.bool (rackB R)]) := by
  have tkR : R.take 24 = R := List.take_of_length_le (by omega)
  unfold rbL
  cases hr : rackB R
  · refine fresh_of_vc (X := ⟨Try.prog, tys, [(51, IsRack_F)], [(63, before_F)], true, true, 0, [], []⟩) fn_28 ⟨tys_ok, (.cons IsRack_T .nil), (.cons before_T .nil), mixed⟩ (n0 := 0) rfl (Nat.le_of_ble_eq_true rfl) (by simp [wfL, SV.wf]) (wfH_spec (by simp [wfH, SObj.wf])) (Nat.le_refl _) ?_
    simp -implicitDefEqProofs only [Try.f28, Option.getD_some, argS, IsRack_F, before_F, hR, tkR, hr, freshK, Wrap.ap, ZB, Int.reduceToNat, Nat.reduceLT, Nat.reduceLeDiff, Int.reduceLE, Int.reduceLT, Nat.reduceEqDiff, Nat.reduceSub, SB, SV.known, packR, ne_eq, reduceCtorEq, Nat.reduceEqDiff, ↓reduceIte, if_true, if_false, eq_self, Nat.reduceAdd, Nat.reduceMul, Nat.reduceSub, forall_const, oneCellS, Kd.isSca, flat, TYB]
    exact .inl ⟨rfl, rfl, rfl⟩
  · refine fresh_of_vc (X := ⟨Try.prog, tys, [(51, IsRack_F)], [(63, before_F)], true, true, 0, [], []⟩) fn_28 ⟨tys_ok, (.cons IsRack_T .nil), (.cons before_T .nil), mixed⟩ (n0 := 0) rfl (Nat.le_of_ble_eq_true rfl) (by simp [wfL, SV.wf]) (wfH_spec (by simp [wfH, SObj.wf])) (Nat.le_refl _) ?_
    simp -implicitDefEqProofs only [Try.f28, Option.getD_some, argS, IsRack_F, before_F, hR, tkR, hr, freshK, Wrap.ap, ZB, Int.reduceToNat, Nat.reduceLT, Nat.reduceLeDiff, Int.reduceLE, Int.reduceLT, Nat.reduceEqDiff, Nat.reduceSub, SB, SV.known, packR, ne_eq, reduceCtorEq, Nat.reduceEqDiff, ↓reduceIte, if_true, if_false, eq_self, Nat.reduceAdd, Nat.reduceMul, Nat.reduceSub, forall_const, oneCellS, Kd.isSca, flat, TYB]
    exact ⟨fun h2 => .inl ⟨rfl, h2, rfl⟩, fun h cap junk hj => .inr ⟨1, cap, junk, rfl, by simp [hget_cons], by omega, hj, by simpa using h⟩⟩
theorem sRacksBefore_ok (R : List Int) (hR : R.length = 24) : FreshP Try.prog 27 [.arr R] [] (rbL R).flatten (rbL R).length 24 29 false (.more [.bool (rackB R)]) := by
  have tkR : R.take 24 = R := List.take_of_length_le (by omega)
  unfold rbL
  cases hr : rackB R
  · refine fresh_of_vc (X := ⟨Try.prog, tys, [(46, l2Rack_F)], [(61, l5Racks_F)], true, true, 0, [], []⟩) fn_27 ⟨tys_ok, (.cons l2Rack_T .nil), (.cons l5Racks_T .nil), mixed⟩ (n0 := 0) rfl (Nat.le_of_ble_eq_true rfl) (by simp [wfL, SV.wf]) (wfH_spec (by simp [wfH, SObj.wf])) (Nat.le_refl _) ?_
    simp -implicitDefEqProofs only [Try.f27, Option.getD_some, argS, l2Rack_F, l5Racks_F, hR, tkR, hr, freshK, Wrap.ap, ZB, Int.reduceToNat, Nat.reduceLT, Nat.reduceLeDiff, Int.reduceLE, Int.reduceLT, Nat.reduceEqDiff, Nat.reduceSub, SB, SV.known, packR, ne_eq, reduceCtorEq, Nat.reduceEqDiff, ↓reduceIte, if_true, if_false, eq_self, Nat.reduceAdd, Nat.reduceMul, Nat.reduceSub, forall_const, oneCellS, Kd.isSca, flat, TYB]
    exact .inr ⟨1, 0, [], rfl, by simp [hget_cons], by omega, rfl, by simp⟩
  · refine fresh_of_vc (X := ⟨Try.prog, tys, [(46, l2Rack_F)], [(61, l5Racks_F)], true, true, 0, [], []⟩) fn_27 ⟨tys_ok, (.cons l2Rack_T .nil), (.cons l5Racks_T .nil), mixed⟩ (n0 := 0) rfl (Nat.le_of_ble_eq_true rfl) (by simp [wfL, SV.wf]) (wfH_spec (by simp [wfH, SObj.wf])) (Nat.le_refl _) ?_
    simp -implicitDefEqProofs only [Try.f27, Option.getD_some, argS, l2Rack_F, l5Racks_F, hR, tkR, hr, freshK, Wrap.ap, ZB, Int.reduceToNat, Nat.reduceLT, Nat.reduceLeDiff, Int.reduceLE, Int.reduceLT, Nat.reduceEqDiff, Nat.reduceSub, SB, SV.known, packR, ne_eq, reduceCtorEq, Nat.reduceEqDiff, ↓reduceIte, if_true, if_false, eq_self, Nat.reduceAdd, Nat.reduceMul, Nat.reduceSub, forall_const, oneCellS, Kd.isSca, flat, TYB]
    exact fun cap junk hj => .inr ⟨1, cap, junk, rfl, by simp [hget_cons], by omega, hj, by simp⟩
def RacksBefore_F : List SV → Heap → Nat → Nat → K1 → Prop
  | [.arr R], H, n, _, κ => R.length = 24 ∧ freshK (.more [.bool (rackB R)]) (rbL R).flatten (rbL R).length 24 29 true H n κ
  | _, _, _, _, _ => False
theorem RacksBefore_T : ∀ args H n m κ, RacksBefore_F args H n m κ → GenOK Try.prog 28 args H n m κ := by
  intro args H n m κ h
  unfold RacksBefore_F at h
  split at h
  · exact gen_of_fresh (RacksBefore_ok _ h.1) (fun k o hk => by cases hk) h.2
  · exact h.elim
def sRacksBefore_F : List SV → Heap → Nat → Nat → K1 → Prop
  | [.arr R], H, n, _, κ => R.length = 24 ∧ freshK (.more [.bool (rackB R)]) (rbL R).flatten (rbL R).length 24 29 false H n κ
  | _, _, _, _, _ => False
theorem sRacksBefore_T : ∀ args H n m κ, sRacksBefore_F args H n m κ → GenOK Try.prog 27 args H n m κ := by
  intro args H n m κ h
  unfold sRacksBefore_F at h
  split at h
  · exact gen_of_fresh (sRacksBefore_ok _ h.1) (fun k o hk => by cases hk) h.2
  · exact h.elim
theorem lawRacksBefore (R : List Int) (hR : R.length = 24) (_ : ∀ x ∈ R, In64 x) : PureH Try.prog 7 [.arr R] [] (.bool true) := by
  have tkR : R.take 24 = R := List.take_of_length_le (by omega)
  have h24 := flat_len (rbL_24 hR)
  have hle := rbL_le hR
  refine pure_of_vc (X := ⟨Try.prog, tys, [(16, toRack_F), (29, eqSR_F), (31, heldR_F), (30, markR_F)], [(28, RacksBefore_F), (27, sRacksBefore_F)], true, true, 0, [], []⟩) fn_7 ⟨tys_ok, (.cons toRack_T (.cons eqSR_T (.cons heldR_T (.cons markR_T .nil)))), (.cons RacksBefore_T (.cons sRacksBefore_T .nil)), mixed⟩ (n0 := 0) (Nat.le_of_ble_eq_true rfl) (by simp [wfL, SV.wf]) (wfH_spec (by simp [wfH, SObj.wf])) (Nat.le_refl _) (fun _ => by simp [SV.wf, wfL]) ?_
  simp -implicitDefEqProofs only [Try.f7, Option.getD_some, argS, toRack_F, eqSR_F, heldR_F, markR_F, RacksBefore_F, sRacksBefore_F, hR, tkR, freshK, Wrap.ap, ZB, Int.reduceToNat, Nat.reduceLT, Nat.reduceLeDiff, Int.reduceLE, Int.reduceLT, Nat.reduceEqDiff, Nat.reduceSub, SB, SV.known, packR, ne_eq, reduceCtorEq, Nat.reduceEqDiff, ↓reduceIte, if_true, if_false, eq_self, Nat.reduceAdd, Nat.reduceMul, Nat.reduceSub, forall_const, oneCellS, Kd.isSca, flat, TYB]
  have := lawSRn true h24 (by omega)
  simpa only [true_implies, forall_const] using this
/-! Gardens before. -/
theorem befL_rack {R : List Int} (hR : R.length = 24) (hr : rackB R = true) : ∀ x ∈ befL R, rackB x = true := by
  rw [befL_ins hR]
  intro x hx
  obtain ⟨q, hq, rfl⟩ := List.mem_map.1 ((insA_mem _ x).1 hx)
  obtain ⟨n, hn, _⟩ := SrL_three R 144
  have hq' := List.mem_range.1 hq
  have eN : befN R = n := by unfold befN; omega
  obtain ⟨a, b, d, hb, he⟩ := SrL_trip R 144 q (by omega)
  have g0 : (SrL R 144).getD (q * 3) 0 = a ∧ (SrL R 144).getD (q * 3 + 1) 0 = b ∧ (SrL R 144).getD (q * 3 + 2) 0 = d := by
    have q1 : ∀ k, k < 3 → (SrL R 144).getD (q * 3 + k) 0 = (((SrL R 144).drop (q * 3)).take 3).getD k 0 := fun k hk => by
      simp [List.getD, List.getElem?_take, hk]
    have r0 := q1 0 (by omega); have r1 := q1 1 (by omega); have r2 := q1 2 (by omega)
    rw [he] at r0 r1 r2
    exact ⟨r0, r1, r2⟩
  unfold bkk
  rw [g0.1, g0.2.1, g0.2.2]
  have h1 := bk_21 hb
  unfold bk2 at h1
  rw [Bool.and_eq_true] at h1
  exact bk_rack hR hr h1.1
def gaL (Q : List (List Int)) : List (List Int) := Q.filter fun x => decide (SrL x 144 = [])
theorem gaL_snoc (Q : List (List Int)) (x : List Int) : gaL (Q ++ [x]) = gaL Q ++ if SrL x 144 = [] then [x] else [] := by
  unfold gaL
  rw [List.filter_append, List.filter_cons, List.filter_nil]
  by_cases h : SrL x 144 = [] <;> simp [h]
theorem gaL_24 {Q : List (List Int)} (h : all24 Q) : all24 (gaL Q) := fun x hx => h x (List.mem_filter.1 hx).1
theorem gaL_le (Q : List (List Int)) : (gaL Q).length ≤ Q.length := List.length_filter_le _ _
theorem chkR_of {Q : List (List Int)} (h : all24 Q) (J : List Int) : chkR (Q.flatten ++ J) 0 Q.length = Q := by
  refine List.ext_getElem (by rw [chkR_len]) fun i h1 h2 => ?_
  have e := flat_get h h2 J
  simp only [chkR, List.getElem_map, List.getElem_range, Nat.zero_add]
  rw [e, List.getD_eq_getElem?_getD, List.getElem?_eq_getElem h2]; rfl
theorem keptR_ga {Q : List (List Int)} (h : all24 Q) (J : List Int) : keptR (fun x => !!decide (SrL x 144 = [])) (Q.flatten ++ J) Q.length = (gaL Q).flatten := by
  unfold keptR gaL
  rw [chkR_of h J]
  simp only [Bool.not_not]
theorem garden1_ok (x : List Int) (hx : x.length = 24) (hr : rackB x = true) : PureH Try.prog 69 [.arr x] [] (.bool (!decide (SrL x 144 = []))) := by
  have tkx : x.take 24 = x := List.take_of_length_le (by omega)
  refine pure_of_vc (X := ⟨Try.prog, tys, [(70, isGarden_F)], [], true, true, 0, [], []⟩) fn_69 ⟨tys_ok, (.cons isGarden_T .nil), .nil, mixed⟩ (n0 := 0) (Nat.le_of_ble_eq_true rfl) (by simp [wfL, SV.wf]) (wfH_spec (by simp [wfH, SObj.wf])) (Nat.le_refl _) (fun _ => by simp [SV.wf, wfL]) ?_
  simp -implicitDefEqProofs only [Try.f69, Option.getD_some, argS, isGarden_F, hx, tkx, hr, ZB, Int.reduceToNat, Nat.reduceLT, Nat.reduceLeDiff, Int.reduceLE, Int.reduceLT, Nat.reduceEqDiff, Nat.reduceSub, SB, SV.known, packR, ne_eq, reduceCtorEq, Nat.reduceEqDiff, ↓reduceIte, if_true, if_false, eq_self, Nat.reduceAdd, Nat.reduceMul, Nat.reduceSub, forall_const, oneCellS, Kd.isSca, flat, TYB]
def delG_F : List SV → Heap → Nat → Nat → K1 → Prop
  | [.slice b 0 len cap, .fn g []], H, n, m, κ => match hget H b with
    | some (.ints L e) => g = 69 ∧ L.length = cap * 24 ∧ m ≤ b ∧ len ≤ 1000 ∧ ∃ Q J, L = Q.flatten ++ J ∧ Q.length = len ∧ (∀ x ∈ Q, x.length = 24 ∧ rackB x = true) ∧ κ (.slice b 0 (gaL Q).length cap) ((b, .ints ((gaL Q).flatten ++ (List.replicate ((len - (gaL Q).length) * 24) 0 ++ J)) e) :: H) n
    | _ => False
  | [.nils, .fn g []], H, n, _, κ => κ .nils H n
  | _, _, _, _, _ => False
--@tbl delG = slices.DeleteFunc[[]impl.Rack,impl.Rack]
theorem delG_T : ∀ args H n m κ, delG_F args H n m κ → GenOK Try.prog 68 args H n m κ := by
  intro args H N m κ h
  unfold delG_F at h
  split at h
  · rename_i b n cap g
    split at h
    · rename_i L e hb
      obtain ⟨rfl, hL, hm, hn, Q, J, rfl, hQn, hQ, h⟩ := h
      have h24 : all24 Q := fun x hx => (hQ x hx).1
      have hfl := flat_len h24
      have hga := flat_len (gaL_24 h24)
      have hle := gaL_le Q
      have hu := deleteFuncR_ok 69 (by decide) [] [] (fun x => !decide (SrL x 144 = [])) 0 (Q.flatten ++ J) e n cap hL (by rw [List.length_append, hfl] at hL; omega) (by omega) (fun x => x.length = 24 ∧ rackB x = true) (fun i hi => by
        rw [flat_get h24 (by omega) J]; exact hQ _ (getD_mem (by omega))) (fun x hx => garden1_ok x hx.1 hx.2) trivial (hwf_nil _)
      have ek := keptR_ga h24 J
      rw [hQn] at ek
      rw [ek, hga, show (gaL Q).length * 24 / 24 = (gaL Q).length by omega, List.drop_left' (by rw [hfl, hQn]), ← Nat.sub_mul, List.append_assoc] at hu
      have := gen_of_upd (H := H) (n := N) (m := m) (κ := κ) hu (fun _ => b) (fun j o1 hj => by
        rw [hget_cons] at hj
        split at hj
        · cases hj; exact hb
        · cases hj) (fun j1 o1 j2 o2 g1 g2 he => by
        rw [hget_cons] at g1 g2
        split at g1
        · split at g2
          · omega
          · cases g2
        · cases g1) (by simpa using hm) rfl (fun n hn => by simpa [SV.wf, SV.ren] using hn) (by simpa [SV.ren, renL] using h)
      simpa [renL, SV.ren] using this
    · exact h.elim
  · rename_i g
    exact gen_of_pure ((deleteFuncR_nil g [] [] 0 trivial (hwf_nil _)).any H) h
  · exact h.elim
def gbL (R : List Int) : List (List Int) := if rackB R = true then gaL (befL R) else []
theorem gbL_24 {R : List Int} (hR : R.length = 24) : all24 (gbL R) := by
  unfold gbL
  split
  · exact gaL_24 (befL_24 hR)
  · intro x hx; simp at hx
theorem gbL_le {R : List Int} (hR : R.length = 24) : (gbL R).length ≤ 144 := by
  unfold gbL
  split
  · have := befL_le hR
    have := gaL_le (befL R)
    omega
  · simp
--@tbl GardensBefore = impl.GardensBefore
--@tbl sGardensBefore = spec.GardensBefore
theorem GardensBefore_ok (R : List Int) (hR : R.length = 24) : FreshP Try.prog 33 [.arr R] [] (gbL R).flatten (gbL R).length 24 29 (decide (rackB R = false ∨ befL R = [])) (.more [.bool (rackB R)]) := by
  have tkR : R.take 24 = R := List.take_of_length_le (by omega)
  unfold gbL
  cases hr : rackB R
  · refine fresh_of_vc (X := ⟨Try.prog, tys, [(51, IsRack_F)], [(63, before_F), (68, delG_F)], true, true, 0, [], []⟩) fn_33 ⟨tys_ok, (.cons IsRack_T .nil), (.cons before_T (.cons delG_T .nil)), mixed⟩ (n0 := 0) rfl (Nat.le_of_ble_eq_true rfl) (by simp [wfL, SV.wf]) (wfH_spec (by simp [wfH, SObj.wf])) (Nat.le_refl _) ?_
    simp -implicitDefEqProofs only [Try.f33, Option.getD_some, argS, IsRack_F, before_F, delG_F, hR, tkR, hr, freshK, Wrap.ap, ZB, Int.reduceToNat, Nat.reduceLT, Nat.reduceLeDiff, Int.reduceLE, Int.reduceLT, Nat.reduceEqDiff, Nat.reduceSub, SB, SV.known, packR, ne_eq, reduceCtorEq, Nat.reduceEqDiff, ↓reduceIte, if_true, if_false, eq_self, Nat.reduceAdd, Nat.reduceMul, Nat.reduceSub, forall_const, oneCellS, Kd.isSca, flat, TYB]
    exact .inl ⟨by simp, rfl, rfl⟩
  · refine fresh_of_vc (X := ⟨Try.prog, tys, [(51, IsRack_F)], [(63, before_F), (68, delG_F)], true, true, 0, [], []⟩) fn_33 ⟨tys_ok, (.cons IsRack_T .nil), (.cons before_T (.cons delG_T .nil)), mixed⟩ (n0 := 0) rfl (Nat.le_of_ble_eq_true rfl) (by simp [wfL, SV.wf]) (wfH_spec (by simp [wfH, SObj.wf])) (Nat.le_refl _) ?_
    simp -implicitDefEqProofs only [Try.f33, Option.getD_some, argS, IsRack_F, before_F, delG_F, hR, tkR, hr, freshK, Wrap.ap, ZB, Int.reduceToNat, Nat.reduceLT, Nat.reduceLeDiff, Int.reduceLE, Int.reduceLT, Nat.reduceEqDiff, Nat.reduceSub, SB, SV.known, packR, ne_eq, reduceCtorEq, Nat.reduceEqDiff, ↓reduceIte, if_true, if_false, eq_self, Nat.reduceAdd, Nat.reduceMul, Nat.reduceSub, forall_const, oneCellS, Kd.isSca, flat, TYB]
    have b24 := befL_24 hR
    have bl := befL_le hR
    have br := befL_rack hR hr
    have bf := flat_len b24
    have gf := flat_len (gaL_24 b24)
    have gl := gaL_le (befL R)
    refine ⟨fun h0 => ?_, fun h0 cap junk hj => ⟨by rw [List.length_append]; omega, by omega, befL R, junk, rfl, rfl, fun x hx => ⟨b24 x hx, br x hx⟩, ?_⟩⟩
    · have hb : befL R = [] := List.length_eq_zero_iff.1 (by rw [h0] at bf; simp at bf; omega)
      exact .inl ⟨by simp [hb], by rw [hb]; rfl, rfl⟩
    · refine .inr ⟨1, cap, List.replicate (((befL R).length - (gaL (befL R)).length) * 24) 0 ++ junk, rfl, by simp [hget_cons], by omega, ?_, fun h => ?_⟩
      · rw [List.length_append, List.length_replicate, gf]; omega
      · exfalso
        have : befL R = [] := by simpa using h
        exact h0 (by rw [this]; rfl)
theorem sGardensBefore_ok (R : List Int) (hR : R.length = 24) : FreshP Try.prog 32 [.arr R] [] (gbL R).flatten (gbL R).length 24 29 false (.more [.bool (rackB R)]) := by
  have tkR : R.take 24 = R := List.take_of_length_le (by omega)
  unfold gbL
  cases hr : rackB R
  · refine fresh_of_vc (X := ⟨Try.prog, tys, [(46, l2Rack_F)], [(61, l5Racks_F), (67, l5Sources_F)], true, true, 0, [], []⟩) fn_32 ⟨tys_ok, (.cons l2Rack_T .nil), (.cons l5Racks_T (.cons l5Sources_T .nil)), mixed⟩ (n0 := 0) rfl (Nat.le_of_ble_eq_true rfl) (by simp [wfL, SV.wf]) (wfH_spec (by simp [wfH, SObj.wf])) (Nat.le_refl _) ?_
    simp -implicitDefEqProofs only [Try.f32, Option.getD_some, argS, l2Rack_F, l5Racks_F, l5Sources_F, hR, tkR, hr, freshK, Wrap.ap, ZB, Int.reduceToNat, Nat.reduceLT, Nat.reduceLeDiff, Int.reduceLE, Int.reduceLT, Nat.reduceEqDiff, Nat.reduceSub, SB, SV.known, packR, ne_eq, reduceCtorEq, Nat.reduceEqDiff, ↓reduceIte, if_true, if_false, eq_self, Nat.reduceAdd, Nat.reduceMul, Nat.reduceSub, forall_const, oneCellS, Kd.isSca, flat, TYB]
    exact .inr ⟨1, 0, [], rfl, by simp [hget_cons], by omega, rfl, by simp⟩
  · refine fresh_of_vc (X := ⟨Try.prog, tys, [(46, l2Rack_F)], [(61, l5Racks_F), (67, l5Sources_F)], true, true, 0, [], []⟩) fn_32 ⟨tys_ok, (.cons l2Rack_T .nil), (.cons l5Racks_T (.cons l5Sources_T .nil)), mixed⟩ (n0 := 0) rfl (Nat.le_of_ble_eq_true rfl) (by simp [wfL, SV.wf]) (wfH_spec (by simp [wfH, SObj.wf])) (Nat.le_refl _) ?_
    simp -implicitDefEqProofs only [Try.f32, Option.getD_some, argS, l2Rack_F, l5Racks_F, l5Sources_F, hR, tkR, hr, freshK, Wrap.ap, ZB, Int.reduceToNat, Nat.reduceLT, Nat.reduceLeDiff, Int.reduceLE, Int.reduceLT, Nat.reduceEqDiff, Nat.reduceSub, SB, SV.known, packR, ne_eq, reduceCtorEq, Nat.reduceEqDiff, ↓reduceIte, if_true, if_false, eq_self, Nat.reduceAdd, Nat.reduceMul, Nat.reduceSub, forall_const, oneCellS, Kd.isSca, flat, TYB]
    have b24 := befL_24 hR
    have bl := befL_le hR
    have br := befL_rack hR hr
    generalize befL R = B at *
    have bf := flat_len b24
    refine fun cp jp hjp => ?_
    refine loop_intro (fun s : Nat × Nat × List Int => [(6, .int s.1), (5, .slice 2 0 B.length cp), (4, .slice 1 0 (gaL (B.take s.1)).length s.2.1), (1, .ptr 0 0)])
      (fun s => [(2, .ints (B.flatten ++ jp) 29), (1, .ints ((gaL (B.take s.1)).flatten ++ s.2.2) 29), (0, .ints R 29)]) 3
      (fun s => s.1 ≤ B.length ∧ s.2.2.length + (gaL (B.take s.1)).length * 24 = s.2.1 * 24) (fun s => B.length - s.1) ?_ ?_
    · refine ⟨(0, 0, []), ⟨by simp, by simp [gaL]⟩, Sub.mk_id ?_ ?_ ?_ ?_ ?_⟩
      all_goals ((try simp only [LB, subS, subH, wfS, wfH, SV.ren, renL, SObj.ren, SV.wf, SObj.wf, wfL, SV.known, Nat.reduceEqDiff, ↓reduceIte, if_true, if_false, eq_self, Nat.reduceAdd, Nat.reduceLT, Nat.reduceLeDiff, implies_true, reduceCtorEq, forall_const]) <;> simp [gaL])
    · rintro ⟨i, c, j⟩ ⟨hi, hj⟩
      simp only at hi hj
      have gf := flat_len (gaL_24 (fun x hx => b24 x (List.mem_of_mem_take hx) : all24 (B.take i)))
      have gl := gaL_le (B.take i)
      rw [List.length_take] at gl
      by_cases hlt : i < B.length
      · have hil : (i : Int) < B.length := by omega
        have eP : List.take 24 (List.drop (i * 24) (B.flatten ++ jp)) = B.getD i [] := flat_get b24 hlt jp
        have xm := getD_mem hlt
        have x24 := b24 _ xm
        have xr := br _ xm
        have lenP : (B.flatten ++ jp).length = cp * 24 := by rw [List.length_append]; omega
        have es : gaL (B.take (i + 1)) = gaL (B.take i) ++ if SrL (B.getD i []) 144 = [] then [B.getD i []] else [] := by rw [take_succ_getD B i hlt, gaL_snoc]
        have tkx : List.take 24 (B.getD i []) = B.getD i [] := List.take_of_length_le (by omega)
        have lG : ((gaL (B.take i)).flatten ++ j).length = c * 24 := by rw [List.length_append, gf]; omega
        have tkG : List.take ((gaL (B.take i)).length * 24) ((gaL (B.take i)).flatten ++ j) = (gaL (B.take i)).flatten := List.take_left' gf
        generalize B.getD i [] = x at *
        obtain ⟨np, hnp, _⟩ := SrL_three x 144
        have e3 : (SrL x 144).length / 3 = np := by omega
        simp -implicitDefEqProofs only [lk_normal, l5Sources_F, freshK, hil, eP, lenP, x24, xr, tkx, lG, tkG, e3, Wrap.ap, ZB, Int.reduceToNat, Nat.reduceLT, Nat.reduceLeDiff, Int.reduceLE, Int.reduceLT, Nat.reduceEqDiff, Nat.reduceSub, SB, SV.known, packR, ne_eq, reduceCtorEq, Nat.reduceEqDiff, ↓reduceIte, if_true, if_false, eq_self, Nat.reduceAdd, Nat.reduceMul, Nat.reduceSub, forall_const, oneCellS, Kd.isSca, flat, TYB]
        refine ⟨by omega, by omega, fun cap3 j3 h3 => ⟨fun h0 => ⟨by omega, by omega, by omega, by omega, by omega, fun j' c' hj' => ?_⟩, fun h0 => ?_⟩⟩
        · have hs : SrL x 144 = [] := List.length_eq_zero_iff.1 (by omega)
          rw [if_pos hs] at es
          refine ⟨by unfold In64; omega, (i + 1, c', j'), ⟨by simp only; omega, by simp only [es, List.length_append, List.length_singleton]; exact hj'⟩, by simp only; omega, Sub.mk_to 1 5 ?_ ?_ ?_ ?_ ?_ ?_ ?_⟩
          all_goals (try simp only [es, List.length_append, List.length_singleton, List.flatten_append, List.flatten_cons, List.flatten_nil, List.append_nil])
          all_goals ((try simp only [LB, subS, subH, wfS, wfH, SV.ren, renL, SObj.ren, SV.wf, SObj.wf, wfL, SV.known, Nat.reduceEqDiff, ↓reduceIte, if_true, if_false, eq_self, Nat.reduceAdd, Nat.reduceLT, Nat.reduceLeDiff, implies_true, reduceCtorEq, forall_const]) <;> simp)
        · have hs : ¬ SrL x 144 = [] := fun h => h0 (by rw [h] at hnp; simp at hnp; omega)
          rw [if_neg hs, List.append_nil] at es
          refine ⟨by unfold In64; omega, (i + 1, c, j), ⟨by simp only; omega, by simp only [es]; exact hj⟩, by simp only; omega, Sub.mk_id ?_ ?_ ?_ ?_ ?_⟩
          all_goals (try simp only [es])
          all_goals ((try simp only [LB, subS, subH, wfS, wfH, SV.ren, renL, SObj.ren, SV.wf, SObj.wf, wfL, SV.known, Nat.reduceEqDiff, ↓reduceIte, if_true, if_false, eq_self, Nat.reduceAdd, Nat.reduceLT, Nat.reduceLeDiff, implies_true, reduceCtorEq, forall_const]) <;> simp)
      · have hil : ¬ (i : Int) < B.length := by omega
        obtain rfl : i = B.length := by omega
        simp -implicitDefEqProofs only [lk_normal, hil, ZB, Int.reduceToNat, Nat.reduceLT, Nat.reduceLeDiff, Int.reduceLE, Int.reduceLT, Nat.reduceEqDiff, Nat.reduceSub, SB, SV.known, packR, ne_eq, reduceCtorEq, Nat.reduceEqDiff, ↓reduceIte, if_true, if_false, eq_self, Nat.reduceAdd, Nat.reduceMul, Nat.reduceSub, forall_const, oneCellS, Kd.isSca, flat, TYB]
        rw [List.take_of_length_le (Nat.le_refl _)] at hj gf ⊢
        exact .inr ⟨1, c, j, rfl, by simp [hget_cons], by omega, by rw [gf]; exact hj, by simp⟩
def GardensBefore_F : List SV → Heap → Nat → Nat → K1 → Prop
  | [.arr R], H, n, _, κ => R.length = 24 ∧ freshK (.more [.bool (rackB R)]) (gbL R).flatten (gbL R).length 24 29 (decide (rackB R = false ∨ befL R = [])) H n κ
  | _, _, _, _, _ => False
theorem GardensBefore_T : ∀ args H n m κ, GardensBefore_F args H n m κ → GenOK Try.prog 33 args H n m κ := by
  intro args H n m κ h
  unfold GardensBefore_F at h
  split at h
  · exact gen_of_fresh (GardensBefore_ok _ h.1) (fun k o hk => by cases hk) h.2
  · exact h.elim
def sGardensBefore_F : List SV → Heap → Nat → Nat → K1 → Prop
  | [.arr R], H, n, _, κ => R.length = 24 ∧ freshK (.more [.bool (rackB R)]) (gbL R).flatten (gbL R).length 24 29 false H n κ
  | _, _, _, _, _ => False
theorem sGardensBefore_T : ∀ args H n m κ, sGardensBefore_F args H n m κ → GenOK Try.prog 32 args H n m κ := by
  intro args H n m κ h
  unfold sGardensBefore_F at h
  split at h
  · exact gen_of_fresh (sGardensBefore_ok _ h.1) (fun k o hk => by cases hk) h.2
  · exact h.elim
theorem lawGardensBefore (R : List Int) (hR : R.length = 24) (_ : ∀ x ∈ R, In64 x) : PureH Try.prog 8 [.arr R] [] (.bool true) := by
  have tkR : R.take 24 = R := List.take_of_length_le (by omega)
  have h24 := flat_len (gbL_24 hR)
  have hle := gbL_le hR
  generalize hnl : decide (rackB R = false ∨ befL R = []) = nl
  refine pure_of_vc (X := ⟨Try.prog, tys, [(16, toRack_F), (29, eqSR_F), (31, heldR_F), (30, markR_F)], [(33, GardensBefore_F), (32, sGardensBefore_F)], true, true, 0, [], []⟩) fn_8 ⟨tys_ok, (.cons toRack_T (.cons eqSR_T (.cons heldR_T (.cons markR_T .nil)))), (.cons GardensBefore_T (.cons sGardensBefore_T .nil)), mixed⟩ (n0 := 0) (Nat.le_of_ble_eq_true rfl) (by simp [wfL, SV.wf]) (wfH_spec (by simp [wfH, SObj.wf])) (Nat.le_refl _) (fun _ => by simp [SV.wf, wfL]) ?_
  simp -implicitDefEqProofs only [Try.f8, Option.getD_some, argS, toRack_F, eqSR_F, heldR_F, markR_F, GardensBefore_F, sGardensBefore_F, hR, tkR, hnl, freshK, Wrap.ap, ZB, Int.reduceToNat, Nat.reduceLT, Nat.reduceLeDiff, Int.reduceLE, Int.reduceLT, Nat.reduceEqDiff, Nat.reduceSub, SB, SV.known, packR, ne_eq, reduceCtorEq, Nat.reduceEqDiff, ↓reduceIte, if_true, if_false, eq_self, Nat.reduceAdd, Nat.reduceMul, Nat.reduceSub, forall_const, oneCellS, Kd.isSca, flat, TYB]
  exact lawSRn nl h24 (by omega)
end Go.Proofs.Ytdnechlmkbchaaa
