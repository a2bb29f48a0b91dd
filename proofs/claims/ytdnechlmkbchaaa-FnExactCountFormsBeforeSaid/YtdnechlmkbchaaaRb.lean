/- Walks: RacksBefore. -/
import Derived.Test.YtdnechlmkbchaaaBef
import Derived.Test.YtdnechlmkbchaaaPut
import Derived.Test.YtdnechlmkbchaaaSlR
set_option maxRecDepth 100000
set_option linter.unusedSimpArgs false
set_option linter.unusedVariables false
namespace Go.Proofs.Ytdnechlmkbchaaa
open Go Go.RowKit
/-! Racks sorted and compacted are racks put to their places one by one. -/
theorem ddS_mem {Q : List (List Int)} : ∀ j, j ≤ Q.length → ∀ z, z ∈ ddS Q j ↔ z ∈ Q.take j
  | 0, _, z => by simp [ddS]
  | j + 1, hj, z => by
    have ih := ddS_mem (Q := Q) j (by omega) z
    rw [take_succ_getD Q j (by omega)]
    by_cases h : 0 < j ∧ Q.getD j [] = Q.getD (j - 1) []
    · rw [ddS_old h.1 h.2, ih, List.mem_append, List.mem_singleton]
      constructor
      · exact fun h => .inl h
      · rintro (h1 | h1)
        · exact h1
        · rw [h1, h.2]
          rw [List.getD_eq_getElem?_getD, List.getElem?_eq_getElem (by omega)]
          exact List.mem_take_iff_getElem.2 ⟨j - 1, by omega, rfl⟩
    · have h' : j = 0 ∨ Q.getD j [] ≠ Q.getD (j - 1) [] := by
        rcases Nat.eq_zero_or_pos j with h0 | h0
        · exact .inl h0
        · exact .inr fun h1 => h ⟨h0, h1⟩
      rw [ddS_new h', List.mem_append, List.mem_append, ih]
theorem ddS_pw {w : Nat} {Q : List (List Int)} (hw : ∀ x ∈ Q, x.length = w) (hs : Q.Pairwise (fun a b => lexL a b = true)) : ∀ j, j ≤ Q.length → (ddS Q j).Pairwise (fun a b => lexC a b < 0)
  | 0, _ => by simp [ddS]
  | j + 1, hj => by
    have ih := ddS_pw hw hs j (by omega)
    by_cases h : 0 < j ∧ Q.getD j [] = Q.getD (j - 1) []
    · rw [ddS_old h.1 h.2]; exact ih
    · have h' : j = 0 ∨ Q.getD j [] ≠ Q.getD (j - 1) [] := by
        rcases Nat.eq_zero_or_pos j with h0 | h0
        · exact .inl h0
        · exact .inr fun h1 => h ⟨h0, h1⟩
      rw [ddS_new h', List.pairwise_append]
      refine ⟨ih, List.pairwise_singleton _ _, fun a ha b hb => ?_⟩
      rw [List.mem_singleton] at hb
      subst hb
      obtain ⟨i, hi, rfl⟩ := List.mem_take_iff_getElem.1 ((ddS_mem j (by omega) a).1 ha)
      have hij : i < j := by omega
      have le : ∀ (p q : Nat) (hp : p < Q.length) (hq : q < Q.length), p < q → ¬ lexC Q[q] Q[p] < 0 := fun p q hp hq hpq => by
        have := (List.pairwise_iff_getElem.1 hs) p q hp hq hpq
        simpa [lexL] using this
      have lw : ∀ (p : Nat) (hp : p < Q.length), Q[p].length = w := fun p hp => hw _ (List.getElem_mem hp)
      have gj : Q.getD j [] = Q[j] := by rw [List.getD_eq_getElem?_getD, List.getElem?_eq_getElem (by omega)]; rfl
      have gp : Q.getD (j - 1) [] = Q[j - 1] := by rw [List.getD_eq_getElem?_getD, List.getElem?_eq_getElem (by omega)]; rfl
      rw [gj]
      by_cases hlt : lexC Q[i] Q[j] < 0
      · exact hlt
      · exfalso
        have e1 : Q[i] = Q[j] := lexC_total (by rw [lw, lw]) hlt (le i j (by omega) (by omega) hij)
        have hj0 : 0 < j := by omega
        have hne := h'.resolve_left (by omega)
        rw [gj, gp] at hne
        refine hne (lexC_total (by rw [lw, lw]) (le (j - 1) j (by omega) (by omega) (by omega)) ?_)
        by_cases hi1 : i = j - 1
        · subst hi1; rw [e1, lexC_refl]; omega
        · have := le i (j - 1) (by omega) (by omega) (by omega)
          rw [e1] at this; exact this
theorem insA_snoc (l xs : List (List Int)) (x : List Int) : insA l (xs ++ [x]) = insU x (insA l xs) := by simp [insA, List.foldl_append]
theorem insA_mem (xs : List (List Int)) : ∀ z, z ∈ insA [] xs ↔ z ∈ xs := by
  refine snoc_ind (P := fun xs => ∀ z, z ∈ insA [] xs ↔ z ∈ xs) (by simp [insA]) (fun l x ih z => ?_) xs
  rw [insA_snoc, insU_mem, ih, List.mem_append, List.mem_singleton]
  exact Or.comm
theorem insA_len {w : Nat} {xs : List (List Int)} (h : ∀ x ∈ xs, x.length = w) : ∀ x ∈ insA [] xs, x.length = w := fun x hx => h x ((insA_mem xs x).1 hx)
theorem insA_pw {w : Nat} (xs : List (List Int)) : (∀ x ∈ xs, x.length = w) → (insA [] xs).Pairwise (fun a b => lexC a b < 0) := by
  refine snoc_ind (P := fun xs => (∀ x ∈ xs, x.length = w) → (insA [] xs).Pairwise (fun a b => lexC a b < 0)) (fun _ => by simp [insA]) (fun l x ih h => ?_) xs
  rw [insA_snoc]
  have h1 : ∀ y ∈ l, y.length = w := fun y hy => h y (List.mem_append_left _ hy)
  exact insU_pw (h x (by simp)) (insA_len h1) (ih h1)
theorem insU_len (x : List Int) : ∀ l, (insU x l).length ≤ l.length + 1
  | [] => by simp [insU]
  | y :: l => by
    have := insU_len x l
    unfold insU
    split
    · simp; omega
    · split <;> simp
theorem insA_card (xs : List (List Int)) : (insA [] xs).length ≤ xs.length := by
  refine snoc_ind (P := fun xs => (insA [] xs).length ≤ xs.length) (by simp [insA]) (fun l x ih => ?_) xs
  rw [insA_snoc]
  have := insU_len x (insA [] l)
  simp; omega
theorem dd_ins {Q : List (List Int)} (h : all24 Q) : ddS (srtT Q) Q.length = insA [] Q := by
  have hp := srtT_perm Q
  have sl : (srtT Q).length = Q.length := hp.length_eq
  have s24 : all24 (srtT Q) := fun x hx => h x (hp.mem_iff.1 hx)
  refine strict_one (w := 24) (ddS_24 s24 _ (by omega)) (insA_len h) (ddS_pw s24 (srtT_pw h) _ (by omega)) (insA_pw Q h) fun z => ?_
  rw [ddS_mem _ (by omega), List.take_of_length_le (by omega), hp.mem_iff, insA_mem]
theorem befL_ins {R : List Int} (hR : R.length = 24) : befL R = insA [] (bks R (befN R)) := by
  have := dd_ins (bks_24 hR (befN R))
  rwa [bks_len] at this
theorem befN_le (R : List Int) : befN R ≤ 144 := by
  obtain ⟨n, h1, h2⟩ := SrL_three R 144
  unfold befN; omega
theorem befL_24 {R : List Int} (hR : R.length = 24) : all24 (befL R) := by
  rw [befL_ins hR]; exact insA_len (bks_24 hR _)
theorem befL_le {R : List Int} (hR : R.length = 24) : (befL R).length ≤ 144 := by
  rw [befL_ins hR]
  have := insA_card (bks R (befN R))
  rw [bks_len] at this
  have := befN_le R
  omega
def l5Put_F : List SV → Heap → Nat → Nat → K1 → Prop
  | [.slice b 0 n cap, .arr x], H, N, _, κ => match hget H b with
    | some (.ints L e) => x.length = 24 ∧ n ≤ 1000 ∧ L.length = cap * 24 ∧ ∃ Q J, L = Q.flatten ++ J ∧ Q.length = n ∧ all24 Q ∧ (insU x Q = Q → κ (.slice b 0 n cap) H N) ∧ ((insU x Q).length = n + 1 → ∀ (c : Nat) (j : List Int), j.length + (n + 1) * 24 = c * 24 → κ (.slice N 0 (n + 1) c) ((N, .ints ((insU x Q).flatten ++ j) 29) :: H) (N + 1))
    | _ => False
  | _, _, _, _, _ => False
--@tbl l5Put = spec.l5Put
theorem l5Put_T : ∀ args H n m κ, l5Put_F args H n m κ → GenOK Try.prog 62 args H n m κ := by
  intro args H N m κ h
  unfold l5Put_F at h
  split at h
  · rename_i b n cap x
    split at h
    · rename_i L e hb
      obtain ⟨hx, hn1, hL, Q, J, rfl, hQn, hQ, h1, h2⟩ := h
      have hw := l5Put_ok Q J x e n cap hQ hQn hL hx hn1
      have := gen_of_vc (H := H) (n := N) (m := m) (κ := κ) fn_62 ⟨tys_ok, .cons l2Before_T .nil, .nil, mixed⟩ (Nat.le_of_ble_eq_true rfl) (by simp [wfL, SV.wf]) (wfH_spec (by simp [wfH, SObj.wf])) (by show 1 ≤ 1; omega) hw
        (fun _ => b) (fun j hj => by
          obtain rfl : j = 0 := by omega
          exact ⟨_, rfl⟩) (fun a1 a2 h3 h4 he => by omega) ?_ ?_ ?_ ?_
      · simpa [renL, SV.ren] using this
      · intro j o hj
        simp only [hget_cons] at hj
        split at hj
        · cases hj; exact hb
        · cases hj
      · intro j o hj h1j
        simp only [hget_cons] at hj
        split at hj
        · rename_i h0; subst h0; exact absurd h1j (by show ¬ 1 ≤ 0; omega)
        · cases hj
      · rintro v H' n' hψ
        refine ⟨fun i o hi _ h1i => ?_, fun i o hi _ h1i => ?_⟩
        · simp only [hget_cons] at hi
          split at hi
          · rename_i h0; subst h0; exact absurd h1i (by show ¬ 1 ≤ 0; omega)
          · cases hi
        · obtain rfl : i = 0 := by
            have : i < 1 := h1i
            omega
          exact ⟨_, rfl, rfl⟩
      · rintro v H' n' hψ _
        rcases hψ with ⟨hi, rfl, rfl, rfl⟩ | ⟨c, j, rfl, rfl, rfl, hl, hj⟩
        · simpa [SV.ren, ext, renH] using h1 hi
        · simpa [SV.ren, ext, renH, SObj.ren] using h2 hl c j hj
    · exact h.elim
  · exact h.elim
theorem l5Racks_ok (R : List Int) (hR : R.length = 24) (hr : rackB R = true) : FreshP Try.prog 61 [.arr R] [] (befL R).flatten (befL R).length 24 29 false .one := by
  have tkR : R.take 24 = R := List.take_of_length_le (by omega)
  obtain ⟨np, hnp, hnp144⟩ := SrL_three R 144
  have eN : befN R = np := by unfold befN; omega
  have e3 : (SrL R 144).length / 3 = np := by omega
  rw [befL_ins hR, eN]
  refine fresh_of_vc (X := ⟨Try.prog, tys, [(103, l5Back_F)], [(67, l5Sources_F), (62, l5Put_F)], true, true, 0, [], []⟩) fn_61 ⟨tys_ok, (.cons l5Back_T .nil), (.cons l5Sources_T (.cons l5Put_T .nil)), mixed⟩ (n0 := 0) rfl (Nat.le_of_ble_eq_true rfl) (by simp [wfL, SV.wf]) (wfH_spec (by simp [wfH, SObj.wf])) (Nat.le_refl _) ?_
  simp -implicitDefEqProofs only [Try.f61, Option.getD_some, argS, l5Back_F, l5Sources_F, l5Put_F, hR, tkR, hr, e3, freshK, Wrap.ap, ZB, Int.reduceToNat, Nat.reduceLT, Nat.reduceLeDiff, Int.reduceLE, Int.reduceLT, Nat.reduceEqDiff, Nat.reduceSub, SB, SV.known, packR, ne_eq, reduceCtorEq, Nat.reduceEqDiff, ↓reduceIte, if_true, if_false, eq_self, Nat.reduceAdd, Nat.reduceMul, Nat.reduceSub, forall_const, oneCellS, Kd.isSca, flat, TYB]
  refine fun cp jp hjp => ?_
  have lenP : (SrL R 144 ++ jp).length = cp * 3 := by rw [List.length_append]; omega
  refine loop_intro (fun s : Nat × Nat × List Int => [(5, .int s.1), (4, .slice 2 0 np cp), (3, .slice 1 0 (insA [] (bks R s.1)).length s.2.1), (1, .ptr 0 0)])
    (fun s => [(2, .ints (SrL R 144 ++ jp) 108), (1, .ints ((insA [] (bks R s.1)).flatten ++ s.2.2) 29), (0, .ints R 29)]) 3
    (fun s => s.1 ≤ np ∧ s.2.2.length + (insA [] (bks R s.1)).length * 24 = s.2.1 * 24) (fun s => np - s.1) ?_ ?_
  · refine ⟨(0, 0, []), ⟨by simp, by simp [bks, insA]⟩, Sub.mk_id ?_ ?_ ?_ ?_ ?_⟩
    all_goals ((try simp only [LB, subS, subH, wfS, wfH, SV.ren, renL, SObj.ren, SV.wf, SObj.wf, wfL, SV.known, Nat.reduceEqDiff, ↓reduceIte, if_true, if_false, eq_self, Nat.reduceAdd, Nat.reduceLT, Nat.reduceLeDiff, implies_true, reduceCtorEq, forall_const]) <;> simp [bks, insA])
  · rintro ⟨i, c, j⟩ ⟨hi, hj⟩
    simp only at hi hj
    have h24 := bks_24 hR i
    have g24 : all24 (insA [] (bks R i)) := insA_len h24
    have hfl := flat_len g24
    have hbl := bks_len R i
    have hcard := insA_card (bks R i)
    rw [hbl] at hcard
    by_cases hlt : i < np
    · have hil : (i : Int) < np := by omega
      obtain ⟨a, b, d, hb, he⟩ := SrL_trip R 144 i (by omega)
      have eP : List.take 3 (List.drop (i * 3) (SrL R 144 ++ jp)) = [a, b, d] := by
        rw [List.drop_append_of_le_length (by omega), List.take_append_of_le_length (by rw [List.length_drop]; omega), he]
      have g0 : (SrL R 144).getD (i * 3) 0 = a ∧ (SrL R 144).getD (i * 3 + 1) 0 = b ∧ (SrL R 144).getD (i * 3 + 2) 0 = d := by
        have q : ∀ k, k < 3 → (SrL R 144).getD (i * 3 + k) 0 = (((SrL R 144).drop (i * 3)).take 3).getD k 0 := fun k hk => by
          simp [List.getD, List.getElem?_take, hk]
        have q0 := q 0 (by omega); have q1 := q 1 (by omega); have q2 := q 2 (by omega)
        rw [he] at q0 q1 q2
        exact ⟨q0, q1, q2⟩
      have ex : bkT R a b d = bkk R i := by unfold bkT bkk; rw [if_pos hb, g0.1, g0.2.1, g0.2.2]
      have xl : (bkk R i).length = 24 := bkR_len hR _ _ _
      have tkx := List.take_of_length_le (Nat.le_of_eq xl)
      have es : insA [] (bks R (i + 1)) = insU (bkk R i) (insA [] (bks R i)) := by rw [bks_succ, insA_snoc]
      have hL : ((insA [] (bks R i)).flatten ++ j).length = c * 24 := by rw [List.length_append, hfl]; omega
      have hl2 : (insA [] (bks R i)).length ≤ 1000 := by omega
      simp -implicitDefEqProofs only [lk_normal, l5Back_F, l5Put_F, hil, eP, lenP, hR, hr, tkR, hb, ex, xl, tkx, hL, hl2, List.getD_cons_zero, List.getD_cons_succ, ZB, Int.reduceToNat, Nat.reduceLT, Nat.reduceLeDiff, Int.reduceLE, Int.reduceLT, Nat.reduceEqDiff, Nat.reduceSub, SB, SV.known, packR, ne_eq, reduceCtorEq, Nat.reduceEqDiff, ↓reduceIte, if_true, if_false, eq_self, Nat.reduceAdd, Nat.reduceMul, Nat.reduceSub, forall_const, oneCellS, Kd.isSca, flat, TYB]
      refine ⟨by omega, by omega, _, j, rfl, rfl, g24, fun h1 => ?_, fun h1 c' j' hj' => ?_⟩
      · refine ⟨by unfold In64; omega, (i + 1, c, j), ⟨by simp only; omega, by simp only [es, h1]; exact hj⟩, by simp only; omega, Sub.mk_id ?_ ?_ ?_ ?_ ?_⟩
        all_goals (try simp only [es, h1])
        all_goals ((try simp only [LB, subS, subH, wfS, wfH, SV.ren, renL, SObj.ren, SV.wf, SObj.wf, wfL, SV.known, Nat.reduceEqDiff, ↓reduceIte, if_true, if_false, eq_self, Nat.reduceAdd, Nat.reduceLT, Nat.reduceLeDiff, implies_true, reduceCtorEq, forall_const]) <;> simp)
      · refine ⟨by unfold In64; omega, (i + 1, c', j'), ⟨by simp only; omega, by simp only [es, h1]; exact hj'⟩, by simp only; omega, Sub.mk_to 1 4 ?_ ?_ ?_ ?_ ?_ ?_ ?_⟩
        all_goals (try simp only [es, h1])
        all_goals ((try simp only [LB, subS, subH, wfS, wfH, SV.ren, renL, SObj.ren, SV.wf, SObj.wf, wfL, SV.known, Nat.reduceEqDiff, ↓reduceIte, if_true, if_false, eq_self, Nat.reduceAdd, Nat.reduceLT, Nat.reduceLeDiff, implies_true, reduceCtorEq, forall_const]) <;> simp)
    · have hil : ¬ (i : Int) < np := by omega
      obtain rfl : i = np := by omega
      simp -implicitDefEqProofs only [lk_normal, hil, ZB, Int.reduceToNat, Nat.reduceLT, Nat.reduceLeDiff, Int.reduceLE, Int.reduceLT, Nat.reduceEqDiff, Nat.reduceSub, SB, SV.known, packR, ne_eq, reduceCtorEq, Nat.reduceEqDiff, ↓reduceIte, if_true, if_false, eq_self, Nat.reduceAdd, Nat.reduceMul, Nat.reduceSub, forall_const, oneCellS, Kd.isSca, flat, TYB]
      exact .inr ⟨1, c, j, rfl, by simp [hget_cons], by omega, by rw [hfl]; exact hj, by simp⟩
end Go.Proofs.Ytdnechlmkbchaaa
