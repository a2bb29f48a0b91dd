/- Walks: racks before a rack. -/
import Derived.Shelf.SlSortCmp.NoneTotal
import Derived.Test.YtdnechlmkbchaaaSrtR
import Derived.Test.YtdnechlmkbchaaaSrc
import Derived.Test.YtdnechlmkbchaaaSl
set_option maxRecDepth 100000
set_option linter.unusedSimpArgs false
set_option linter.unusedVariables false
namespace Go.Proofs.Ytdnechlmkbchaaa
open Go Go.RowKit
def bkk (R : List Int) (q : Nat) : List Int := bkR R ((SrL R 144).getD (q * 3) 0) ((SrL R 144).getD (q * 3 + 1) 0) ((SrL R 144).getD (q * 3 + 2) 0)
def bks (R : List Int) (n : Nat) : List (List Int) := (List.range n).map (bkk R)
theorem bks_succ (R : List Int) (n : Nat) : bks R (n + 1) = bks R n ++ [bkk R n] := by simp [bks, List.range_succ]
theorem bks_len (R : List Int) (n : Nat) : (bks R n).length = n := by simp [bks]
theorem bks_24 {R : List Int} (hR : R.length = 24) (n : Nat) : all24 (bks R n) := fun x hx => by
  obtain ⟨q, _, rfl⟩ := List.mem_map.1 hx
  exact bkR_len hR _ _ _
def befN (R : List Int) : Nat := (SrL R 144).length / 3
def befL (R : List Int) : List (List Int) := ddS (srtT (bks R (befN R))) (befN R)
def sortR_F : List SV → Heap → Nat → Nat → K1 → Prop
  | [.slice b 0 n cap, .fn g []], H, N, m, κ => match hget H b with
    | some (.ints L e) => g = 108 ∧ n ≤ 1000000 ∧ m ≤ b ∧ ∃ Q Z, L = Q.flatten ++ Z ∧ Q.length = n ∧ all24 Q ∧ κ (.tup []) ((b, .ints ((srtT Q).flatten ++ Z) e) :: H) N
    | _ => False
  | [.nils, .fn _ []], H, N, _, κ => κ (.tup []) H N
  | _, _, _, _, _ => False
--@tbl sortR = slices.SortFunc[[]impl.Rack,impl.Rack]
theorem sortR_T : ∀ args H n m κ, sortR_F args H n m κ → GenOK Try.prog 107 args H n m κ := by
  intro args H N m κ h
  unfold sortR_F at h
  split at h
  · rename_i b n cap g
    split at h
    · rename_i L e hb
      obtain ⟨rfl, hn, hm, Q, Z, rfl, hQn, hQ, h⟩ := h
      have hu := sortR_ok [] Z Q hQ e cap 0 n rfl hQn (by omega)
      rw [List.nil_append, List.nil_append] at hu
      have := gen_of_upd (H := H) (n := N) (m := m) (κ := κ) hu (fun _ => b) (fun j o1 hj => by
        rw [hget_cons] at hj
        split at hj
        · cases hj; exact hb
        · cases hj) (fun j1 o1 j2 o2 g1 g2 he => by
        rw [hget_cons] at g1 g2
        split at g1
        · split at g2
          · omega
          · cases g2
        · cases g1) (by simpa using hm) rfl (fun _ _ => trivial) (by simpa [SV.ren, renL] using h)
      simpa [renL, SV.ren] using this
    · exact h.elim
  · rename_i g
    have hp : PureH Try.prog 107 [.nils, .fn g []] [] (.tup []) :=
      ⟨fn_107.ent, fun _ _ _ => trivial, fun B w _ => (AnyF.slices_SortFunc_none laySortR none 0 _ w).mono fun e w' hh => ⟨hh.1, by rw [hh.2]; exact Bel.refl _ _⟩⟩
    exact gen_of_pure (hp.any _) h
  · exact h.elim
def compR_F : List SV → Heap → Nat → Nat → K1 → Prop
  | [.slice b 0 n cap], H, N, m, κ => match hget H b with
    | some (.ints L e) => n ≤ 1000000 ∧ m ≤ b ∧ L.length = cap * 24 ∧ ∃ Q Z, L = Q.flatten ++ Z ∧ Q.length = n ∧ all24 Q ∧ κ (.slice b 0 (ddS Q n).length cap) ((b, .ints ((ddS Q n).flatten ++ (List.replicate ((n - (ddS Q n).length) * 24) 0 ++ Z)) e) :: H) N
    | _ => False
  | [.nils], H, N, _, κ => κ .nils H N
  | _, _, _, _, _ => False
--@tbl compR = slices.Compact[[]impl.Rack,impl.Rack]
theorem compact_nil : PureH Try.prog 109 [.nils] [] .nils := by
  refine pure_of_vc (X := ⟨Try.prog, tys, [], [], true, true, 0, [], []⟩) fn_109 ⟨tys_ok, .nil, .nil, mixed⟩ (n0 := 0) (Nat.le_of_ble_eq_true rfl) (by simp [wfL, SV.wf]) (wfH_spec (by simp [wfH, SObj.wf])) (Nat.le_refl _) (fun _ => by simp [SV.wf, wfL]) ?_
  simp -implicitDefEqProofs only [Try.f109, Option.getD_some, argS, ZB, Int.reduceToNat, Nat.reduceLT, Nat.reduceLeDiff, Int.reduceLE, Int.reduceLT, Nat.reduceEqDiff, Nat.reduceSub, SB, SV.known, packR, ne_eq, reduceCtorEq, Nat.reduceEqDiff, ↓reduceIte, if_true, if_false, eq_self, Nat.reduceAdd, Nat.reduceMul, Nat.reduceSub, forall_const, oneCellS, Kd.isSca, flat, TYB]
theorem compR_T : ∀ args H n m κ, compR_F args H n m κ → GenOK Try.prog 109 args H n m κ := by
  intro args H N m κ h
  unfold compR_F at h
  split at h
  · rename_i b n cap
    split at h
    · rename_i L e hb
      obtain ⟨hn, hm, hL, Q, Z, rfl, hQn, hQ, h⟩ := h
      have hu := compact_ok Z Q hQ e cap n hQn hn hL
      have := gen_of_upd (H := H) (n := N) (m := m) (κ := κ) hu (fun _ => b) (fun j o1 hj => by
        rw [hget_cons] at hj
        split at hj
        · cases hj; exact hb
        · cases hj) (fun j1 o1 j2 o2 g1 g2 he => by
        rw [hget_cons] at g1 g2
        split at g1
        · split at g2
          · omega
          · cases g2
        · cases g1) (by simpa using hm) rfl (fun n hn => by simpa [SV.wf, SV.ren] using hn) (by simpa [SV.ren, renL] using h)
      simpa [renL, SV.ren] using this
    · exact h.elim
  · exact gen_of_pure (compact_nil.any _) h
  · exact h.elim
theorem ddS_pos (Q : List (List Int)) : ∀ k, 0 < (ddS Q (k + 1)).length
  | 0 => by unfold ddS; simp
  | k + 1 => by
    have ih := ddS_pos Q k
    unfold ddS
    split
    · exact ih
    · simp
theorem before_ok (R : List Int) (hR : R.length = 24) (hr : rackB R = true) : FreshP Try.prog 63 [.arr R] [] (befL R).flatten (befL R).length 24 29 true .one := by
  have tkR : R.take 24 = R := List.take_of_length_le (by omega)
  obtain ⟨np, hnp, hnp144⟩ := SrL_three R 144
  have eN : befN R = np := by unfold befN; omega
  have e3 : (SrL R 144).length / 3 = np := by omega
  unfold befL
  rw [eN]
  refine fresh_of_vc (X := ⟨Try.prog, tys, [(106, back_F)], [(105, sources_F), (107, sortR_F), (109, compR_F)], true, true, 0, [], []⟩) fn_63 ⟨tys_ok, (.cons back_T .nil), (.cons sources_T (.cons sortR_T (.cons compR_T .nil))), mixed⟩ (n0 := 0) rfl (Nat.le_of_ble_eq_true rfl) (by simp [wfL, SV.wf]) (wfH_spec (by simp [wfH, SObj.wf])) (Nat.le_refl _) ?_
  simp -implicitDefEqProofs only [Try.f63, Option.getD_some, argS, back_F, sources_F, sortR_F, compR_F, hR, tkR, hr, e3, freshK, Wrap.ap, ZB, Int.reduceToNat, Nat.reduceLT, Nat.reduceLeDiff, Int.reduceLE, Int.reduceLT, Nat.reduceEqDiff, Nat.reduceSub, SB, SV.known, packR, ne_eq, reduceCtorEq, Nat.reduceEqDiff, ↓reduceIte, if_true, if_false, eq_self, Nat.reduceAdd, Nat.reduceMul, Nat.reduceSub, forall_const, oneCellS, Kd.isSca, flat, TYB]
  refine ⟨fun h0 => ?_, fun h1 cp jp hjp => ?_⟩
  · obtain rfl : np = 0 := by rw [h0] at hnp; simp at hnp; omega
    refine loop_intro (fun _ : Unit => [(11, .int 0), (10, .int 0), (9, .nils), (3, .nils), (1, .ptr 0 0)]) (fun _ => [(0, .ints R 29)]) 1 (fun _ => True) (fun _ => 0) ?_ ?_
    · refine ⟨(), trivial, Sub.mk_id ?_ ?_ ?_ ?_ ?_⟩
      all_goals ((try simp only [LB, subS, subH, wfS, wfH, SV.ren, renL, SObj.ren, SV.wf, SObj.wf, wfL, SV.known, Nat.reduceEqDiff, ↓reduceIte, if_true, if_false, eq_self, Nat.reduceAdd, Nat.reduceLT, Nat.reduceLeDiff, implies_true, reduceCtorEq, forall_const]) <;> simp)
    · intro _ _
      simp -implicitDefEqProofs only [lk_normal, sortR_F, compR_F, Int.lt_irrefl, ZB, Int.reduceToNat, Nat.reduceLT, Nat.reduceLeDiff, Int.reduceLE, Int.reduceLT, Nat.reduceEqDiff, Nat.reduceSub, SB, SV.known, packR, ne_eq, reduceCtorEq, Nat.reduceEqDiff, ↓reduceIte, if_true, if_false, eq_self, Nat.reduceAdd, Nat.reduceMul, Nat.reduceSub, forall_const, oneCellS, Kd.isSca, flat, TYB]
      exact .inl ⟨rfl, rfl, rfl⟩
  · have lenP : (SrL R 144 ++ jp).length = cp * 3 := by rw [List.length_append]; omega
    have n0 : 0 < np := by
      rcases Nat.eq_zero_or_pos np with h | h
      · subst h; exact absurd (List.length_eq_zero_iff.1 (by omega)) h1
      · exact h
    refine loop_intro (fun s : Nat × Nat × List Int => [(11, .int s.1), (10, .int np), (9, .slice 1 0 np cp), (3, outVn 2 s.1 s.1 s.2.1), (1, .ptr 0 0)])
      (fun s => outHn 2 s.1 ((bks R s.1).flatten ++ s.2.2) 29 [(1, .ints (SrL R 144 ++ jp) 108), (0, .ints R 29)]) 3
      (fun s => s.1 ≤ np ∧ s.2.2.length + s.1 * 24 = s.2.1 * 24) (fun s => np - s.1) ?_ ?_
    · refine ⟨(0, 0, []), ⟨by simp, by simp⟩, Sub.mk_id ?_ ?_ ?_ ?_ ?_⟩
      all_goals simp only [outVn_zero, outHn_zero, LB, subS, subH, wfS, wfH, SV.ren, renL, SObj.ren, SV.wf, SObj.wf, wfL, SV.known, Nat.reduceEqDiff, ↓reduceIte, if_true, if_false, eq_self, Nat.reduceAdd, Nat.reduceLT, Nat.reduceLeDiff, implies_true, reduceCtorEq, forall_const]
      all_goals (try simp)
    · rintro ⟨i, c, j⟩ ⟨hi, hj⟩
      simp only at hi hj
      have h24 := bks_24 hR i
      have hfl := flat_len h24
      have hbl := bks_len R i
      by_cases hlt : i < np
      · have hil : (i : Int) < np := by omega
        obtain ⟨a, b, d, hb, he⟩ := SrL_trip R 144 i (by omega)
        have eP : List.take 3 (List.drop (i * 3) (SrL R 144 ++ jp)) = [a, b, d] := by
          rw [List.drop_append_of_le_length (by omega), List.take_append_of_le_length (by rw [List.length_drop]; omega), he]
        have g0 : (SrL R 144).getD (i * 3) 0 = a ∧ (SrL R 144).getD (i * 3 + 1) 0 = b ∧ (SrL R 144).getD (i * 3 + 2) 0 = d := by
          have q : ∀ k, k < 3 → (SrL R 144).getD (i * 3 + k) 0 = (((SrL R 144).drop (i * 3)).take 3).getD k 0 := fun k hk => by
            simp [List.getD, List.getElem?_take, hk]
          have q0 := q 0 (by omega); have q1 := q 1 (by omega); have q2 := q 2 (by omega)
          rw [he] at q0 q1 q2
          exact ⟨q0, q1, q2⟩
        have ex : bkR R a b d = bkk R i := by unfold bkk; rw [g0.1, g0.2.1, g0.2.2]
        have b21 := bk_21 hb
        have xl : (bkk R i).length = 24 := bkR_len hR _ _ _
        have tkx := List.take_of_length_le (Nat.le_of_eq xl)
        have es := bks_succ R i
        cases i with
        | zero =>
          have eP0 : List.take 3 (SrL R 144 ++ jp) = [a, b, d] := by rw [Nat.zero_mul, List.drop_zero] at eP; exact eP
          have n0' : (0 : Int) < np := by omega
          simp -implicitDefEqProofs only [lk_normal, back_F, outVn_zero, outHn_zero, hil, n0', eP0, eP, lenP, hR, hr, tkR, hb, b21, ex, xl, tkx, List.getD_cons_zero, List.getD_cons_succ, ZB, Int.reduceToNat, Nat.reduceLT, Nat.reduceLeDiff, Int.reduceLE, Int.reduceLT, Nat.reduceEqDiff, Nat.reduceSub, SB, SV.known, packR, ne_eq, reduceCtorEq, Nat.reduceEqDiff, ↓reduceIte, if_true, if_false, eq_self, Nat.reduceAdd, Nat.reduceMul, Nat.reduceSub, forall_const, oneCellS, Kd.isSca, flat, TYB]
          have e1 : (bks R 1).flatten = bkk R 0 := by simp [bks]
          refine ⟨by omega, fun j' c' hj' => ⟨by unfold In64; omega, (1, c', j'), ⟨by simp only; omega, by simp only; omega⟩, by simp only; omega, Sub.mk_to 2 6 ?_ ?_ ?_ ?_ ?_ ?_ ?_⟩⟩
          all_goals (try simp only [e1])
          all_goals ((try simp only [outVn_succ, outHn_succ, LB, subS, subH, wfS, wfH, SV.ren, renL, SObj.ren, SV.wf, SObj.wf, wfL, SV.known, Nat.reduceEqDiff, ↓reduceIte, if_true, if_false, eq_self, Nat.reduceAdd, Nat.reduceLT, Nat.reduceLeDiff, implies_true, reduceCtorEq, forall_const]) <;> simp)
        | succ i =>
          have lO : ((bks R (i + 1)).flatten ++ j).length = c * 24 := by rw [List.length_append, hfl, hbl]; omega
          have tkO : List.take ((i + 1) * 24) ((bks R (i + 1)).flatten ++ j) = (bks R (i + 1)).flatten := List.take_left' (by rw [hfl, hbl])
          simp -implicitDefEqProofs only [lk_normal, back_F, outVn_succ, outHn_succ, hil, eP, lenP, hR, hr, tkR, hb, b21, ex, xl, tkx, lO, tkO, List.getD_cons_zero, List.getD_cons_succ, ZB, Int.reduceToNat, Nat.reduceLT, Nat.reduceLeDiff, Int.reduceLE, Int.reduceLT, Nat.reduceEqDiff, Nat.reduceSub, SB, SV.known, packR, ne_eq, reduceCtorEq, Nat.reduceEqDiff, ↓reduceIte, if_true, if_false, eq_self, Nat.reduceAdd, Nat.reduceMul, Nat.reduceSub, forall_const, oneCellS, Kd.isSca, flat, TYB]
          refine ⟨by omega, by omega, by omega, by omega, by omega, fun j' c' hj' => ⟨by unfold In64; omega, (i + 1 + 1, c', j'), ⟨by simp only; omega, by simp only; omega⟩, by simp only; omega, Sub.mk_to 2 6 ?_ ?_ ?_ ?_ ?_ ?_ ?_⟩⟩
          all_goals (try simp only [es, List.flatten_append, List.flatten_cons, List.flatten_nil, List.append_nil])
          all_goals ((try simp only [outVn_succ, outHn_succ, LB, subS, subH, wfS, wfH, SV.ren, renL, SObj.ren, SV.wf, SObj.wf, wfL, SV.known, Nat.reduceEqDiff, ↓reduceIte, if_true, if_false, eq_self, Nat.reduceAdd, Nat.reduceLT, Nat.reduceLeDiff, implies_true, reduceCtorEq, forall_const]) <;> simp)
      · have hil : ¬ (i : Int) < np := by omega
        obtain rfl : i = np := by omega
        obtain ⟨k, rfl⟩ : ∃ k, i = k + 1 := ⟨i - 1, by omega⟩
        simp -implicitDefEqProofs only [lk_normal, sortR_F, compR_F, outVn_succ, outHn_succ, hil, ZB, Int.reduceToNat, Nat.reduceLT, Nat.reduceLeDiff, Int.reduceLE, Int.reduceLT, Nat.reduceEqDiff, Nat.reduceSub, SB, SV.known, packR, ne_eq, reduceCtorEq, Nat.reduceEqDiff, ↓reduceIte, if_true, if_false, eq_self, Nat.reduceAdd, Nat.reduceMul, Nat.reduceSub, forall_const, oneCellS, Kd.isSca, flat, TYB]
        have s24 : all24 (srtT (bks R (k + 1))) := fun x hx => h24 x ((srtT_perm _).mem_iff.1 hx)
        have sl : (srtT (bks R (k + 1))).length = k + 1 := by rw [(srtT_perm _).length_eq, hbl]
        have sf := flat_len s24
        have dl := ddS_le (srtT (bks R (k + 1))) (k + 1)
        have d24 := flat_len (ddS_24 s24 (k + 1) (by omega))
        refine ⟨by omega, bks R (k + 1), j, rfl, hbl, h24, by omega, by rw [List.length_append, sf, sl]; omega, srtT (bks R (k + 1)), j, rfl, sl, s24, ?_⟩
        refine .inr ⟨2, c, List.replicate ((k + 1 - (ddS (srtT (bks R (k + 1))) (k + 1)).length) * 24) 0 ++ j, rfl, by simp [hget_cons], by omega, ?_, fun _ h => ?_⟩
        · rw [List.length_append, List.length_replicate, d24]; omega
        · have := ddS_pos (srtT (bks R (k + 1))) k
          rw [h] at d24; simp at d24; omega
end Go.Proofs.Ytdnechlmkbchaaa
