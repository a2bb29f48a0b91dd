/- Walks: racks behind pours by a rule; maps that know racks. -/
import Derived.Test.YtfdpeenamkpcbaaRulC
import Derived.Test.YtfdpeenamkpcbaaDelR
import Derived.Test.YtfdpeenamkpcbaaEqR
import Derived.Test.YtfdpeenamkpcbaaGen
import Derived.Test.YtfdpeenamkpcbaaSort
set_option maxRecDepth 100000
set_option linter.unusedSimpArgs false
set_option linter.unusedVariables false
namespace Go.Proofs.Ytfdpeenamkpcbaa
open Go Go.RowKit
/-! Lists of racks. -/
def all24 (Q : List (List Int)) : Prop := ∀ x ∈ Q, x.length = 24
theorem flat_len : ∀ {Q : List (List Int)}, all24 Q → Q.flatten.length = Q.length * 24
  | [], _ => rfl
  | x :: Q, h => by
    rw [List.flatten_cons, List.length_append, flat_len fun y hy => h y (List.mem_cons_of_mem _ hy), h x (List.mem_cons_self ..), List.length_cons]; omega
theorem flat_get : ∀ {Q : List (List Int)}, all24 Q → ∀ {i : Nat}, i < Q.length → ∀ J, ((Q.flatten ++ J).drop (i * 24)).take 24 = Q.getD i []
  | [], _, i, hi, _ => by simp at hi
  | x :: Q, h, i, hi, J => by
    have hx := h x (List.mem_cons_self ..)
    rw [List.flatten_cons, List.append_assoc]
    cases i with
    | zero => rw [Nat.zero_mul, List.drop_zero, List.take_left' hx]; rfl
    | succ i =>
      rw [show (i + 1) * 24 = 24 + i * 24 by omega, ← List.drop_drop, List.drop_left' hx, flat_get (fun y hy => h y (List.mem_cons_of_mem _ hy)) (by simpa using hi) J]
      rfl
theorem getD_mem {Q : List (List Int)} {i : Nat} (hi : i < Q.length) : Q.getD i [] ∈ Q := by
  rw [List.getD_eq_getElem?_getD, List.getElem?_eq_getElem hi]; exact List.getElem_mem hi
theorem take_succ_getD {α : Type} (Q : List (List α)) (i : Nat) (hi : i < Q.length) : Q.take (i + 1) = Q.take i ++ [Q.getD i []] := by
  rw [List.take_succ_eq_append_getElem hi, List.getD_eq_getElem?_getD, List.getElem?_eq_getElem hi]; rfl
/-! Maps that know racks. -/
def mk1 (K : List (List Int)) : List (List Int × Int) := K.map fun k => (k, 1)
theorem mk1_len (K : List (List Int)) : (mk1 K).length = K.length := by simp [mk1]
theorem mk1_nil : mk1 [] = [] := rfl
theorem mk1_keys {K : List (List Int)} (h : all24 K) : keysOK (mk1 K) 24 := fun q hq => by
  obtain ⟨k, hk, rfl⟩ := List.mem_map.1 hq
  exact h k hk
theorem mget_mk1 (x : List Int) : ∀ K : List (List Int), mget (mk1 K) x = if x ∈ K then 1 else 0
  | [] => rfl
  | k :: K => by
    show (if x = k then 1 else mget (mk1 K) x) = _
    rw [mget_mk1 x K]
    by_cases h : x = k
    · simp [h]
    · simp [h]
theorem mset_mk1 {x : List Int} : ∀ {K : List (List Int)}, x ∉ K → mset (mk1 K) x 1 = mk1 (K ++ [x])
  | [], _ => rfl
  | k :: K, h => by
    have h1 : ¬ x = k := fun e => h (e ▸ List.mem_cons_self ..)
    have ih := mset_mk1 (K := K) fun hx => h (List.mem_cons_of_mem _ hx)
    show (if x = k then (k, 1) :: mk1 K else (k, 1) :: mset (mk1 K) x 1) = _
    rw [if_neg h1, ih]; rfl
/-! What is new. -/
def nwS (K O : List (List Int)) (x : List Int) : List (List Int) := if x ∈ K ++ O then O else O ++ [x]
def nwF (K xs : List (List Int)) : List (List Int) := xs.foldl (nwS K) []
theorem nwF_nil (K : List (List Int)) : nwF K [] = [] := rfl
theorem nwF_snoc (K xs : List (List Int)) (x : List Int) : nwF K (xs ++ [x]) = nwS K (nwF K xs) x := by simp [nwF, List.foldl_append]
theorem nwF_old {K xs : List (List Int)} {x : List Int} (h : x ∈ K ++ nwF K xs) : nwF K (xs ++ [x]) = nwF K xs := by rw [nwF_snoc, nwS, if_pos h]
theorem nwF_new {K xs : List (List Int)} {x : List Int} (h : x ∉ K ++ nwF K xs) : nwF K (xs ++ [x]) = nwF K xs ++ [x] := by rw [nwF_snoc, nwS, if_neg h]
theorem snoc_ind {α : Type} {P : List α → Prop} (h0 : P []) (h1 : ∀ l x, P l → P (l ++ [x])) (l : List α) : P l := by
  have : P l.reverse.reverse := by
    generalize l.reverse = r
    induction r with
    | nil => exact h0
    | cons x r ih => rw [List.reverse_cons]; exact h1 _ _ ih
  rwa [List.reverse_reverse] at this
theorem nwF_sub (K xs : List (List Int)) : ∀ y ∈ nwF K xs, y ∈ xs ∧ y ∉ K := by
  refine snoc_ind (P := fun xs => ∀ y ∈ nwF K xs, y ∈ xs ∧ y ∉ K) (by simp [nwF]) (fun l x ih y hy => ?_) xs
  by_cases h : x ∈ K ++ nwF K l
  · rw [nwF_old h] at hy
    exact ⟨List.mem_append_left _ (ih y hy).1, (ih y hy).2⟩
  · rw [nwF_new h] at hy
    rcases List.mem_append.1 hy with hy | hy
    · exact ⟨List.mem_append_left _ (ih y hy).1, (ih y hy).2⟩
    · simp at hy; subst hy
      exact ⟨by simp, fun hK => h (List.mem_append_left _ hK)⟩
theorem nwF_all (K xs : List (List Int)) : ∀ y ∈ xs, y ∈ K ++ nwF K xs := by
  refine snoc_ind (P := fun xs => ∀ y ∈ xs, y ∈ K ++ nwF K xs) (by simp) (fun l x ih y hy => ?_) xs
  by_cases h : x ∈ K ++ nwF K l
  · rw [nwF_old h]
    rcases List.mem_append.1 hy with hy | hy
    · exact ih y hy
    · simp at hy; subst hy; exact h
  · rw [nwF_new h, ← List.append_assoc]
    rcases List.mem_append.1 hy with hy | hy
    · exact List.mem_append_left _ (ih y hy)
    · exact List.mem_append_right _ hy
theorem nwF_len (K xs : List (List Int)) : (nwF K xs).length ≤ xs.length := by
  refine snoc_ind (P := fun xs => (nwF K xs).length ≤ xs.length) (by simp [nwF]) (fun l x ih => ?_) xs
  rw [nwF_snoc, nwS]
  split <;> simp <;> omega
/-- What is known already changes nothing. -/
theorem nwF_skip (K ys xs : List (List Int)) (h : ∀ y ∈ ys, y ∈ K) : nwF K (ys ++ xs) = nwF K xs := by
  have h0 : nwF K ys = [] := by
    have := nwF_sub K ys
    rcases List.eq_nil_or_concat (nwF K ys) with h1 | ⟨l, x, h1⟩
    · exact h1
    · have h2 := this x (by rw [h1]; simp)
      exact absurd (h x h2.1) h2.2
  show (ys ++ xs).foldl (nwS K) [] = _
  rw [List.foldl_append]
  show xs.foldl (nwS K) (nwF K ys) = _
  rw [h0]; rfl
/-! Racks behind a rack. -/
def sucP (R D : List Int) (u i j : Int) : List Int := mvR R i.toNat j.toNat (movF R D u i j).toNat
def sucN (R D : List Int) (u : Int) : Nat := (GL (pbB R D u) 36).length / 2
def sucL (D : List Int) (u : Int) (R : List Int) : List (List Int) := (List.range (sucN R D u)).map fun q => sucP R D u ((GL (pbB R D u) 36).getD (q * 2) 0) ((GL (pbB R D u) 36).getD (q * 2 + 1) 0)
theorem sucL_len (D : List Int) (u : Int) (R : List Int) : (sucL D u R).length = sucN R D u := by simp [sucL]
theorem sucN_le (R D : List Int) (u : Int) : sucN R D u ≤ 36 := by
  obtain ⟨n, h1, h2⟩ := GL_even (pbB R D u) 36
  unfold sucN; omega
theorem sucL_getD (D : List Int) (u : Int) (R : List Int) {q : Nat} (h : q < sucN R D u) : (sucL D u R).getD q [] = sucP R D u ((GL (pbB R D u) 36).getD (q * 2) 0) ((GL (pbB R D u) 36).getD (q * 2 + 1) 0) := by
  simp [sucL, List.getD, h]
/-- A pair that is listed is one by the condition. -/
theorem GL_pairB (c : Nat → Nat → Bool) : ∀ m, m ≤ 36 → ∀ i, i * 2 + 2 ≤ (GL c m).length → ∃ a b : Nat, a < 6 ∧ b < 6 ∧ c a b = true ∧ (GL c m).getD (i * 2) 0 = (a : Int) ∧ (GL c m).getD (i * 2 + 1) 0 = (b : Int)
  | 0, _, i, h => by simp [GL_zero] at h
  | m + 1, hm, i, h => by
    obtain ⟨n, hn, _⟩ := GL_even c m
    rw [GL_succ, List.length_append, hn] at h
    rw [GL_succ]
    by_cases hi : i * 2 + 2 ≤ n * 2
    · obtain ⟨a, b, h1, h2, h3, h4, h5⟩ := GL_pairB c m (by omega) i (by omega)
      refine ⟨a, b, h1, h2, h3, ?_, ?_⟩
      · rw [getD_app _ _ _ (by omega)]; exact h4
      · rw [getD_app _ _ _ (by omega)]; exact h5
    · unfold prG at h ⊢
      split at h
      · rename_i hc
        simp at h
        have hin : i = n := by omega
        subst hin
        refine ⟨m / 6, m % 6, by omega, by omega, hc, ?_, ?_⟩
        · rw [if_pos hc, List.getD_eq_getElem?_getD, List.getElem?_append_right (by omega), hn]; simp
        · rw [if_pos hc, List.getD_eq_getElem?_getD, List.getElem?_append_right (by omega), hn]; simp [Nat.add_sub_cancel_left]
      · simp at h; omega
theorem movF_room {R D : List Int} {u i j : Int} (hR : R.length = 24) (hD : D.length = 6) (hf : forB R D = true) (hi : 0 ≤ i ∧ i ≤ 5) (hj : 0 ≤ j ∧ j ≤ 5) (h : 0 < movF R D u i j) : movF R D u i j ≤ roomF R D j.toNat := by
  have ff := forB_facts hD hf
  have f2 := ff.2.2.2 j.toNat (by omega)
  revert h
  unfold movF
  repeat' split
  all_goals omega
theorem for_suc {R D : List Int} {u : Int} (hR : R.length = 24) (hD : D.length = 6) (hf : forB R D = true) {a b : Nat} (ha : a < 6) (hb : b < 6) (hc : pbB R D u a b = true) : (sucP R D u a b).length = 24 ∧ forB (sucP R D u a b) D = true ∧ 0 < movF R D u a b ∧ (a : Int) ≠ b ∧ (movF R D u a b).toNat ≤ layN (tubeAt R a) ∧ (movF R D u a b).toNat + layN (tubeAt R b) ≤ 4 := by
  have hp : 0 < movF R D u a b := of_decide_eq_true hc
  have hbd := movF_bd (u := u) hR hD hf (i := a) (j := b) (by omega) (by omega)
  have hrm := movF_room hR hD hf (i := a) (j := b) (by omega) (by omega) hp
  simp only [Int.toNat_natCast] at hbd hrm
  have h2 : (a : Int) ≠ b ∧ (movF R D u a b).toNat ≤ layN (tubeAt R a) ∧ (movF R D u a b).toNat + layN (tubeAt R b) ≤ 4 := by
    rcases hbd.2 with h | h
    · omega
    · exact h
  have ff := forB_facts hD hf
  have hr := ff.1
  have hne : a ≠ b := by omega
  obtain ⟨m1, m2, m3⟩ := mv_facts hR hr ha hb hne h2.2.1 h2.2.2
  have mr := mv_rack hR hr ha hb hne h2.2.1 h2.2.2
  unfold sucP
  simp only [Int.toNat_natCast]
  refine ⟨by rw [mvR_len, hR], ?_, hp, h2⟩
  simp only [forB, Bool.and_eq_true]
  refine ⟨⟨mr, ff.2.1⟩, fit_none fun k hk => ?_⟩
  have f4 := ff.2.2.2 k hk
  by_cases hki : k = a
  · subst hki
    rw [m1.2]
    unfold roomF at f4
    omega
  · by_cases hkj : k = b
    · subst hkj
      rw [m2.2]
      unfold roomF at hrm
      omega
    · rw [m3 k hk hki hkj]
      unfold roomF at f4
      omega
def okR (D : List Int) (Q : List (List Int)) : Prop := ∀ x ∈ Q, x.length = 24 ∧ forB x D = true
theorem okR.all24 {D : List Int} {Q : List (List Int)} (h : okR D Q) : all24 Q := fun x hx => (h x hx).1
theorem okR_suc {D : List Int} {u : Int} (hD : D.length = 6) {Q : List (List Int)} (h : okR D Q) : okR D (Q.flatMap (sucL D u)) := by
  intro x hx
  obtain ⟨R, hR, hx⟩ := List.mem_flatMap.1 hx
  obtain ⟨q, hq, rfl⟩ := List.mem_map.1 hx
  have := List.mem_range.1 hq
  have hn : q * 2 + 2 ≤ (GL (pbB R D u) 36).length := by unfold sucN at this; omega
  obtain ⟨a, b, h1, h2, h3, h4, h5⟩ := GL_pairB _ 36 (by omega) q hn
  have := for_suc (h R hR).1 hD (h R hR).2 h1 h2 h3
  show (sucP R D u _ _).length = 24 ∧ _
  rw [h4, h5]
  exact ⟨this.1, this.2.1⟩
theorem okR_nw {D : List Int} {K xs : List (List Int)} (h : okR D xs) : okR D (nwF K xs) := fun x hx => h x (nwF_sub K xs x hx).1
theorem okR_app {D : List Int} {P Q : List (List Int)} (h1 : okR D P) (h2 : okR D Q) : okR D (P ++ Q) := fun x hx => by
  rcases List.mem_append.1 hx with hx | hx
  · exact h1 x hx
  · exact h2 x hx
/-- Up to some racks, and up to some pours of the next one. -/
def upto (D : List Int) (u : Int) (Q : List (List Int)) (i j : Nat) : List (List Int) := (Q.take i).flatMap (sucL D u) ++ (sucL D u (Q.getD i [])).take j
theorem upto_zero (D : List Int) (u : Int) (Q : List (List Int)) : upto D u Q 0 0 = [] := by simp [upto]
theorem upto_next (D : List Int) (u : Int) (Q : List (List Int)) {i : Nat} (hi : i < Q.length) : upto D u Q i (sucN (Q.getD i []) D u) = upto D u Q (i + 1) 0 := by
  unfold upto
  have e : (sucL D u (Q.getD i [])).take (sucN (Q.getD i []) D u) = sucL D u (Q.getD i []) := List.take_of_length_le (by rw [sucL_len]; omega)
  rw [e, take_succ_getD Q i hi, List.flatMap_append, List.take_zero, List.append_nil, List.flatMap_cons, List.flatMap_nil, List.append_nil]
theorem upto_snoc (D : List Int) (u : Int) (Q : List (List Int)) {i j : Nat} (hj : j < sucN (Q.getD i []) D u) : upto D u Q i (j + 1) = upto D u Q i j ++ [(sucL D u (Q.getD i [])).getD j []] := by
  unfold upto
  rw [take_succ_getD _ _ (by rw [sucL_len]; exact hj), List.append_assoc]
theorem upto_end (D : List Int) (u : Int) (Q : List (List Int)) : upto D u Q Q.length 0 = Q.flatMap (sucL D u) := by
  unfold upto
  rw [List.take_of_length_le (by omega), List.take_zero, List.append_nil]
theorem upto_ok {D : List Int} {u : Int} (hD : D.length = 6) {Q : List (List Int)} (h : okR D Q) {i j : Nat} (hi : i < Q.length ∨ j = 0) : okR D (upto D u Q i j) := by
  unfold upto
  refine okR_app (okR_suc hD fun x hx => h x (List.mem_of_mem_take hx)) fun x hx => ?_
  rcases hi with hi | hj
  · have hx2 := List.mem_of_mem_take hx
    exact okR_suc hD h x (List.mem_flatMap.2 ⟨Q.getD i [], getD_mem hi, hx2⟩)
  · subst hj; simp at hx
theorem fm_len (D : List Int) (u : Int) : ∀ Q : List (List Int), (Q.flatMap (sucL D u)).length ≤ 36 * Q.length
  | [] => by simp
  | x :: Q => by
    rw [List.flatMap_cons, List.length_append, sucL_len, List.length_cons]
    have := fm_len D u Q
    have := sucN_le x D u
    omega
theorem upto_len (D : List Int) (u : Int) (Q : List (List Int)) (i j : Nat) : (upto D u Q i j).length ≤ 36 * i + j := by
  unfold upto
  rw [List.length_append, List.length_take]
  have := fm_len D u (Q.take i)
  have h2 := List.length_take (i := i) (l := Q)
  omega
--@tbl behind = impl.behind
theorem behind_ok (D : List Int) (u : Int) (Q K : List (List Int)) (J : List Int) (e len cap : Nat) (hD : D.length = 6) (hu : ruF u = true) (hQ : okR D Q) (hK : all24 K) (hl : Q.length = len) (hsm : len ≤ 2000) :
    codeVC (⟨Try.prog, tys, [(117, movedBy_F), (116, move_F)], [(115, poursBy_F)], true, true, 1, [], []⟩ : Cx) 2 (Try.f73.body.getD .skip) (argS 0 [.slice 0 0 len cap, .arr D, .int u, .mp 1]) [(0, .ints (Q.flatten ++ J) e), (1, .mp true (mk1 K))] 2
      (retK tys Try.f73.results.toList (finK 2 1 fun v H' n' => ∃ c j, v = outVn 2 (nwF K (Q.flatMap (sucL D u))).length (nwF K (Q.flatMap (sucL D u))).length c ∧ H' = outHn 2 (nwF K (Q.flatMap (sucL D u))).length ((nwF K (Q.flatMap (sucL D u))).flatten ++ j) 28 [(1, .mp true (mk1 (K ++ nwF K (Q.flatMap (sucL D u)))))] ∧ n' = 3 ∧ j.length + (nwF K (Q.flatMap (sucL D u))).length * 24 = c * 24)) := by
  have tkD : D.take 6 = D := List.take_of_length_le (by omega)
  have hA := hQ.all24
  have hfl := flat_len hA
  simp -implicitDefEqProofs only [Try.f73, Option.getD_some, argS, movedBy_F, move_F, poursBy_F, hD, tkD, ZB, Int.reduceToNat, Nat.reduceLT, Nat.reduceLeDiff, Int.reduceLE, Int.reduceLT, Nat.reduceEqDiff, Nat.reduceSub, SB, SV.known, packR, ne_eq, reduceCtorEq, Nat.reduceEqDiff, ↓reduceIte, if_true, if_false, eq_self, Nat.reduceAdd, Nat.reduceMul, Nat.reduceSub, forall_const, oneCellS, Kd.isSca, flat, TYB]
  generalize hX : Q.flatMap (sucL D u) = X at *
  refine loop_intro (fun s : Nat × Nat × List Int => [(17, .int s.1), (16, .int len), (15, .slice 0 0 len cap), (9, outVn 3 (nwF K (upto D u Q s.1 0)).length (nwF K (upto D u Q s.1 0)).length s.2.1), (5, .ptr 2 0), (2, .int u), (3, .mp 1)])
    (fun s => outHn 3 (nwF K (upto D u Q s.1 0)).length ((nwF K (upto D u Q s.1 0)).flatten ++ s.2.2) 28 [(2, .ints D 39), (0, .ints (Q.flatten ++ J) e), (1, .mp true (mk1 (K ++ nwF K (upto D u Q s.1 0))))]) 4
    (fun s => s.1 ≤ len ∧ s.2.2.length + (nwF K (upto D u Q s.1 0)).length * 24 = s.2.1 * 24) (fun s => len - s.1) ?_ ?_
  · refine ⟨(0, 0, []), ⟨by simp, by simp [upto_zero, nwF_nil]⟩, Sub.mk_id ?_ ?_ ?_ ?_ ?_⟩
    all_goals simp only [upto_zero, nwF_nil, List.length_nil, outVn_zero, outHn_zero, List.append_nil, LB, subS, subH, wfS, wfH, SV.ren, renL, SObj.ren, SV.wf, SObj.wf, wfL, SV.known, Nat.reduceEqDiff, ↓reduceIte, if_true, if_false, eq_self, Nat.reduceAdd, Nat.reduceLT, Nat.reduceLeDiff, implies_true, reduceCtorEq, forall_const]
    all_goals (try simp)
  · rintro ⟨i, c, j⟩ ⟨hi, hj⟩
    simp only at hi hj
    by_cases hlt : i < len
    · have hil : (i : Int) < len := by omega
      have hiQ : i < Q.length := by omega
      have eR : List.take 24 (List.drop (i * 24) (Q.flatten ++ J)) = Q.getD i [] := flat_get hA hiQ J
      obtain ⟨r24, rf⟩ := hQ _ (getD_mem hiQ)
      have tkR : List.take 24 (Q.getD i []) = Q.getD i [] := List.take_of_length_le (by omega)
      have lQ : i * 24 + 24 ≤ (Q.flatten ++ J).length := by rw [List.length_append, hfl]; omega
      have unext := upto_next D u Q hiQ
      have usn := fun q (hq : q < sucN (Q.getD i []) D u) => upto_snoc D u Q hq
      have sgd := fun q (hq : q < sucN (Q.getD i []) D u) => sucL_getD D u (Q.getD i []) hq
      generalize hR : Q.getD i [] = R at *
      obtain ⟨np, hnp, hnp36⟩ := GL_even (pbB R D u) 36
      have esn : sucN R D u = np := by unfold sucN; omega
      have ehp : (GL (pbB R D u) 36).length / 2 = np := by omega
      have pairs := GL_pairB (pbB R D u) 36 (by omega)
      rw [esn] at unext usn sgd
      generalize hP : GL (pbB R D u) 36 = P at *
      have okU := fun q => upto_ok (u := u) hD hQ (j := q) (.inl hiQ)
      simp -implicitDefEqProofs only [lk_normal, poursBy_F, hget_outHn, known_outVn, hil, eR, r24, rf, tkR, lQ, hD, tkD, hP, ehp, freshK, Wrap.ap, ZB, Int.reduceToNat, Nat.reduceLT, Nat.reduceLeDiff, Int.reduceLE, Int.reduceLT, Nat.reduceEqDiff, Nat.reduceSub, SB, SV.known, packR, ne_eq, reduceCtorEq, Nat.reduceEqDiff, ↓reduceIte, if_true, if_false, eq_self, Nat.reduceAdd, Nat.reduceMul, Nat.reduceSub, forall_const, oneCellS, Kd.isSca, flat, TYB]
      refine ⟨by omega, fun hP0 => ?_, fun hP1 cp jp hjp => ?_⟩
      · have hnp0 : np = 0 := by rw [hP0] at hnp; simp at hnp; omega
        subst hnp0
        refine loop_intro (fun _ : Unit => [(26, .int 0), (25, .int 0), (24, .nils), (17, .int i), (16, .int len), (15, .slice 0 0 len cap), (9, outVn 3 (nwF K (upto D u Q i 0)).length (nwF K (upto D u Q i 0)).length c), (5, .ptr 2 0), (2, .int u), (3, .mp 1)])
          (fun _ => outHn 3 (nwF K (upto D u Q i 0)).length ((nwF K (upto D u Q i 0)).flatten ++ j) 28 [(2, .ints D 39), (0, .ints (Q.flatten ++ J) e), (1, .mp true (mk1 (K ++ nwF K (upto D u Q i 0))))]) 5 (fun _ => True) (fun _ => 0) ?_ ?_
        · refine ⟨(), trivial, Sub.mk_id ?_ ?_ ?_ ?_ ?_⟩
          all_goals (cases (nwF K (upto D u Q i 0)).length <;> simp only [outVn_zero, outVn_succ, outHn_zero, outHn_succ, LB, subS, subH, wfS, wfH, SV.ren, renL, SObj.ren, SV.wf, SObj.wf, wfL, SV.known, Nat.reduceEqDiff, ↓reduceIte, if_true, if_false, eq_self, Nat.reduceAdd, Nat.reduceLT, Nat.reduceLeDiff, implies_true, reduceCtorEq, forall_const] <;> simp)
        · intro _ _
          simp -implicitDefEqProofs only [lk_normal, hget_outHn, known_outVn, ZB, Int.reduceToNat, Nat.reduceLT, Nat.reduceLeDiff, Int.reduceLE, Int.reduceLT, Nat.reduceEqDiff, Nat.reduceSub, SB, SV.known, packR, ne_eq, reduceCtorEq, Nat.reduceEqDiff, ↓reduceIte, if_true, if_false, eq_self, Nat.reduceAdd, Nat.reduceMul, Nat.reduceSub, forall_const, oneCellS, Kd.isSca, flat, TYB]
          refine ⟨by unfold In64; omega, (i + 1, c, j), ⟨by simp only; omega, by simp only [← unext]; exact hj⟩, by simp only; omega, Sub.mk_id ?_ ?_ ?_ ?_ ?_⟩
          all_goals (try simp only [← unext])
          all_goals (cases (nwF K (upto D u Q i 0)).length <;> simp only [outVn_zero, outVn_succ, outHn_zero, outHn_succ, LB, subS, subH, wfS, wfH, SV.ren, renL, SObj.ren, SV.wf, SObj.wf, wfL, SV.known, Nat.reduceEqDiff, ↓reduceIte, if_true, if_false, eq_self, Nat.reduceAdd, Nat.reduceLT, Nat.reduceLeDiff, implies_true, reduceCtorEq, forall_const] <;> simp)
      · have lenP : (P ++ jp).length = cp * 2 := by rw [List.length_append]; omega
        refine loop_intro (fun s : Nat × Nat × List Int => [(26, .int s.1), (25, .int np), (24, .slice 5 0 np cp), (11, .ptr 4 0), (17, .int i), (16, .int len), (15, .slice 0 0 len cap), (9, outVn 3 (nwF K (upto D u Q i s.1)).length (nwF K (upto D u Q i s.1)).length s.2.1), (5, .ptr 2 0), (2, .int u), (3, .mp 1)])
          (fun s => outHn 3 (nwF K (upto D u Q i s.1)).length ((nwF K (upto D u Q i s.1)).flatten ++ s.2.2) 28 [(5, .ints (P ++ jp) 50), (4, .ints R 28), (2, .ints D 39), (0, .ints (Q.flatten ++ J) e), (1, .mp true (mk1 (K ++ nwF K (upto D u Q i s.1))))]) 6
          (fun s => s.1 ≤ np ∧ s.2.2.length + (nwF K (upto D u Q i s.1)).length * 24 = s.2.1 * 24) (fun s => np - s.1) ?_ ?_
        · refine ⟨(0, c, j), ⟨by simp only; omega, by simp only; exact hj⟩, Sub.mk_id ?_ ?_ ?_ ?_ ?_⟩
          all_goals (cases (nwF K (upto D u Q i 0)).length <;> simp only [outVn_zero, outVn_succ, outHn_zero, outHn_succ, LB, subS, subH, wfS, wfH, SV.ren, renL, SObj.ren, SV.wf, SObj.wf, wfL, SV.known, Nat.reduceEqDiff, ↓reduceIte, if_true, if_false, eq_self, Nat.reduceAdd, Nat.reduceLT, Nat.reduceLeDiff, implies_true, reduceCtorEq, forall_const] <;> simp)
        · rintro ⟨q, c, j⟩ ⟨hq, hj⟩
          simp only at hq hj
          have hOk := okU q
          have hNk := (okR_nw (K := K) hOk).all24
          have hfO := flat_len hNk
          by_cases hqn : q < np
          · have hql : (q : Int) < np := by omega
            obtain ⟨a, b, ha, hb, hc, ga, gb⟩ := pairs q (by omega)
            have eP : List.take 2 (List.drop (q * 2) (P ++ jp)) = [(a : Int), (b : Int)] := by
              rw [take2_drop _ _ (by rw [List.length_append]; omega), getD_app _ _ _ (by omega), getD_app _ _ _ (by omega), ga, gb]
            obtain ⟨x24, xf, mp, mne, m1, m2⟩ := for_suc r24 hD rf ha hb hc
            have us := usn q hqn
            have ex := sgd q hqn
            rw [ga, gb] at ex
            rw [ex] at us
            have a0 : 0 ≤ (a : Int) ∧ (a : Int) ≤ 5 := by omega
            have b0 : 0 ≤ (b : Int) ∧ (b : Int) ≤ 5 := by omega
            have rr := (forB_facts hD rf).1
            have m0 : 0 ≤ movF R D u a b := by omega
            have exx : mvR R a b (movF R D u a b).toNat = sucP R D u a b := by unfold sucP; simp only [Int.toNat_natCast]
            have kOK : keysOK (mk1 (K ++ nwF K (upto D u Q i q))) (sucP R D u a b).length := by
              rw [x24]
              exact mk1_keys fun y hy => by
                rcases List.mem_append.1 hy with hy | hy
                · exact hK y hy
                · exact hNk y hy
            have kI : KeyI Try.prog 28 (sucP R D u a b).length := by rw [x24]; exact keyI_rack
            have mg := mget_mk1 (sucP R D u a b) (K ++ nwF K (upto D u Q i q))
            have bound : (nwF K (upto D u Q i q)).length ≤ 100000 := by
              have := nwF_len K (upto D u Q i q)
              have := upto_len D u Q i q
              omega
            have tkx : List.take 24 (sucP R D u a b) = sucP R D u a b := List.take_of_length_le (by omega)
            generalize hx : sucP R D u a b = x at *
            have kOK24 : keysOK (mk1 (K ++ nwF K (upto D u Q i q))) 24 := x24 ▸ kOK
            have kI24 : KeyI Try.prog 28 24 := x24 ▸ kI
            have z1 : ¬ (0 : Int) = 1 := by omega
            by_cases hin : x ∈ K ++ nwF K (upto D u Q i q)
            · have eo := nwF_old hin
              rw [← us] at eo
              rw [if_pos hin] at mg
              simp -implicitDefEqProofs only [lk_normal, movedBy_F, move_F, hget_outHn, known_outVn, hql, eP, lenP, r24, rf, rr, tkR, hD, tkD, a0, b0, mne, m0, m1, m2, exx, x24, kOK24, kI24, z1, mg, tkx, List.getD_cons_zero, List.getD_cons_succ, Int.toNat_natCast, ZB, Int.reduceToNat, Nat.reduceLT, Nat.reduceLeDiff, Int.reduceLE, Int.reduceLT, Nat.reduceEqDiff, Nat.reduceSub, SB, SV.known, packR, ne_eq, reduceCtorEq, Nat.reduceEqDiff, ↓reduceIte, if_true, if_false, eq_self, Nat.reduceAdd, Nat.reduceMul, Nat.reduceSub, forall_const, oneCellS, Kd.isSca, flat, TYB]
              refine ⟨by omega, by omega, by unfold In64; omega, (q + 1, c, j), ⟨by simp only; omega, by simp only [eo]; exact hj⟩, by simp only; omega, Sub.mk_id ?_ ?_ ?_ ?_ ?_⟩
              all_goals (try simp only [eo])
              all_goals (cases (nwF K (upto D u Q i q)).length <;> simp only [outVn_zero, outVn_succ, outHn_zero, outHn_succ, LB, subS, subH, wfS, wfH, SV.ren, renL, SObj.ren, SV.wf, SObj.wf, wfL, SV.known, Nat.reduceEqDiff, ↓reduceIte, if_true, if_false, eq_self, Nat.reduceAdd, Nat.reduceLT, Nat.reduceLeDiff, implies_true, reduceCtorEq, forall_const] <;> simp)
            · have eo := nwF_new hin
              rw [← us] at eo
              rw [if_neg hin] at mg
              have ms := mset_mk1 hin
              cases hn : (nwF K (upto D u Q i q)).length with
              | zero =>
                simp -implicitDefEqProofs only [lk_normal, movedBy_F, move_F, hget_outHn, known_outVn, hql, eP, lenP, r24, rf, rr, tkR, hD, tkD, a0, b0, mne, m0, m1, m2, exx, x24, kOK24, kI24, z1, mg, ms, tkx, outVn_zero, outHn_zero, List.getD_cons_zero, List.getD_cons_succ, Int.toNat_natCast, ZB, Int.reduceToNat, Nat.reduceLT, Nat.reduceLeDiff, Int.reduceLE, Int.reduceLT, Nat.reduceEqDiff, Nat.reduceSub, SB, SV.known, packR, ne_eq, reduceCtorEq, Nat.reduceEqDiff, ↓reduceIte, if_true, if_false, eq_self, Nat.reduceAdd, Nat.reduceMul, Nat.reduceSub, forall_const, oneCellS, Kd.isSca, flat, TYB]
                have hO : nwF K (upto D u Q i q) = [] := List.length_eq_zero_iff.1 hn
                refine ⟨by omega, by omega, fun junk' cap' hj' => ⟨by unfold In64; omega, (q + 1, cap', junk'), ⟨by simp only; omega, by simp only [eo, hO]; simpa using hj'⟩, by simp only; omega, Sub.mk_to 3 9 ?_ ?_ ?_ ?_ ?_ ?_ ?_⟩⟩
                all_goals (try simp only [eo, hO, List.append_nil, List.nil_append, List.length_cons, List.length_nil, List.flatten_cons, List.flatten_nil])
                all_goals (simp only [outVn_succ, outHn_succ, LB, subS, subH, wfS, wfH, SV.ren, renL, SObj.ren, SV.wf, SObj.wf, wfL, SV.known, Nat.reduceEqDiff, ↓reduceIte, if_true, if_false, eq_self, Nat.reduceAdd, Nat.reduceLT, Nat.reduceLeDiff, implies_true, reduceCtorEq, forall_const] <;> simp)
              | succ n =>
                have hj2 : ((nwF K (upto D u Q i q)).flatten ++ j).length = c * 24 := by rw [List.length_append, hfO, hn]; rw [hn] at hj; omega
                have gL : ((nwF K (upto D u Q i q)).flatten).length = (n + 1) * 24 := by rw [hfO, hn]
                have tkO : List.take ((n + 1) * 24) ((nwF K (upto D u Q i q)).flatten ++ j) = (nwF K (upto D u Q i q)).flatten := List.take_left' gL
                rw [hn] at bound
                simp -implicitDefEqProofs only [lk_normal, movedBy_F, move_F, hget_outHn, known_outVn, hql, eP, lenP, r24, rf, rr, tkR, hD, tkD, a0, b0, mne, m0, m1, m2, exx, x24, kOK24, kI24, z1, mg, ms, tkx, outVn_succ, outHn_succ, hj2, tkO, List.getD_cons_zero, List.getD_cons_succ, Int.toNat_natCast, ZB, Int.reduceToNat, Nat.reduceLT, Nat.reduceLeDiff, Int.reduceLE, Int.reduceLT, Nat.reduceEqDiff, Nat.reduceSub, SB, SV.known, packR, ne_eq, reduceCtorEq, Nat.reduceEqDiff, ↓reduceIte, if_true, if_false, eq_self, Nat.reduceAdd, Nat.reduceMul, Nat.reduceSub, forall_const, oneCellS, Kd.isSca, flat, TYB]
                have hcn : n + 1 ≤ c := by rw [hn] at hj; omega
                refine ⟨by omega, by omega, hcn, by omega, by omega, fun junk' cap' hj' => ⟨by unfold In64; omega, (q + 1, cap', junk'), ⟨by simp only; omega, by simp only [eo, List.length_append, hn]; simpa using hj'⟩, by simp only; omega, Sub.mk_to 3 9 ?_ ?_ ?_ ?_ ?_ ?_ ?_⟩⟩
                all_goals (try simp only [eo, List.length_append, hn, List.length_cons, List.length_nil, List.flatten_append, List.flatten_cons, List.flatten_nil, List.append_nil, ← List.append_assoc])
                all_goals (simp only [outVn_succ, outHn_succ, LB, subS, subH, wfS, wfH, SV.ren, renL, SObj.ren, SV.wf, SObj.wf, wfL, SV.known, Nat.reduceEqDiff, ↓reduceIte, if_true, if_false, eq_self, Nat.reduceAdd, Nat.reduceLT, Nat.reduceLeDiff, implies_true, reduceCtorEq, forall_const] <;> simp)
          · have hql : ¬ (q : Int) < np := by omega
            obtain rfl : q = np := by omega
            simp -implicitDefEqProofs only [lk_normal, hget_outHn, known_outVn, hql, ZB, Int.reduceToNat, Nat.reduceLT, Nat.reduceLeDiff, Int.reduceLE, Int.reduceLT, Nat.reduceEqDiff, Nat.reduceSub, SB, SV.known, packR, ne_eq, reduceCtorEq, Nat.reduceEqDiff, ↓reduceIte, if_true, if_false, eq_self, Nat.reduceAdd, Nat.reduceMul, Nat.reduceSub, forall_const, oneCellS, Kd.isSca, flat, TYB]
            refine ⟨by unfold In64; omega, (i + 1, c, j), ⟨by simp only; omega, by simp only [← unext]; exact hj⟩, by simp only; omega, Sub.mk_id ?_ ?_ ?_ ?_ ?_⟩
            all_goals (try simp only [← unext])
            all_goals (cases (nwF K (upto D u Q i q)).length <;> simp only [outVn_zero, outVn_succ, outHn_zero, outHn_succ, LB, subS, subH, wfS, wfH, SV.ren, renL, SObj.ren, SV.wf, SObj.wf, wfL, SV.known, Nat.reduceEqDiff, ↓reduceIte, if_true, if_false, eq_self, Nat.reduceAdd, Nat.reduceLT, Nat.reduceLeDiff, implies_true, reduceCtorEq, forall_const] <;> simp)
    · have hil : ¬ (i : Int) < len := by omega
      obtain rfl : i = len := by omega
      simp -implicitDefEqProofs only [lk_normal, hget_outHn, known_outVn, hil, ZB, Int.reduceToNat, Nat.reduceLT, Nat.reduceLeDiff, Int.reduceLE, Int.reduceLT, Nat.reduceEqDiff, Nat.reduceSub, SB, SV.known, packR, ne_eq, reduceCtorEq, Nat.reduceEqDiff, ↓reduceIte, if_true, if_false, eq_self, Nat.reduceAdd, Nat.reduceMul, Nat.reduceSub, forall_const, oneCellS, Kd.isSca, flat, TYB]
      have ue : upto D u Q i 0 = X := by rw [← hX, ← upto_end, hl]
      rw [ue] at hj ⊢
      refine ⟨by cases (nwF K X).length <;> rfl, outVn 2 (nwF K X).length (nwF K X).length c, outHn 2 (nwF K X).length ((nwF K X).flatten ++ j) 28 [(1, .mp true (mk1 (K ++ nwF K X)))], 3, Sub.mk_to 2 3 ?_ ?_ ?_ ?_ ?_ ?_ ?_, c, j, rfl, rfl, rfl, hj⟩
      all_goals (cases (nwF K X).length <;> simp only [outVn_zero, outVn_succ, outHn_zero, outHn_succ, LB, subS, subH, wfS, wfH, SV.ren, renL, SObj.ren, SV.wf, SObj.wf, wfL, SV.known, Nat.reduceEqDiff, ↓reduceIte, if_true, if_false, eq_self, Nat.reduceAdd, Nat.reduceLT, Nat.reduceLeDiff, implies_true, reduceCtorEq, forall_const] <;> simp)
end Go.Proofs.Ytfdpeenamkpcbaa
