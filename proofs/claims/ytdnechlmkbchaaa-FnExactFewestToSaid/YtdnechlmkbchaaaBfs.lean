/- Plain: forms reached by pours, layer by layer. -/
import Derived.Test.YtdnechlmkbchaaaDist
import Derived.Test.YtdnechlmkbchaaaSort
import Derived.Test.YtdnechlmkbchaaaGood
set_option maxRecDepth 100000
set_option linter.unusedSimpArgs false
set_option linter.unusedVariables false
namespace Go.Proofs.Ytdnechlmkbchaaa
open Go Go.RowKit
/-- Forms one pour behind. -/
def sucC (x : List Int) : Nat := (ulF x).length / 2
def sucU (x : List Int) : List (List Int) := (List.range (sucC x)).map (diX x)
theorem sucU_len (x : List Int) : (sucU x).length = sucC x := by simp [sucU]
theorem sucU_getD (x : List Int) {j : Nat} (hj : j < sucC x) : (sucU x).getD j [] = diX x j := by simp [sucU, List.getD, hj]
theorem sucC_le (x : List Int) : sucC x ≤ 36 := by
  obtain ⟨k, h1, h2⟩ := ulF_even x
  unfold sucC; omega
theorem ulF_sucC (x : List Int) : (ulF x).length = sucC x * 2 := by
  obtain ⟨k, h1, h2⟩ := ulF_even x
  unfold sucC; omega
/-- A list of valid racks. -/
def okU (Q : List (List Int)) : Prop := ∀ x ∈ Q, x.length = 24 ∧ rackB x = true
theorem okU.all24 {Q : List (List Int)} (h : okU Q) : all24 Q := fun x hx => (h x hx).1
theorem okU_app {P Q : List (List Int)} (h1 : okU P) (h2 : okU Q) : okU (P ++ Q) := fun x hx => by
  rcases List.mem_append.1 hx with hx | hx
  · exact h1 x hx
  · exact h2 x hx
theorem okU_nw {K xs : List (List Int)} (h : okU xs) : okU (nwF K xs) := fun x hx => h x (nwF_sub K xs x hx).1
theorem flat_getW {w : Nat} : ∀ {Q : List (List Int)}, (∀ x ∈ Q, x.length = w) → ∀ {i : Nat}, i < Q.length → (Q.flatten.drop (i * w)).take w = Q.getD i []
  | [], _, i, hi => by simp at hi
  | x :: Q, h, i, hi => by
    have hx := h x (List.mem_cons_self ..)
    rw [List.flatten_cons]
    cases i with
    | zero => rw [Nat.zero_mul, List.drop_zero, List.take_left' hx]; rfl
    | succ i =>
      rw [show (i + 1) * w = w + i * w by rw [Nat.add_mul]; omega, ← List.drop_drop, List.drop_left' hx, flat_getW (fun y hy => h y (List.mem_cons_of_mem _ hy)) (by simpa using hi)]
      rfl
theorem rack_frm {R : List Int} (hR : R.length = 24) (hr : rackB R = true) : rackB (frm R) = true := by
  have h4 : ∀ y ∈ srtT (tubs R), y.length = 4 := fun y hy => tubs_len hR y ((srtT_perm _).mem_iff.1 hy)
  have hl : (srtT (tubs R)).length = 6 := by rw [(srtT_perm _).length_eq]; simp [tubs]
  have e : tubesOf (frm R) 0 6 = srtT (tubs R) := by
    refine List.ext_getElem (by rw [tubesOf_len, hl]) fun i h1 h2 => ?_
    have e1 := flat_getW h4 h2
    simp only [tubesOf, List.getElem_map, List.getElem_range, Nat.zero_add]
    unfold frm
    rw [e1, List.getD_eq_getElem?_getD, List.getElem?_eq_getElem h2]; rfl
  have e2 : tubesOf R 0 6 = tubs R := by
    unfold tubesOf tubs tubeAt
    simp
  unfold rackB at hr ⊢
  rw [e, List.all_eq_true]
  intro x hx
  exact List.all_eq_true.1 hr x (by rw [e2]; exact (srtT_perm _).mem_iff.1 hx)
theorem kept_pair {np : List Int → Bool} {L : List Int} : ∀ k, k * 2 ≤ L.length → ∀ i, i * 2 + 2 ≤ (kept np L k).length → ∃ j, j < k ∧ ((kept np L k).drop (i * 2)).take 2 = (L.drop (j * 2)).take 2 ∧ np ((L.drop (j * 2)).take 2) = true
  | 0, _, i, h => by simp [kept_zero] at h
  | k + 1, hk, i, h => by
    obtain ⟨n, hn, _⟩ := kept_even np L k (by omega)
    have l2 : ((L.drop (k * 2)).take 2).length = 2 := by rw [List.length_take, List.length_drop]; omega
    rw [kept_succ] at h ⊢
    by_cases hi : i * 2 + 2 ≤ n * 2
    · obtain ⟨j, h1, h2, h3⟩ := kept_pair (np := np) (L := L) k (by omega) i (by omega)
      refine ⟨j, by omega, ?_, h3⟩
      rw [List.drop_append_of_le_length (by omega), List.take_append_of_le_length (by rw [List.length_drop]; omega)]
      exact h2
    · split at h
      · rename_i hc
        rw [List.length_append, hn, l2] at h
        have : i = n := by omega
        subst this
        refine ⟨k, by omega, ?_, hc⟩
        rw [if_pos hc, List.drop_left' hn, List.take_of_length_le (by omega)]
      · simp at h; omega
theorem ul_can {R : List Int} (hr : rackB R = true) {q : Nat} (hq : q < sucC R) : canF R ((ulF R).getD (q * 2) 0) ((ulF R).getD (q * 2 + 1) 0) = true := by
  have hl := ulF_sucC R
  obtain ⟨m, hm, _⟩ := PL_even R 36
  obtain ⟨j, h1, h2, _⟩ := kept_pair (np := fun p => !idleF R p) (L := PL R 36) ((PL R 36).length / 2) (by omega) q (by show q * 2 + 2 ≤ (ulF R).length; omega)
  have h2' : ((ulF R).drop (q * 2)).take 2 = ((PL R 36).drop (j * 2)).take 2 := h2
  rw [take2_drop _ _ (by omega), take2_drop _ _ (by omega)] at h2'
  simp only [List.cons.injEq, and_true] at h2'
  rw [h2'.1, h2'.2]
  exact qCan_pair hr j (by omega)
theorem diX_rack {R : List Int} (hR : R.length = 24) (hr : rackB R = true) {q : Nat} (hq : q < sucC R) : rackB (diX R q) = true := by
  have hl := ulF_sucC R
  obtain ⟨a0, b0⟩ := ul_bd (R := R) (q := q) (by omega)
  exact rack_frm (pourF_len hR _ _) (pour_rack hR hr a0 b0 (ul_can hr hq))
theorem okU_suc {Q : List (List Int)} (h : okU Q) : okU (Q.flatMap sucU) := fun x hx => by
  obtain ⟨y, hy, hx⟩ := List.mem_flatMap.1 hx
  obtain ⟨q, hq, rfl⟩ := List.mem_map.1 hx
  obtain ⟨y24, yr⟩ := h y hy
  exact ⟨diX_len y24 q, diX_rack y24 yr (List.mem_range.1 hq)⟩
/-- Up to some racks, and up to some pours of the next one. -/
def upU (Q : List (List Int)) (i j : Nat) : List (List Int) := (Q.take i).flatMap sucU ++ (sucU (Q.getD i [])).take j
theorem upU_zero (Q : List (List Int)) : upU Q 0 0 = [] := by simp [upU]
theorem upU_next (Q : List (List Int)) {i : Nat} (hi : i < Q.length) : upU Q i (sucC (Q.getD i [])) = upU Q (i + 1) 0 := by
  unfold upU
  have e : (sucU (Q.getD i [])).take (sucC (Q.getD i [])) = sucU (Q.getD i []) := List.take_of_length_le (by rw [sucU_len]; omega)
  rw [e, take_succ_getD Q i hi, List.flatMap_append, List.take_zero, List.append_nil, List.flatMap_cons, List.flatMap_nil, List.append_nil]
theorem upU_snoc (Q : List (List Int)) {i j : Nat} (hj : j < sucC (Q.getD i [])) : upU Q i (j + 1) = upU Q i j ++ [diX (Q.getD i []) j] := by
  unfold upU
  rw [take_succ_getD _ _ (by rw [sucU_len]; exact hj), List.append_assoc, sucU_getD _ hj]
theorem upU_end (Q : List (List Int)) : upU Q Q.length 0 = Q.flatMap sucU := by
  unfold upU
  rw [List.take_of_length_le (by omega), List.take_zero, List.append_nil]
theorem upU_ok {Q : List (List Int)} (h : okU Q) {i j : Nat} (hi : i < Q.length ∨ j = 0) : okU (upU Q i j) := by
  unfold upU
  refine okU_app (okU_suc fun x hx => h x (List.mem_of_mem_take hx)) fun x hx => ?_
  rcases hi with hi | hj
  · exact okU_suc h x (List.mem_flatMap.2 ⟨Q.getD i [], getD_mem hi, List.mem_of_mem_take hx⟩)
  · subst hj; simp at hx
theorem fmU_len : ∀ Q : List (List Int), (Q.flatMap sucU).length ≤ 36 * Q.length
  | [] => by simp
  | x :: Q => by
    rw [List.flatMap_cons, List.length_append, sucU_len, List.length_cons]
    have := fmU_len Q
    have := sucC_le x
    omega
theorem upU_len (Q : List (List Int)) (i j : Nat) : (upU Q i j).length ≤ 36 * i + j := by
  unfold upU
  rw [List.length_append, List.length_take]
  have := fmU_len (Q.take i)
  have h2 := List.length_take (i := i) (l := Q)
  omega
/-! Layers. -/
def lk (R : List Int) : Nat → List (List Int) × List (List Int)
  | 0 => ([frm R], [frm R])
  | d + 1 => ((lk R d).1 ++ nwF (lk R d).1 ((lk R d).2.flatMap sucU), nwF (lk R d).1 ((lk R d).2.flatMap sucU))
def kn (R : List Int) (d : Nat) : List (List Int) := (lk R d).1
def lay (R : List Int) (d : Nat) : List (List Int) := (lk R d).2
theorem kn_zero (R : List Int) : kn R 0 = [frm R] := rfl
theorem lay_zero (R : List Int) : lay R 0 = [frm R] := rfl
theorem lay_succ (R : List Int) (d : Nat) : lay R (d + 1) = nwF (kn R d) ((lay R d).flatMap sucU) := rfl
theorem kn_succ (R : List Int) (d : Nat) : kn R (d + 1) = kn R d ++ lay R (d + 1) := rfl
theorem lk_ok {R : List Int} (hR : R.length = 24) (hr : rackB R = true) : ∀ d, okU (kn R d) ∧ okU (lay R d)
  | 0 => by
    have : okU [frm R] := fun x hx => by
      rw [List.mem_singleton] at hx; subst hx; exact ⟨frm_len hR, rack_frm hR hr⟩
    exact ⟨this, this⟩
  | d + 1 => by
    obtain ⟨h1, h2⟩ := lk_ok hR hr d
    have h3 : okU (lay R (d + 1)) := okU_nw (okU_suc h2)
    exact ⟨okU_app h1 h3, h3⟩
theorem kn_len (R : List Int) (d : Nat) : (kn R (d + 1)).length = (kn R d).length + (lay R (d + 1)).length := by rw [kn_succ, List.length_append]
theorem layU_le (R : List Int) (d : Nat) : (lay R (d + 1)).length ≤ 36 * (lay R d).length := by
  rw [lay_succ]
  have := nwF_len (kn R d) ((lay R d).flatMap sucU)
  have := fmU_len (lay R d)
  omega
theorem lay_kn (R : List Int) : ∀ d, (lay R d).length ≤ (kn R d).length
  | 0 => Nat.le_refl _
  | d + 1 => by rw [kn_len]; omega
theorem kn_mono (R : List Int) {d : Nat} : ∀ {e : Nat}, d ≤ e → (kn R d).length ≤ (kn R e).length
  | 0, h => by obtain rfl : d = 0 := by omega
               exact Nat.le_refl _
  | e + 1, h => by
    by_cases he : d ≤ e
    · have := kn_mono R (d := d) he
      rw [kn_len]; omega
    · obtain rfl : d = e + 1 := by omega
      exact Nat.le_refl _
/-- Nothing new any more. -/
theorem lay_nil (R : List Int) {d : Nat} (h : lay R d = []) : ∀ e, d ≤ e → lay R e = [] ∧ kn R e = kn R d := by
  intro e he
  induction e with
  | zero => obtain rfl : d = 0 := by omega
            exact ⟨h, rfl⟩
  | succ e ih =>
    by_cases hd : d ≤ e
    · obtain ⟨h1, h2⟩ := ih hd
      have h3 : lay R (e + 1) = [] := by rw [lay_succ, h1]; rfl
      exact ⟨h3, by rw [kn_succ, h3, h2, List.append_nil]⟩
    · obtain rfl : d = e + 1 := by omega
      exact ⟨h, rfl⟩
theorem kn_nodup (R : List Int) : ∀ d, (kn R d).Nodup
  | 0 => by simp [kn_zero]
  | d + 1 => by
    have hn : ∀ K xs : List (List Int), (nwF K xs).Nodup := fun K xs => by
      refine snoc_ind (P := fun xs => (nwF K xs).Nodup) (by simp [nwF]) (fun l x ih => ?_) xs
      by_cases h : x ∈ K ++ nwF K l
      · rw [nwF_old h]; exact ih
      · rw [nwF_new h, List.nodup_append]
        refine ⟨ih, by simp, fun a ha b hb hab => ?_⟩
        rw [List.mem_singleton] at hb
        subst hb; subst hab
        exact h (List.mem_append_right _ ha)
    rw [kn_succ, List.nodup_append]
    refine ⟨kn_nodup R d, hn _ _, fun a ha b hb hab => ?_⟩
    subst hab
    exact (nwF_sub _ _ a hb).2 ha
/-! When a search stops. -/
def ovf (R : List Int) (d : Nat) : Bool := decide (600 < (kn R d).length)
def stp (pr : List Int → Bool) (R : List Int) (d : Nat) : Bool := ovf R d || ((lay R d).any pr || (lay R d).isEmpty)
def fsN (p : Nat → Bool) : Nat → Nat → Nat
  | 0, d => d
  | f + 1, d => if p d = true then d else fsN p f (d + 1)
theorem fsN_eq {p : Nat → Bool} : ∀ {f d e : Nat}, d ≤ e → e ≤ d + f → p e = true → (∀ k, d ≤ k → k < e → p k = false) → fsN p f d = e
  | 0, d, e, h1, h2, h3, h4 => by show d = e; omega
  | f + 1, d, e, h1, h2, h3, h4 => by
    unfold fsN
    by_cases hde : d = e
    · subst hde; rw [if_pos h3]
    · have := h4 d (by omega) (by omega)
      rw [if_neg (by rw [this]; simp)]
      exact fsN_eq (by omega) (by omega) h3 fun k hk1 hk2 => h4 k (by omega) hk2
/-- The depth at which a search stops. -/
def dep (pr : List Int → Bool) (R : List Int) : Nat := fsN (stp pr R) 700 0
theorem pass_len {pr : List Int → Bool} {R : List Int} : ∀ {d : Nat}, (∀ k, k < d → stp pr R k = false) → d + 1 ≤ (kn R d).length + (if (lay R d).isEmpty = true then 1 else 0)
  | 0, _ => by rw [kn_zero]; simp
  | d + 1, h => by
    have ih := pass_len (d := d) fun k hk => h k (by omega)
    have hd := h d (by omega)
    unfold stp at hd
    simp only [Bool.or_eq_false_iff] at hd
    have e1 := hd.2.2
    rw [e1] at ih
    simp only [Bool.false_eq_true, if_false, Nat.add_zero] at ih
    rw [kn_len]
    by_cases he : (lay R (d + 1)).isEmpty = true
    · rw [if_pos he]; omega
    · rw [if_neg he]
      have : 0 < (lay R (d + 1)).length := by
        rcases Nat.eq_zero_or_pos (lay R (d + 1)).length with h0 | h0
        · exact absurd (by rw [List.length_eq_zero_iff.1 h0]; rfl) he
        · exact h0
      omega
theorem dep_eq {pr : List Int → Bool} {R : List Int} {d : Nat} (h1 : stp pr R d = true) (h2 : ∀ k, k < d → stp pr R k = false) : dep pr R = d := by
  have hd : d ≤ 700 := by
    cases d with
    | zero => omega
    | succ d =>
      have h3 := h2 d (by omega)
      have := pass_len (d := d) fun k hk => h2 k (by omega)
      unfold stp at h3
      simp only [Bool.or_eq_false_iff] at h3
      have e1 := h3.2.2
      have e2 := h3.1
      unfold ovf at e2
      have e3 := of_decide_eq_false e2
      rw [e1] at this
      simp only [Bool.false_eq_true, if_false] at this
      omega
  exact fsN_eq (Nat.zero_le _) (by omega) h1 fun k _ hk => h2 k hk
theorem pass_bound {pr : List Int → Bool} {R : List Int} {d : Nat} (h : ∀ k, k ≤ d → stp pr R k = false) : d ≤ 600 ∧ (kn R d).length ≤ 600 ∧ (lay R d).any pr = false ∧ lay R d ≠ [] := by
  have h3 := h d (Nat.le_refl _)
  have := pass_len (d := d) fun k hk => h k (by omega)
  unfold stp at h3
  simp only [Bool.or_eq_false_iff] at h3
  have e2 := h3.1
  unfold ovf at e2
  have e3 := of_decide_eq_false e2
  rw [h3.2.2] at this
  simp only [Bool.false_eq_true, if_false] at this
  refine ⟨by omega, by omega, h3.2.1, fun h0 => ?_⟩
  have := h3.2.2
  rw [h0] at this
  cases this
/-! Levels. -/
def lvl (R : List Int) : Nat → List Int
  | 0 => [0]
  | d + 1 => lvl R d ++ List.replicate (lay R (d + 1)).length ((d + 1 : Nat) : Int)
theorem lvl_zero (R : List Int) : lvl R 0 = [0] := rfl
theorem lvl_succ (R : List Int) (d : Nat) : lvl R (d + 1) = lvl R d ++ List.replicate (lay R (d + 1)).length ((d + 1 : Nat) : Int) := rfl
theorem lvl_len (R : List Int) : ∀ d, (lvl R d).length = (kn R d).length
  | 0 => rfl
  | d + 1 => by rw [lvl_succ, List.length_append, List.length_replicate, lvl_len R d, kn_len]
/-! Maps from racks to numbers. -/
theorem zip_len {K : List (List Int)} {P : List Int} (h : K.length = P.length) : (K.zip P).length = K.length := by rw [List.length_zip]; omega
theorem zip_keys {K : List (List Int)} (P : List Int) (h : all24 K) : keysOK (K.zip P) 24 := fun q hq => h _ (List.of_mem_zip hq).1
theorem mhas_zip (x : List Int) : ∀ {K : List (List Int)} {P : List Int}, K.length = P.length → mhas (K.zip P) x = decide (x ∈ K)
  | [], _, _ => rfl
  | k :: K, [], h => by simp at h
  | k :: K, p :: P, h => by
    show (if x = k then true else mhas (K.zip P) x) = _
    rw [mhas_zip x (by simpa using h)]
    by_cases hk : x = k
    · simp [hk]
    · simp [hk]
theorem mset_zip {x : List Int} {v : Int} : ∀ {K : List (List Int)} {P : List Int}, K.length = P.length → x ∉ K → mset (K.zip P) x v = (K ++ [x]).zip (P ++ [v])
  | [], [], _, _ => rfl
  | [], _ :: _, h, _ => by simp at h
  | k :: K, [], h, _ => by simp at h
  | k :: K, p :: P, h, hx => by
    have h1 : ¬ x = k := fun e => hx (e ▸ List.mem_cons_self ..)
    have ih := mset_zip (x := x) (v := v) (K := K) (P := P) (by simpa using h) fun hh => hx (List.mem_cons_of_mem _ hh)
    show (if x = k then (k, v) :: K.zip P else (k, p) :: mset (K.zip P) x v) = _
    rw [if_neg h1, ih]; rfl
end Go.Proofs.Ytdnechlmkbchaaa
