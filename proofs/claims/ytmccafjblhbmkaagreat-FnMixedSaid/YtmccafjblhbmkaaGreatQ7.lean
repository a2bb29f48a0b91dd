/- Texts of this claim, joined (FP0, Dist, Bfs, Beh, Hid, Rank, IsV, CS, SO0, MX9, Sl1, Along, Mix, DoP, RE0). -/
import Derived.Test.YtmccafjblhbmkaaGreatQ1
import Derived.Test.YtmccafjblhbmkaaGreatQ2
import Derived.Test.YtmccafjblhbmkaaGreatQ3
import Derived.Test.YtmccafjblhbmkaaGreatQ4
import Derived.Test.YtmccafjblhbmkaaGreatQ5
import Derived.Test.YtmccafjblhbmkaaGreatQ6
set_option maxRecDepth 100000
set_option linter.unusedSimpArgs false
set_option linter.unusedVariables false
namespace Go.Proofs.YtmccafjblhbmkaaGreat
open Go Go.RowKit
/-- Is a pair among these? -/
def inP (L : List Int) (m : Nat) (p : List Int) : Bool := (List.range m).any fun i => decide ((L.drop (i * 2)).take 2 = p)
theorem inP_zero (L p : List Int) : inP L 0 p = false := rfl
theorem inP_of {L p : List Int} {m i : Nat} (hi : i < m) (h : (L.drop (i * 2)).take 2 = p) : inP L m p = true := List.any_eq_true.2 ⟨i, List.mem_range.2 hi, by simp [h]⟩
theorem inP_not {L p : List Int} {m : Nat} (h : ∀ i, i < m → (L.drop (i * 2)).take 2 ≠ p) : inP L m p = false := List.any_eq_false.2 fun i hi => by simpa using h i (List.mem_range.1 hi)
/-! A pour exchanges cells. -/
/-! Sorted racks. -/
theorem srt_facts {R : List Int} : ∀ (k : Nat) (s : List Int), srtF R k = some s → (∀ i, i < k → rcN R i = 0 ∨ (rcN R i = 1 ∧ rcC R i ∈ s)) ∧ (∀ i j, i < j → j < k → rcN R i = 1 → rcN R j = 1 → rcC R i ≠ rcC R j)
  | 0, s, h => ⟨fun i hi => absurd hi (by omega), fun i j _ hj => absurd hj (by omega)⟩
  | k + 1, s, h => by
    cases hk : srtF R k with
    | none => simp [srtF, hk] at h
    | some s' =>
      obtain ⟨h1, h2⟩ := srt_facts k s' hk
      rw [srt_step hk] at h
      by_cases h0 : rcN R k = 0
      · rw [if_pos h0] at h
        cases h
        refine ⟨fun i hi => ?_, fun i j hij hj hi1 hj1 => ?_⟩
        · by_cases hik : i = k
          · subst hik; exact .inl h0
          · exact h1 i (by omega)
        · by_cases hjk : j = k
          · subst hjk; omega
          · exact h2 i j hij (by omega) hi1 hj1
      · rw [if_neg h0] at h
        by_cases h3 : 1 < rcN R k ∨ rcC R k ∈ s'
        · rw [if_pos h3] at h; cases h
        · rw [if_neg h3] at h
          cases h
          have h4 : ¬ 1 < rcN R k := fun h => h3 (.inl h)
          have h5 : rcC R k ∉ s' := fun h => h3 (.inr h)
          refine ⟨fun i hi => ?_, fun i j hij hj hi1 hj1 => ?_⟩
          · by_cases hik : i = k
            · subst hik
              exact .inr ⟨by omega, List.mem_append_right _ (List.mem_singleton.2 rfl)⟩
            · rcases h1 i (by omega) with h | h
              · exact .inl h
              · exact .inr ⟨h.1, List.mem_append_left _ h.2⟩
          · by_cases hjk : j = k
            · subst hjk
              intro he
              rcases h1 i hij with h | h
              · omega
              · exact h5 (he ▸ h.2)
            · exact h2 i j hij (by omega) hi1 hj1
end Go.Proofs.YtmccafjblhbmkaaGreat
set_option maxRecDepth 100000
set_option linter.unusedSimpArgs false
set_option linter.unusedVariables false
namespace Go.Proofs.YtmccafjblhbmkaaGreat
open Go Go.RowKit
def diX (R : List Int) (q : Nat) : List Int := frm (pourF R ((ulF R).getD (q * 2) 0).toNat ((ulF R).getD (q * 2 + 1) 0).toNat)
theorem kept_bd {np : List Int → Bool} {L : List Int} {a b : Int} (h : Bd a b L) : ∀ k, Bd a b (kept np L k)
  | 0 => fun x hx => by simp [kept_zero] at hx
  | k + 1 => fun x hx => by
    rw [kept_succ] at hx
    rcases List.mem_append.1 hx with hx | hx
    · exact kept_bd h k x hx
    · split at hx
      · exact (h.drop _).take _ x hx
      · simp at hx
theorem ul_bd {R : List Int} {q : Nat} (h : q * 2 + 2 ≤ (ulF R).length) : (0 ≤ (ulF R).getD (q * 2) 0 ∧ (ulF R).getD (q * 2) 0 ≤ 5) ∧ (0 ≤ (ulF R).getD (q * 2 + 1) 0 ∧ (ulF R).getD (q * 2 + 1) 0 ≤ 5) := by
  have hbd : Bd 0 5 (ulF R) := kept_bd (PL_bd R 36 (by omega)) _
  exact ⟨hbd.getD (by omega), hbd.getD (by omega)⟩
theorem diX_len {R : List Int} (hR : R.length = 24) (q : Nat) : (diX R q).length = 24 := frm_len (pourF_len hR _ _)
end Go.Proofs.YtmccafjblhbmkaaGreat
set_option maxRecDepth 100000
set_option linter.unusedSimpArgs false
set_option linter.unusedVariables false
namespace Go.Proofs.YtmccafjblhbmkaaGreat
open Go Go.RowKit
/-- Forms one pour behind. -/
def sucC (x : List Int) : Nat := (ulF x).length / 2
def sucU (x : List Int) : List (List Int) := (List.range (sucC x)).map (diX x)
theorem sucU_len (x : List Int) : (sucU x).length = sucC x := by simp [sucU]
theorem sucU_getD (x : List Int) {j : Nat} (hj : j < sucC x) : (sucU x).getD j [] = diX x j := by simp [sucU, List.getD, hj]
theorem sucC_le (x : List Int) : sucC x ≤ 36 := by
  obtain ⟨k, h1, h2⟩ := ulF_even x
  unfold sucC; omega
theorem ulF_sucC (x : List Int) : (ulF x).length = sucC x * 2 := by
  obtain ⟨k, h1, h2⟩ := ulF_even x
  unfold sucC; omega
/-- A list of valid racks. -/
def okU (Q : List (List Int)) : Prop := ∀ x ∈ Q, x.length = 24 ∧ rackB x = true
theorem okU.all24 {Q : List (List Int)} (h : okU Q) : all24 Q := fun x hx => (h x hx).1
theorem okU_app {P Q : List (List Int)} (h1 : okU P) (h2 : okU Q) : okU (P ++ Q) := fun x hx => by
  rcases List.mem_append.1 hx with hx | hx
  · exact h1 x hx
  · exact h2 x hx
theorem okU_nw {K xs : List (List Int)} (h : okU xs) : okU (nwF K xs) := fun x hx => h x (nwF_sub K xs x hx).1
theorem flat_getW {w : Nat} : ∀ {Q : List (List Int)}, (∀ x ∈ Q, x.length = w) → ∀ {i : Nat}, i < Q.length → (Q.flatten.drop (i * w)).take w = Q.getD i []
  | [], _, i, hi => by simp at hi
  | x :: Q, h, i, hi => by
    have hx := h x (List.mem_cons_self ..)
    rw [List.flatten_cons]
    cases i with
    | zero => rw [Nat.zero_mul, List.drop_zero, List.take_left' hx]; rfl
    | succ i =>
      rw [show (i + 1) * w = w + i * w by rw [Nat.add_mul]; omega, ← List.drop_drop, List.drop_left' hx, flat_getW (fun y hy => h y (List.mem_cons_of_mem _ hy)) (by simpa using hi)]
      rfl
theorem rack_frm {R : List Int} (hR : R.length = 24) (hr : rackB R = true) : rackB (frm R) = true := by
  have h4 : ∀ y ∈ srtT (tubs R), y.length = 4 := fun y hy => tubs_len hR y ((srtT_perm _).mem_iff.1 hy)
  have hl : (srtT (tubs R)).length = 6 := by rw [(srtT_perm _).length_eq]; simp [tubs]
  have e : tubesOf (frm R) 0 6 = srtT (tubs R) := by
    refine List.ext_getElem (by rw [tubesOf_len, hl]) fun i h1 h2 => ?_
    have e1 := flat_getW h4 h2
    simp only [tubesOf, List.getElem_map, List.getElem_range, Nat.zero_add]
    unfold frm
    rw [e1, List.getD_eq_getElem?_getD, List.getElem?_eq_getElem h2]; rfl
  have e2 : tubesOf R 0 6 = tubs R := by
    unfold tubesOf tubs tubeAt
    simp
  unfold rackB at hr ⊢
  rw [e, List.all_eq_true]
  intro x hx
  exact List.all_eq_true.1 hr x (by rw [e2]; exact (srtT_perm _).mem_iff.1 hx)
theorem ul_can {R : List Int} (hr : rackB R = true) {q : Nat} (hq : q < sucC R) : canF R ((ulF R).getD (q * 2) 0) ((ulF R).getD (q * 2 + 1) 0) = true := by
  have hl := ulF_sucC R
  obtain ⟨m, hm, _⟩ := PL_even R 36
  obtain ⟨j, h1, h2, _⟩ := kept_pair (np := fun p => !idleF R p) (L := PL R 36) ((PL R 36).length / 2) (by omega) q (by show q * 2 + 2 ≤ (ulF R).length; omega)
  have h2' : ((ulF R).drop (q * 2)).take 2 = ((PL R 36).drop (j * 2)).take 2 := h2
  rw [take2_drop _ _ (by omega), take2_drop _ _ (by omega)] at h2'
  simp only [List.cons.injEq, and_true] at h2'
  rw [h2'.1, h2'.2]
  exact qCan_pair hr j (by omega)
theorem diX_rack {R : List Int} (hR : R.length = 24) (hr : rackB R = true) {q : Nat} (hq : q < sucC R) : rackB (diX R q) = true := by
  have hl := ulF_sucC R
  obtain ⟨a0, b0⟩ := ul_bd (R := R) (q := q) (by omega)
  exact rack_frm (pourF_len hR _ _) (pour_rack hR hr a0 b0 (ul_can hr hq))
theorem okU_suc {Q : List (List Int)} (h : okU Q) : okU (Q.flatMap sucU) := fun x hx => by
  obtain ⟨y, hy, hx⟩ := List.mem_flatMap.1 hx
  obtain ⟨q, hq, rfl⟩ := List.mem_map.1 hx
  obtain ⟨y24, yr⟩ := h y hy
  exact ⟨diX_len y24 q, diX_rack y24 yr (List.mem_range.1 hq)⟩
/-- Up to some racks, and up to some pours of the next one. -/
def upU (Q : List (List Int)) (i j : Nat) : List (List Int) := (Q.take i).flatMap sucU ++ (sucU (Q.getD i [])).take j
theorem upU_zero (Q : List (List Int)) : upU Q 0 0 = [] := by simp [upU]
theorem upU_next (Q : List (List Int)) {i : Nat} (hi : i < Q.length) : upU Q i (sucC (Q.getD i [])) = upU Q (i + 1) 0 := by
  unfold upU
  have e : (sucU (Q.getD i [])).take (sucC (Q.getD i [])) = sucU (Q.getD i []) := List.take_of_length_le (by rw [sucU_len]; omega)
  rw [e, take_succ_getD Q i hi, List.flatMap_append, List.take_zero, List.append_nil, List.flatMap_cons, List.flatMap_nil, List.append_nil]
theorem upU_snoc (Q : List (List Int)) {i j : Nat} (hj : j < sucC (Q.getD i [])) : upU Q i (j + 1) = upU Q i j ++ [diX (Q.getD i []) j] := by
  unfold upU
  rw [take_succ_getD _ _ (by rw [sucU_len]; exact hj), List.append_assoc, sucU_getD _ hj]
theorem upU_end (Q : List (List Int)) : upU Q Q.length 0 = Q.flatMap sucU := by
  unfold upU
  rw [List.take_of_length_le (by omega), List.take_zero, List.append_nil]
theorem upU_ok {Q : List (List Int)} (h : okU Q) {i j : Nat} (hi : i < Q.length ∨ j = 0) : okU (upU Q i j) := by
  unfold upU
  refine okU_app (okU_suc fun x hx => h x (List.mem_of_mem_take hx)) fun x hx => ?_
  rcases hi with hi | hj
  · exact okU_suc h x (List.mem_flatMap.2 ⟨Q.getD i [], getD_mem hi, List.mem_of_mem_take hx⟩)
  · subst hj; simp at hx
theorem fmU_len : ∀ Q : List (List Int), (Q.flatMap sucU).length ≤ 36 * Q.length
  | [] => by simp
  | x :: Q => by
    rw [List.flatMap_cons, List.length_append, sucU_len, List.length_cons]
    have := fmU_len Q
    have := sucC_le x
    omega
theorem upU_len (Q : List (List Int)) (i j : Nat) : (upU Q i j).length ≤ 36 * i + j := by
  unfold upU
  rw [List.length_append, List.length_take]
  have := fmU_len (Q.take i)
  have h2 := List.length_take (i := i) (l := Q)
  omega
/-! Layers. -/
def lk (R : List Int) : Nat → List (List Int) × List (List Int)
  | 0 => ([frm R], [frm R])
  | d + 1 => ((lk R d).1 ++ nwF (lk R d).1 ((lk R d).2.flatMap sucU), nwF (lk R d).1 ((lk R d).2.flatMap sucU))
def kn (R : List Int) (d : Nat) : List (List Int) := (lk R d).1
def lay (R : List Int) (d : Nat) : List (List Int) := (lk R d).2
theorem kn_zero (R : List Int) : kn R 0 = [frm R] := rfl
theorem lay_zero (R : List Int) : lay R 0 = [frm R] := rfl
theorem kn_succ (R : List Int) (d : Nat) : kn R (d + 1) = kn R d ++ lay R (d + 1) := rfl
theorem lk_ok {R : List Int} (hR : R.length = 24) (hr : rackB R = true) : ∀ d, okU (kn R d) ∧ okU (lay R d)
  | 0 => by
    have : okU [frm R] := fun x hx => by
      rw [List.mem_singleton] at hx; subst hx; exact ⟨frm_len hR, rack_frm hR hr⟩
    exact ⟨this, this⟩
  | d + 1 => by
    obtain ⟨h1, h2⟩ := lk_ok hR hr d
    have h3 : okU (lay R (d + 1)) := okU_nw (okU_suc h2)
    exact ⟨okU_app h1 h3, h3⟩
theorem kn_len (R : List Int) (d : Nat) : (kn R (d + 1)).length = (kn R d).length + (lay R (d + 1)).length := by rw [kn_succ, List.length_append]
theorem lay_kn (R : List Int) : ∀ d, (lay R d).length ≤ (kn R d).length
  | 0 => Nat.le_refl _
  | d + 1 => by rw [kn_len]; omega
/-! When a search stops. -/
def ovf (R : List Int) (d : Nat) : Bool := decide (600 < (kn R d).length)
def stp (pr : List Int → Bool) (R : List Int) (d : Nat) : Bool := ovf R d || ((lay R d).any pr || (lay R d).isEmpty)
def fsN (p : Nat → Bool) : Nat → Nat → Nat
  | 0, d => d
  | f + 1, d => if p d = true then d else fsN p f (d + 1)
theorem fsN_eq {p : Nat → Bool} : ∀ {f d e : Nat}, d ≤ e → e ≤ d + f → p e = true → (∀ k, d ≤ k → k < e → p k = false) → fsN p f d = e
  | 0, d, e, h1, h2, h3, h4 => by show d = e; omega
  | f + 1, d, e, h1, h2, h3, h4 => by
    unfold fsN
    by_cases hde : d = e
    · subst hde; rw [if_pos h3]
    · have := h4 d (by omega) (by omega)
      rw [if_neg (by rw [this]; simp)]
      exact fsN_eq (by omega) (by omega) h3 fun k hk1 hk2 => h4 k (by omega) hk2
/-- The depth at which a search stops. -/
def dep (pr : List Int → Bool) (R : List Int) : Nat := fsN (stp pr R) 700 0
theorem pass_len {pr : List Int → Bool} {R : List Int} : ∀ {d : Nat}, (∀ k, k < d → stp pr R k = false) → d + 1 ≤ (kn R d).length + (if (lay R d).isEmpty = true then 1 else 0)
  | 0, _ => by rw [kn_zero]; simp
  | d + 1, h => by
    have ih := pass_len (d := d) fun k hk => h k (by omega)
    have hd := h d (by omega)
    unfold stp at hd
    simp only [Bool.or_eq_false_iff] at hd
    have e1 := hd.2.2
    rw [e1] at ih
    simp only [Bool.false_eq_true, if_false, Nat.add_zero] at ih
    rw [kn_len]
    by_cases he : (lay R (d + 1)).isEmpty = true
    · rw [if_pos he]; omega
    · rw [if_neg he]
      have : 0 < (lay R (d + 1)).length := by
        rcases Nat.eq_zero_or_pos (lay R (d + 1)).length with h0 | h0
        · exact absurd (by rw [List.length_eq_zero_iff.1 h0]; rfl) he
        · exact h0
      omega
theorem dep_eq {pr : List Int → Bool} {R : List Int} {d : Nat} (h1 : stp pr R d = true) (h2 : ∀ k, k < d → stp pr R k = false) : dep pr R = d := by
  have hd : d ≤ 700 := by
    cases d with
    | zero => omega
    | succ d =>
      have h3 := h2 d (by omega)
      have := pass_len (d := d) fun k hk => h2 k (by omega)
      unfold stp at h3
      simp only [Bool.or_eq_false_iff] at h3
      have e1 := h3.2.2
      have e2 := h3.1
      unfold ovf at e2
      have e3 := of_decide_eq_false e2
      rw [e1] at this
      simp only [Bool.false_eq_true, if_false] at this
      omega
  exact fsN_eq (Nat.zero_le _) (by omega) h1 fun k _ hk => h2 k hk
theorem pass_bound {pr : List Int → Bool} {R : List Int} {d : Nat} (h : ∀ k, k ≤ d → stp pr R k = false) : d ≤ 600 ∧ (kn R d).length ≤ 600 ∧ (lay R d).any pr = false ∧ lay R d ≠ [] := by
  have h3 := h d (Nat.le_refl _)
  have := pass_len (d := d) fun k hk => h k (by omega)
  unfold stp at h3
  simp only [Bool.or_eq_false_iff] at h3
  have e2 := h3.1
  unfold ovf at e2
  have e3 := of_decide_eq_false e2
  rw [h3.2.2] at this
  simp only [Bool.false_eq_true, if_false] at this
  refine ⟨by omega, by omega, h3.2.1, fun h0 => ?_⟩
  have := h3.2.2
  rw [h0] at this
  cases this
/-! Levels. -/
def lvl (R : List Int) : Nat → List Int
  | 0 => [0]
  | d + 1 => lvl R d ++ List.replicate (lay R (d + 1)).length ((d + 1 : Nat) : Int)
theorem lvl_zero (R : List Int) : lvl R 0 = [0] := rfl
theorem lvl_succ (R : List Int) (d : Nat) : lvl R (d + 1) = lvl R d ++ List.replicate (lay R (d + 1)).length ((d + 1 : Nat) : Int) := rfl
theorem lvl_len (R : List Int) : ∀ d, (lvl R d).length = (kn R d).length
  | 0 => rfl
  | d + 1 => by rw [lvl_succ, List.length_append, List.length_replicate, lvl_len R d, kn_len]
/-! Maps from racks to numbers. -/
theorem zip_len {K : List (List Int)} {P : List Int} (h : K.length = P.length) : (K.zip P).length = K.length := by rw [List.length_zip]; omega
theorem zip_keys {K : List (List Int)} (P : List Int) (h : all24 K) : keysOK (K.zip P) 24 := fun q hq => h _ (List.of_mem_zip hq).1
theorem mhas_zip (x : List Int) : ∀ {K : List (List Int)} {P : List Int}, K.length = P.length → mhas (K.zip P) x = decide (x ∈ K)
  | [], _, _ => rfl
  | k :: K, [], h => by simp at h
  | k :: K, p :: P, h => by
    show (if x = k then true else mhas (K.zip P) x) = _
    rw [mhas_zip x (by simpa using h)]
    by_cases hk : x = k
    · simp [hk]
    · simp [hk]
theorem mset_zip {x : List Int} {v : Int} : ∀ {K : List (List Int)} {P : List Int}, K.length = P.length → x ∉ K → mset (K.zip P) x v = (K ++ [x]).zip (P ++ [v])
  | [], [], _, _ => rfl
  | [], _ :: _, h, _ => by simp at h
  | k :: K, [], h, _ => by simp at h
  | k :: K, p :: P, h, hx => by
    have h1 : ¬ x = k := fun e => hx (e ▸ List.mem_cons_self ..)
    have ih := mset_zip (x := x) (v := v) (K := K) (P := P) (by simpa using h) fun hh => hx (List.mem_cons_of_mem _ hh)
    show (if x = k then (k, v) :: K.zip P else (k, p) :: mset (K.zip P) x v) = _
    rw [if_neg h1, ih]; rfl
end Go.Proofs.YtmccafjblhbmkaaGreat
set_option maxRecDepth 100000
set_option linter.unusedSimpArgs false
set_option linter.unusedVariables false
namespace Go.Proofs.YtmccafjblhbmkaaGreat
open Go Go.RowKit
/-! Racks behind a rack. -/
/-- A pair that is listed is one by the condition. -/
theorem GL_pairB (c : Nat → Nat → Bool) : ∀ m, m ≤ 36 → ∀ i, i * 2 + 2 ≤ (GL c m).length → ∃ a b : Nat, a < 6 ∧ b < 6 ∧ c a b = true ∧ (GL c m).getD (i * 2) 0 = (a : Int) ∧ (GL c m).getD (i * 2 + 1) 0 = (b : Int)
  | 0, _, i, h => by simp [GL_zero] at h
  | m + 1, hm, i, h => by
    obtain ⟨n, hn, _⟩ := GL_even c m
    rw [GL_succ, List.length_append, hn] at h
    rw [GL_succ]
    by_cases hi : i * 2 + 2 ≤ n * 2
    · obtain ⟨a, b, h1, h2, h3, h4, h5⟩ := GL_pairB c m (by omega) i (by omega)
      refine ⟨a, b, h1, h2, h3, ?_, ?_⟩
      · rw [getD_app _ _ _ (by omega)]; exact h4
      · rw [getD_app _ _ _ (by omega)]; exact h5
    · unfold prG at h ⊢
      split at h
      · rename_i hc
        simp at h
        have hin : i = n := by omega
        subst hin
        refine ⟨m / 6, m % 6, by omega, by omega, hc, ?_, ?_⟩
        · rw [if_pos hc, List.getD_eq_getElem?_getD, List.getElem?_append_right (by omega), hn]; simp
        · rw [if_pos hc, List.getD_eq_getElem?_getD, List.getElem?_append_right (by omega), hn]; simp [Nat.add_sub_cancel_left]
      · simp at h; omega
def okR (D : List Int) (Q : List (List Int)) : Prop := ∀ x ∈ Q, x.length = 24 ∧ forB x D = true
theorem okR.all24 {D : List Int} {Q : List (List Int)} (h : okR D Q) : all24 Q := fun x hx => (h x hx).1
end Go.Proofs.YtmccafjblhbmkaaGreat
set_option maxRecDepth 100000
set_option linter.unusedSimpArgs false
set_option linter.unusedVariables false
namespace Go.Proofs.YtmccafjblhbmkaaGreat
open Go Go.RowKit
def is1 (x c : Int) : Int := if x = c then 1 else 0
/-- How many cells of a tube have a color. -/
def cn (t : List Int) (c : Int) : Int := is1 (t.getD 0 0) c + is1 (t.getD 1 0) c + is1 (t.getD 2 0) c + is1 (t.getD 3 0) c
/-- Of a tube's layers below its uppermost one, from the j-th on, those with a color. -/
def hcn (t : List Int) (j : Nat) (c : Int) : Int := (if j ≤ 0 ∧ 2 ≤ layN t then is1 (t.getD 0 0) c else 0) + (if j ≤ 1 ∧ 3 ≤ layN t then is1 (t.getD 1 0) c else 0) + (if j ≤ 2 ∧ 4 ≤ layN t then is1 (t.getD 2 0) c else 0)
/-- What the last tubes hide. -/
def remT (R : List Int) (c : Int) : Nat → Int
  | 0 => 0
  | m + 1 => hcn (tubeAt R (5 - m)) 0 c + remT R c m
def wr (x : Int) : Int := IntKind.i64.wrap x
/-! The view of a rack. -/
end Go.Proofs.YtmccafjblhbmkaaGreat
set_option maxRecDepth 100000
set_option linter.unusedSimpArgs false
set_option linter.unusedVariables false
namespace Go.Proofs.YtmccafjblhbmkaaGreat
open Go Go.RowKit
structure rkI (R L : List Int) (i j : Nat) : Prop where
  a : L.length = 6
  b : L.getD 0 0 = 0
  c : ∀ c : Nat, 1 ≤ c → c < 6 → hcn (tubeAt R i) j c + remT R c (5 - i) ≤ L.getD c 0 ∧ L.getD c 0 ≤ 24
structure rkJ (R L : List Int) (i : Nat) : Prop where
  a : L.length = 6
  b : L.getD 0 0 = 0
  c : ∀ c : Nat, 1 ≤ c → c < 6 → remT R c (6 - i) ≤ L.getD c 0 ∧ L.getD c 0 ≤ 24
end Go.Proofs.YtmccafjblhbmkaaGreat
set_option maxRecDepth 100000
set_option linter.unusedSimpArgs false
set_option linter.unusedVariables false
namespace Go.Proofs.YtmccafjblhbmkaaGreat
open Go Go.RowKit
/-! Both mean the same. -/
end Go.Proofs.YtmccafjblhbmkaaGreat
set_option maxRecDepth 100000
set_option linter.unusedSimpArgs false
set_option linter.unusedVariables false
namespace Go.Proofs.YtmccafjblhbmkaaGreat
open Go Go.RowKit
/-! Orders are some, and not too many. -/
/-! The rack in which each tube has the color of its top. -/
/-! Views are compared. -/
/-! The walks. -/
--@tbl ChanceSorted = impl.ChanceSorted
--@tbl sChanceSorted = spec.ChanceSorted
--@tbl l7Empty = spec.l7Empty
end Go.Proofs.YtmccafjblhbmkaaGreat
set_option maxRecDepth 100000
set_option linter.unusedSimpArgs false
set_option linter.unusedVariables false
namespace Go.Proofs.YtmccafjblhbmkaaGreat
open Go Go.RowKit
/-- A possible source: pouring leads back to the rack. -/
theorem bk_fwd {R : List Int} {i j m : Int} (hR : R.length = 24) (hr : rackB R = true) (h : bkB R i j m = true) : (0 ≤ i ∧ i ≤ 5) ∧ (0 ≤ j ∧ j ≤ 5) ∧ (1 ≤ m ∧ m ≤ 4) ∧ rackB (bkR R i j m) = true ∧ canF (bkR R i j m) i j = true ∧ pourF (bkR R i j m) i.toNat j.toNat = R ∧ pmN (bkR R i j m) i.toNat j.toNat = m := by
  have h2 := bk_21 h
  have h1 := h2
  unfold bk2 at h1
  rw [Bool.and_eq_true] at h1
  obtain ⟨f1, f2, f3, f4, f5, f6, f7⟩ := bk1_facts hR h1.1
  unfold bkB at h
  simp only [Bool.and_eq_true, decide_eq_true_eq] at h
  exact ⟨f1, f2, ⟨f4, by omega⟩, bk_rack hR hr h1.1, h1.2, h.1.2, h.2⟩
/-! The list of sources. -/
/-! Racks before. -/
end Go.Proofs.YtmccafjblhbmkaaGreat
set_option maxRecDepth 100000
set_option linter.unusedSimpArgs false
set_option linter.unusedVariables false
namespace Go.Proofs.YtmccafjblhbmkaaGreat
open Go Go.RowKit
def plP (C : List Int) : Bool := rackB (pnF C) && sortB (pnF C) && decide ((cntL (pnF C)).set 0 0 = C)
theorem pl_all : ∀ a b c d e : Fin 5, plP [0, ((a.val : Nat) : Int), ((b.val : Nat) : Int), ((c.val : Nat) : Int), ((d.val : Nat) : Int), ((e.val : Nat) : Int)] = true := by decide +kernel
end Go.Proofs.YtmccafjblhbmkaaGreat
set_option maxRecDepth 100000
set_option linter.unusedSimpArgs false
set_option linter.unusedVariables false
namespace Go.Proofs.YtmccafjblhbmkaaGreat
open Go Go.RowKit
--@tbl eqS1 = laws.eqIntS
/-! Marks. -/
--@tbl mark1 = laws.markIntS
--@tbl held1 = laws.heldIntS
end Go.Proofs.YtmccafjblhbmkaaGreat
set_option maxRecDepth 100000
set_option linter.unusedSimpArgs false
set_option linter.unusedVariables false
namespace Go.Proofs.YtmccafjblhbmkaaGreat
open Go Go.RowKit
theorem FreshP.sub {P : Program} {f : FuncId} {args : List SV} {H0 H : Heap} {L : List Int} {len es e : Nat} {nl : Bool} {wr : Wrap} (h : FreshP P f args H0 L len es e nl wr) (ρ : Nat → Nat) (hs : subHs ρ 0 H H0) (hi : injOn ρ (H0.map (·.1))) : FreshP P f (renL ρ args) H L len es e nl wr := by
  refine ⟨h.ent, h.ok, fun B w hH => ?_⟩
  have := h.call (fun k => B (ρ k)) w ⟨fun k o hl hk => ?_, fun k j o o' g1 g2 g3 g4 he => ?_⟩
  · rw [denL_ren]
    refine this.mono fun r w' ⟨h1, h2⟩ => ⟨h1, h2.imp (fun ⟨a, b, c⟩ => ⟨a, b, c.trans (congrArg Ending.returned (Wrap.den_eq h.ok rfl))⟩) id⟩
  · obtain ⟨e1, _, _⟩ := hs k o hl
    have := hH.at_ _ _ e1 (by rw [SObj.live_ren]; exact hk)
    rw [SObj.sat_ren] at this
    exact this
  · obtain ⟨e1, _, m1⟩ := hs k o g1
    obtain ⟨e2, _, m2⟩ := hs j o' g3
    exact hi k m1 j m2 (hH.inj _ _ _ _ e1 (by rw [SObj.live_ren]; exact g2) e2 (by rw [SObj.live_ren]; exact g4) he)
theorem FreshP.one {P : Program} {f : FuncId} {args : List SV} {H : Heap} {o : SObj} {b : Nat} {L : List Int} {len es e : Nat} {nl : Bool} {wr : Wrap} (h : FreshP P f args [(0, o)] L len es e nl wr) (hb : hget H b = some o) (ho : o.ren (fun _ => b) = o) : FreshP P f (renL (fun _ => b) args) H L len es e nl wr :=
  h.sub (fun _ => b) (fun j o' hj => by
    rw [hget_cons] at hj
    split at hj
    · cases hj; exact ⟨by rw [ho]; exact hb, fun _ => by omega, by simp [*]⟩
    · cases hj) (fun a ha c hc _ => by simp at ha hc; omega)
attribute [local irreducible] pourF bndF canF goodF cppB --@tbl BoundsAlong = impl.BoundsAlong --@tbl sBoundsAlong = spec.BoundsAlong
end Go.Proofs.YtmccafjblhbmkaaGreat
set_option maxRecDepth 100000
set_option linter.unusedSimpArgs false
set_option linter.unusedVariables false
namespace Go.Proofs.YtmccafjblhbmkaaGreat
open Go Go.RowKit
/-! slices.Reverse over pairs. -/
def rvC (P : List Int) (n i q : Nat) : List Int := if q < i ∨ n ≤ q + i then (P.drop ((n - 1 - q) * 2)).take 2 else (P.drop (q * 2)).take 2
def rvL (P : List Int) (n i : Nat) : List Int := (List.range n).flatMap (rvC P n i)
theorem cat_cut (c : Nat → List Int) (n k : Nat) (hk : k < n) : (List.range n).flatMap c = (List.range k).flatMap c ++ c k ++ (List.range (n - (k + 1))).flatMap (fun q => c (k + 1 + q)) := by
  obtain ⟨m, rfl⟩ : ∃ m, n = k + 1 + m := ⟨n - (k + 1), by omega⟩
  rw [List.range_add, List.flatMap_append, List.range_succ, List.flatMap_append, show k + 1 + m - (k + 1) = m by omega]
  simp [List.flatMap_map]
theorem rvL_zero (P : List Int) (n : Nat) (h : P.length = n * 2) : rvL P n 0 = P := by
  have : ∀ m, m ≤ n → (List.range m).flatMap (rvC P n 0) = P.take (m * 2) := fun m => by
    induction m with
    | zero => intro _; simp
    | succ m ih =>
      intro hm
      rw [List.range_succ, List.flatMap_append, ih (by omega), show (m + 1) * 2 = m * 2 + 2 by omega, List.take_add]
      simp only [List.flatMap_cons, List.flatMap_nil, List.append_nil]
      unfold rvC
      rw [if_neg (by omega)]
  unfold rvL
  rw [this n (Nat.le_refl _), ← h, List.take_length]
def rvF (P : List Int) (n : Nat) : List Int := (List.range n).flatMap fun q => (P.drop ((n - 1 - q) * 2)).take 2
theorem rvL_end (P : List Int) (n i : Nat) (hi : n ≤ 2 * i + 1) : rvL P n i = rvF P n := by
  unfold rvL rvF
  rw [List.flatMap_def, List.flatMap_def]
  congr 1
  refine List.map_congr_left fun q hq => ?_
  have := List.mem_range.1 hq
  unfold rvC
  split
  · rfl
  · rw [show n - 1 - q = q by omega]
theorem rvC_len {P : List Int} {n : Nat} (hP : P.length = n * 2) (i : Nat) {q : Nat} (hq : q < n) : (rvC P n i q).length = 2 := by
  unfold rvC
  split <;> (rw [List.length_take, List.length_drop]; omega)
theorem cat_len' (c : Nat → List Int) : ∀ n, (∀ q, q < n → (c q).length = 2) → ((List.range n).flatMap c).length = n * 2
  | 0, _ => rfl
  | n + 1, hc => by rw [List.range_succ, List.flatMap_append, List.length_append, cat_len' c n fun q hq => hc q (by omega)]; simp [hc n]; omega
theorem cat_get' (c : Nat → List Int) (n k : Nat) (hc : ∀ q, q < n → (c q).length = 2) (hk : k < n) (J : List Int) : ((((List.range n).flatMap c) ++ J).drop (k * 2)).take 2 = c k := by
  have h1 := cat_len' c k fun q hq => hc q (by omega)
  rw [cat_cut c n k hk, List.append_assoc, List.append_assoc, List.drop_left' h1, List.take_left' (hc k hk)]
theorem cat_put' (c d : Nat → List Int) (n k : Nat) (hc : ∀ q, q < n → (c q).length = 2) (hk : k < n) (hd : ∀ q, q < n → q ≠ k → d q = c q) (J : List Int) :
    List.take (k * 2) (((List.range n).flatMap c) ++ J) ++ d k ++ List.drop (k * 2 + 2) (((List.range n).flatMap c) ++ J) = (List.range n).flatMap d ++ J := by
  have h1 := cat_len' c k fun q hq => hc q (by omega)
  have e1 : (List.range k).flatMap d = (List.range k).flatMap c := by
    rw [List.flatMap_def, List.flatMap_def]
    congr 1
    exact List.map_congr_left fun q hq => hd q (by have := List.mem_range.1 hq; omega) (by have := List.mem_range.1 hq; omega)
  have e2 : (List.range (n - (k + 1))).flatMap (fun q => d (k + 1 + q)) = (List.range (n - (k + 1))).flatMap (fun q => c (k + 1 + q)) := by
    rw [List.flatMap_def, List.flatMap_def]
    congr 1
    exact List.map_congr_left fun q hq => hd _ (by have := List.mem_range.1 hq; omega) (by omega)
  rw [cat_cut d n k hk, e1, e2, cat_cut c n k hk]
  generalize (List.range k).flatMap c = A at *
  generalize (List.range (n - (k + 1))).flatMap (fun q => c (k + 1 + q)) = E
  have t1 : List.take (k * 2) (A ++ c k ++ E ++ J) = A := by rw [List.append_assoc, List.append_assoc, List.take_left' h1]
  have t2 : List.drop (k * 2 + 2) (A ++ c k ++ E ++ J) = E ++ J := by rw [List.append_assoc (A ++ c k), List.drop_left' (by rw [List.length_append, h1, hc k hk])]
  rw [t1, t2, List.append_assoc (A ++ d k)]
theorem reverse_ok (P : List Int) (e cap n : Nat) (hP : P.length = n * 2) (junk : List Int) (hn : n ≤ 1000000) : UpdP Tryz.prog 105 [.slice 0 0 n cap] 0 [] (.ints (P ++ junk) e) (.ints (rvF P n ++ junk) e) (.tup []) := by
  refine upd_of_vc (X := ⟨Tryz.prog, tys, [], [], true, true, 0, [], []⟩) fn_105 ⟨tys_ok, .nil, .nil, mixed⟩ (n0 := 1) (by omega) (Nat.le_of_ble_eq_true rfl) (by simp [wfL, SV.wf]) (wfH_spec (by simp [wfH, SObj.wf])) (fun k o1 hk => by cases hk) rfl rfl (fun _ => trivial) (by simp [SV.wf, wfL]) ?_
  simp -implicitDefEqProofs only [Tryz.f105, Option.getD_some, argS, ZB, Int.reduceToNat, Nat.reduceLT, Nat.reduceLeDiff, Int.reduceLE, Int.reduceLT, Nat.reduceEqDiff, Nat.reduceSub, SB, SV.known, packR, ne_eq, reduceCtorEq, Nat.reduceEqDiff, ↓reduceIte, if_true, if_false, eq_self, Nat.reduceAdd, Nat.reduceMul, Nat.reduceSub, forall_const, oneCellS, litOne, flat1, Kd.isSca, flat, TYB]
  refine ⟨by unfold In64; omega, ?_⟩
  refine loop_intro (fun i : Nat => [(3, .int ((n : Int) - 1 - i)), (2, .int i), (0, .slice 0 0 n cap)]) (fun i => [(0, .ints (rvL P n i ++ junk) e)]) 1 (fun i => 2 * i ≤ n + 1) (fun i => n - i) ?_ ?_
  · refine ⟨0, ?_, Sub.mk_id ?_ ?_ ?_ ?_ ?_⟩
    all_goals (try (simp only [rvL_zero P n hP, LB, subS, subH, wfS, wfH, SV.ren, renL, SObj.ren, SV.wf, SObj.wf, wfL, SV.known, Nat.reduceEqDiff, ↓reduceIte, if_true, if_false, eq_self, Nat.reduceAdd, Nat.reduceLT, Nat.reduceLeDiff, implies_true, reduceCtorEq, forall_const]; done))
    all_goals (try (simp only [rvL_zero P n hP, LB, subS, subH, wfS, wfH, SV.ren, renL, SObj.ren, SV.wf, SObj.wf, wfL, SV.known, Nat.reduceEqDiff, ↓reduceIte, if_true, if_false, eq_self, Nat.reduceAdd, Nat.reduceLT, Nat.reduceLeDiff, implies_true, reduceCtorEq, forall_const]; simp; done))
    all_goals (try (simp only [rvL_zero P n hP, LB, subS, subH, wfS, wfH, SV.ren, renL, SObj.ren, SV.wf, SObj.wf, wfL, SV.known, Nat.reduceEqDiff, ↓reduceIte, if_true, if_false, eq_self, Nat.reduceAdd, Nat.reduceLT, Nat.reduceLeDiff, implies_true, reduceCtorEq, forall_const]; (and_intros <;> (first | omega | rfl | (simp; done) | (simp; omega))); done))
    all_goals (try dsimp only)
    all_goals (and_intros <;> try (first | omega | (unfold In64; omega) | trivial | assumption))
    all_goals simp
  · intro i hi
    have hc := fun q (hq : q < n) => rvC_len hP i hq
    have hl : (rvL P n i ++ junk).length = n * 2 + junk.length := by rw [List.length_append]; unfold rvL; rw [cat_len' _ n hc]
    by_cases hlt : (i : Int) < (n : Int) - 1 - i
    · have t1 : ((n : Int) - 1 - i).toNat = n - 1 - i := by omega
      have k1 : 0 ≤ (n : Int) - 1 - i := by omega
      have k2 : (n : Int) - 1 - i < n := by omega
      have k3 : (i : Int) < n := by omega
      have gi : List.take 2 (List.drop (i * 2) (rvL P n i ++ junk)) = (P.drop (i * 2)).take 2 := by
        unfold rvL
        rw [cat_get' _ n i hc (by omega)]
        unfold rvC
        rw [if_neg (by omega)]
      have gj : List.take 2 (List.drop ((n - 1 - i) * 2) (rvL P n i ++ junk)) = (P.drop ((n - 1 - i) * 2)).take 2 := by
        unfold rvL
        rw [cat_get' _ n (n - 1 - i) hc (by omega)]
        unfold rvC
        rw [if_neg (by omega)]
      have li : ((P.drop (i * 2)).take 2).length = 2 := by rw [List.length_take, List.length_drop]; omega
      have lj : ((P.drop ((n - 1 - i) * 2)).take 2).length = 2 := by rw [List.length_take, List.length_drop]; omega
      let md : Nat → List Int := fun q => if q = i then (P.drop ((n - 1 - i) * 2)).take 2 else rvC P n i q
      have hmd : ∀ q, q < n → (md q).length = 2 := fun q hq => by
        show (if q = i then _ else _ : List Int).length = 2
        split
        · exact lj
        · exact hc q hq
      have p1 := cat_put' (rvC P n i) md n i hc (by omega) (fun q hq hqi => if_neg hqi) junk
      have p2 := cat_put' md (rvC P n (i + 1)) n (n - 1 - i) hmd (by omega) (fun q hq hqi => by
        show rvC P n (i + 1) q = (if q = i then _ else _)
        unfold rvC
        by_cases h1 : q = i
        · subst h1
          rw [if_pos rfl, if_pos (by omega)]
        · rw [if_neg h1]
          by_cases h2 : q < i ∨ n ≤ q + i
          · rw [if_pos h2, if_pos (by omega)]
          · rw [if_neg h2, if_neg (by omega)]) junk
      have m1 : md i = (P.drop ((n - 1 - i) * 2)).take 2 := if_pos rfl
      have m2 : rvC P n (i + 1) (n - 1 - i) = (P.drop (i * 2)).take 2 := by
        unfold rvC
        rw [if_pos (by omega), show n - 1 - (n - 1 - i) = i by omega]
      rw [m1] at p1
      rw [m2] at p2
      have lm : ((List.range n).flatMap md ++ junk).length = n * 2 + junk.length := by rw [List.length_append, cat_len' _ n hmd]
      have f0 : (List.range n).flatMap (rvC P n i) = rvL P n i := rfl
      have f1 : (List.range n).flatMap (rvC P n (i + 1)) = rvL P n (i + 1) := rfl
      rw [f0] at p1
      rw [f1] at p2
      generalize (List.range n).flatMap md = Md at *
      simp -implicitDefEqProofs only [lk_normal, hlt, hl, t1, k1, k2, k3, gi, gj, li, lj, p1, p2, lm, ZB, Int.reduceToNat, Nat.reduceLT, Nat.reduceLeDiff, Int.reduceLE, Int.reduceLT, Nat.reduceEqDiff, Nat.reduceSub, SB, SV.known, packR, ne_eq, reduceCtorEq, Nat.reduceEqDiff, ↓reduceIte, if_true, if_false, eq_self, Nat.reduceAdd, Nat.reduceMul, Nat.reduceSub, forall_const, oneCellS, litOne, flat1, Kd.isSca, flat, TYB]
      (try (and_intros <;> try (first | omega | (unfold In64; omega) | trivial | assumption)))
      have es : (n : Int) - 1 - ((i + 1 : Nat) : Int) = (n : Int) - 1 - i - 1 := by omega
      refine ⟨i + 1, by omega, by omega, Sub.mk_id ?_ ?_ ?_ ?_ ?_⟩
      all_goals (try simp only [es])
      all_goals ((try simp only [LB, subS, subH, wfS, wfH, SV.ren, renL, SObj.ren, SV.wf, SObj.wf, wfL, SV.known, Nat.reduceEqDiff, ↓reduceIte, if_true, if_false, eq_self, Nat.reduceAdd, Nat.reduceLT, Nat.reduceLeDiff, implies_true, reduceCtorEq, forall_const]) <;> simp)
    · simp -implicitDefEqProofs only [lk_normal, hlt, ZB, Int.reduceToNat, Nat.reduceLT, Nat.reduceLeDiff, Int.reduceLE, Int.reduceLT, Nat.reduceEqDiff, Nat.reduceSub, SB, SV.known, packR, ne_eq, reduceCtorEq, Nat.reduceEqDiff, ↓reduceIte, if_true, if_false, eq_self, Nat.reduceAdd, Nat.reduceMul, Nat.reduceSub, forall_const, oneCellS, litOne, flat1, Kd.isSca, flat, TYB]
      (try (and_intros <;> try (first | omega | (unfold In64; omega) | trivial | assumption)))
      rw [rvL_end P n i (by omega)]
      (try (and_intros <;> try (first | omega | (unfold In64; omega) | trivial | assumption)))
def nnm (n : Int) : Bool := decide (0 ≤ n)
/-! The walk back by choices. -/
def mxI (R : List Int) (c : Int) : Nat := (c.tmod ((SrL R 144).length / 3 : Nat)).toNat
def mxS (R : List Int) (c : Int) : List Int := ((SrL R 144).drop (mxI R c * 3)).take 3
def mxK (R C : List Int) : Nat → List Int × List Int
  | 0 => (R, [])
  | k + 1 => (bkR (mxK R C k).1 ((mxS (mxK R C k).1 (C.getD k 0)).getD 0 0) ((mxS (mxK R C k).1 (C.getD k 0)).getD 1 0) ((mxS (mxK R C k).1 (C.getD k 0)).getD 2 0),
      (mxK R C k).2 ++ [(mxS (mxK R C k).1 (C.getD k 0)).getD 0 0, (mxS (mxK R C k).1 (C.getD k 0)).getD 1 0])
def mxO (R C : List Int) (k : Nat) : Bool := !decide (SrL (mxK R C k).1 144 = [])
def mxN (R C : List Int) (len : Nat) : Nat := firstN (mxO R C) len 0
theorem mxK_len2 (R C : List Int) : ∀ k, (mxK R C k).2.length = k * 2
  | 0 => rfl
  | k + 1 => by
    show ((mxK R C k).2 ++ _).length = _
    rw [List.length_append, mxK_len2 R C k]; simp; omega
theorem mxS_spec {R : List Int} {c : Int} (hc : 0 ≤ c) (h : SrL R 144 ≠ []) : mxI R c * 3 + 3 ≤ (SrL R 144).length ∧ 0 ≤ c.tmod ((SrL R 144).length / 3 : Nat) ∧ c.tmod ((SrL R 144).length / 3 : Nat) < ((SrL R 144).length / 3 : Nat) ∧ (mxS R c).length = 3 ∧ bkB R ((mxS R c).getD 0 0) ((mxS R c).getD 1 0) ((mxS R c).getD 2 0) = true := by
  obtain ⟨m, hm, _⟩ := SrL_three R 144
  have hm0 : 0 < m := by
    rcases Nat.eq_zero_or_pos m with h0 | h0
    · rw [h0] at hm; exact absurd (List.length_eq_zero_iff.1 (by omega)) h
    · exact h0
  have e2 : (SrL R 144).length / 3 = m := by omega
  have b1 : 0 ≤ c.tmod (m : Int) := Int.tmod_nonneg _ hc
  have b2 : c.tmod (m : Int) < m := Int.tmod_lt_of_pos _ (by omega)
  have hi : mxI R c < m := by unfold mxI; rw [e2]; omega
  obtain ⟨a, b, d, h1, h2⟩ := SrL_trip R 144 (mxI R c) (by omega)
  have h3 : mxS R c = [a, b, d] := h2
  refine ⟨by omega, by rw [e2]; exact b1, by rw [e2]; exact b2, by rw [h3]; rfl, by rw [h3]; exact h1⟩
theorem mxK_facts {R C : List Int} {len : Nat} (hR : R.length = 24) (hr : rackB R = true) (hC : ∀ k, k < len → 0 ≤ C.getD k 0) : ∀ k, k ≤ len → (∀ i, i < k → mxO R C i = true) → (mxK R C k).1.length = 24 ∧ rackB (mxK R C k).1 = true
  | 0, _, _ => ⟨hR, hr⟩
  | k + 1, hk, h => by
    have ih := mxK_facts hR hr hC k (by omega) fun i hi => h i (by omega)
    have ho := h k (by omega)
    have hne : SrL (mxK R C k).1 144 ≠ [] := by
      unfold mxO at ho
      simpa using ho
    obtain ⟨_, _, _, _, hb⟩ := mxS_spec (hC k (by omega)) hne
    exact ⟨bkR_len ih.1 _ _ _, bkB_rack ih.1 ih.2 hb⟩
def mxB (R C : List Int) (len : Nat) : Bool := rackB R && decide (len ≤ 20) && (C.take len).all nnm
def mxR (R C : List Int) (len : Nat) : List Int := if mxB R C len = true then (mxK R C (mxN R C len)).1 else List.replicate 24 0
def mxP (R C : List Int) (len : Nat) : List Int := if mxB R C len = true then rvF (mxK R C (mxN R C len)).2 (mxN R C len) else []
theorem Mix1_ok (n : Int) : PureH Tryz.prog 104 [.int n] [] (.bool (nnm n)) := by
  unfold nnm
  refine pure_of_vc (X := ⟨Tryz.prog, tys, [], [], true, true, 0, [], []⟩) fn_104 ⟨tys_ok, .nil, .nil, mixed⟩ (n0 := 0) (Nat.le_of_ble_eq_true rfl) (by simp [wfL, SV.wf]) (wfH_spec (by simp [wfH, SObj.wf])) (Nat.le_refl _) (fun _ => by simp [SV.wf, wfL]) ?_
  simp -implicitDefEqProofs only [Tryz.f104, Option.getD_some, argS, ZB, Int.reduceToNat, Nat.reduceLT, Nat.reduceLeDiff, Int.reduceLE, Int.reduceLT, Nat.reduceEqDiff, Nat.reduceSub, SB, SV.known, packR, ne_eq, reduceCtorEq, Nat.reduceEqDiff, ↓reduceIte, if_true, if_false, eq_self, Nat.reduceAdd, Nat.reduceMul, Nat.reduceSub, forall_const, oneCellS, litOne, flat1, Kd.isSca, flat, TYB]
--@tbl areAll_mix = impl.areAll[int]
def areAll_mix_F := areAllI_F [(104, nnm)]
theorem areAll_mix_T : ∀ args H p v, areAll_mix_F args H = some (p, v) → p → PureH Tryz.prog 103 args H v :=
  areAllI_T (by intro q hq; simp at hq; subst hq; exact Mix1_ok)
def rev2_F : List SV → Heap → Nat → Nat → K1 → Prop
  | [.slice b 0 n _], H, N, m, κ => match hget H b with
    | some (.ints L e) => m ≤ b ∧ n ≤ 1000000 ∧ n * 2 ≤ L.length ∧ κ (.tup []) ((b, .ints (rvF (L.take (n * 2)) n ++ L.drop (n * 2)) e) :: H) N
    | _ => False
  | [.nils], H, N, _, κ => κ (.tup []) H N
  | _, _, _, _, _ => False
--@tbl rev2 = slices.Reverse[[][2]int,[2]int]
theorem reverse_nil : PureH Tryz.prog 105 [.nils] [] (.tup []) := by
  refine pure_of_vc (X := ⟨Tryz.prog, tys, [], [], true, true, 0, [], []⟩) fn_105 ⟨tys_ok, .nil, .nil, mixed⟩ (n0 := 0) (Nat.le_of_ble_eq_true rfl) (by simp [wfL, SV.wf]) (wfH_spec (by simp [wfH, SObj.wf])) (Nat.le_refl _) (fun _ => by simp [SV.wf, wfL]) ?_
  simp -implicitDefEqProofs only [Tryz.f105, Option.getD_some, argS, ZB, Int.reduceToNat, Nat.reduceLT, Nat.reduceLeDiff, Int.reduceLE, Int.reduceLT, Nat.reduceEqDiff, Nat.reduceSub, SB, SV.known, packR, ne_eq, reduceCtorEq, Nat.reduceEqDiff, ↓reduceIte, if_true, if_false, eq_self, Nat.reduceAdd, Nat.reduceMul, Nat.reduceSub, forall_const, oneCellS, litOne, flat1, Kd.isSca, flat, TYB]
  refine ⟨by unfold In64; omega, ?_⟩
  refine loop_intro (fun i : Unit => [(3, .int (0 - 1)), (2, .int 0), (0, .nils)]) (fun _ => []) 0 (fun _ => True) (fun _ => 0) ?_ ?_
  · refine ⟨(), trivial, Sub.mk_id ?_ ?_ ?_ ?_ ?_⟩
    all_goals ((try simp only [LB, subS, subH, wfS, wfH, SV.ren, renL, SObj.ren, SV.wf, SObj.wf, wfL, SV.known, Nat.reduceEqDiff, ↓reduceIte, if_true, if_false, eq_self, Nat.reduceAdd, Nat.reduceLT, Nat.reduceLeDiff, implies_true, reduceCtorEq, forall_const]) <;> simp)
  · intro _ _
    have h1 : ¬ (0 : Int) < 0 - 1 := by omega
    simp -implicitDefEqProofs only [lk_normal, h1, ZB, Int.reduceToNat, Nat.reduceLT, Nat.reduceLeDiff, Int.reduceLE, Int.reduceLT, Nat.reduceEqDiff, Nat.reduceSub, SB, SV.known, packR, ne_eq, reduceCtorEq, Nat.reduceEqDiff, ↓reduceIte, if_true, if_false, eq_self, Nat.reduceAdd, Nat.reduceMul, Nat.reduceSub, forall_const, oneCellS, litOne, flat1, Kd.isSca, flat, TYB]
    trace_state
theorem rev2_T : ∀ args H n m κ, rev2_F args H n m κ → GenOK Tryz.prog 105 args H n m κ := by
  intro args H N m κ h
  unfold rev2_F at h
  split at h
  · rename_i b n cap
    split at h
    · rename_i L e hb
      obtain ⟨hm, hn, hl, h⟩ := h
      have hu := reverse_ok (L.take (n * 2)) e cap n (by rw [List.length_take]; omega) (L.drop (n * 2)) hn
      rw [List.take_append_drop] at hu
      have := gen_of_upd (H := H) (n := N) (m := m) (κ := κ) hu (fun _ => b) (fun j o1 hj => by
        rw [hget_cons] at hj
        split at hj
        · cases hj; exact hb
        · cases hj) (fun j1 o1 j2 o2 g1 g2 he => by
        rw [hget_cons] at g1 g2
        split at g1
        · split at g2
          · omega
          · cases g2
        · cases g1) (by simpa using hm) rfl (fun _ _ => trivial) (by simpa [SV.ren, renL] using h)
      simpa [renL, SV.ren] using this
    · exact h.elim
  · exact gen_of_pure (reverse_nil.any _) h
  · exact h.elim
theorem rvF_len {P : List Int} {n : Nat} (h : P.length = n * 2) : (rvF P n).length = n * 2 := by
  unfold rvF
  rw [cat_len' _ n fun q hq => by rw [List.length_take, List.length_drop]; omega]
theorem mx_end {R' P J : List Int} {H : Heap} {v : SV} {i c : Nat} (_ : R'.length = 24) (hP : P.length = (i + 1) * 2) (hj : J.length + (i + 1) * 2 = c * 2)
    (hv : v = .tup [.arr R', .slice 3 0 (i + 1) c, .bool true]) (hH : hget H 3 = some (.ints (rvF ((P ++ J).take ((i + 1) * 2)) (i + 1) ++ (P ++ J).drop ((i + 1) * 2)) 65)) :
    freshPost 1 (rvF P (i + 1)) ((rvF P (i + 1)).length / 2) 2 65 true (Wrap.mid (.arr R') [.bool true]) v H := by
  rw [List.take_left' hP, List.drop_left' hP] at hH
  have hl := rvF_len hP
  refine .inr ⟨3, c, J, ?_, hH, by omega, by omega, fun _ h => ?_⟩
  · rw [hv, show (rvF P (i + 1)).length / 2 = i + 1 by omega]; rfl
  · rw [h] at hl; simp at hl
theorem MixedBy_ok (R C : List Int) (e len cap : Nat) (hR : R.length = 24) (hC : len ≤ C.length) (hl : len ≤ 1048576) : FreshP Tryz.prog 43 [.arr R, .slice 0 0 len cap] [(0, .ints C e)] (mxP R C len) ((mxP R C len).length / 2) 2 65 true (.mid (.arr (mxR R C len)) [.bool (mxB R C len)]) := by
  have tkR : R.take 24 = R := List.take_of_length_le (by omega)
  unfold mxP mxR mxB
  cases hr : rackB R
  · refine fresh_of_vc (X := ⟨Tryz.prog, tys, [(62, IsRack_F), (103, areAll_mix_F), (87, back_F)], [(89, sources_F), (105, rev2_F)], true, true, 1, [], []⟩) fn_43 ⟨tys_ok, (.cons IsRack_T (.cons areAll_mix_T (.cons back_T .nil))), (.cons sources_T (.cons rev2_T .nil)), mixed⟩ (n0 := 1) rfl (Nat.le_of_ble_eq_true rfl) (by simp [wfL, SV.wf]) (wfH_spec (by simp [wfH, SObj.wf])) (Nat.le_refl _) ?_
    simp -implicitDefEqProofs only [Tryz.f43, Option.getD_some, argS, IsRack_F, areAll_mix_F, back_F, sources_F, rev2_F, hR, tkR, hr, freshK, Wrap.ap, ZB, Int.reduceToNat, Nat.reduceLT, Nat.reduceLeDiff, Int.reduceLE, Int.reduceLT, Nat.reduceEqDiff, Nat.reduceSub, SB, SV.known, packR, ne_eq, reduceCtorEq, Nat.reduceEqDiff, ↓reduceIte, if_true, if_false, eq_self, Nat.reduceAdd, Nat.reduceMul, Nat.reduceSub, forall_const, oneCellS, litOne, flat1, Kd.isSca, flat, TYB]
    exact .inl ⟨rfl, rfl, rfl⟩
  by_cases h20 : len ≤ 20
  · have h20' : ¬ (len : Int) > 20 := by omega
    cases hc : (C.take len).all nnm
    · refine fresh_of_vc (X := ⟨Tryz.prog, tys, [(62, IsRack_F), (103, areAll_mix_F), (87, back_F)], [(89, sources_F), (105, rev2_F)], true, true, 1, [], []⟩) fn_43 ⟨tys_ok, (.cons IsRack_T (.cons areAll_mix_T (.cons back_T .nil))), (.cons sources_T (.cons rev2_T .nil)), mixed⟩ (n0 := 1) rfl (Nat.le_of_ble_eq_true rfl) (by simp [wfL, SV.wf]) (wfH_spec (by simp [wfH, SObj.wf])) (Nat.le_refl _) ?_
      simp -implicitDefEqProofs only [Tryz.f43, Option.getD_some, argS, IsRack_F, areAll_mix_F, back_F, sources_F, rev2_F, hR, tkR, hr, h20, h20', hc, areAllI_F, freshK, Wrap.ap, ZB, Int.reduceToNat, Nat.reduceLT, Nat.reduceLeDiff, Int.reduceLE, Int.reduceLT, Nat.reduceEqDiff, Nat.reduceSub, SB, SV.known, packR, ne_eq, reduceCtorEq, Nat.reduceEqDiff, ↓reduceIte, if_true, if_false, eq_self, Nat.reduceAdd, Nat.reduceMul, Nat.reduceSub, forall_const, oneCellS, litOne, flat1, Kd.isSca, flat, TYB]
      exact ⟨⟨hC, by omega⟩, .inl ⟨rfl, rfl, rfl⟩⟩
    · refine fresh_of_vc (X := ⟨Tryz.prog, tys, [(62, IsRack_F), (103, areAll_mix_F), (87, back_F)], [(89, sources_F), (105, rev2_F)], true, true, 1, [], []⟩) fn_43 ⟨tys_ok, (.cons IsRack_T (.cons areAll_mix_T (.cons back_T .nil))), (.cons sources_T (.cons rev2_T .nil)), mixed⟩ (n0 := 1) rfl (Nat.le_of_ble_eq_true rfl) (by simp [wfL, SV.wf]) (wfH_spec (by simp [wfH, SObj.wf])) (Nat.le_refl _) ?_
      simp -implicitDefEqProofs only [Tryz.f43, Option.getD_some, argS, IsRack_F, areAll_mix_F, back_F, sources_F, rev2_F, hR, tkR, hr, h20, h20', hc, areAllI_F, freshK, Wrap.ap, ZB, Int.reduceToNat, Nat.reduceLT, Nat.reduceLeDiff, Int.reduceLE, Int.reduceLT, Nat.reduceEqDiff, Nat.reduceSub, SB, SV.known, packR, ne_eq, reduceCtorEq, Nat.reduceEqDiff, ↓reduceIte, if_true, if_false, eq_self, Nat.reduceAdd, Nat.reduceMul, Nat.reduceSub, forall_const, oneCellS, litOne, flat1, Kd.isSca, flat, TYB]
      have hC0 : ∀ k, k < len → 0 ≤ C.getD k 0 := fun k hk => by
        have h1 := List.all_eq_true.1 hc (C.getD k 0) (by
          rw [List.getD_eq_getElem?_getD, List.getElem?_eq_getElem (by omega)]
          exact List.mem_take_iff_getElem.2 ⟨k, by omega, rfl⟩)
        exact of_decide_eq_true h1
      refine ⟨⟨hC, by omega⟩, ?_⟩
      refine loop_intro (fun s : Nat × Nat × List Int => [(28, .int s.1), (27, .int len), (26, .slice 0 0 len cap), (7, outVn 3 s.1 s.1 s.2.1), (4, .ptr 2 0), (2, .ptr 1 0)])
        (fun s => outHn 3 s.1 ((mxK R C s.1).2 ++ s.2.2) 65 [(2, .ints (List.replicate 24 0) 27), (1, .ints (mxK R C s.1).1 27), (0, .ints C e)]) 4
        (fun s => (s.1 ≤ len ∧ ∀ q, q < s.1 → mxO R C q = true) ∧ s.2.2.length + s.1 * 2 = s.2.1 * 2) (fun s => len - s.1) ?_ ?_
      · refine ⟨(0, 0, []), ⟨⟨by simp, by simp⟩, by simp⟩, Sub.mk_id ?_ ?_ ?_ ?_ ?_⟩
        all_goals simp only [mxK, outVn_zero, outHn_zero, LB, subS, subH, wfS, wfH, SV.ren, renL, SObj.ren, SV.wf, SObj.wf, wfL, SV.known, Nat.reduceEqDiff, ↓reduceIte, if_true, if_false, eq_self, Nat.reduceAdd, Nat.reduceLT, Nat.reduceLeDiff, implies_true, reduceCtorEq, forall_const]
        all_goals (try simp)
      · rintro ⟨i, c, j⟩ ⟨⟨hi, hall⟩, hj⟩
        simp only at hi hj hall
        obtain ⟨q24, qr⟩ := mxK_facts hR hr hC0 i hi hall
        have tkQ : List.take 24 (mxK R C i).1 = (mxK R C i).1 := List.take_of_length_le (by omega)
        have dQ : List.drop 24 (mxK R C i).1 = [] := List.drop_eq_nil_of_le (by omega)
        have l2 := mxK_len2 R C i
        by_cases hlt : i < len
        · have hil : (i : Int) < len := by omega
          have hiC : i < C.length := by omega
          by_cases h0 : SrL (mxK R C i).1 144 = []
          · have hn : mxN R C len = i := firstN_at hlt hall (by unfold mxO; simp [h0])
            have hne : (([] : List Int) ≠ []) = False := by simp
            cases i with
            | zero =>
              simp -implicitDefEqProofs only [lk_normal, sources_F, rev2_F, outVn_zero, outHn_zero, hil, hiC, q24, qr, tkQ, h0, hne, freshK, Wrap.ap, ZB, Int.reduceToNat, Nat.reduceLT, Nat.reduceLeDiff, Int.reduceLE, Int.reduceLT, Nat.reduceEqDiff, Nat.reduceSub, SB, SV.known, packR, ne_eq, reduceCtorEq, Nat.reduceEqDiff, ↓reduceIte, if_true, if_false, eq_self, Nat.reduceAdd, Nat.reduceMul, Nat.reduceSub, forall_const, oneCellS, litOne, flat1, Kd.isSca, flat, TYB]
              refine ⟨fun _ => ⟨by omega, ?_⟩, fun h => absurd hlt (by omega)⟩
              rw [hn]
              exact .inl ⟨rfl, rfl, rfl⟩
            | succ i =>
              simp -implicitDefEqProofs only [lk_normal, sources_F, rev2_F, outVn_succ, outHn_succ, hil, hiC, q24, qr, tkQ, h0, hne, freshK, Wrap.ap, ZB, Int.reduceToNat, Nat.reduceLT, Nat.reduceLeDiff, Int.reduceLE, Int.reduceLT, Nat.reduceEqDiff, Nat.reduceSub, SB, SV.known, packR, ne_eq, reduceCtorEq, Nat.reduceEqDiff, ↓reduceIte, if_true, if_false, eq_self, Nat.reduceAdd, Nat.reduceMul, Nat.reduceSub, forall_const, oneCellS, litOne, flat1, Kd.isSca, flat, TYB]
              refine ⟨by omega, by omega, by rw [List.length_append]; omega, ?_⟩
              rw [hn]
              exact mx_end q24 l2 hj rfl (by simp [hget_cons])
          · have ho : mxO R C i = true := by unfold mxO; simp [h0]
            obtain ⟨s1, s2, s3, s4, s5⟩ := mxS_spec (hC0 i hlt) h0
            obtain ⟨m, hm, _⟩ := SrL_three (mxK R C i).1 144
            have e2 : (SrL (mxK R C i).1 144).length / 3 = m := by omega
            rw [e2] at s2 s3
            have hm0 : ¬ (m : Int) = 0 := by omega
            have b21 := bk_21 s5
            have sl := fun J => (show List.take 3 (List.drop (mxI (mxK R C i).1 (C.getD i 0) * 3) (SrL (mxK R C i).1 144 ++ J)) = mxS (mxK R C i).1 (C.getD i 0) from by
              rw [List.drop_append_of_le_length (by omega), List.take_append_of_le_length (by rw [List.length_drop]; omega)]; rfl)
            have tks : List.take 3 (mxS (mxK R C i).1 (C.getD i 0)) = mxS (mxK R C i).1 (C.getD i 0) := List.take_of_length_le (by omega)
            have ei : ((C.getD i 0).tmod (m : Int)).toNat = mxI (mxK R C i).1 (C.getD i 0) := by unfold mxI; rw [e2]
            have bl := bkR_len q24 ((mxS (mxK R C i).1 (C.getD i 0)).getD 0 0) ((mxS (mxK R C i).1 (C.getD i 0)).getD 1 0) ((mxS (mxK R C i).1 (C.getD i 0)).getD 2 0)
            have tkb := List.take_of_length_le (Nat.le_of_eq bl)
            cases i with
            | zero =>
              simp -implicitDefEqProofs only [lk_normal, sources_F, back_F, outVn_zero, outHn_zero, hil, hiC, q24, qr, tkQ, h0, e2, hm0, s2, s3, s4, s5, b21, sl, tks, ei, bl, tkb, freshK, Wrap.ap, ZB, Int.reduceToNat, Nat.reduceLT, Nat.reduceLeDiff, Int.reduceLE, Int.reduceLT, Nat.reduceEqDiff, Nat.reduceSub, SB, SV.known, packR, ne_eq, reduceCtorEq, Nat.reduceEqDiff, ↓reduceIte, if_true, if_false, eq_self, Nat.reduceAdd, Nat.reduceMul, Nat.reduceSub, forall_const, oneCellS, litOne, flat1, Kd.isSca, flat, TYB]
              have eK : mxK R C 1 = (bkR (mxK R C 0).1 ((mxS (mxK R C 0).1 (C.getD 0 0)).getD 0 0) ((mxS (mxK R C 0).1 (C.getD 0 0)).getD 1 0) ((mxS (mxK R C 0).1 (C.getD 0 0)).getD 2 0), [(mxS (mxK R C 0).1 (C.getD 0 0)).getD 0 0, (mxS (mxK R C 0).1 (C.getD 0 0)).getD 1 0]) := rfl
              refine ⟨fun _ => ⟨by omega, fun cp jp hjp => ⟨by rw [List.length_append]; omega, fun j' c' hj' => ⟨by unfold In64; omega, (1, c', j'), ⟨⟨by simp only; omega, fun q hq => ?_⟩, by simp only; omega⟩, by simp only; omega, Sub.mk_to 3 7 ?_ ?_ ?_ ?_ ?_ ?_ ?_⟩⟩⟩, fun h => absurd hlt (by omega)⟩
              · have hq' : q < 1 := hq
                obtain rfl : q = 0 := by omega
                exact ho
              all_goals (try simp only [eK, dQ, List.append_nil, List.cons_append, List.nil_append])
              all_goals ((try simp only [outVn_succ, outHn_succ, LB, subS, subH, wfS, wfH, SV.ren, renL, SObj.ren, SV.wf, SObj.wf, wfL, SV.known, Nat.reduceEqDiff, ↓reduceIte, if_true, if_false, eq_self, Nat.reduceAdd, Nat.reduceLT, Nat.reduceLeDiff, implies_true, reduceCtorEq, forall_const]) <;> simp)
            | succ i =>
              simp -implicitDefEqProofs only [lk_normal, sources_F, back_F, outVn_succ, outHn_succ, hil, hiC, q24, qr, tkQ, h0, e2, hm0, s2, s3, s4, s5, b21, sl, tks, ei, bl, tkb, freshK, Wrap.ap, ZB, Int.reduceToNat, Nat.reduceLT, Nat.reduceLeDiff, Int.reduceLE, Int.reduceLT, Nat.reduceEqDiff, Nat.reduceSub, SB, SV.known, packR, ne_eq, reduceCtorEq, Nat.reduceEqDiff, ↓reduceIte, if_true, if_false, eq_self, Nat.reduceAdd, Nat.reduceMul, Nat.reduceSub, forall_const, oneCellS, litOne, flat1, Kd.isSca, flat, TYB]
              have eK : mxK R C (i + 1 + 1) = (bkR (mxK R C (i + 1)).1 ((mxS (mxK R C (i + 1)).1 (C.getD (i + 1) 0)).getD 0 0) ((mxS (mxK R C (i + 1)).1 (C.getD (i + 1) 0)).getD 1 0) ((mxS (mxK R C (i + 1)).1 (C.getD (i + 1) 0)).getD 2 0), (mxK R C (i + 1)).2 ++ [(mxS (mxK R C (i + 1)).1 (C.getD (i + 1) 0)).getD 0 0, (mxS (mxK R C (i + 1)).1 (C.getD (i + 1) 0)).getD 1 0]) := rfl
              refine ⟨by omega, fun cp jp hjp => ⟨by rw [List.length_append]; omega, by rw [List.length_append]; omega, by omega, by omega, by omega, fun j' c' hj' => ⟨by unfold In64; omega, (i + 1 + 1, c', j'), ⟨⟨by simp only; omega, fun q hq => ?_⟩, by simp only; omega⟩, by simp only; omega, Sub.mk_to 3 7 ?_ ?_ ?_ ?_ ?_ ?_ ?_⟩⟩⟩
              · have hq' : q < i + 1 + 1 := hq
                by_cases hqi : q = i + 1
                · subst hqi; exact ho
                · exact hall q (by omega)
              all_goals (try simp only [eK, dQ, List.append_nil, List.take_left' l2])
              all_goals ((try simp only [outVn_succ, outHn_succ, LB, subS, subH, wfS, wfH, SV.ren, renL, SObj.ren, SV.wf, SObj.wf, wfL, SV.known, Nat.reduceEqDiff, ↓reduceIte, if_true, if_false, eq_self, Nat.reduceAdd, Nat.reduceLT, Nat.reduceLeDiff, implies_true, reduceCtorEq, forall_const]) <;> simp)
        · have hil : ¬ (i : Int) < len := by omega
          obtain rfl : i = len := by omega
          have hn : mxN R C i = i := firstN_end hall
          cases i with
          | zero =>
            simp -implicitDefEqProofs only [lk_normal, rev2_F, outVn_zero, outHn_zero, hil, q24, qr, tkQ, ZB, Int.reduceToNat, Nat.reduceLT, Nat.reduceLeDiff, Int.reduceLE, Int.reduceLT, Nat.reduceEqDiff, Nat.reduceSub, SB, SV.known, packR, ne_eq, reduceCtorEq, Nat.reduceEqDiff, ↓reduceIte, if_true, if_false, eq_self, Nat.reduceAdd, Nat.reduceMul, Nat.reduceSub, forall_const, oneCellS, litOne, flat1, Kd.isSca, flat, TYB]
            rw [hn]
            exact .inl ⟨rfl, rfl, rfl⟩
          | succ i =>
            simp -implicitDefEqProofs only [lk_normal, rev2_F, outVn_succ, outHn_succ, hil, q24, qr, tkQ, ZB, Int.reduceToNat, Nat.reduceLT, Nat.reduceLeDiff, Int.reduceLE, Int.reduceLT, Nat.reduceEqDiff, Nat.reduceSub, SB, SV.known, packR, ne_eq, reduceCtorEq, Nat.reduceEqDiff, ↓reduceIte, if_true, if_false, eq_self, Nat.reduceAdd, Nat.reduceMul, Nat.reduceSub, forall_const, oneCellS, litOne, flat1, Kd.isSca, flat, TYB]
            refine ⟨by omega, by rw [List.length_append]; omega, ?_⟩
            rw [hn]
            exact mx_end q24 l2 hj rfl (by simp [hget_cons])
  · have h20' : (len : Int) > 20 := by omega
    refine fresh_of_vc (X := ⟨Tryz.prog, tys, [(62, IsRack_F), (103, areAll_mix_F), (87, back_F)], [(89, sources_F), (105, rev2_F)], true, true, 1, [], []⟩) fn_43 ⟨tys_ok, (.cons IsRack_T (.cons areAll_mix_T (.cons back_T .nil))), (.cons sources_T (.cons rev2_T .nil)), mixed⟩ (n0 := 1) rfl (Nat.le_of_ble_eq_true rfl) (by simp [wfL, SV.wf]) (wfH_spec (by simp [wfH, SObj.wf])) (Nat.le_refl _) ?_
    simp -implicitDefEqProofs only [Tryz.f43, Option.getD_some, argS, IsRack_F, areAll_mix_F, back_F, sources_F, rev2_F, hR, tkR, hr, h20, h20', freshK, Wrap.ap, ZB, Int.reduceToNat, Nat.reduceLT, Nat.reduceLeDiff, Int.reduceLE, Int.reduceLT, Nat.reduceEqDiff, Nat.reduceSub, SB, SV.known, packR, ne_eq, reduceCtorEq, Nat.reduceEqDiff, ↓reduceIte, if_true, if_false, eq_self, Nat.reduceAdd, Nat.reduceMul, Nat.reduceSub, forall_const, oneCellS, litOne, flat1, Kd.isSca, flat, TYB]
    exact .inl ⟨rfl, rfl, rfl⟩
--@tbl MixedBy = impl.MixedBy
theorem rvF_snoc {P : List Int} {i : Nat} (x y : Int) (h : P.length = i * 2) : rvF (P ++ [x, y]) (i + 1) = x :: y :: rvF P i := by
  unfold rvF
  rw [List.range_succ_eq_map, List.flatMap_cons, List.flatMap_map]
  have e0 : ((P ++ [x, y]).drop ((i + 1 - 1 - 0) * 2)).take 2 = [x, y] := by
    rw [show (i + 1 - 1 - 0) * 2 = i * 2 by omega, List.drop_left' h]; rfl
  rw [e0, List.cons_append, List.cons_append, List.nil_append]
  congr 2
  rw [List.flatMap_def, List.flatMap_def]
  congr 1
  refine List.map_congr_left fun q hq => ?_
  have := List.mem_range.1 hq
  rw [show (i + 1 - 1 - q.succ) * 2 = (i - 1 - q) * 2 by omega, List.drop_append_of_le_length (by omega), List.take_append_of_le_length (by rw [List.length_drop]; omega)]
theorem sMixedBy_ok (R C : List Int) (e len cap : Nat) (hR : R.length = 24) (hC : len ≤ C.length) (hl : len ≤ 1048576) : FreshP Tryz.prog 44 [.arr R, .slice 0 0 len cap] [(0, .ints C e)] (mxP R C len) ((mxP R C len).length / 2) 2 65 false (.mid (.arr (mxR R C len)) [.bool (mxB R C len)]) := by
  have tkR : R.take 24 = R := List.take_of_length_le (by omega)
  unfold mxP mxR mxB
  cases hr : rackB R
  · refine fresh_of_vc (X := ⟨Tryz.prog, tys, [(64, l2Rack_F), (88, l5Back_F)], [(90, l5Sources_F)], true, true, 1, [], []⟩) fn_44 ⟨tys_ok, (.cons l2Rack_T (.cons l5Back_T .nil)), (.cons l5Sources_T .nil), mixed⟩ (n0 := 1) rfl (Nat.le_of_ble_eq_true rfl) (by simp [wfL, SV.wf]) (wfH_spec (by simp [wfH, SObj.wf])) (Nat.le_refl _) ?_
    simp -implicitDefEqProofs only [Tryz.f44, Option.getD_some, argS, l2Rack_F, l5Back_F, l5Sources_F, hR, tkR, hr, freshK, Wrap.ap, ZB, Int.reduceToNat, Nat.reduceLT, Nat.reduceLeDiff, Int.reduceLE, Int.reduceLT, Nat.reduceEqDiff, Nat.reduceSub, SB, SV.known, packR, ne_eq, reduceCtorEq, Nat.reduceEqDiff, ↓reduceIte, if_true, if_false, eq_self, Nat.reduceAdd, Nat.reduceMul, Nat.reduceSub, forall_const, oneCellS, litOne, flat1, Kd.isSca, flat, TYB]
    exact .inr ⟨3, 0, [], rfl, by simp [hget_cons], by omega, by simp, by simp⟩
  by_cases h20 : len ≤ 20
  · have h20' : ¬ (len : Int) > 20 := by omega
    refine fresh_of_vc (X := ⟨Tryz.prog, tys, [(64, l2Rack_F), (88, l5Back_F)], [(90, l5Sources_F)], true, true, 1, [], []⟩) fn_44 ⟨tys_ok, (.cons l2Rack_T (.cons l5Back_T .nil)), (.cons l5Sources_T .nil), mixed⟩ (n0 := 1) rfl (Nat.le_of_ble_eq_true rfl) (by simp [wfL, SV.wf]) (wfH_spec (by simp [wfH, SObj.wf])) (Nat.le_refl _) ?_
    simp -implicitDefEqProofs only [Tryz.f44, Option.getD_some, argS, l2Rack_F, l5Back_F, l5Sources_F, hR, tkR, hr, h20, h20', freshK, Wrap.ap, ZB, Int.reduceToNat, Nat.reduceLT, Nat.reduceLeDiff, Int.reduceLE, Int.reduceLT, Nat.reduceEqDiff, Nat.reduceSub, SB, SV.known, packR, ne_eq, reduceCtorEq, Nat.reduceEqDiff, ↓reduceIte, if_true, if_false, eq_self, Nat.reduceAdd, Nat.reduceMul, Nat.reduceSub, forall_const, oneCellS, litOne, flat1, Kd.isSca, flat, TYB]
    refine loop_intro (fun i : Nat => [(8, .int i), (7, .slice 3 0 0 0), (4, .ptr 2 0), (2, .ptr 1 0), (1, .slice 0 0 len cap)])
      (fun i => [(3, .ints [] 65), (2, .ints (List.replicate 24 0) 27), (1, .ints R 27), (0, .ints C e)]) 4 (fun i => i ≤ len ∧ ∀ k, k < i → 0 ≤ C.getD k 0) (fun i => len - i) ?_ ?_
    · refine ⟨0, ⟨by omega, by simp⟩, Sub.mk_id ?_ ?_ ?_ ?_ ?_⟩
      all_goals ((try simp only [LB, subS, subH, wfS, wfH, SV.ren, renL, SObj.ren, SV.wf, SObj.wf, wfL, SV.known, Nat.reduceEqDiff, ↓reduceIte, if_true, if_false, eq_self, Nat.reduceAdd, Nat.reduceLT, Nat.reduceLeDiff, implies_true, reduceCtorEq, forall_const]) <;> simp)
    · rintro i ⟨hi, hno⟩
      by_cases hlt : i < len
      · have hil : (i : Int) < len := by omega
        have hiC : i < C.length := by omega
        by_cases hn : C.getD i 0 < 0
        · have hcf : (C.take len).all nnm = false := by
            rw [List.all_eq_false]
            refine ⟨C.getD i 0, ?_, by unfold nnm; simp; simpa using hn⟩
            rw [List.getD_eq_getElem?_getD, List.getElem?_eq_getElem hiC]
            exact List.mem_take_iff_getElem.2 ⟨i, by omega, rfl⟩
          simp -implicitDefEqProofs only [lk_normal, hil, hiC, hn, hcf, hR, tkR, ZB, Int.reduceToNat, Nat.reduceLT, Nat.reduceLeDiff, Int.reduceLE, Int.reduceLT, Nat.reduceEqDiff, Nat.reduceSub, SB, SV.known, packR, ne_eq, reduceCtorEq, Nat.reduceEqDiff, ↓reduceIte, if_true, if_false, eq_self, Nat.reduceAdd, Nat.reduceMul, Nat.reduceSub, forall_const, oneCellS, litOne, flat1, Kd.isSca, flat, TYB]
          exact ⟨by omega, .inr ⟨4, 0, [], rfl, by simp [hget_cons], by omega, by simp, by simp⟩⟩
        · simp -implicitDefEqProofs only [lk_normal, hil, hiC, hn, hR, tkR, ZB, Int.reduceToNat, Nat.reduceLT, Nat.reduceLeDiff, Int.reduceLE, Int.reduceLT, Nat.reduceEqDiff, Nat.reduceSub, SB, SV.known, packR, ne_eq, reduceCtorEq, Nat.reduceEqDiff, ↓reduceIte, if_true, if_false, eq_self, Nat.reduceAdd, Nat.reduceMul, Nat.reduceSub, forall_const, oneCellS, litOne, flat1, Kd.isSca, flat, TYB]
          refine ⟨by omega, by unfold In64; omega, i + 1, ⟨by omega, fun k hk => ?_⟩, by omega, Sub.mk_id ?_ ?_ ?_ ?_ ?_⟩
          · by_cases hki : k = i
            · subst hki; omega
            · exact hno k (by omega)
          all_goals ((try simp only [LB, subS, subH, wfS, wfH, SV.ren, renL, SObj.ren, SV.wf, SObj.wf, wfL, SV.known, Nat.reduceEqDiff, ↓reduceIte, if_true, if_false, eq_self, Nat.reduceAdd, Nat.reduceLT, Nat.reduceLeDiff, implies_true, reduceCtorEq, forall_const]) <;> simp)
      · have hil : ¬ (i : Int) < len := by omega
        obtain rfl : i = len := by omega
        have hc : (C.take i).all nnm = true := by
          rw [List.all_eq_true]
          intro x hx
          obtain ⟨k, hk, rfl⟩ := List.mem_take_iff_getElem.1 hx
          have := hno k (by omega)
          rw [List.getD_eq_getElem?_getD, List.getElem?_eq_getElem (by omega)] at this
          exact decide_eq_true this
        have hC0 := hno
        simp -implicitDefEqProofs only [lk_normal, hil, hc, ZB, Int.reduceToNat, Nat.reduceLT, Nat.reduceLeDiff, Int.reduceLE, Int.reduceLT, Nat.reduceEqDiff, Nat.reduceSub, SB, SV.known, packR, ne_eq, reduceCtorEq, Nat.reduceEqDiff, ↓reduceIte, if_true, if_false, eq_self, Nat.reduceAdd, Nat.reduceMul, Nat.reduceSub, forall_const, oneCellS, litOne, flat1, Kd.isSca, flat, TYB]
        generalize hlen : i = len at *
        clear hno hil hlt hi
        refine loop_intro (fun s : Nat × Nat × List Int => [(9, .int s.1), (7, .slice 3 0 s.1 s.2.1), (4, .ptr 2 0), (2, .ptr 1 0), (1, .slice 0 0 len cap)])
          (fun s => [(3, .ints (rvF (mxK R C s.1).2 s.1 ++ s.2.2) 65), (2, .ints (List.replicate 24 0) 27), (1, .ints (mxK R C s.1).1 27), (0, .ints C e)]) 4
          (fun s => (s.1 ≤ len ∧ ∀ q, q < s.1 → mxO R C q = true) ∧ s.2.2.length + s.1 * 2 = s.2.1 * 2) (fun s => len - s.1) ?_ ?_
        · refine ⟨(0, 0, []), ⟨⟨by simp, by simp⟩, by simp⟩, Sub.mk_id ?_ ?_ ?_ ?_ ?_⟩
          all_goals simp only [mxK, rvF, List.range_zero, List.flatMap_nil, List.append_nil, LB, subS, subH, wfS, wfH, SV.ren, renL, SObj.ren, SV.wf, SObj.wf, wfL, SV.known, Nat.reduceEqDiff, ↓reduceIte, if_true, if_false, eq_self, Nat.reduceAdd, Nat.reduceLT, Nat.reduceLeDiff, implies_true, reduceCtorEq, forall_const]
          all_goals (try simp)
        · rintro ⟨i, c, j⟩ ⟨⟨hi, hall⟩, hj⟩
          simp only at hi hj hall
          obtain ⟨q24, qr⟩ := mxK_facts hR hr hC0 i hi hall
          have tkQ : List.take 24 (mxK R C i).1 = (mxK R C i).1 := List.take_of_length_le (by omega)
          have dQ : List.drop 24 (mxK R C i).1 = [] := List.drop_eq_nil_of_le (by omega)
          have l2 := mxK_len2 R C i
          have lrv := rvF_len l2
          by_cases hlt : i < len
          · have hil : (i : Int) < len := by omega
            have hiC : i < C.length := by omega
            by_cases h0 : SrL (mxK R C i).1 144 = []
            · have hn : mxN R C len = i := firstN_at hlt hall (by unfold mxO; simp [h0])
              have hne : (([] : List Int) ≠ []) = False := by simp
              have hz : (((0 : Nat) / 3 : Nat) : Int) = 0 := rfl
              have hn0 : ¬ (0 : Int) ≠ 0 := by omega
              simp -implicitDefEqProofs only [lk_normal, l5Sources_F, hil, hiC, q24, qr, tkQ, h0, hne, hz, hn0, List.length_nil, freshK, Wrap.ap, ZB, Int.reduceToNat, Nat.reduceLT, Nat.reduceLeDiff, Int.reduceLE, Int.reduceLT, Nat.reduceEqDiff, Nat.reduceSub, SB, SV.known, packR, ne_eq, reduceCtorEq, Nat.reduceEqDiff, ↓reduceIte, if_true, if_false, eq_self, Nat.reduceAdd, Nat.reduceMul, Nat.reduceSub, forall_const, oneCellS, litOne, flat1, Kd.isSca, flat, TYB]
              intro cp jp hjp
              rw [hn]
              exact .inr ⟨3, c, j, by show _ = SV.tup [_, SV.slice 3 0 ((rvF (mxK R C i).2 i).length / 2) c, _]; rw [lrv, Nat.mul_div_cancel _ (by omega)], by simp [hget_cons], by omega, by omega, fun h => by cases h⟩
            · have ho : mxO R C i = true := by unfold mxO; simp [h0]
              obtain ⟨s1, s2, s3, s4, s5⟩ := mxS_spec (hC0 i hlt) h0
              obtain ⟨m, hm, _⟩ := SrL_three (mxK R C i).1 144
              have e2 : (SrL (mxK R C i).1 144).length / 3 = m := by omega
              rw [e2] at s2 s3
              have hm0 : ¬ (m : Int) = 0 := by omega
              have b21 := bk_21 s5
              have sl := fun J => (show List.take 3 (List.drop (mxI (mxK R C i).1 (C.getD i 0) * 3) (SrL (mxK R C i).1 144 ++ J)) = mxS (mxK R C i).1 (C.getD i 0) from by
                rw [List.drop_append_of_le_length (by omega), List.take_append_of_le_length (by rw [List.length_drop]; omega)]; rfl)
              have tks : List.take 3 (mxS (mxK R C i).1 (C.getD i 0)) = mxS (mxK R C i).1 (C.getD i 0) := List.take_of_length_le (by omega)
              have ei : ((C.getD i 0).tmod (m : Int)).toNat = mxI (mxK R C i).1 (C.getD i 0) := by unfold mxI; rw [e2]
              have bl := bkR_len q24 ((mxS (mxK R C i).1 (C.getD i 0)).getD 0 0) ((mxS (mxK R C i).1 (C.getD i 0)).getD 1 0) ((mxS (mxK R C i).1 (C.getD i 0)).getD 2 0)
              have tkb := List.take_of_length_le (Nat.le_of_eq bl)
              have eT : bkT (mxK R C i).1 ((mxS (mxK R C i).1 (C.getD i 0)).getD 0 0) ((mxS (mxK R C i).1 (C.getD i 0)).getD 1 0) ((mxS (mxK R C i).1 (C.getD i 0)).getD 2 0) = bkR (mxK R C i).1 ((mxS (mxK R C i).1 (C.getD i 0)).getD 0 0) ((mxS (mxK R C i).1 (C.getD i 0)).getD 1 0) ((mxS (mxK R C i).1 (C.getD i 0)).getD 2 0) := by unfold bkT; rw [if_pos s5]
              cases i with
              | zero =>
                have sE : srcE (.slice 3 0 0 c) = true := rfl
                simp -implicitDefEqProofs only [lk_normal, l5Sources_F, l5Back_F, hil, hiC, q24, qr, tkQ, h0, e2, hm0, s2, s3, s4, s5, b21, sl, tks, ei, eT, bl, tkb, sE, freshK, Wrap.ap, ZB, Int.reduceToNat, Nat.reduceLT, Nat.reduceLeDiff, Int.reduceLE, Int.reduceLT, Nat.reduceEqDiff, Nat.reduceSub, SB, SV.known, packR, ne_eq, reduceCtorEq, Nat.reduceEqDiff, ↓reduceIte, if_true, if_false, eq_self, Nat.reduceAdd, Nat.reduceMul, Nat.reduceSub, forall_const, oneCellS, litOne, flat1, Kd.isSca, flat, TYB]
                have eK : mxK R C 1 = (bkR (mxK R C 0).1 ((mxS (mxK R C 0).1 (C.getD 0 0)).getD 0 0) ((mxS (mxK R C 0).1 (C.getD 0 0)).getD 1 0) ((mxS (mxK R C 0).1 (C.getD 0 0)).getD 2 0), [(mxS (mxK R C 0).1 (C.getD 0 0)).getD 0 0, (mxS (mxK R C 0).1 (C.getD 0 0)).getD 1 0]) := rfl
                have eR : ∀ a b : Int, rvF [a, b] 1 = [a, b] := fun a b => rfl
                refine ⟨fun _ cp jp hjp => ⟨by omega, by rw [List.length_append]; omega, by unfold In64; omega, (1, 1, []), ⟨⟨by simp only; omega, fun q hq => ?_⟩, by simp⟩, by simp only; omega, Sub.mk_to 3 6 ?_ ?_ ?_ ?_ ?_ ?_ ?_⟩, fun h => absurd hlt (by omega)⟩
                · have hq' : q < 1 := hq
                  obtain rfl : q = 0 := by omega
                  exact ho
                all_goals (try simp only [eK, eR, dQ, List.append_nil, List.cons_append, List.nil_append])
                all_goals ((try simp only [LB, subS, subH, wfS, wfH, SV.ren, renL, SObj.ren, SV.wf, SObj.wf, wfL, SV.known, Nat.reduceEqDiff, ↓reduceIte, if_true, if_false, eq_self, Nat.reduceAdd, Nat.reduceLT, Nat.reduceLeDiff, implies_true, reduceCtorEq, forall_const]) <;> simp)
              | succ i =>
                have sE : srcE (.slice 3 0 (i + 1) c) = false := rfl
                have tkP : ∀ J, List.take ((i + 1) * 2) (rvF (mxK R C (i + 1)).2 (i + 1) ++ J) = rvF (mxK R C (i + 1)).2 (i + 1) := fun J => List.take_left' lrv
                simp -implicitDefEqProofs only [lk_normal, l5Sources_F, l5Back_F, hil, hiC, q24, qr, tkQ, h0, e2, hm0, s2, s3, s4, s5, b21, sl, tks, ei, eT, bl, tkb, sE, tkP, freshK, Wrap.ap, ZB, Int.reduceToNat, Nat.reduceLT, Nat.reduceLeDiff, Int.reduceLE, Int.reduceLT, Nat.reduceEqDiff, Nat.reduceSub, SB, SV.known, packR, ne_eq, reduceCtorEq, Nat.reduceEqDiff, ↓reduceIte, if_true, if_false, eq_self, Nat.reduceAdd, Nat.reduceMul, Nat.reduceSub, forall_const, oneCellS, litOne, flat1, Kd.isSca, flat, TYB]
                have eK : mxK R C (i + 1 + 1) = (bkR (mxK R C (i + 1)).1 ((mxS (mxK R C (i + 1)).1 (C.getD (i + 1) 0)).getD 0 0) ((mxS (mxK R C (i + 1)).1 (C.getD (i + 1) 0)).getD 1 0) ((mxS (mxK R C (i + 1)).1 (C.getD (i + 1) 0)).getD 2 0), (mxK R C (i + 1)).2 ++ [(mxS (mxK R C (i + 1)).1 (C.getD (i + 1) 0)).getD 0 0, (mxS (mxK R C (i + 1)).1 (C.getD (i + 1) 0)).getD 1 0]) := rfl
                have eR := fun x y => rvF_snoc x y l2
                have e1 : 1 + (i + 1) = i + 1 + 1 := by omega
                refine fun cp jp hjp => ⟨by omega, by rw [List.length_append]; omega, by rw [List.length_append]; omega, by omega, by omega, fun j' c' hj' => ⟨by unfold In64; omega, (i + 1 + 1, c', j'), ⟨⟨by simp only; omega, fun q hq => ?_⟩, by simp only; omega⟩, by simp only; omega, Sub.mk_to 3 7 ?_ ?_ ?_ ?_ ?_ ?_ ?_⟩⟩
                · have hq' : q < i + 1 + 1 := hq
                  by_cases hqi : q = i + 1
                  · subst hqi; exact ho
                  · exact hall q (by omega)
                all_goals (try simp only [eK, eR, e1, dQ, List.append_nil, List.cons_append, List.nil_append])
                all_goals ((try simp only [LB, subS, subH, wfS, wfH, SV.ren, renL, SObj.ren, SV.wf, SObj.wf, wfL, SV.known, Nat.reduceEqDiff, ↓reduceIte, if_true, if_false, eq_self, Nat.reduceAdd, Nat.reduceLT, Nat.reduceLeDiff, implies_true, reduceCtorEq, forall_const]) <;> simp)
          · have hil : ¬ (i : Int) < len := by omega
            obtain rfl : i = len := by omega
            have hn : mxN R C i = i := firstN_end hall
            simp -implicitDefEqProofs only [lk_normal, hil, q24, tkQ, ZB, Int.reduceToNat, Nat.reduceLT, Nat.reduceLeDiff, Int.reduceLE, Int.reduceLT, Nat.reduceEqDiff, Nat.reduceSub, SB, SV.known, packR, ne_eq, reduceCtorEq, Nat.reduceEqDiff, ↓reduceIte, if_true, if_false, eq_self, Nat.reduceAdd, Nat.reduceMul, Nat.reduceSub, forall_const, oneCellS, litOne, flat1, Kd.isSca, flat, TYB]
            rw [hn]
            exact .inr ⟨3, c, j, by show _ = SV.tup [_, SV.slice 3 0 ((rvF (mxK R C i).2 i).length / 2) c, _]; rw [lrv, Nat.mul_div_cancel _ (by omega)], by simp [hget_cons], by omega, by omega, fun h => by cases h⟩
  · have h20' : (len : Int) > 20 := by omega
    refine fresh_of_vc (X := ⟨Tryz.prog, tys, [(64, l2Rack_F), (88, l5Back_F)], [(90, l5Sources_F)], true, true, 1, [], []⟩) fn_44 ⟨tys_ok, (.cons l2Rack_T (.cons l5Back_T .nil)), (.cons l5Sources_T .nil), mixed⟩ (n0 := 1) rfl (Nat.le_of_ble_eq_true rfl) (by simp [wfL, SV.wf]) (wfH_spec (by simp [wfH, SObj.wf])) (Nat.le_refl _) ?_
    simp -implicitDefEqProofs only [Tryz.f44, Option.getD_some, argS, l2Rack_F, l5Back_F, l5Sources_F, hR, tkR, hr, h20, h20', freshK, Wrap.ap, ZB, Int.reduceToNat, Nat.reduceLT, Nat.reduceLeDiff, Int.reduceLE, Int.reduceLT, Nat.reduceEqDiff, Nat.reduceSub, SB, SV.known, packR, ne_eq, reduceCtorEq, Nat.reduceEqDiff, ↓reduceIte, if_true, if_false, eq_self, Nat.reduceAdd, Nat.reduceMul, Nat.reduceSub, forall_const, oneCellS, litOne, flat1, Kd.isSca, flat, TYB]
    exact .inr ⟨3, 0, [], rfl, by simp [hget_cons], by omega, by simp, by simp⟩
theorem mxK_app (R C J : List Int) (len : Nat) (h : len ≤ C.length) : ∀ k, k ≤ len → mxK R (C ++ J) k = mxK R C k
  | 0, _ => rfl
  | k + 1, hk => by
    have e := getD_app C J k (by omega)
    unfold mxK
    rw [mxK_app R C J len h k (by omega), e]
theorem mxN_app (R C J : List Int) (len : Nat) (h : len ≤ C.length) : mxN R (C ++ J) len = mxN R C len := firstN_congr len 0 fun k _ hk => by
  unfold mxO
  rw [mxK_app R C J len h k (by omega)]
theorem mxN_le (R C : List Int) (len : Nat) : mxN R C len ≤ len := by
  have : mxN R C len ≤ 0 + len := firstN_le _ _ _
  omega
theorem mxB_app (R C J : List Int) (len : Nat) (h : len ≤ C.length) : mxB R (C ++ J) len = mxB R C len := by
  unfold mxB
  rw [List.take_append_of_le_length h]
theorem mxR_app (R C J : List Int) (len : Nat) (h : len ≤ C.length) : mxR R (C ++ J) len = mxR R C len := by
  unfold mxR
  rw [mxB_app R C J len h, mxN_app R C J len h, mxK_app R C J len h _ (mxN_le _ _ _)]
theorem mxP_app (R C J : List Int) (len : Nat) (h : len ≤ C.length) : mxP R (C ++ J) len = mxP R C len := by
  unfold mxP
  rw [mxB_app R C J len h, mxN_app R C J len h, mxK_app R C J len h _ (mxN_le _ _ _)]
def MixedBy_F : List SV → Heap → Nat → Nat → K1 → Prop
  | [.arr R, .slice b 0 len _], H, n, _, κ => match hget H b with
    | some (.ints C _) => (R.length = 24 ∧ len ≤ C.length ∧ len ≤ 1048576) ∧ freshK (.mid (.arr (mxR R (C.take len) len)) [.bool (mxB R (C.take len) len)]) (mxP R (C.take len) len) ((mxP R (C.take len) len).length / 2) 2 65 true H n κ
    | _ => False
  | _, _, _, _, _ => False
theorem MixedBy_T : ∀ args H n m κ, MixedBy_F args H n m κ → GenOK Tryz.prog 43 args H n m κ := by
  intro args H n m κ h
  unfold MixedBy_F at h
  split at h
  · rename_i R b len cap
    split at h
    · rename_i C e hb
      obtain ⟨⟨h1, h2, h3⟩, h4⟩ := h
      have ht : len ≤ (C.take len).length := by rw [List.length_take]; omega
      rw [← mxR_app _ (C.take len) (C.drop len) _ ht, ← mxB_app _ (C.take len) (C.drop len) _ ht, ← mxP_app _ (C.take len) (C.drop len) _ ht, List.take_append_drop] at h4
      exact gen_of_fresh (((MixedBy_ok R C e len cap h1 h2 h3).one hb rfl)) (fun k o hk => hk) h4
    · exact h.elim
  · exact h.elim
--@tbl sMixedBy = spec.MixedBy
def sMixedBy_F : List SV → Heap → Nat → Nat → K1 → Prop
  | [.arr R, .slice b 0 len _], H, n, _, κ => match hget H b with
    | some (.ints C _) => (R.length = 24 ∧ len ≤ C.length ∧ len ≤ 1048576) ∧ freshK (.mid (.arr (mxR R (C.take len) len)) [.bool (mxB R (C.take len) len)]) (mxP R (C.take len) len) ((mxP R (C.take len) len).length / 2) 2 65 false H n κ
    | _ => False
  | _, _, _, _, _ => False
theorem sMixedBy_T : ∀ args H n m κ, sMixedBy_F args H n m κ → GenOK Tryz.prog 44 args H n m κ := by
  intro args H n m κ h
  unfold sMixedBy_F at h
  split at h
  · rename_i R b len cap
    split at h
    · rename_i C e hb
      obtain ⟨⟨h1, h2, h3⟩, h4⟩ := h
      have ht : len ≤ (C.take len).length := by rw [List.length_take]; omega
      rw [← mxR_app _ (C.take len) (C.drop len) _ ht, ← mxB_app _ (C.take len) (C.drop len) _ ht, ← mxP_app _ (C.take len) (C.drop len) _ ht, List.take_append_drop] at h4
      exact gen_of_fresh (((sMixedBy_ok R C e len cap h1 h2 h3).one hb rfl)) (fun k o hk => hk) h4
    · exact h.elim
  · exact h.elim
end Go.Proofs.YtmccafjblhbmkaaGreat
set_option maxRecDepth 100000
set_option linter.unusedSimpArgs false
set_option linter.unusedVariables false
namespace Go.Proofs.YtmccafjblhbmkaaGreat
open Go Go.RowKit
theorem pmN_bd {R : List Int} (hR : R.length = 24) {i j : Nat} (hi : i ≤ 5) (hj : j ≤ 5) : 0 ≤ pmN R i j ∧ pmN R i j ≤ 4 := by
  have l0 := tubeAt_len hR (i := i) (by omega)
  have l1 := tubeAt_len hR (i := j) (by omega)
  have h0 := topF_le _ l0
  have h1 := lay_le _ l1
  have h2 := lay_le _ l0
  unfold pmN
  omega
def paS (R L : List Int) : Nat → Int
  | 0 => 0
  | k + 1 => paS R L k + pmN (paR R L k) (L.getD (k * 2) 0).toNat (L.getD (k * 2 + 1) 0).toNat
theorem paS_zero (R L : List Int) : paS R L 0 = 0 := rfl
theorem paS_succ (R L : List Int) (k : Nat) : paS R L (k + 1) = paS R L k + pmN (paR R L k) (L.getD (k * 2) 0).toNat (L.getD (k * 2 + 1) 0).toNat := rfl
theorem paS_bd {R L : List Int} (hR : R.length = 24) (hr : rackB R = true) : ∀ k, (∀ i, i < k → paC R L i = true) → 0 ≤ paS R L k ∧ paS R L k ≤ 4 * (k : Int)
  | 0, _ => by simp [paS_zero]
  | k + 1, h => by
    have ih := paS_bd hR hr k fun i hi => h i (by omega)
    have q := paR_facts hR hr k fun i hi => h i (by omega)
    have c := cppB_facts (h k (by omega))
    have := pmN_bd q.1 (i := (L.getD (k * 2) 0).toNat) (j := (L.getD (k * 2 + 1) 0).toNat) (by omega) (by omega)
    rw [paS_succ]
    omega
def doB (R L : List Int) (len : Nat) : Bool := (List.range len).all (paC R L)
theorem doB_true {R L : List Int} {len : Nat} (h : ∀ i, i < len → paC R L i = true) : doB R L len = true := by
  unfold doB; rw [List.all_eq_true]; intro i hi; exact h i (List.mem_range.1 hi)
theorem doB_false {R L : List Int} {len i : Nat} (hi : i < len) (h : paC R L i = false) : doB R L len = false := by
  unfold doB; rw [List.all_eq_false]; exact ⟨i, List.mem_range.2 hi, by simp [h]⟩
def doT (R L : List Int) (len : Nat) : List SV := if (rackB R && doB R L len) = true then [.arr (paR R L len), .int (paS R L len), .bool true] else [.arr (List.replicate 24 0), .int 0, .bool false]
theorem doT_stop {R L : List Int} {len i : Nat} (hi : i < len) (h : paC R L i = false) : doT R L len = [.arr (List.replicate 24 0), .int 0, .bool false] := by
  unfold doT; rw [doB_false hi h, Bool.and_false]; rfl
theorem doT_end {R L : List Int} {len : Nat} (hr : rackB R = true) (h : ∀ i, i < len → paC R L i = true) : doT R L len = [.arr (paR R L len), .int (paS R L len), .bool true] := by
  unfold doT; rw [doB_true h, hr]; rfl
theorem doT_bad {R L : List Int} {len : Nat} (hr : rackB R = false) : doT R L len = [.arr (List.replicate 24 0), .int 0, .bool false] := by
  unfold doT; rw [hr]; rfl
theorem paC_eq (R L : List Int) (k : Nat) : paC R L k = (plF (L.getD (k * 2) 0) && plF (L.getD (k * 2 + 1) 0) && canF (paR R L k) (L.getD (k * 2) 0) (L.getD (k * 2 + 1) 0)) := rfl
theorem paR_len {R L : List Int} (hR : R.length = 24) : ∀ k, (paR R L k).length = 24
  | 0 => hR
  | k + 1 => pourF_len (paR_len hR k) _ _
theorem doT_three {R L : List Int} {len : Nat} (hR : R.length = 24) : ∃ T n b, doT R L len = [.arr T, .int n, .bool b] ∧ T.length = 24 := by
  unfold doT
  split
  · exact ⟨_, _, _, rfl, paR_len hR len⟩
  · exact ⟨_, _, _, rfl, by simp⟩
attribute [local irreducible] pourF canF cppB pmN --@tbl doPours = impl.doPours
theorem doPours_ok (R L : List Int) (e len cap : Nat) (hR : R.length = 24) (hr : rackB R = true) (hL : len * 2 ≤ L.length) (hl : len ≤ 1048576) : PureH Tryz.prog 116 [.arr R, .slice 0 0 len cap] [(0, .ints L e)] (.tup (doT R L len)) := by
  have tkR : R.take 24 = R := List.take_of_length_le (by omega)
  have r24 : List.take 24 (List.replicate 24 (0 : Int)) = List.replicate 24 0 := rfl
  obtain ⟨T, n, b, hT, hTl⟩ := doT_three (R := R) (L := L) (len := len) hR
  rw [hT]
  refine pure_of_vc (X := ⟨Tryz.prog, tys, [(131, isPlace_F), (100, canPour_F), (101, pour_F)], [], true, true, 1, [], []⟩) fn_116 ⟨tys_ok, (.cons isPlace_T (.cons canPour_T (.cons pour_T .nil))), .nil, mixed⟩ (n0 := 1) (Nat.le_of_ble_eq_true rfl) (by simp [wfL, SV.wf]) (wfH_spec (by simp [wfH, SObj.wf])) (Nat.le_refl _) (fun _ => by simp [SV.wf, wfL]) ?_
  simp -implicitDefEqProofs only [Tryz.f116, Option.getD_some, argS, isPlace_F, canPour_F, pour_F, hR, tkR, hr, r24, ZB, Int.reduceToNat, Nat.reduceLT, Nat.reduceLeDiff, Int.reduceLE, Int.reduceLT, Nat.reduceEqDiff, Nat.reduceSub, SB, SV.known, packR, ne_eq, reduceCtorEq, Nat.reduceEqDiff, ↓reduceIte, if_true, if_false, eq_self, Nat.reduceAdd, Nat.reduceMul, Nat.reduceSub, forall_const, oneCellS, litOne, flat1, Kd.isSca, flat, TYB]
  refine loop_intro (fun i : Nat => [(14, .int i), (13, .int len), (12, .slice 0 0 len cap), (7, .int (paS R L i)), (6, .bool false), (5, .int 0), (4, .ptr 2 0), (2, .ptr 1 0)]) (fun i => [(2, .ints (List.replicate 24 0) 27), (1, .ints (paR R L i) 27), (0, .ints L e)]) 3 (fun i => i ≤ len ∧ ∀ q, q < i → paC R L q = true) (fun i => len - i) ?_ ?_
  · refine ⟨0, ?_, Sub.mk_id ?_ ?_ ?_ ?_ ?_⟩
    all_goals (try (simp only [paR_zero, paS_zero, LB, subS, subH, wfS, wfH, SV.ren, renL, SObj.ren, SV.wf, SObj.wf, wfL, SV.known, Nat.reduceEqDiff, ↓reduceIte, if_true, if_false, eq_self, Nat.reduceAdd, Nat.reduceLT, Nat.reduceLeDiff, implies_true, reduceCtorEq, forall_const]; done))
    all_goals (try (simp only [paR_zero, paS_zero, LB, subS, subH, wfS, wfH, SV.ren, renL, SObj.ren, SV.wf, SObj.wf, wfL, SV.known, Nat.reduceEqDiff, ↓reduceIte, if_true, if_false, eq_self, Nat.reduceAdd, Nat.reduceLT, Nat.reduceLeDiff, implies_true, reduceCtorEq, forall_const]; simp; done))
    all_goals (try (simp only [paR_zero, paS_zero, LB, subS, subH, wfS, wfH, SV.ren, renL, SObj.ren, SV.wf, SObj.wf, wfL, SV.known, Nat.reduceEqDiff, ↓reduceIte, if_true, if_false, eq_self, Nat.reduceAdd, Nat.reduceLT, Nat.reduceLeDiff, implies_true, reduceCtorEq, forall_const]; (and_intros <;> (first | omega | rfl | (simp; done) | (simp; omega))); done))
    all_goals (try dsimp only)
    all_goals (and_intros <;> try (first | omega | (unfold In64; omega) | trivial | assumption))
  · rintro i ⟨hi, hall⟩
    obtain ⟨qR, qr⟩ := paR_facts hR hr i hall
    have bS := paS_bd hR hr i hall
    have tkQ : (paR R L i).take 24 = paR R L i := List.take_of_length_le (by omega)
    have dQ : List.drop 24 (paR R L i) = [] := List.drop_eq_nil_of_le (by omega)
    by_cases hlt : i < len
    · have hil : (i : Int) < len := by omega
      have eP : List.take 2 (List.drop (i * 2) L) = [L.getD (i * 2) 0, L.getD (i * 2 + 1) 0] := take2_drop _ _ (by omega)
      have ec : paC R L i = (plF (L.getD (i * 2) 0) && plF (L.getD (i * 2 + 1) 0) && canF (paR R L i) (L.getD (i * 2) 0) (L.getD (i * 2 + 1) 0)) := paC_eq R L i
      have pl := pourF_len qR (L.getD (i * 2) 0).toNat (L.getD (i * 2 + 1) 0).toNat
      have tkp : (pourF (paR R L i) (L.getD (i * 2) 0).toNat (L.getD (i * 2 + 1) 0).toNat).take 24 = pourF (paR R L i) (L.getD (i * 2) 0).toNat (L.getD (i * 2 + 1) 0).toNat := List.take_of_length_le (by omega)
      have stop : paC R L i = false → T = List.replicate 24 0 ∧ n = 0 ∧ b = false := fun h => by
        have := hT.symm.trans (doT_stop hlt h)
        simpa using this
      cases h1 : plF (L.getD (i * 2) 0) with
      | false =>
        obtain ⟨rfl, rfl, rfl⟩ := stop (by rw [ec, h1]; rfl)
        simp -implicitDefEqProofs only [lk_normal, isPlace_F, hil, eP, h1, r24, List.getD_cons_zero, List.getD_cons_succ, ZB, Int.reduceToNat, Nat.reduceLT, Nat.reduceLeDiff, Int.reduceLE, Int.reduceLT, Nat.reduceEqDiff, Nat.reduceSub, SB, SV.known, packR, ne_eq, reduceCtorEq, Nat.reduceEqDiff, ↓reduceIte, if_true, if_false, eq_self, Nat.reduceAdd, Nat.reduceMul, Nat.reduceSub, forall_const, oneCellS, litOne, flat1, Kd.isSca, flat, TYB]
        (try (and_intros <;> try (first | omega | (unfold In64; omega) | trivial | assumption)))
      | true =>
        cases h2 : plF (L.getD (i * 2 + 1) 0) with
        | false =>
          obtain ⟨rfl, rfl, rfl⟩ := stop (by rw [ec, h1, h2]; rfl)
          simp -implicitDefEqProofs only [lk_normal, isPlace_F, hil, eP, h1, h2, r24, List.getD_cons_zero, List.getD_cons_succ, ZB, Int.reduceToNat, Nat.reduceLT, Nat.reduceLeDiff, Int.reduceLE, Int.reduceLT, Nat.reduceEqDiff, Nat.reduceSub, SB, SV.known, packR, ne_eq, reduceCtorEq, Nat.reduceEqDiff, ↓reduceIte, if_true, if_false, eq_self, Nat.reduceAdd, Nat.reduceMul, Nat.reduceSub, forall_const, oneCellS, litOne, flat1, Kd.isSca, flat, TYB]
          (try (and_intros <;> try (first | omega | (unfold In64; omega) | trivial | assumption)))
        | true =>
          have b1 : 0 ≤ L.getD (i * 2) 0 ∧ L.getD (i * 2) 0 ≤ 5 := of_decide_eq_true h1
          have b2 : 0 ≤ L.getD (i * 2 + 1) 0 ∧ L.getD (i * 2 + 1) 0 ≤ 5 := of_decide_eq_true h2
          have pb := pmN_bd qR (i := (L.getD (i * 2) 0).toNat) (j := (L.getD (i * 2 + 1) 0).toNat) (by omega) (by omega)
          cases hc : canF (paR R L i) (L.getD (i * 2) 0) (L.getD (i * 2 + 1) 0) with
          | false =>
            obtain ⟨rfl, rfl, rfl⟩ := stop (by rw [ec, h1, h2, hc]; rfl)
            simp -implicitDefEqProofs only [lk_normal, isPlace_F, canPour_F, hil, eP, h1, h2, hc, qR, tkQ, r24, List.getD_cons_zero, List.getD_cons_succ, ZB, Int.reduceToNat, Nat.reduceLT, Nat.reduceLeDiff, Int.reduceLE, Int.reduceLT, Nat.reduceEqDiff, Nat.reduceSub, SB, SV.known, packR, ne_eq, reduceCtorEq, Nat.reduceEqDiff, ↓reduceIte, if_true, if_false, eq_self, Nat.reduceAdd, Nat.reduceMul, Nat.reduceSub, forall_const, oneCellS, litOne, flat1, Kd.isSca, flat, TYB]
            (try (and_intros <;> try (first | omega | (unfold In64; omega) | trivial | assumption)))
          | true =>
            have hp : paC R L i = true := by rw [ec, h1, h2, hc]; rfl
            simp -implicitDefEqProofs only [lk_normal, isPlace_F, canPour_F, pour_F, hil, eP, h1, h2, hc, qR, qr, tkQ, dQ, pl, tkp, List.getD_cons_zero, List.getD_cons_succ, ZB, Int.reduceToNat, Nat.reduceLT, Nat.reduceLeDiff, Int.reduceLE, Int.reduceLT, Nat.reduceEqDiff, Nat.reduceSub, SB, SV.known, packR, ne_eq, reduceCtorEq, Nat.reduceEqDiff, ↓reduceIte, if_true, if_false, eq_self, Nat.reduceAdd, Nat.reduceMul, Nat.reduceSub, forall_const, oneCellS, litOne, flat1, Kd.isSca, flat, TYB]
            (try (and_intros <;> try (first | omega | (unfold In64; omega) | trivial | assumption)))
            refine ⟨i + 1, ?_, ?_, Sub.mk_id ?_ ?_ ?_ ?_ ?_⟩
            all_goals (try (simp only [paR_succ, paS_succ, LB, subS, subH, wfS, wfH, SV.ren, renL, SObj.ren, SV.wf, SObj.wf, wfL, SV.known, Nat.reduceEqDiff, ↓reduceIte, if_true, if_false, eq_self, Nat.reduceAdd, Nat.reduceLT, Nat.reduceLeDiff, implies_true, reduceCtorEq, forall_const]; done))
            all_goals (try (simp only [paR_succ, paS_succ, LB, subS, subH, wfS, wfH, SV.ren, renL, SObj.ren, SV.wf, SObj.wf, wfL, SV.known, Nat.reduceEqDiff, ↓reduceIte, if_true, if_false, eq_self, Nat.reduceAdd, Nat.reduceLT, Nat.reduceLeDiff, implies_true, reduceCtorEq, forall_const]; simp; done))
            all_goals (try (simp only [paR_succ, paS_succ, LB, subS, subH, wfS, wfH, SV.ren, renL, SObj.ren, SV.wf, SObj.wf, wfL, SV.known, Nat.reduceEqDiff, ↓reduceIte, if_true, if_false, eq_self, Nat.reduceAdd, Nat.reduceLT, Nat.reduceLeDiff, implies_true, reduceCtorEq, forall_const]; (and_intros <;> (first | omega | rfl | (simp; done) | (simp; omega))); done))
            all_goals (try dsimp only)
            all_goals (and_intros <;> try (first | omega | (unfold In64; omega) | trivial | assumption))
            all_goals (intro q hq; by_cases hqi : q = i)
            · subst hqi; exact hp
            · exact hall q (by omega)
    · have hil : ¬ (i : Int) < len := by omega
      obtain rfl : i = len := by omega
      have hE := hT.symm.trans (doT_end hr hall)
      simp only [List.cons.injEq, SV.arr.injEq, SV.int.injEq, SV.bool.injEq, and_true] at hE
      obtain ⟨rfl, rfl, rfl⟩ := hE
      simp -implicitDefEqProofs only [lk_normal, hil, qR, tkQ, ZB, Int.reduceToNat, Nat.reduceLT, Nat.reduceLeDiff, Int.reduceLE, Int.reduceLT, Nat.reduceEqDiff, Nat.reduceSub, SB, SV.known, packR, ne_eq, reduceCtorEq, Nat.reduceEqDiff, ↓reduceIte, if_true, if_false, eq_self, Nat.reduceAdd, Nat.reduceMul, Nat.reduceSub, forall_const, oneCellS, litOne, flat1, Kd.isSca, flat, TYB]
def doPours_F : List SV → Heap → Option (Prop × SV)
  | [.arr R, .slice b 0 len _], H => match hget H b with
    | some (.ints L _) => some (R.length = 24 ∧ rackB R = true ∧ len * 2 ≤ L.length ∧ len ≤ 1048576, .tup (doT R L len))
    | _ => none
  | _, _ => none
theorem doT_wf (R L : List Int) (len n : Nat) : (SV.tup (doT R L len)).wf n := by unfold doT; split <;> simp [SV.wf, wfL]
theorem doPours_T : ∀ args H p v, doPours_F args H = some (p, v) → p → PureH Tryz.prog 116 args H v := by
  intro args H p v h hp
  unfold doPours_F at h
  split at h
  · split at h
    · rename_i L e hb
      cases h
      exact one_block (doPours_ok _ L e _ _ hp.1 hp.2.1 hp.2.2.1 hp.2.2.2) hb rfl (fun _ => doT_wf _ _ _ _)
    · cases h
  · cases h
--@tbl DoPours = impl.DoPours
theorem DoPours_ok (R L : List Int) (e len cap : Nat) (hR : R.length = 24) (hL : len * 2 ≤ L.length) (hl : len ≤ 1048576) : PureH Tryz.prog 60 [.arr R, .slice 0 0 len cap] [(0, .ints L e)] (.tup (doT R L len)) := by
  have tkR : R.take 24 = R := List.take_of_length_le (by omega)
  have r24 : List.take 24 (List.replicate 24 (0 : Int)) = List.replicate 24 0 := rfl
  cases hr : rackB R
  · rw [doT_bad hr]
    refine pure_of_vc (X := ⟨Tryz.prog, tys, [(62, IsRack_F), (116, doPours_F)], [], true, true, 1, [], []⟩) fn_60 ⟨tys_ok, (.cons IsRack_T (.cons doPours_T .nil)), .nil, mixed⟩ (n0 := 1) (Nat.le_of_ble_eq_true rfl) (by simp [wfL, SV.wf]) (wfH_spec (by simp [wfH, SObj.wf])) (Nat.le_refl _) (fun _ => by simp [SV.wf, wfL]) ?_
    simp -implicitDefEqProofs only [Tryz.f60, Option.getD_some, argS, IsRack_F, doPours_F, hR, tkR, hr, r24, ZB, Int.reduceToNat, Nat.reduceLT, Nat.reduceLeDiff, Int.reduceLE, Int.reduceLT, Nat.reduceEqDiff, Nat.reduceSub, SB, SV.known, packR, ne_eq, reduceCtorEq, Nat.reduceEqDiff, ↓reduceIte, if_true, if_false, eq_self, Nat.reduceAdd, Nat.reduceMul, Nat.reduceSub, forall_const, oneCellS, litOne, flat1, Kd.isSca, flat, TYB]
  · obtain ⟨T, n, b, hT, hTl⟩ := doT_three (R := R) (L := L) (len := len) hR
    have tkT : T.take 24 = T := List.take_of_length_le (by omega)
    rw [hT]
    refine pure_of_vc (X := ⟨Tryz.prog, tys, [(62, IsRack_F), (116, doPours_F)], [], true, true, 1, [], []⟩) fn_60 ⟨tys_ok, (.cons IsRack_T (.cons doPours_T .nil)), .nil, mixed⟩ (n0 := 1) (Nat.le_of_ble_eq_true rfl) (by simp [wfL, SV.wf]) (wfH_spec (by simp [wfH, SObj.wf])) (Nat.le_refl _) (fun _ => by simp [SV.wf, wfL]) ?_
    simp -implicitDefEqProofs only [Tryz.f60, Option.getD_some, argS, IsRack_F, doPours_F, hR, tkR, hr, r24, hT, hTl, tkT, hL, hl, ZB, Int.reduceToNat, Nat.reduceLT, Nat.reduceLeDiff, Int.reduceLE, Int.reduceLT, Nat.reduceEqDiff, Nat.reduceSub, SB, SV.known, packR, ne_eq, reduceCtorEq, Nat.reduceEqDiff, ↓reduceIte, if_true, if_false, eq_self, Nat.reduceAdd, Nat.reduceMul, Nat.reduceSub, forall_const, oneCellS, litOne, flat1, Kd.isSca, flat, TYB]
--@tbl sDoPours = spec.DoPours
theorem paS_app (R L J : List Int) (len : Nat) (h : len * 2 ≤ L.length) : ∀ k, k ≤ len → paR R (L ++ J) k = paR R L k ∧ paS R (L ++ J) k = paS R L k
  | 0, _ => ⟨rfl, rfl⟩
  | k + 1, hk => by
    have ih := paS_app R L J len h k (by omega)
    rw [paR_succ, paR_succ, paS_succ, paS_succ, ih.1, ih.2, getD_app _ _ _ (by omega), getD_app _ _ _ (by omega)]
    exact ⟨rfl, rfl⟩
theorem doT_app (R L J : List Int) (len : Nat) (h : len * 2 ≤ L.length) : doT R (L ++ J) len = doT R L len := by
  have hb : doB R (L ++ J) len = doB R L len := by
    unfold doB
    rw [Bool.eq_iff_iff, List.all_eq_true, List.all_eq_true]
    have : ∀ k ∈ List.range len, paC R (L ++ J) k = paC R L k := fun k hk => by
      have hk := List.mem_range.1 hk
      unfold paC
      rw [(paS_app R L J len h k (by omega)).1, getD_app _ _ _ (by omega), getD_app _ _ _ (by omega)]
    exact ⟨fun h1 k hk => by rw [← this k hk]; exact h1 k hk, fun h1 k hk => by rw [this k hk]; exact h1 k hk⟩
  unfold doT
  rw [hb, (paS_app R L J len h len (Nat.le_refl _)).1, (paS_app R L J len h len (Nat.le_refl _)).2]
def DoPours_F : List SV → Heap → Option (Prop × SV)
  | [.arr R, .slice b 0 len _], H => match hget H b with
    | some (.ints L _) => some (R.length = 24 ∧ len * 2 ≤ L.length ∧ len ≤ 1048576, .tup (doT R (L.take (len * 2)) len))
    | _ => none
  | _, _ => none
theorem DoPours_T : ∀ args H p v, DoPours_F args H = some (p, v) → p → PureH Tryz.prog 60 args H v := by
  intro args H p v h hp
  unfold DoPours_F at h
  split at h
  · split at h
    · rename_i L e hb
      cases h
      rw [← doT_app _ (L.take _) (L.drop _) _ (by rw [List.length_take]; omega), List.take_append_drop]
      exact one_block (DoPours_ok _ L e _ _ hp.1 hp.2.1 hp.2.2) hb rfl (fun _ => doT_wf _ _ _ _)
    · cases h
  · cases h
end Go.Proofs.YtmccafjblhbmkaaGreat
set_option maxRecDepth 100000
set_option linter.unusedSimpArgs false
set_option linter.unusedVariables false
namespace Go.Proofs.YtmccafjblhbmkaaGreat
open Go Go.RowKit
theorem tubs_frm {R : List Int} (hR : R.length = 24) : tubs (frm R) = srtT (tubs R) := by
  have h4 : ∀ y ∈ srtT (tubs R), y.length = 4 := fun y hy => tubs_len hR y ((srtT_perm _).mem_iff.1 hy)
  have hl : (srtT (tubs R)).length = 6 := by rw [(srtT_perm _).length_eq]; simp [tubs]
  refine List.ext_getElem (by rw [hl]; simp [tubs]) fun i h1 h2 => ?_
  have e1 := flat_getW h4 h2
  rw [List.getD_eq_getElem?_getD, List.getElem?_eq_getElem h2] at e1
  simp only [tubs, List.getElem_map, List.getElem_range]
  exact e1
/-! Searches. -/
end Go.Proofs.YtmccafjblhbmkaaGreat
