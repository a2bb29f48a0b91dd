/- Walks: ChanceSorted. -/
import Derived.Test.YtfdpeenamkpcbaaIsV
import Derived.Test.YtfdpeenamkpcbaaSort
import Derived.Test.YtfdpeenamkpcbaaEqR
import Derived.Test.YtfdpeenamkpcbaaQ
set_option maxRecDepth 100000
set_option linter.unusedSimpArgs false
set_option linter.unusedVariables false
namespace Go.Proofs.Ytfdpeenamkpcbaa
open Go Go.RowKit
def l7Good_F : List SV → Heap → Option (Prop × SV)
  | [.arr V], _ => some (V.length = 18 ∧ I64 V, .bool (isVF V))
  | _, _ => none
theorem l7Good_T : ∀ args H p v, l7Good_F args H = some (p, v) → p → PureH Try.prog 58 args H v := by
  intro args H p v h hp
  unfold l7Good_F at h
  split at h
  · cases h; exact (by rw [← good_view hp.1 hp.2]; exact (l7Good_ok _ hp.1).any _)
  · cases h
/-! Orders are some, and not too many. -/
def fac : Nat → Nat
  | 0 => 1
  | n + 1 => fac n * (n + 1)
theorem fac_pos : ∀ n, 1 ≤ fac n
  | 0 => by simp [fac]
  | n + 1 => by
    have := fac_pos n
    show 1 ≤ fac n * (n + 1)
    exact Nat.le_trans this (Nat.le_mul_of_pos_right _ (by omega))
theorem fac_mono {m n : Nat} (h : m ≤ n) : fac m ≤ fac n := by
  induction n with
  | zero => exact Nat.le_of_eq (by rw [show m = 0 by omega])
  | succ n ih =>
    by_cases hm : m = n + 1
    · subst hm; exact Nat.le_refl _
    · exact Nat.le_trans (ih (by omega)) (Nat.le_mul_of_pos_right _ (by omega))
theorem fac_18 : fac 18 = 6402373705728000 := by decide

theorem arrN_bd (s : Int × Int) (h0 : 0 ≤ s.2) (h1 : 1 ≤ s.1) (h2 : s.1 ≤ fac s.2.toNat) : ∀ k : Nat, s.2 + k ≤ 18 → 1 ≤ (arrN k s).1 ∧ (arrN k s).1 ≤ fac (s.2 + k).toNat
  | 0, _ => by simpa [arrN] using ⟨h1, h2⟩
  | k + 1, hk => by
    obtain ⟨g1, g2⟩ := arrN_bd s h0 h1 h2 k (by omega)
    have e2 := arrN_snd k s
    have hp : s.2 + ((k + 1 : Nat) : Int) = s.2 + k + 1 := by omega
    have hf : (fac (s.2 + k + 1).toNat : Int) = fac (s.2 + k).toNat * (s.2 + k + 1) := by
      have : (s.2 + k + 1).toNat = (s.2 + k).toNat + 1 := by omega
      rw [this]
      show ((fac (s.2 + k).toNat * ((s.2 + k).toNat + 1) : Nat) : Int) = _
      rw [Int.natCast_mul]
      congr 1
      omega
    have m1 : (arrN k s).1 * (s.2 + k + 1) ≤ fac (s.2 + k).toNat * (s.2 + k + 1) := Int.mul_le_mul_of_nonneg_right g2 (by omega)
    have m0 : (arrN k s).1 ≤ (arrN k s).1 * (s.2 + k + 1) := by
      have := Int.mul_le_mul_of_nonneg_left (show (1 : Int) ≤ s.2 + k + 1 by omega) (show 0 ≤ (arrN k s).1 by omega)
      omega
    have m2 : (arrN k s).1 * ((k : Int) + 1) ≤ (arrN k s).1 * (s.2 + k + 1) := Int.mul_le_mul_of_nonneg_left (by omega) (by omega)
    have fm := fac_mono (show (s.2 + k + 1).toNat ≤ 18 by omega)
    rw [fac_18] at fm
    have w1 : IntKind.i64.wrap ((arrN k s).1 * ((arrN k s).2 + 1)) = (arrN k s).1 * (s.2 + k + 1) := by
      rw [e2]; exact wrap_in (by unfold In64; omega)
    have d0 : ((arrN k s).1 * (s.2 + k + 1)).tdiv ((k : Int) + 1) = ((arrN k s).1 * (s.2 + k + 1)) / ((k : Int) + 1) := Int.tdiv_eq_ediv_of_nonneg (by omega)
    have d1 : (arrN k s).1 ≤ ((arrN k s).1 * (s.2 + k + 1)) / ((k : Int) + 1) := (Int.le_ediv_iff_mul_le (by omega)).2 m2
    have d2 : ((arrN k s).1 * (s.2 + k + 1)) / ((k : Int) + 1) ≤ (arrN k s).1 * (s.2 + k + 1) := Int.ediv_le_self _ (by omega)
    have w2 : (arrN (k + 1) s).1 = ((arrN k s).1 * (s.2 + k + 1)) / ((k : Int) + 1) := by
      show IntKind.i64.wrap ((IntKind.i64.wrap ((arrN k s).1 * ((arrN k s).2 + 1))).tdiv ((k : Int) + 1)) = _
      rw [w1, d0]
      exact wrap_in (by unfold In64; omega)
    rw [w2, hp, hf]
    omega
theorem arrL_bd : ∀ (l : List Int) (s : Int × Int), 0 ≤ s.2 → 1 ≤ s.1 → s.1 ≤ fac s.2.toNat → Bd 0 24 l → s.2 + l.sum ≤ 18 → 1 ≤ (arrL l s).1 ∧ (arrL l s).1 ≤ 6402373705728000
  | [], s, h0, h1, h2, _, hs => by
    have fm := fac_mono (show s.2.toNat ≤ 18 by simp at hs; omega)
    rw [fac_18] at fm
    simp only [arrL]; omega
  | n :: r, s, h0, h1, h2, hb, hs => by
    have hn := hb n (by simp)
    have hr : Bd 0 24 r := fun x hx => hb x (by simp [hx])
    have hr0 := sum_bd r hr
    have hr1 : (0 : Int) ≤ r.sum := by simpa using hr0.1
    rw [List.sum_cons] at hs
    have g := arrN_bd s h0 h1 h2 n.toNat (by omega)
    have e2 := arrN_snd n.toNat s
    simp only [arrL]
    refine arrL_bd r (arrN n.toNat s) (by omega) g.1 (by rw [e2]; exact g.2) hr (by rw [e2]; omega)
theorem arrF_bd {l : List Int} (hb : Bd 0 24 l) (hs : l.sum ≤ 18) : 1 ≤ arrF l ∧ arrF l ≤ 6402373705728000 := arrL_bd l (1, 0) (by simp) (by simp) (by simp [fac]) hb (by simpa using hs)
/-! The rack in which each tube has the color of its top. -/
def csC (V : List Int) (i k q : Nat) : Int := if (q / 4 < i ∨ (q / 4 = i ∧ q % 4 < k)) ∧ ((q % 4 : Nat) : Int) < V.getD (6 + q / 4) 0 then V.getD (q / 4) 0 else 0
def csP (V : List Int) (i k : Nat) : List Int := (List.range 24).map (csC V i k)
theorem csP_len (V : List Int) (i k : Nat) : (csP V i k).length = 24 := by simp [csP]
theorem csP_get (V : List Int) (i k : Nat) {q : Nat} (h : q < 24) : (csP V i k).getD q 0 = csC V i k q := by simp [csP, List.getD, h]
theorem list_ext24 {L M : List Int} (hL : L.length = 24) (hM : M.length = 24) (h : ∀ q, q < 24 → L.getD q 0 = M.getD q 0) : L = M := by
  apply List.ext_getElem (by omega)
  intro q h1 h2
  have := h q (by omega)
  simp only [List.getD, List.getElem?_eq_getElem h1, List.getElem?_eq_getElem h2, Option.getD_some] at this
  exact this
theorem csP_zero (V : List Int) : csP V 0 0 = List.replicate 24 0 := list_ext24 (csP_len _ _ _) (by simp) fun q h => by
  rw [csP_get _ _ _ h]
  unfold csC
  rw [if_neg (by omega), List.getD_eq_getElem?_getD, List.getElem?_replicate, if_pos h]; rfl
theorem csP_set (V : List Int) {i k : Nat} (hi : i < 6) (hk : k < 4) (hm : (k : Int) < V.getD (6 + i) 0) : (csP V i k).set (i * 4 + k) (V.getD i 0) = csP V i (k + 1) := list_ext24 (by rw [List.length_set, csP_len]) (csP_len _ _ _) fun q h => by
  rw [getD_set' _ _ _ _ (by rw [csP_len]; omega), csP_get _ _ _ h, csP_get _ _ _ h]
  unfold csC
  by_cases hq : i * 4 + k = q
  · subst hq
    rw [if_pos rfl]
    have e1 : (i * 4 + k) / 4 = i := by omega
    have e2 : (i * 4 + k) % 4 = k := by omega
    rw [e1, e2, if_pos ⟨by omega, hm⟩]
  · rw [if_neg hq]
    by_cases h1 : ((q / 4 < i ∨ (q / 4 = i ∧ q % 4 < k)) ∧ ((q % 4 : Nat) : Int) < V.getD (6 + q / 4) 0)
    · rw [if_pos h1, if_pos ⟨by omega, h1.2⟩]
    · rw [if_neg h1, if_neg (fun h2 => h1 ⟨by omega, h2.2⟩)]
theorem csP_next (V : List Int) {i k : Nat} (hi : i < 6) (hk : V.getD (6 + i) 0 ≤ k) : csP V i k = csP V (i + 1) 0 := list_ext24 (csP_len _ _ _) (csP_len _ _ _) fun q h => by
  rw [csP_get _ _ _ h, csP_get _ _ _ h]
  unfold csC
  by_cases h1 : ((q / 4 < i ∨ (q / 4 = i ∧ q % 4 < k)) ∧ ((q % 4 : Nat) : Int) < V.getD (6 + q / 4) 0)
  · rw [if_pos h1, if_pos ⟨by omega, h1.2⟩]
  · rw [if_neg h1, if_neg (fun h2 => h1 ⟨by
      have := h2.2
      rcases h2.1 with h3 | h3
      · by_cases h4 : q / 4 = i
        · right; refine ⟨h4, ?_⟩; rw [h4] at this; omega
        · omega
      · omega, h2.2⟩)]
def csR (V : List Int) : List Int := csP V 6 0
theorem csR_cell {V : List Int} {i k : Nat} (hi : i < 6) (hk : k < 4) : (tubeAt (csR V) i).getD k 0 = if (k : Int) < V.getD (6 + i) 0 then V.getD i 0 else 0 := by
  rw [tubeAt_getD _ _ _ hk]
  unfold csR
  rw [csP_get _ _ _ (by omega)]
  unfold csC
  have e1 : (i * 4 + k) / 4 = i := by omega
  have e2 : (i * 4 + k) % 4 = k := by omega
  rw [e1, e2]
  by_cases h : (k : Int) < V.getD (6 + i) 0
  · rw [if_pos h, if_pos ⟨by omega, h⟩]
  · rw [if_neg h, if_neg (fun h2 => h h2.2)]
theorem csR_len (V : List Int) : (csR V).length = 24 := csP_len _ _ _
theorem csR_tube {V : List Int} (u1 : vTop V) (u2 : vMan V) (u3 : vTM V) {i : Nat} (hi : i < 6) : tubeB (tubeAt (csR V) i) = true ∧ (layN (tubeAt (csR V) i) : Int) = V.getD (6 + i) 0 ∧ (topF (tubeAt (csR V) i)).1 = V.getD i 0 := by
  have ht := tubeAt_len (csR_len V) hi
  have h2 := u2 i hi
  have h1 := u1 i hi
  have h3 := u3 i hi
  obtain ⟨n, hn⟩ : ∃ n : Nat, V.getD (6 + i) 0 = n := ⟨(V.getD (6 + i) 0).toNat, by omega⟩
  obtain ⟨a, b⟩ := tube_of ht (n := n) (by omega) (fun b hb => by
    rw [csR_cell hi (by omega), if_pos (by omega)]; omega) (fun b hb hb4 => by rw [csR_cell hi hb4, if_neg (by omega)])
  refine ⟨a, by rw [b, hn], ?_⟩
  rcases Nat.eq_zero_or_pos n with h0 | h0
  · have : topF (tubeAt (csR V) i) = (0, 0) := by simp [topF, runsL, b, h0]
    rw [this]; simp only; omega
  · obtain ⟨r, hr1, _⟩ := topF_run _ ht (by omega)
    rw [hr1]
    simp only
    rw [b, csR_cell hi (by omega), if_pos (by omega)]
theorem csR_rack {V : List Int} (u1 : vTop V) (u2 : vMan V) (u3 : vTM V) : rackB (csR V) = true := rack_tubes.2 fun i hi => (csR_tube u1 u2 u3 hi).1
theorem list_ext6 {L M : List Int} (hL : L.length = 6) (hM : M.length = 6) (h : ∀ q, q < 6 → L.getD q 0 = M.getD q 0) : L = M := by
  apply List.ext_getElem (by omega)
  intro q h1 h2
  have := h q (by omega)
  simp only [List.getD, List.getElem?_eq_getElem h1, List.getElem?_eq_getElem h2, Option.getD_some] at this
  exact this
theorem csR_view {V : List Int} (hV : V.length = 18) (u1 : vTop V) (u2 : vMan V) (u3 : vTM V) : viewF (csR V) = V.take 6 ++ (V.drop 6).take 6 ++ ctL (csR V) := by
  unfold viewF
  congr 1
  congr 1
  · exact list_ext6 (topL_len _) (by rw [List.length_take]; omega) fun q h => by rw [topL_getD _ _ h, (csR_tube u1 u2 u3 h).2.2, take6_get _ _ h]
  · exact list_ext6 (manL_len _) (by rw [List.length_take, List.length_drop]; omega) fun q h => by
      rw [manL_getD _ _ h, (csR_tube u1 u2 u3 h).2.1]
      simp [List.getD, List.getElem?_take, h]
theorem split18 {V : List Int} (hV : V.length = 18) : V = V.take 6 ++ (V.drop 6).take 6 ++ V.drop 12 := by
  have e1 : (V.drop 6).drop 6 = V.drop 12 := by rw [List.drop_drop]
  rw [List.append_assoc, ← e1, List.take_append_drop, List.take_append_drop]
theorem csR_same {V : List Int} (hV : V.length = 18) (u1 : vTop V) (u2 : vMan V) (u3 : vTM V) : viewF (csR V) = V ↔ ctL (csR V) = V.drop 12 := by
  rw [csR_view hV u1 u2 u3]
  constructor
  · intro h
    exact List.append_cancel_left (h.trans (split18 hV))
  · intro h
    rw [h]; exact (split18 hV).symm
/-- Counts add up. -/
theorem incr_sum {L : List Int} {j : Nat} (hL : L.length = 6) (hj : j < 6) : (incr L j).sum = L.sum + 1 := by
  have hl : (incr L j).length = 6 := by unfold incr; rw [List.length_set]; exact hL
  rw [sum_six hl, sum_six hL]
  unfold incr
  have g := fun b => getD_set' L j b (L.getD j 0 + 1) (by omega)
  simp only [g]
  rcases (show j = 0 ∨ j = 1 ∨ j = 2 ∨ j = 3 ∨ j = 4 ∨ j = 5 by omega) with rfl | rfl | rfl | rfl | rfl | rfl
  all_goals simp only [Nat.reduceEqDiff, if_true, if_false, Nat.zero_ne_one, Nat.one_ne_zero, reduceCtorEq, ↓reduceIte]
  all_goals (first | omega | (simp; omega))
theorem cnt_sum {R : List Int} (hR : R.length = 24) (hr : rackB R = true) : ∀ n, n ≤ 24 → (cntL (R.take n)).sum = n
  | 0, _ => by simp [cntL_nil]
  | n + 1, hn => by
    obtain ⟨h1, h2, _⟩ := cnt_step hR hr (i := n / 4) (j := n % 4) (by omega) (by omega)
    rw [show n / 4 * 4 + (n % 4 + 1) = n + 1 by omega, show n / 4 * 4 + n % 4 = n by omega] at h1
    rw [show n / 4 * 4 + n % 4 = n by omega] at h2
    rw [h1, incr_sum (cntL_len _) (by omega), cnt_sum hR hr n (by omega)]
    omega
def emV (V : List Int) : List Int := (V.drop 12).set 0 (24 - V.getD 13 0 - V.getD 14 0 - V.getD 15 0 - V.getD 16 0 - V.getD 17 0)
theorem csR_empty {V R : List Int} (hV : V.length = 18) (hR : R.length = 24) (hr : rackB R = true) (z0 : V.getD 12 0 = 0) : cntL R = emV V ↔ ctL R = V.drop 12 := by
  have hs := cnt_sum hR hr 24 (Nat.le_refl _)
  rw [List.take_of_length_le (by omega), sum_six (cntL_len R)] at hs
  have lenC : (V.drop 12).length = 6 := by rw [List.length_drop]; omega
  have g : ∀ k, (V.drop 12).getD k 0 = V.getD (12 + k) 0 := fun k => by simp [List.getD]
  constructor
  · intro h
    unfold ctL
    rw [h]
    unfold emV
    rw [List.set_set]
    exact list_ext6 (by rw [List.length_set]; exact lenC) lenC fun q hq => by
      rw [getD_set' _ _ _ _ (by omega)]
      split
      · rename_i h0; subst h0; rw [g, z0]
      · rfl
  · intro h
    have e : ∀ q, 1 ≤ q → (cntL R).getD q 0 = V.getD (12 + q) 0 := fun q hq => by
      rw [← g, ← h]
      unfold ctL
      rw [getD_set' _ _ _ _ (by rw [cntL_len]; omega), if_neg (by omega)]
    refine list_ext6 (cntL_len R) (by unfold emV; rw [List.length_set]; exact lenC) fun q hq => ?_
    unfold emV
    rw [getD_set' _ _ _ _ (by omega)]
    split
    · rename_i h0
      subst h0
      have e1 := e 1 (by omega); have e2 := e 2 (by omega); have e3 := e 3 (by omega); have e4 := e 4 (by omega); have e5 := e 5 (by omega)
      simp only [Nat.reduceAdd] at e1 e2 e3 e4 e5
      omega
    · rw [g]; exact e q (by omega)
/-- What is known of a valid view. -/
theorem isV_facts {V : List Int} (hV : V.length = 18) (h64 : I64 V) (h : isVF V = true) : vTop V ∧ vMan V ∧ vTM V ∧ V.getD 12 0 = 0 ∧ Bd 0 24 (V.drop 12) ∧ (hidV V).length = 6 ∧ (hidV V).getD 0 0 = 0 ∧ Bd 0 24 (hidV V) ∧ (hidV V).sum = hmL (V.drop 6) 6 ∧ (hidV V).sum ≤ 18 := by
  have h2 := good_view hV h64
  rw [h] at h2
  have h3 := h
  simp only [isVF, gdVF, Bool.and_eq_true, decide_eq_true_eq] at h2 h3
  obtain ⟨u1, u2, u3⟩ := vok_spec h3.1.1.1.1
  have lenC : (V.drop 12).length = 6 := by rw [List.length_drop]; omega
  have lenH : (hidV V).length = 6 := by unfold hidV; rw [hidL_len]; exact lenC
  have z0 := h3.1.1.1.2
  have c0 : (V.drop 12).getD 0 0 = 0 := by rw [show (V.drop 12).getD 0 0 = V.getD 12 0 by simp [List.getD]]; exact z0
  have h0 : (hidV V).getD 0 0 = 0 := by unfold hidV; rw [hidL_zero _ _ (by omega), c0]
  have hs : (hidV V).sum = hmL (V.drop 6) 6 := by
    rw [← h2.2, sum_five lenH, sum_six lenH, h0]; omega
  have hmb := hmL_bd (M := V.drop 6) (fun k hk => by have := u2 k hk; simpa [List.getD] using this) 6 (Nat.le_refl _)
  refine ⟨u1, u2, u3, z0, all_bd h3.1.1.2 in024_bd, lenH, h0, fun x hx => ?_, hs, by omega⟩
  have hall := (all_five lenH in024).1 h2.1.2
  obtain ⟨k, hk, e⟩ := List.getElem_of_mem hx
  have e2 : (hidV V).getD k 0 = x := by rw [List.getD_eq_getElem?_getD, List.getElem?_eq_getElem hk, e]; rfl
  rcases Nat.eq_zero_or_pos k with rfl | hk0
  · omega
  · have := in024_bd _ (hall k hk0 (by omega))
    omega
/-! Views are compared. -/
theorem eqA_fields {D : Nat} : ∀ (fs : List Field) (L M : List Int) (off : Nat), off + fs.length * 6 = L.length → L.length = M.length →
    (∀ (j : Nat) (f : Field), fs[j]? = some f → f.name ≠ "_" ∧ f.type = 39 ∧ f.offset = off + j * 6) → ∀ d, 2 ≤ d → ∀ w, (Op.eqFields d (ints L) (ints M) fs).run Try.prog w = .ok (decide (L.drop off = M.drop off)) w
  | [], L, M, off, h1, h2, _, d, hd, w => by
    rw [List.drop_of_length_le (by simp at h1; omega), List.drop_of_length_le (by simp at h1; omega)]
    simp [Op.eqFields]
  | f :: fs, L, M, off, h1, h2, hf, d, hd, w => by
    obtain ⟨f1, f2, f3⟩ := hf 0 f rfl
    rw [List.length_cons] at h1
    have ih := eqA_fields (D := D) fs L M (off + 6) (by omega) h2 (fun j g hg => by
      obtain ⟨a, b, c⟩ := hf (j + 1) g (by simpa using hg)
      exact ⟨a, b, by omega⟩) d hd w
    have hk : (tys 39).k = .arr 6 3 := rfl
    have hs : (tys 39).size = 6 := rfl
    have p1 := runPart_arr hk L off (by rw [hs]; omega) w
    have p2 := runPart_arr hk M off (by rw [hs]; omega) w
    rw [hs] at p1 p2
    have h3 := eqA_ints (i := (Try.prog.info? 3).getD default) Try.underlying39 (by kernel_rfl) (by kernel_rfl) rfl Try.underlying3 d hd ((L.drop off).take 6) ((M.drop off).take 6) (by rw [List.length_take, List.length_drop]; omega) (by rw [List.length_take, List.length_drop]; omega) w
    simp only [Op.eqFields, if_pos f1, f2, f3, Nat.zero_mul, Nat.add_zero, Sem.run_bind, p1, p2, h3, Result.andThen_ok]
    have e1 : L.drop off = (L.drop off).take 6 ++ L.drop (off + 6) := by rw [← List.drop_drop]; exact (List.take_append_drop 6 _).symm
    have e2 : M.drop off = (M.drop off).take 6 ++ M.drop (off + 6) := by rw [← List.drop_drop]; exact (List.take_append_drop 6 _).symm
    by_cases hx : (L.drop off).take 6 = (M.drop off).take 6
    · simp only [hx, decide_true, Bool.not_true, Bool.false_eq_true, if_false, ih]
      congr 1
      rw [decide_eq_decide]
      constructor
      · intro h; rw [e1, e2, hx, h]
      · intro h
        rw [e1, e2, hx] at h
        exact List.append_cancel_left h
    · have : ¬ L.drop off = M.drop off := fun h => hx (by rw [h])
      simp [hx, this]
theorem eqI_view : EqI Try.prog 44 18 := by
  have hu := Try.underlying44
  refine eqI_of (D := 3) (by omega) ?_ (by kernel_rfl)
  intro d hd L M hL hM w
  obtain ⟨d, rfl⟩ : ∃ d', d = d' + 1 := ⟨d - 1, by omega⟩
  rw [run_equalIn_struct w d _ (ints L) (ints M) (by simp only [Program.fieldsOf, hu]) (by kernel_rfl)]
  have := eqA_fields (D := 0) (Try.prog.fieldsOf 44).toList L M 0 (by simp [Program.fieldsOf, hu]; omega) (by omega) (by
    simp only [Program.fieldsOf, hu]
    intro j f hf
    rcases j with _ | _ | _ | j <;> simp at hf <;> subst hf <;> exact ⟨by decide, rfl, rfl⟩) d (by omega) w
  simpa using this
theorem eqI_A6 : EqI Try.prog 39 6 := eqI_of (D := 2) (by omega) (eqA_ints (i := (Try.prog.info? 3).getD default) Try.underlying39 (by kernel_rfl) (by kernel_rfl) rfl Try.underlying3) (by kernel_rfl)
/-! The walks. -/
--@tbl ChanceSorted = impl.ChanceSorted
--@tbl sChanceSorted = spec.ChanceSorted
--@tbl l7Empty = spec.l7Empty
def chsF (V : List Int) : List Int := if isVF V = true then if sortB (csR V) = true ∧ ctL (csR V) = V.drop 12 then [1, arrF (hidV V)] else [0, 1] else [0, 0]
theorem ChanceSorted_ok (V : List Int) (hV : V.length = 18) (h64 : I64 V) : PureH Try.prog 29 [.arr V] [] (.tup [.arr (chsF V), .bool (isVF V)]) := by
  have tkV : V.take 18 = V := List.take_of_length_le (by omega)
  unfold chsF
  cases hv : isVF V
  · refine pure_of_vc (X := ⟨Try.prog, tys, [(63, IsView_F), (78, isSorted_F), (54, viewOf_F), (55, hidden_F), (57, arrangements_F)], [], true, true, 0, [], []⟩) fn_29 ⟨tys_ok, (.cons IsView_T (.cons isSorted_T (.cons viewOf_T (.cons hidden_T (.cons arrangements_T .nil))))), .nil, mixed⟩ (n0 := 0) (Nat.le_of_ble_eq_true rfl) (by simp [wfL, SV.wf]) (wfH_spec (by simp [wfH, SObj.wf])) (Nat.le_refl _) (fun _ => by simp [SV.wf, wfL]) ?_
    simp -implicitDefEqProofs only [Try.f29, Option.getD_some, argS, IsView_F, isSorted_F, viewOf_F, hidden_F, arrangements_F, hV, tkV, hv, rep2_take, ZB, Int.reduceToNat, Nat.reduceLT, Nat.reduceLeDiff, Int.reduceLE, Int.reduceLT, Nat.reduceEqDiff, Nat.reduceSub, SB, SV.known, packR, ne_eq, reduceCtorEq, Nat.reduceEqDiff, ↓reduceIte, if_true, if_false, eq_self, Nat.reduceAdd, Nat.reduceMul, Nat.reduceSub, forall_const, oneCellS, Kd.isSca, flat, TYB]
  obtain ⟨u1, u2, u3, z0, bC, lenH, h0, bH, hs, h18⟩ := isV_facts hV h64 hv
  have lenM : ((V.drop 6).take 6).length = 6 := by rw [List.length_take, List.length_drop]; omega
  have gM : ∀ k, k < 6 → ((V.drop 6).take 6).getD k 0 = V.getD (6 + k) 0 := fun k hk => by simp [List.getD, List.getElem?_take, hk]
  refine pure_of_vc (X := ⟨Try.prog, tys, [(63, IsView_F), (78, isSorted_F), (54, viewOf_F), (55, hidden_F), (57, arrangements_F)], [], true, true, 0, [], []⟩) fn_29 ⟨tys_ok, (.cons IsView_T (.cons isSorted_T (.cons viewOf_T (.cons hidden_T (.cons arrangements_T .nil))))), .nil, mixed⟩ (n0 := 0) (Nat.le_of_ble_eq_true rfl) (by simp [wfL, SV.wf]) (wfH_spec (by simp [wfH, SObj.wf])) (Nat.le_refl _) (fun _ => by simp [SV.wf, wfL]) ?_
  simp -implicitDefEqProofs only [Try.f29, Option.getD_some, argS, IsView_F, isSorted_F, viewOf_F, hidden_F, arrangements_F, hV, tkV, hv, ZB, Int.reduceToNat, Nat.reduceLT, Nat.reduceLeDiff, Int.reduceLE, Int.reduceLT, Nat.reduceEqDiff, Nat.reduceSub, SB, SV.known, packR, ne_eq, reduceCtorEq, Nat.reduceEqDiff, ↓reduceIte, if_true, if_false, eq_self, Nat.reduceAdd, Nat.reduceMul, Nat.reduceSub, forall_const, oneCellS, Kd.isSca, flat, TYB]
  refine loop_intro (fun i : Nat => [(14, .int i), (13, .arr ((V.drop 6).take 6)), (4, .ptr 2 0), (2, .ptr 1 0), (1, .ptr 0 0)]) (fun i => [(2, .ints (csP V i 0) 28), (1, .ints (List.replicate 2 0) 50), (0, .ints V 44)]) 3 (fun i => i ≤ 6) (fun i => 6 - i) ?_ ?_
  · refine ⟨0, ?_, Sub.mk_id ?_ ?_ ?_ ?_ ?_⟩
    all_goals (try (simp only [csP_zero, LB, subS, subH, wfS, wfH, SV.ren, renL, SObj.ren, SV.wf, SObj.wf, wfL, SV.known, Nat.reduceEqDiff, ↓reduceIte, if_true, if_false, eq_self, Nat.reduceAdd, Nat.reduceLT, Nat.reduceLeDiff, implies_true, reduceCtorEq, forall_const]; done))
    all_goals (try (simp only [csP_zero, LB, subS, subH, wfS, wfH, SV.ren, renL, SObj.ren, SV.wf, SObj.wf, wfL, SV.known, Nat.reduceEqDiff, ↓reduceIte, if_true, if_false, eq_self, Nat.reduceAdd, Nat.reduceLT, Nat.reduceLeDiff, implies_true, reduceCtorEq, forall_const]; simp; done))
    all_goals (try (simp only [csP_zero, LB, subS, subH, wfS, wfH, SV.ren, renL, SObj.ren, SV.wf, SObj.wf, wfL, SV.known, Nat.reduceEqDiff, ↓reduceIte, if_true, if_false, eq_self, Nat.reduceAdd, Nat.reduceLT, Nat.reduceLeDiff, implies_true, reduceCtorEq, forall_const]; (and_intros <;> (first | omega | rfl | (simp; done) | (simp; omega))); done))
    all_goals (try dsimp only)
    all_goals (and_intros <;> try (first | omega | (unfold In64; omega) | trivial | assumption))
  · intro i hi
    by_cases hlt : i < 6
    · have hil : (i : Int) < 6 := by omega
      have g := gM i hlt
      simp -implicitDefEqProofs only [lk_normal, hil, lenM, g, ZB, Int.reduceToNat, Nat.reduceLT, Nat.reduceLeDiff, Int.reduceLE, Int.reduceLT, Nat.reduceEqDiff, Nat.reduceSub, SB, SV.known, packR, ne_eq, reduceCtorEq, Nat.reduceEqDiff, ↓reduceIte, if_true, if_false, eq_self, Nat.reduceAdd, Nat.reduceMul, Nat.reduceSub, forall_const, oneCellS, Kd.isSca, flat, TYB]
      (try (and_intros <;> try (first | omega | (unfold In64; omega) | trivial | assumption)))
      have hlc := csP_len V i
      have h2 := u2 i hlt
      refine loop_intro (fun k : Nat => [(19, .int k), (18, .int (V.getD (6 + i) 0)), (5, .int i), (14, .int i), (13, .arr ((V.drop 6).take 6)), (4, .ptr 2 0), (2, .ptr 1 0), (1, .ptr 0 0)]) (fun k => [(2, .ints (csP V i k) 28), (1, .ints (List.replicate 2 0) 50), (0, .ints V 44)]) 3 (fun k => (k : Int) ≤ V.getD (6 + i) 0) (fun k => 5 - k) ?_ ?_
      · refine ⟨0, ?_, Sub.mk_id ?_ ?_ ?_ ?_ ?_⟩
        all_goals (try (simp only [LB, subS, subH, wfS, wfH, SV.ren, renL, SObj.ren, SV.wf, SObj.wf, wfL, SV.known, Nat.reduceEqDiff, ↓reduceIte, if_true, if_false, eq_self, Nat.reduceAdd, Nat.reduceLT, Nat.reduceLeDiff, implies_true, reduceCtorEq, forall_const]; done))
        all_goals (try (simp only [LB, subS, subH, wfS, wfH, SV.ren, renL, SObj.ren, SV.wf, SObj.wf, wfL, SV.known, Nat.reduceEqDiff, ↓reduceIte, if_true, if_false, eq_self, Nat.reduceAdd, Nat.reduceLT, Nat.reduceLeDiff, implies_true, reduceCtorEq, forall_const]; simp; done))
        all_goals (try (simp only [LB, subS, subH, wfS, wfH, SV.ren, renL, SObj.ren, SV.wf, SObj.wf, wfL, SV.known, Nat.reduceEqDiff, ↓reduceIte, if_true, if_false, eq_self, Nat.reduceAdd, Nat.reduceLT, Nat.reduceLeDiff, implies_true, reduceCtorEq, forall_const]; (and_intros <;> (first | omega | rfl | (simp; done) | (simp; omega))); done))
        all_goals (try dsimp only)
        all_goals (and_intros <;> try (first | omega | (unfold In64; omega) | trivial | assumption))
      · intro k hk
        by_cases hkt : (k : Int) < V.getD (6 + i) 0
        · have hk4 : (k : Int) < 4 := by omega
          have es := csP_set V hlt (show k < 4 by omega) hkt
          simp -implicitDefEqProofs only [lk_normal, hkt, hil, hk4, hlc, hV, es, ZB, Int.reduceToNat, Nat.reduceLT, Nat.reduceLeDiff, Int.reduceLE, Int.reduceLT, Nat.reduceEqDiff, Nat.reduceSub, SB, SV.known, packR, ne_eq, reduceCtorEq, Nat.reduceEqDiff, ↓reduceIte, if_true, if_false, eq_self, Nat.reduceAdd, Nat.reduceMul, Nat.reduceSub, forall_const, oneCellS, Kd.isSca, flat, TYB]
          (try (and_intros <;> try (first | omega | (unfold In64; omega) | trivial | assumption)))
          refine ⟨k + 1, ?_, ?_, Sub.mk_id ?_ ?_ ?_ ?_ ?_⟩
          all_goals (try (simp only [LB, subS, subH, wfS, wfH, SV.ren, renL, SObj.ren, SV.wf, SObj.wf, wfL, SV.known, Nat.reduceEqDiff, ↓reduceIte, if_true, if_false, eq_self, Nat.reduceAdd, Nat.reduceLT, Nat.reduceLeDiff, implies_true, reduceCtorEq, forall_const]; done))
          all_goals (try (simp only [LB, subS, subH, wfS, wfH, SV.ren, renL, SObj.ren, SV.wf, SObj.wf, wfL, SV.known, Nat.reduceEqDiff, ↓reduceIte, if_true, if_false, eq_self, Nat.reduceAdd, Nat.reduceLT, Nat.reduceLeDiff, implies_true, reduceCtorEq, forall_const]; simp; done))
          all_goals (try (simp only [LB, subS, subH, wfS, wfH, SV.ren, renL, SObj.ren, SV.wf, SObj.wf, wfL, SV.known, Nat.reduceEqDiff, ↓reduceIte, if_true, if_false, eq_self, Nat.reduceAdd, Nat.reduceLT, Nat.reduceLeDiff, implies_true, reduceCtorEq, forall_const]; (and_intros <;> (first | omega | rfl | (simp; done) | (simp; omega))); done))
          all_goals (try dsimp only)
          all_goals (and_intros <;> try (first | omega | (unfold In64; omega) | trivial | assumption))
        · have en := csP_next V hlt (k := k) (by omega)
          simp -implicitDefEqProofs only [lk_normal, hkt, hil, hlc, hV, ZB, Int.reduceToNat, Nat.reduceLT, Nat.reduceLeDiff, Int.reduceLE, Int.reduceLT, Nat.reduceEqDiff, Nat.reduceSub, SB, SV.known, packR, ne_eq, reduceCtorEq, Nat.reduceEqDiff, ↓reduceIte, if_true, if_false, eq_self, Nat.reduceAdd, Nat.reduceMul, Nat.reduceSub, forall_const, oneCellS, Kd.isSca, flat, TYB]
          (try (and_intros <;> try (first | omega | (unfold In64; omega) | trivial | assumption)))
          refine ⟨i + 1, ?_, ?_, Sub.mk_id ?_ ?_ ?_ ?_ ?_⟩
          all_goals (try (simp only [en, LB, subS, subH, wfS, wfH, SV.ren, renL, SObj.ren, SV.wf, SObj.wf, wfL, SV.known, Nat.reduceEqDiff, ↓reduceIte, if_true, if_false, eq_self, Nat.reduceAdd, Nat.reduceLT, Nat.reduceLeDiff, implies_true, reduceCtorEq, forall_const]; done))
          all_goals (try (simp only [en, LB, subS, subH, wfS, wfH, SV.ren, renL, SObj.ren, SV.wf, SObj.wf, wfL, SV.known, Nat.reduceEqDiff, ↓reduceIte, if_true, if_false, eq_self, Nat.reduceAdd, Nat.reduceLT, Nat.reduceLeDiff, implies_true, reduceCtorEq, forall_const]; simp; done))
          all_goals (try (simp only [en, LB, subS, subH, wfS, wfH, SV.ren, renL, SObj.ren, SV.wf, SObj.wf, wfL, SV.known, Nat.reduceEqDiff, ↓reduceIte, if_true, if_false, eq_self, Nat.reduceAdd, Nat.reduceLT, Nat.reduceLeDiff, implies_true, reduceCtorEq, forall_const]; (and_intros <;> (first | omega | rfl | (simp; done) | (simp; omega))); done))
          all_goals (try dsimp only)
          all_goals (and_intros <;> try (first | omega | (unfold In64; omega) | trivial | assumption))
    · have hil : ¬ (6 : Int) < 6 := by omega
      obtain rfl : i = 6 := by omega
      have eR : csP V 6 0 = csR V := rfl
      have hlR := csR_len V
      have tkR : (csR V).take 24 = csR V := List.take_of_length_le (by omega)
      have hrR := csR_rack u1 u2 u3
      have hvl := viewF_len (csR V)
      have eqv := eqI_view
      have eH : hidL (V.take 6) (V.drop 12) 6 = hidV V := rfl
      have bH2 : Bd 0 1000000 (hidV V) := fun x hx => by have := bH x hx; omega
      have hsame := csR_same hV u1 u2 u3
      cases hso : sortB (csR V)
      · simp -implicitDefEqProofs only [lk_normal, isSorted_F, hil, lenM, eR, hlR, tkR, hrR, hso, ZB, Int.reduceToNat, Nat.reduceLT, Nat.reduceLeDiff, Int.reduceLE, Int.reduceLT, Nat.reduceEqDiff, Nat.reduceSub, SB, SV.known, packR, ne_eq, reduceCtorEq, Nat.reduceEqDiff, ↓reduceIte, if_true, if_false, eq_self, Nat.reduceAdd, Nat.reduceMul, Nat.reduceSub, forall_const, oneCellS, Kd.isSca, flat, TYB]
        simp
      · by_cases hct : ctL (csR V) = V.drop 12
        · have hvw := hsame.2 hct
          simp -implicitDefEqProofs only [lk_normal, isSorted_F, viewOf_F, hidden_F, arrangements_F, hil, lenM, eR, hlR, tkR, hrR, hso, hvw, hV, tkV, hvl, eqv, u1, eH, lenH, bH2, ZB, Int.reduceToNat, Nat.reduceLT, Nat.reduceLeDiff, Int.reduceLE, Int.reduceLT, Nat.reduceEqDiff, Nat.reduceSub, SB, SV.known, packR, ne_eq, reduceCtorEq, Nat.reduceEqDiff, ↓reduceIte, if_true, if_false, eq_self, Nat.reduceAdd, Nat.reduceMul, Nat.reduceSub, forall_const, oneCellS, Kd.isSca, flat, TYB]
          simp [hct]
        · have hvw : ¬ viewF (csR V) = V := fun h => hct (hsame.1 h)
          simp -implicitDefEqProofs only [lk_normal, isSorted_F, viewOf_F, hidden_F, arrangements_F, hil, lenM, eR, hlR, tkR, hrR, hso, hvw, hV, tkV, hvl, eqv, u1, eH, lenH, bH2, ZB, Int.reduceToNat, Nat.reduceLT, Nat.reduceLeDiff, Int.reduceLE, Int.reduceLT, Nat.reduceEqDiff, Nat.reduceSub, SB, SV.known, packR, ne_eq, reduceCtorEq, Nat.reduceEqDiff, ↓reduceIte, if_true, if_false, eq_self, Nat.reduceAdd, Nat.reduceMul, Nat.reduceSub, forall_const, oneCellS, Kd.isSca, flat, TYB]
          simp [hct]
def emN (V : List Int) : Nat → Int
  | 0 => 24
  | k + 1 => emN V k - V.getD (12 + (k + 1)) 0
theorem emN_bd {V : List Int} (hB : ∀ k, k < 6 → 0 ≤ V.getD (12 + k) 0 ∧ V.getD (12 + k) 0 ≤ 24) : ∀ k, k ≤ 5 → -120 ≤ emN V k ∧ emN V k ≤ 24 ∧ 24 - 24 * (k : Int) ≤ emN V k
  | 0, _ => by simp [emN]
  | k + 1, hk => by
    have := emN_bd hB k (by omega)
    have := hB (k + 1) (by omega)
    unfold emN
    omega
theorem l7Empty_ok (V : List Int) (hV : V.length = 18) (hb : Bd 0 24 (V.drop 12)) : PureH Try.prog 76 [.arr V] [] (.arr (emV V)) := by
  have tkV : V.take 18 = V := List.take_of_length_le (by omega)
  have lenC : (V.drop 12).length = 6 := by rw [List.length_drop]; omega
  have tkC : (V.drop 12).take 6 = V.drop 12 := List.take_of_length_le (by omega)
  have gC : ∀ k, (V.drop 12).getD k 0 = V.getD (12 + k) 0 := fun k => by simp [List.getD]
  have hB : ∀ k, k < 6 → 0 ≤ V.getD (12 + k) 0 ∧ V.getD (12 + k) 0 ≤ 24 := fun k hk => by rw [← gC]; exact hb.getD (by omega)
  refine pure_of_vc (X := ⟨Try.prog, tys, [], [], true, true, 0, [], []⟩) fn_76 ⟨tys_ok, .nil, .nil, mixed⟩ (n0 := 0) (Nat.le_of_ble_eq_true rfl) (by simp [wfL, SV.wf]) (wfH_spec (by simp [wfH, SObj.wf])) (Nat.le_refl _) (fun _ => by simp [SV.wf, wfL]) ?_
  simp -implicitDefEqProofs only [Try.f76, Option.getD_some, argS, hV, tkV, lenC, tkC, ZB, Int.reduceToNat, Nat.reduceLT, Nat.reduceLeDiff, Int.reduceLE, Int.reduceLT, Nat.reduceEqDiff, Nat.reduceSub, SB, SV.known, packR, ne_eq, reduceCtorEq, Nat.reduceEqDiff, ↓reduceIte, if_true, if_false, eq_self, Nat.reduceAdd, Nat.reduceMul, Nat.reduceSub, forall_const, oneCellS, Kd.isSca, flat, TYB]
  refine loop_intro (fun k : Nat => [(4, .int ((k : Int) + 1)), (3, .ptr 2 0), (2, .ptr 1 0), (1, .ptr 0 0)]) (fun k => [(2, .ints ((V.drop 12).set 0 (emN V k)) 39), (1, .ints (List.replicate 6 0) 39), (0, .ints V 44)]) 3 (fun k => k ≤ 5) (fun k => 6 - k) ?_ ?_
  · refine ⟨0, ?_, Sub.mk_id ?_ ?_ ?_ ?_ ?_⟩
    all_goals (try (simp only [emN, LB, subS, subH, wfS, wfH, SV.ren, renL, SObj.ren, SV.wf, SObj.wf, wfL, SV.known, Nat.reduceEqDiff, ↓reduceIte, if_true, if_false, eq_self, Nat.reduceAdd, Nat.reduceLT, Nat.reduceLeDiff, implies_true, reduceCtorEq, forall_const]; done))
    all_goals (try (simp only [emN, LB, subS, subH, wfS, wfH, SV.ren, renL, SObj.ren, SV.wf, SObj.wf, wfL, SV.known, Nat.reduceEqDiff, ↓reduceIte, if_true, if_false, eq_self, Nat.reduceAdd, Nat.reduceLT, Nat.reduceLeDiff, implies_true, reduceCtorEq, forall_const]; simp; done))
    all_goals (try (simp only [emN, LB, subS, subH, wfS, wfH, SV.ren, renL, SObj.ren, SV.wf, SObj.wf, wfL, SV.known, Nat.reduceEqDiff, ↓reduceIte, if_true, if_false, eq_self, Nat.reduceAdd, Nat.reduceLT, Nat.reduceLeDiff, implies_true, reduceCtorEq, forall_const]; (and_intros <;> (first | omega | rfl | (simp; done) | (simp; omega))); done))
    all_goals (try dsimp only)
    all_goals (and_intros <;> try (first | omega | (unfold In64; omega) | trivial | assumption))
  · intro k hk
    have hl : ((V.drop 12).set 0 (emN V k)).length = 6 := by rw [List.length_set]; exact lenC
    have g0 := getD_set_eq (V.drop 12) 0 (emN V k) (by omega)
    have eb := emN_bd hB k hk
    by_cases hlt : k < 5
    · have hkl : (k : Int) + 1 ≤ 5 := by omega
      have tn : ((k : Int) + 1).toNat = k + 1 := by omega
      have k0 : 0 ≤ (k : Int) + 1 := by omega
      have k6 : (k : Int) + 1 < 6 := by omega
      have h1 := hB (k + 1) (by omega)
      have ss : ((V.drop 12).set 0 (emN V k)).set 0 (emN V k - V.getD (12 + (k + 1)) 0) = (V.drop 12).set 0 (emN V k - V.getD (12 + (k + 1)) 0) := List.set_set ..
      have es : emN V (k + 1) = emN V k - V.getD (12 + (k + 1)) 0 := rfl
      simp -implicitDefEqProofs only [lk_normal, hkl, hV, tn, k0, k6, hl, g0, ss, ZB, Int.reduceToNat, Nat.reduceLT, Nat.reduceLeDiff, Int.reduceLE, Int.reduceLT, Nat.reduceEqDiff, Nat.reduceSub, SB, SV.known, packR, ne_eq, reduceCtorEq, Nat.reduceEqDiff, ↓reduceIte, if_true, if_false, eq_self, Nat.reduceAdd, Nat.reduceMul, Nat.reduceSub, forall_const, oneCellS, Kd.isSca, flat, TYB]
      (try (and_intros <;> try (first | omega | (unfold In64; omega) | trivial | assumption)))
      refine ⟨k + 1, ?_, ?_, Sub.mk_id ?_ ?_ ?_ ?_ ?_⟩
      all_goals (try (simp only [es, LB, subS, subH, wfS, wfH, SV.ren, renL, SObj.ren, SV.wf, SObj.wf, wfL, SV.known, Nat.reduceEqDiff, ↓reduceIte, if_true, if_false, eq_self, Nat.reduceAdd, Nat.reduceLT, Nat.reduceLeDiff, implies_true, reduceCtorEq, forall_const]; done))
      all_goals (try (simp only [es, LB, subS, subH, wfS, wfH, SV.ren, renL, SObj.ren, SV.wf, SObj.wf, wfL, SV.known, Nat.reduceEqDiff, ↓reduceIte, if_true, if_false, eq_self, Nat.reduceAdd, Nat.reduceLT, Nat.reduceLeDiff, implies_true, reduceCtorEq, forall_const]; simp; done))
      all_goals (try (simp only [es, LB, subS, subH, wfS, wfH, SV.ren, renL, SObj.ren, SV.wf, SObj.wf, wfL, SV.known, Nat.reduceEqDiff, ↓reduceIte, if_true, if_false, eq_self, Nat.reduceAdd, Nat.reduceLT, Nat.reduceLeDiff, implies_true, reduceCtorEq, forall_const]; (and_intros <;> (first | omega | rfl | (simp; done) | (simp; omega))); done))
      all_goals (try dsimp only)
      all_goals (and_intros <;> try (first | omega | (unfold In64; omega) | trivial | assumption))
    · have hkl : ¬ (5 : Int) + 1 ≤ 5 := by omega
      obtain rfl : k = 5 := by omega
      have tk : List.take 6 ((V.drop 12).set 0 (emN V 5)) = (V.drop 12).set 0 (emN V 5) := List.take_of_length_le (by omega)
      simp -implicitDefEqProofs only [lk_normal, hkl, hV, hl, tk, ZB, Int.reduceToNat, Nat.reduceLT, Nat.reduceLeDiff, Int.reduceLE, Int.reduceLT, Nat.reduceEqDiff, Nat.reduceSub, SB, SV.known, packR, ne_eq, reduceCtorEq, Nat.reduceEqDiff, ↓reduceIte, if_true, if_false, eq_self, Nat.reduceAdd, Nat.reduceMul, Nat.reduceSub, forall_const, oneCellS, Kd.isSca, flat, TYB]
      rfl
def l7Empty_F : List SV → Heap → Option (Prop × SV)
  | [.arr V], _ => some (V.length = 18 ∧ Bd 0 24 (V.drop 12), .arr (emV V))
  | _, _ => none
theorem l7Empty_T : ∀ args H p v, l7Empty_F args H = some (p, v) → p → PureH Try.prog 76 args H v := by
  intro args H p v h hp
  unfold l7Empty_F at h
  split at h
  · cases h; exact (l7Empty_ok _ hp.1 hp.2).any _
  · cases h
theorem sChanceSorted_ok (V : List Int) (hV : V.length = 18) (h64 : I64 V) : PureH Try.prog 28 [.arr V] [] (.tup [.arr (chsF V), .bool (isVF V)]) := by
  have tkV : V.take 18 = V := List.take_of_length_le (by omega)
  unfold chsF
  cases hv : isVF V
  · refine pure_of_vc (X := ⟨Try.prog, tys, [(58, l7Good_F), (74, l2Sorted_F), (75, l2Counts_F), (50, l7Hidden_F), (53, l7Ways_F), (77, l7Cut_F), (76, l7Empty_F)], [], true, true, 0, [], []⟩) fn_28 ⟨tys_ok, (.cons l7Good_T (.cons l2Sorted_T (.cons l2Counts_T (.cons l7Hidden_T (.cons l7Ways_T (.cons l7Cut_T (.cons l7Empty_T .nil))))))), .nil, mixed⟩ (n0 := 0) (Nat.le_of_ble_eq_true rfl) (by simp [wfL, SV.wf]) (wfH_spec (by simp [wfH, SObj.wf])) (Nat.le_refl _) (fun _ => by simp [SV.wf, wfL]) ?_
    simp -implicitDefEqProofs only [Try.f28, Option.getD_some, argS, l7Good_F, l2Sorted_F, l2Counts_F, l7Hidden_F, l7Ways_F, l7Cut_F, l7Empty_F, hV, tkV, hv, h64, rep2_take, ZB, Int.reduceToNat, Nat.reduceLT, Nat.reduceLeDiff, Int.reduceLE, Int.reduceLT, Nat.reduceEqDiff, Nat.reduceSub, SB, SV.known, packR, ne_eq, reduceCtorEq, Nat.reduceEqDiff, ↓reduceIte, if_true, if_false, eq_self, Nat.reduceAdd, Nat.reduceMul, Nat.reduceSub, forall_const, oneCellS, Kd.isSca, flat, TYB]
  obtain ⟨u1, u2, u3, z0, bC, lenH, h0, bH, hs, h18⟩ := isV_facts hV h64 hv
  refine pure_of_vc (X := ⟨Try.prog, tys, [(58, l7Good_F), (74, l2Sorted_F), (75, l2Counts_F), (50, l7Hidden_F), (53, l7Ways_F), (77, l7Cut_F), (76, l7Empty_F)], [], true, true, 0, [], []⟩) fn_28 ⟨tys_ok, (.cons l7Good_T (.cons l2Sorted_T (.cons l2Counts_T (.cons l7Hidden_T (.cons l7Ways_T (.cons l7Cut_T (.cons l7Empty_T .nil))))))), .nil, mixed⟩ (n0 := 0) (Nat.le_of_ble_eq_true rfl) (by simp [wfL, SV.wf]) (wfH_spec (by simp [wfH, SObj.wf])) (Nat.le_refl _) (fun _ => by simp [SV.wf, wfL]) ?_
  simp -implicitDefEqProofs only [Try.f28, Option.getD_some, argS, l7Good_F, l2Sorted_F, l2Counts_F, l7Hidden_F, l7Ways_F, l7Cut_F, l7Empty_F, hV, tkV, hv, h64, ZB, Int.reduceToNat, Nat.reduceLT, Nat.reduceLeDiff, Int.reduceLE, Int.reduceLT, Nat.reduceEqDiff, Nat.reduceSub, SB, SV.known, packR, ne_eq, reduceCtorEq, Nat.reduceEqDiff, ↓reduceIte, if_true, if_false, eq_self, Nat.reduceAdd, Nat.reduceMul, Nat.reduceSub, forall_const, oneCellS, Kd.isSca, flat, TYB]
  refine loop_intro (fun i : Nat => [(5, .int i), (4, .ptr 2 0), (2, .ptr 1 0), (1, .ptr 0 0)]) (fun i => [(2, .ints (csP V i 0) 28), (1, .ints (List.replicate 2 0) 50), (0, .ints V 44)]) 3 (fun i => i ≤ 6) (fun i => 6 - i) ?_ ?_
  · refine ⟨0, ?_, Sub.mk_id ?_ ?_ ?_ ?_ ?_⟩
    all_goals (try (simp only [csP_zero, LB, subS, subH, wfS, wfH, SV.ren, renL, SObj.ren, SV.wf, SObj.wf, wfL, SV.known, Nat.reduceEqDiff, ↓reduceIte, if_true, if_false, eq_self, Nat.reduceAdd, Nat.reduceLT, Nat.reduceLeDiff, implies_true, reduceCtorEq, forall_const]; done))
    all_goals (try (simp only [csP_zero, LB, subS, subH, wfS, wfH, SV.ren, renL, SObj.ren, SV.wf, SObj.wf, wfL, SV.known, Nat.reduceEqDiff, ↓reduceIte, if_true, if_false, eq_self, Nat.reduceAdd, Nat.reduceLT, Nat.reduceLeDiff, implies_true, reduceCtorEq, forall_const]; simp; done))
    all_goals (try (simp only [csP_zero, LB, subS, subH, wfS, wfH, SV.ren, renL, SObj.ren, SV.wf, SObj.wf, wfL, SV.known, Nat.reduceEqDiff, ↓reduceIte, if_true, if_false, eq_self, Nat.reduceAdd, Nat.reduceLT, Nat.reduceLeDiff, implies_true, reduceCtorEq, forall_const]; (and_intros <;> (first | omega | rfl | (simp; done) | (simp; omega))); done))
    all_goals (try dsimp only)
    all_goals (and_intros <;> try (first | omega | (unfold In64; omega) | trivial | assumption))
  · intro i hi
    by_cases hlt : i < 6
    · have hil : (i : Int) < 6 := by omega
      simp -implicitDefEqProofs only [lk_normal, hil, ZB, Int.reduceToNat, Nat.reduceLT, Nat.reduceLeDiff, Int.reduceLE, Int.reduceLT, Nat.reduceEqDiff, Nat.reduceSub, SB, SV.known, packR, ne_eq, reduceCtorEq, Nat.reduceEqDiff, ↓reduceIte, if_true, if_false, eq_self, Nat.reduceAdd, Nat.reduceMul, Nat.reduceSub, forall_const, oneCellS, Kd.isSca, flat, TYB]
      (try (and_intros <;> try (first | omega | (unfold In64; omega) | trivial | assumption)))
      have hlc := csP_len V i
      have h2 := u2 i hlt
      refine loop_intro (fun k : Nat => [(6, .int k), (5, .int i), (4, .ptr 2 0), (2, .ptr 1 0), (1, .ptr 0 0)]) (fun k => [(2, .ints (csP V i k) 28), (1, .ints (List.replicate 2 0) 50), (0, .ints V 44)]) 3 (fun k => (k : Int) ≤ V.getD (6 + i) 0) (fun k => 5 - k) ?_ ?_
      · refine ⟨0, ?_, Sub.mk_id ?_ ?_ ?_ ?_ ?_⟩
        all_goals (try (simp only [LB, subS, subH, wfS, wfH, SV.ren, renL, SObj.ren, SV.wf, SObj.wf, wfL, SV.known, Nat.reduceEqDiff, ↓reduceIte, if_true, if_false, eq_self, Nat.reduceAdd, Nat.reduceLT, Nat.reduceLeDiff, implies_true, reduceCtorEq, forall_const]; done))
        all_goals (try (simp only [LB, subS, subH, wfS, wfH, SV.ren, renL, SObj.ren, SV.wf, SObj.wf, wfL, SV.known, Nat.reduceEqDiff, ↓reduceIte, if_true, if_false, eq_self, Nat.reduceAdd, Nat.reduceLT, Nat.reduceLeDiff, implies_true, reduceCtorEq, forall_const]; simp; done))
        all_goals (try (simp only [LB, subS, subH, wfS, wfH, SV.ren, renL, SObj.ren, SV.wf, SObj.wf, wfL, SV.known, Nat.reduceEqDiff, ↓reduceIte, if_true, if_false, eq_self, Nat.reduceAdd, Nat.reduceLT, Nat.reduceLeDiff, implies_true, reduceCtorEq, forall_const]; (and_intros <;> (first | omega | rfl | (simp; done) | (simp; omega))); done))
        all_goals (try dsimp only)
        all_goals (and_intros <;> try (first | omega | (unfold In64; omega) | trivial | assumption))
      · intro k hk
        by_cases hkt : (k : Int) < V.getD (6 + i) 0
        · have hk4 : (k : Int) < 4 := by omega
          have es := csP_set V hlt (show k < 4 by omega) hkt
          simp -implicitDefEqProofs only [lk_normal, hkt, hil, hk4, hlc, hV, es, ZB, Int.reduceToNat, Nat.reduceLT, Nat.reduceLeDiff, Int.reduceLE, Int.reduceLT, Nat.reduceEqDiff, Nat.reduceSub, SB, SV.known, packR, ne_eq, reduceCtorEq, Nat.reduceEqDiff, ↓reduceIte, if_true, if_false, eq_self, Nat.reduceAdd, Nat.reduceMul, Nat.reduceSub, forall_const, oneCellS, Kd.isSca, flat, TYB]
          (try (and_intros <;> try (first | omega | (unfold In64; omega) | trivial | assumption)))
          refine ⟨k + 1, ?_, ?_, Sub.mk_id ?_ ?_ ?_ ?_ ?_⟩
          all_goals (try (simp only [LB, subS, subH, wfS, wfH, SV.ren, renL, SObj.ren, SV.wf, SObj.wf, wfL, SV.known, Nat.reduceEqDiff, ↓reduceIte, if_true, if_false, eq_self, Nat.reduceAdd, Nat.reduceLT, Nat.reduceLeDiff, implies_true, reduceCtorEq, forall_const]; done))
          all_goals (try (simp only [LB, subS, subH, wfS, wfH, SV.ren, renL, SObj.ren, SV.wf, SObj.wf, wfL, SV.known, Nat.reduceEqDiff, ↓reduceIte, if_true, if_false, eq_self, Nat.reduceAdd, Nat.reduceLT, Nat.reduceLeDiff, implies_true, reduceCtorEq, forall_const]; simp; done))
          all_goals (try (simp only [LB, subS, subH, wfS, wfH, SV.ren, renL, SObj.ren, SV.wf, SObj.wf, wfL, SV.known, Nat.reduceEqDiff, ↓reduceIte, if_true, if_false, eq_self, Nat.reduceAdd, Nat.reduceLT, Nat.reduceLeDiff, implies_true, reduceCtorEq, forall_const]; (and_intros <;> (first | omega | rfl | (simp; done) | (simp; omega))); done))
          all_goals (try dsimp only)
          all_goals (and_intros <;> try (first | omega | (unfold In64; omega) | trivial | assumption))
        · have en := csP_next V hlt (k := k) (by omega)
          simp -implicitDefEqProofs only [lk_normal, hkt, hil, hlc, hV, ZB, Int.reduceToNat, Nat.reduceLT, Nat.reduceLeDiff, Int.reduceLE, Int.reduceLT, Nat.reduceEqDiff, Nat.reduceSub, SB, SV.known, packR, ne_eq, reduceCtorEq, Nat.reduceEqDiff, ↓reduceIte, if_true, if_false, eq_self, Nat.reduceAdd, Nat.reduceMul, Nat.reduceSub, forall_const, oneCellS, Kd.isSca, flat, TYB]
          (try (and_intros <;> try (first | omega | (unfold In64; omega) | trivial | assumption)))
          refine ⟨i + 1, ?_, ?_, Sub.mk_id ?_ ?_ ?_ ?_ ?_⟩
          all_goals (try (simp only [en, LB, subS, subH, wfS, wfH, SV.ren, renL, SObj.ren, SV.wf, SObj.wf, wfL, SV.known, Nat.reduceEqDiff, ↓reduceIte, if_true, if_false, eq_self, Nat.reduceAdd, Nat.reduceLT, Nat.reduceLeDiff, implies_true, reduceCtorEq, forall_const]; done))
          all_goals (try (simp only [en, LB, subS, subH, wfS, wfH, SV.ren, renL, SObj.ren, SV.wf, SObj.wf, wfL, SV.known, Nat.reduceEqDiff, ↓reduceIte, if_true, if_false, eq_self, Nat.reduceAdd, Nat.reduceLT, Nat.reduceLeDiff, implies_true, reduceCtorEq, forall_const]; simp; done))
          all_goals (try (simp only [en, LB, subS, subH, wfS, wfH, SV.ren, renL, SObj.ren, SV.wf, SObj.wf, wfL, SV.known, Nat.reduceEqDiff, ↓reduceIte, if_true, if_false, eq_self, Nat.reduceAdd, Nat.reduceLT, Nat.reduceLeDiff, implies_true, reduceCtorEq, forall_const]; (and_intros <;> (first | omega | rfl | (simp; done) | (simp; omega))); done))
          all_goals (try dsimp only)
          all_goals (and_intros <;> try (first | omega | (unfold In64; omega) | trivial | assumption))
    · have hil : ¬ (6 : Int) < 6 := by omega
      obtain rfl : i = 6 := by omega
      have eR : csP V 6 0 = csR V := rfl
      have hlR := csR_len V
      have tkR : (csR V).take 24 = csR V := List.take_of_length_le (by omega)
      have hrR := csR_rack u1 u2 u3
      have hcl := cntL_len (csR V)
      have hel : (emV V).length = 6 := by unfold emV; rw [List.length_set, List.length_drop]; omega
      have eq6 := eqI_A6
      have eH : hidL (V.take 6) (V.drop 12) 6 = hidV V := rfl
      have bH2 : Bd 0 1000000 ((hidV V).drop 1) := fun x hx => by have := bH x (List.mem_of_mem_drop hx); omega
      have aF := arrF_drop lenH h0
      have tkH : (hidV V).take 6 = hidV V := List.take_of_length_le (by omega)
      have ab := arrF_bd bH h18
      have ai : In64 (arrF (hidV V)) := by unfold In64; omega
      have i1 : In64 1 := by unfold In64; omega
      have a0 : 0 < arrF (hidV V) := by omega
      have fr : fracF 1 (arrF (hidV V)) = [1, arrF (hidV V)] := by
        unfold fracF
        have : Nat.gcd (1 : Int).toNat (arrF (hidV V)).toNat = 1 := Nat.gcd_one_left _
        rw [this]; simp
      have hsame := csR_empty hV hlR hrR z0
      cases hso : sortB (csR V)
      · simp -implicitDefEqProofs only [lk_normal, l2Sorted_F, hil, eR, hlR, tkR, hrR, hso, ZB, Int.reduceToNat, Nat.reduceLT, Nat.reduceLeDiff, Int.reduceLE, Int.reduceLT, Nat.reduceEqDiff, Nat.reduceSub, SB, SV.known, packR, ne_eq, reduceCtorEq, Nat.reduceEqDiff, ↓reduceIte, if_true, if_false, eq_self, Nat.reduceAdd, Nat.reduceMul, Nat.reduceSub, forall_const, oneCellS, Kd.isSca, flat, TYB]
        simp
      · by_cases hct : ctL (csR V) = V.drop 12
        · have hvw := hsame.2 hct
          simp -implicitDefEqProofs only [lk_normal, l2Sorted_F, l2Counts_F, l7Empty_F, l7Hidden_F, l7Ways_F, l7Cut_F, hil, eR, hlR, tkR, hrR, hso, hvw, hV, tkV, hcl, hel, eq6, bC, u1, u2, u3, eH, lenH, tkH, bH2, aF, ai, i1, a0, fr, ZB, Int.reduceToNat, Nat.reduceLT, Nat.reduceLeDiff, Int.reduceLE, Int.reduceLT, Nat.reduceEqDiff, Nat.reduceSub, SB, SV.known, packR, ne_eq, reduceCtorEq, Nat.reduceEqDiff, ↓reduceIte, if_true, if_false, eq_self, Nat.reduceAdd, Nat.reduceMul, Nat.reduceSub, forall_const, oneCellS, Kd.isSca, flat, TYB]
          simp [hct]
        · have hvw : ¬ cntL (csR V) = emV V := fun h => hct (hsame.1 h)
          simp -implicitDefEqProofs only [lk_normal, l2Sorted_F, l2Counts_F, l7Empty_F, l7Hidden_F, l7Ways_F, l7Cut_F, hil, eR, hlR, tkR, hrR, hso, hvw, hV, tkV, hcl, hel, eq6, bC, u1, u2, u3, eH, lenH, tkH, bH2, aF, ai, i1, a0, fr, ZB, Int.reduceToNat, Nat.reduceLT, Nat.reduceLeDiff, Int.reduceLE, Int.reduceLT, Nat.reduceEqDiff, Nat.reduceSub, SB, SV.known, packR, ne_eq, reduceCtorEq, Nat.reduceEqDiff, ↓reduceIte, if_true, if_false, eq_self, Nat.reduceAdd, Nat.reduceMul, Nat.reduceSub, forall_const, oneCellS, Kd.isSca, flat, TYB]
          simp [hct]
def ChanceSorted_F : List SV → Heap → Option (Prop × SV)
  | [.arr V], _ => some (V.length = 18 ∧ I64 V, .tup [.arr (chsF V), .bool (isVF V)])
  | _, _ => none
theorem ChanceSorted_T : ∀ args H p v, ChanceSorted_F args H = some (p, v) → p → PureH Try.prog 29 args H v := by
  intro args H p v h hp
  unfold ChanceSorted_F at h
  split at h
  · cases h; exact (ChanceSorted_ok _ hp.1 hp.2).any _
  · cases h
def sChanceSorted_F : List SV → Heap → Option (Prop × SV)
  | [.arr V], _ => some (V.length = 18 ∧ I64 V, .tup [.arr (chsF V), .bool (isVF V)])
  | _, _ => none
theorem sChanceSorted_T : ∀ args H p v, sChanceSorted_F args H = some (p, v) → p → PureH Try.prog 28 args H v := by
  intro args H p v h hp
  unfold sChanceSorted_F at h
  split at h
  · cases h; exact (sChanceSorted_ok _ hp.1 hp.2).any _
  · cases h
theorem chsF_len (V : List Int) : (chsF V).length = 2 := by
  unfold chsF
  split
  · split <;> rfl
  · rfl
--@tbl toView = laws.toView
theorem toView_ok (V : List Int) (hV : V.length = 18) : PureH Try.prog 21 [.arr V] [] (.arr V) := by
  have tkV : V.take 18 = V := List.take_of_length_le (by omega)
  have l0 : (V.take 6).length = 6 := by rw [List.length_take]; omega
  have l1 : ((V.drop 6).take 6).length = 6 := by rw [List.length_take, List.length_drop]; omega
  have l2 : ((V.drop 12).take 6).length = 6 := by rw [List.length_take, List.length_drop]; omega
  have tkC : (V.drop 12).take 6 = V.drop 12 := List.take_of_length_le (by rw [List.length_drop]; omega)
  have lC : (V.drop 12).length = 6 := by rw [List.length_drop]; omega
  have s18 := split18 hV
  have e0 : (V.take 6 ++ List.replicate 12 (0 : Int)).length = 18 := by rw [List.length_append, l0]; simp
  have e1 : List.take 6 (V.take 6 ++ List.replicate 12 (0 : Int)) = V.take 6 := List.take_left' l0
  have e2 : List.drop 12 (V.take 6 ++ List.replicate 12 (0 : Int)) = List.replicate 6 0 := by
    rw [List.drop_append, l0, List.drop_of_length_le (by omega)]; simp
  have e3 : (V.take 6 ++ (V.drop 6).take 6 ++ List.replicate 6 (0 : Int)).length = 18 := by simp only [List.length_append, l0, l1, List.length_replicate]
  have e4 : List.take 12 (V.take 6 ++ (V.drop 6).take 6 ++ List.replicate 6 (0 : Int)) = V.take 6 ++ (V.drop 6).take 6 := List.take_left' (by rw [List.length_append, l0, l1])
  have e5 : List.drop 18 (V.take 6 ++ (V.drop 6).take 6 ++ List.replicate 6 (0 : Int)) = [] := List.drop_of_length_le (by omega)
  have e6 : V.take 6 ++ (V.drop 6).take 6 ++ V.drop 12 = V := s18.symm
  refine pure_of_vc (X := ⟨Try.prog, tys, [(26, toIntA6_F)], [], true, true, 0, [], []⟩) fn_21 ⟨tys_ok, (.cons toIntA6_T .nil), .nil, mixed⟩ (n0 := 0) (Nat.le_of_ble_eq_true rfl) (by simp [wfL, SV.wf]) (wfH_spec (by simp [wfH, SObj.wf])) (Nat.le_refl _) (fun _ => by simp [SV.wf, wfL]) ?_
  simp -implicitDefEqProofs only [Try.f21, Option.getD_some, argS, toIntA6_F, hV, tkV, l0, l1, tkC, lC, e0, e1, e2, e3, e4, e5, e6, ZB, Int.reduceToNat, Nat.reduceLT, Nat.reduceLeDiff, Int.reduceLE, Int.reduceLT, Nat.reduceEqDiff, Nat.reduceSub, SB, SV.known, packR, ne_eq, reduceCtorEq, Nat.reduceEqDiff, ↓reduceIte, if_true, if_false, eq_self, Nat.reduceAdd, Nat.reduceMul, Nat.reduceSub, forall_const, oneCellS, Kd.isSca, flat, TYB]
def toView_F : List SV → Heap → Option (Prop × SV)
  | [.arr V], _ => some (V.length = 18, .arr V)
  | _, _ => none
theorem toView_T : ∀ args H p v, toView_F args H = some (p, v) → p → PureH Try.prog 21 args H v := by
  intro args H p v h hp
  unfold toView_F at h
  split at h
  · cases h; exact (toView_ok _ hp).any _
  · cases h
theorem lawChanceSorted (V : List Int) (hV : V.length = 18) (hb : ∀ x ∈ V, In64 x) : PureH Try.prog 7 [.arr V] [] (.bool true) := by
  have tkV : V.take 18 = V := List.take_of_length_le (by omega)
  have h64 : I64 V := hb
  have hl := chsF_len V
  have tk2 : (chsF V).take 2 = chsF V := List.take_of_length_le (by omega)
  refine pure_of_vc (X := ⟨Try.prog, tys, [(21, toView_F), (29, ChanceSorted_F), (28, sChanceSorted_F), (30, eqIntA2_F)], [], true, true, 0, [], []⟩) fn_7 ⟨tys_ok, (.cons toView_T (.cons ChanceSorted_T (.cons sChanceSorted_T (.cons eqIntA2_T .nil)))), .nil, mixed⟩ (n0 := 0) (Nat.le_of_ble_eq_true rfl) (by simp [wfL, SV.wf]) (wfH_spec (by simp [wfH, SObj.wf])) (Nat.le_refl _) (fun _ => by simp [SV.wf, wfL]) ?_
  simp -implicitDefEqProofs only [Try.f7, Option.getD_some, argS, toView_F, ChanceSorted_F, sChanceSorted_F, eqIntA2_F, hV, tkV, h64, hl, tk2, ZB, Int.reduceToNat, Nat.reduceLT, Nat.reduceLeDiff, Int.reduceLE, Int.reduceLT, Nat.reduceEqDiff, Nat.reduceSub, SB, SV.known, packR, ne_eq, reduceCtorEq, Nat.reduceEqDiff, ↓reduceIte, if_true, if_false, eq_self, Nat.reduceAdd, Nat.reduceMul, Nat.reduceSub, forall_const, oneCellS, Kd.isSca, flat, TYB]
end Go.Proofs.Ytfdpeenamkpcbaa
