/- Walks: CommonPours, SamePours. -/
import Derived.Test.YtdnechlmkbchaaaRulC
import Derived.Test.YtdnechlmkbchaaaSl
set_option maxRecDepth 100000
set_option linter.unusedSimpArgs false
set_option linter.unusedVariables false
namespace Go.Proofs.Ytdnechlmkbchaaa
open Go Go.RowKit
theorem GL_pair (c : Nat → Nat → Bool) : ∀ m, m ≤ 36 → ∀ i, i * 2 + 2 ≤ (GL c m).length → ∃ a b : Nat, a < 6 ∧ b < 6 ∧ c a b = true ∧ ((GL c m).drop (i * 2)).take 2 = [(a : Int), (b : Int)]
  | 0, _, i, h => by simp [GL_zero] at h
  | m + 1, hm, i, h => by
    obtain ⟨n, hn, _⟩ := GL_even c m
    rw [GL_succ, List.length_append, hn] at h
    by_cases hi : i * 2 + 2 ≤ n * 2
    · obtain ⟨a, b, h1, h2, h3, h4⟩ := GL_pair c m (by omega) i (by omega)
      refine ⟨a, b, h1, h2, h3, ?_⟩
      rw [GL_succ, List.drop_append_of_le_length (by omega), List.take_append_of_le_length (by rw [List.length_drop]; omega)]
      exact h4
    · unfold prG at h
      split at h
      · rename_i hc
        simp at h
        have : i = n := by omega
        subst this
        refine ⟨m / 6, m % 6, by omega, by omega, hc, ?_⟩
        rw [GL_succ, List.drop_left' hn]
        unfold prG
        rw [if_pos hc]; rfl
      · simp at h; omega
theorem GL_pair' (c : Nat → Nat → Bool) (i : Nat) (junk : List Int) (h : i * 2 + 2 ≤ (GL c 36).length) : ∃ a b : Nat, a < 6 ∧ b < 6 ∧ c a b = true ∧ (((GL c 36) ++ junk).drop (i * 2)).take 2 = [(a : Int), (b : Int)] := by
  obtain ⟨a, b, h1, h2, h3, h4⟩ := GL_pair c 36 (by omega) i h
  refine ⟨a, b, h1, h2, h3, ?_⟩
  rw [List.drop_append_of_le_length (by omega), List.take_append_of_le_length (by rw [List.length_drop]; omega)]
  exact h4
/-! DeleteFunc with a closure over a rack and depths. -/
def delRD_F (g : Nat) (pr : List Int → List Int → List Int → Bool) (Q : List Int → List Int → List Int → Prop) : List SV → Heap → Nat → Nat → K1 → Prop
  | [.slice b 0 len cap, .fn f [.ptr k 0, .ptr k2 0]], H, n, m, κ => match hget H b, hget H k, hget H k2 with
    | some (.ints L e), some (.ints R _), some (.ints D _) => f = g ∧ (R.length = 24 ∧ D.length = 6) ∧ L.length = cap * 2 ∧ len ≤ cap ∧ len ≤ 4611686018427387903 ∧ (b ≠ k ∧ b ≠ k2 ∧ k ≠ k2) ∧ m ≤ b ∧ (∀ i, i < len → Q R D ((L.drop (i * 2)).take 2)) ∧
        κ (.slice b 0 ((kept (fun x => !pr R D x) L len).length / 2) cap) ((b, .ints (kept (fun x => !pr R D x) L len ++ List.replicate (len * 2 - (kept (fun x => !pr R D x) L len).length) 0 ++ L.drop (len * 2)) e) :: H) n
    | _, _, _ => False
  | [.nils, .fn _ [.ptr k 0, .ptr k2 0]], H, n, _, κ => match hget H k, hget H k2 with
    | some (.ints _ _), some (.ints _ _) => κ .nils H n
    | _, _ => False
  | _, _, _, _, _ => False
--@tbl delRD = slices.DeleteFunc[[][2]int,[2]int]
theorem delRD_T (g : Nat) (pr : List Int → List Int → List Int → Bool) (Q : List Int → List Int → List Int → Prop) (hg : g ≠ 117) (hc : ∀ (R D : List Int) (e e' : Nat) (p : List Int), R.length = 24 → D.length = 6 → Q R D p → PureH Try.prog g [.arr p, .ptr 0 0, .ptr 1 0] [(0, .ints R e), (1, .ints D e')] (.bool (pr R D p))) :
    ∀ args H n m κ, delRD_F g pr Q args H n m κ → GenOK Try.prog 79 args H n m κ := by
  intro args H n m κ h
  unfold delRD_F at h
  split at h
  · rename_i b len cap f k k2
    split at h
    · rename_i L e R e2 D e3 h1 h2 h3
      obtain ⟨rfl, ⟨hR, hD⟩, hL, hlc, hm, ⟨hb1, hb2, hb3⟩, hmb, hQ, h⟩ := h
      have hu := deleteFunc_ok f hg [.ptr 0 0, .ptr 1 0] [(0, .ints R e2), (1, .ints D e3)] (pr R D) 2 L e len cap hL hlc hm (Q R D) hQ (fun x hx => hc R D e2 e3 x hR hD hx) (by simp [wfL, SV.wf]) (wfH_spec (by simp [wfH, SObj.wf]))
      have := gen_of_upd (H := H) (n := n) (m := m) (κ := κ) hu (fun j => if j = 2 then b else if j = 1 then k2 else k) (fun j o1 hj => by
        simp only [hget_cons] at hj
        split at hj
        · rename_i hj1; cases hj; rw [if_pos hj1]; exact h1
        · rename_i hj1
          rw [if_neg hj1]
          split at hj
          · rename_i hj0; cases hj; rw [if_neg (by omega)]; exact h2
          · split at hj
            · rename_i hj2; cases hj; rw [if_pos hj2]; exact h3
            · cases hj) (fun j1 o1 j2 o2 g1 g2 he => by
        have dom : ∀ j o, hget [(2, SObj.ints L e), (0, .ints R e2), (1, .ints D e3)] j = some o → j = 2 ∨ j = 0 ∨ j = 1 := fun j o hj => by
          simp only [hget_cons] at hj
          split at hj
          · omega
          · split at hj
            · omega
            · split at hj
              · omega
              · cases hj
        rcases dom j1 o1 g1 with rfl | rfl | rfl <;> rcases dom j2 o2 g2 with rfl | rfl | rfl <;> simp at he <;> omega) (by simpa using hmb) rfl (fun n hn => by simpa [SV.wf, SV.ren] using hn) (by simpa [SV.ren] using h)
      simpa [renL, SV.ren] using this
    · exact h.elim
  · rename_i f k k2
    split at h
    · have hp := deleteFunc_nil f [.ptr k 0, .ptr k2 0] [] (k + k2 + 1) (by simp [wfL, SV.wf]; omega) (hwf_nil _)
      refine ⟨hp.ent, fun B M w hH hwH hwa hown hM => ?_⟩
      refine (hp.call B w (HR.nil B w)).mono fun e w' hh => ?_
      exact ⟨.nils, H, n, B, hh.1, h, Nat.le_refl _, trivial, hwH, fun _ _ => rfl, hH.of_below hh.2, hown, Kept.of_below hh.2⟩
    · exact h.elim
  · exact h.elim
/-! The lists. -/
def comD (R D : List Int) (i j : Nat) : Bool := decide (0 < movF R D 1 i j) && (decide (0 < movF R D 2 i j) && decide (0 < movF R D 3 i j) && decide (0 < movF R D 4 i j))
def samD (R D : List Int) (i j : Nat) : Bool := decide (movF R D 3 i j = 1)
def comP (R D p : List Int) : Bool := !(decide (0 < movF R D 2 (p.getD 0 0) (p.getD 1 0)) && decide (0 < movF R D 3 (p.getD 0 0) (p.getD 1 0)) && decide (0 < movF R D 4 (p.getD 0 0) (p.getD 1 0)))
def samP (R D p : List Int) : Bool := !decide (movF R D 3 (p.getD 0 0) (p.getD 1 0) = 1)
def qRD (R D p : List Int) : Prop := forB R D = true ∧ okP p
--@com
theorem mov3_1 {R D : List Int} {i j : Int} (h : movF R D 3 i j = 1) : movF R D 1 i j = 1 := by
  unfold movF at *
  split at h
  · omega
  · rename_i h1
    rw [if_neg h1]
    simp only [show ¬ ((3 : Int) = 4) by omega, show ¬ ((1 : Int) = 4) by omega, if_false, show ¬ ((3 : Int) = 2) by omega, show ¬ ((1 : Int) = 2) by omega, show ¬ ((1 : Int) = 3) by omega, true_and, false_and] at h ⊢
    split at h
    · omega
    · rename_i h2
      rw [if_neg h2]
      split at h
      · omega
      · exact h
def bothN (R D : List Int) (a b : Int) (r : Nat) : Bool := (List.range r).all fun q => decide (0 < movF R D ((q + 1 : Nat) : Int) a b)
theorem bothN_zero (R D : List Int) (a b : Int) : bothN R D a b 0 = true := rfl
theorem bothN_succ (R D : List Int) (a b : Int) (r : Nat) : bothN R D a b (r + 1) = (bothN R D a b r && decide (0 < movF R D ((r + 1 : Nat) : Int) a b)) := by simp [bothN, List.range_succ]
def comQ (R D p : List Int) : Bool := decide (0 < movF R D 1 (p.getD 0 0) (p.getD 1 0)) && decide (0 < movF R D 2 (p.getD 0 0) (p.getD 1 0)) && decide (0 < movF R D 3 (p.getD 0 0) (p.getD 1 0)) && decide (0 < movF R D 4 (p.getD 0 0) (p.getD 1 0))
def samQ (R D p : List Int) : Bool := decide (movF R D 1 (p.getD 0 0) (p.getD 1 0) = 1) && decide (movF R D 3 (p.getD 0 0) (p.getD 1 0) = 1)
def comL (R D : List Int) : List Int := if forB R D = true then GL (comD R D) 36 else []
theorem comL_even (R D : List Int) : ∃ k, (comL R D).length = k * 2 ∧ k ≤ 36 := by
  unfold comL
  split
  · exact GL_even _ 36
  · exact ⟨0, rfl, by omega⟩
theorem com_kept (R D : List Int) (m : Nat) (hm : (GL (pbB R D 1) 36).length = m * 2) : kept (fun p => !comP R D p) (GL (pbB R D 1) 36) m = GL (comD R D) 36 := by
  obtain ⟨n, h1, h2⟩ := kept_GL (pbB R D 1) (comD R D) (fun p => !comP R D p) (fun i j _ _ hc => by
    unfold pbB at hc
    simp [comP, comD, hc, Bool.and_assoc]) (fun i j _ _ hc => by
    unfold comD at hc
    unfold pbB
    simp only [Bool.and_eq_true] at hc; exact hc.1) 36 (by omega)
  obtain rfl : n = m := by omega
  exact h2
--@tbl comDel = slices.DeleteFunc[[][2]int,[2]int]
theorem scom_kept (R D : List Int) (m : Nat) (hm : (GL (pbB R D 1) 36).length = m * 2) : kept (fun p => comQ R D p) (GL (pbB R D 1) 36) m = GL (comD R D) 36 := by
  obtain ⟨n, h1, h2⟩ := kept_GL (pbB R D 1) (comD R D) (fun p => comQ R D p) (fun i j _ _ hc => by
    unfold pbB at hc
    simp only [comQ, comD, List.getD_cons_zero, List.getD_cons_succ]
    simp [hc, Bool.and_assoc]) (fun i j _ _ hc => by
    unfold comD at hc
    unfold pbB
    simp only [Bool.and_eq_true] at hc; exact hc.1) 36 (by omega)
  obtain rfl : n = m := by omega
  exact h2
def CommonPours_F : List SV → Heap → Nat → Nat → K1 → Prop
  | [.arr R, .arr D], H, n, _, κ => (R.length = 24 ∧ D.length = 6) ∧ freshK (.more [.bool (forB R D)]) (comL R D) ((comL R D).length / 2) 2 51 (decide (forB R D = false ∨ GL (pbB R D 1) 36 = [])) H n κ
  | _, _, _, _, _ => False
--@tbl CommonPours = impl.CommonPours
def sCommonPours_F : List SV → Heap → Nat → Nat → K1 → Prop
  | [.arr R, .arr D], H, n, _, κ => (R.length = 24 ∧ D.length = 6) ∧ freshK (.more [.bool (forB R D)]) (comL R D) ((comL R D).length / 2) 2 51 (false) H n κ
  | _, _, _, _, _ => False
--@tbl sCommonPours = spec.CommonPours
def samL (R D : List Int) : List Int := if forB R D = true then GL (samD R D) 36 else []
theorem samL_even (R D : List Int) : ∃ k, (samL R D).length = k * 2 ∧ k ≤ 36 := by
  unfold samL
  split
  · exact GL_even _ 36
  · exact ⟨0, rfl, by omega⟩
theorem sam_kept (R D : List Int) (m : Nat) (hm : (GL (pbB R D 3) 36).length = m * 2) : kept (fun p => !samP R D p) (GL (pbB R D 3) 36) m = GL (samD R D) 36 := by
  obtain ⟨n, h1, h2⟩ := kept_GL (pbB R D 3) (samD R D) (fun p => !samP R D p) (fun i j _ _ hc => by
    unfold pbB at hc
    simp [samP, samD, hc]) (fun i j _ _ hc => by
    unfold samD at hc
    unfold pbB
    simp only [decide_eq_true_eq] at hc ⊢; omega) 36 (by omega)
  obtain rfl : n = m := by omega
  exact h2
--@tbl samDel = slices.DeleteFunc[[][2]int,[2]int]
theorem ssam_kept (R D : List Int) (m : Nat) (hm : (GL (pbB R D 1) 36).length = m * 2) : kept (fun p => samQ R D p) (GL (pbB R D 1) 36) m = GL (samD R D) 36 := by
  obtain ⟨n, h1, h2⟩ := kept_GL (pbB R D 1) (samD R D) (fun p => samQ R D p) (fun i j _ _ hc => by
    unfold pbB at hc
    simp only [samQ, samD, List.getD_cons_zero, List.getD_cons_succ]
    rw [Bool.eq_iff_iff]; simp only [Bool.and_eq_true, decide_eq_true_eq]; exact ⟨fun h => h.2, fun h => ⟨mov3_1 h, h⟩⟩) (fun i j _ _ hc => by
    unfold samD at hc
    unfold pbB
    simp only [decide_eq_true_eq] at hc ⊢; have := mov3_1 hc; omega) 36 (by omega)
  obtain rfl : n = m := by omega
  exact h2
def SamePours_F : List SV → Heap → Nat → Nat → K1 → Prop
  | [.arr R, .arr D], H, n, _, κ => (R.length = 24 ∧ D.length = 6) ∧ freshK (.more [.bool (forB R D)]) (samL R D) ((samL R D).length / 2) 2 51 (decide (forB R D = false ∨ GL (pbB R D 3) 36 = [])) H n κ
  | _, _, _, _, _ => False
--@tbl SamePours = impl.SamePours
def sSamePours_F : List SV → Heap → Nat → Nat → K1 → Prop
  | [.arr R, .arr D], H, n, _, κ => (R.length = 24 ∧ D.length = 6) ∧ freshK (.more [.bool (forB R D)]) (samL R D) ((samL R D).length / 2) 2 51 (false) H n κ
  | _, _, _, _, _ => False
--@tbl sSamePours = spec.SamePours
end Go.Proofs.Ytdnechlmkbchaaa
