/- Walks: GoodPath. -/
import Derived.Test.YtfdpeenamkpcbaaGood
set_option maxRecDepth 100000
set_option linter.unusedSimpArgs false
set_option linter.unusedVariables false
namespace Go.Proofs.Ytfdpeenamkpcbaa
open Go Go.RowKit
/-- Two blocks under other names. -/
theorem Sub.mk_to2 (b b' c c' : Nat) {p m : Nat} {S S' : Env} {H H' : Heap} {n' : Nat} (h1 : subS (fun k => if k = b then b' else if k = c then c' else k) S S') (h2 : subH (fun k => if k = b then b' else if k = c then c' else k) m H H') (h3 : wfS n' S') (h4 : wfH n' H') (h5 : p ≤ n') (h6 : p ≤ b) (h8 : p ≤ c)
    (h7 : ∀ x ∈ H'.map (·.1), ∀ y ∈ H'.map (·.1), (if x = b then b' else if x = c then c' else x) = (if y = b then b' else if y = c then c' else y) → x = y) : Sub p m S H S' H' n' :=
  ⟨fun k => if k = b then b' else if k = c then c' else k, h1, subH_spec h2, h3, wfH_spec h4, fun x hx y hy he => h7 x hx y hy he, fun k hk => by show (if k = b then b' else if k = c then c' else k) = k; rw [if_neg (by omega), if_neg (by omega)], h5⟩
def gdC (R : List Int) (i j : Nat) : Bool := canF R i j && goodF R [(i : Int), (j : Int)]
theorem gdL_GL (R : List Int) : gdL R = GL (gdC R) 36 := by
  obtain ⟨n, h1, h2⟩ := kept_GL (fun i j => canF R i j) (gdC R) (fun p => goodF R p) (fun i j _ _ hc => by simp [gdC, hc]) (fun i j _ _ hc => by
    simp only [gdC, Bool.and_eq_true] at hc; exact hc.1) 36 (by omega)
  unfold gdL
  rw [PL_GL, show (GL (fun i j => canF R i j) 36).length / 2 = n by omega]
  exact h2
/-- The first good pour. -/
theorem gd_first {R : List Int} (h : gdL R ≠ []) : (0 ≤ (gdL R).getD 0 0 ∧ (gdL R).getD 0 0 ≤ 5) ∧ (0 ≤ (gdL R).getD 1 0 ∧ (gdL R).getD 1 0 ≤ 5) ∧ canF R ((gdL R).getD 0 0) ((gdL R).getD 1 0) = true ∧ goodF R [(gdL R).getD 0 0, (gdL R).getD 1 0] = true ∧ 2 ≤ (gdL R).length ∧ (gdL R).take 2 = [(gdL R).getD 0 0, (gdL R).getD 1 0] := by
  obtain ⟨k, hk, _⟩ := gdL_even R
  have hl : 2 ≤ (gdL R).length := by
    have : (gdL R).length ≠ 0 := fun h0 => h (List.length_eq_zero_iff.1 h0)
    omega
  have tk := take2_drop (gdL R) 0 (by omega)
  simp only [List.drop_zero, Nat.zero_add] at tk
  rw [gdL_GL] at hl
  obtain ⟨a, b, h1, h2, h3, h4⟩ := GL_pair (gdC R) 36 (by omega) 0 (by omega)
  rw [← gdL_GL] at hl h4
  simp only [Nat.zero_mul, List.drop_zero] at h4
  rw [tk] at h4
  injection h4 with e1 h4
  injection h4 with e2 _
  simp only [gdC, Bool.and_eq_true] at h3
  rw [e1, e2]
  exact ⟨by omega, by omega, h3.1, h3.2, hl, by rw [tk, e1, e2]⟩
def stR (R : List Int) : List Int := if gdL R = [] then R else pourF R ((gdL R).getD 0 0).toNat ((gdL R).getD 1 0).toNat
def gpR (R : List Int) : Nat → List Int
  | 0 => R
  | n + 1 => stR (gpR R n)
def gpL (R : List Int) : Nat → List Int
  | 0 => []
  | n + 1 => gpL R n ++ (gdL (gpR R n)).take 2
theorem stR_facts {R : List Int} (hR : R.length = 24) (hr : rackB R = true) : (stR R).length = 24 ∧ rackB (stR R) = true ∧ (gdL R ≠ [] → bndF (stR R) < bndF R) := by
  unfold stR
  split
  · rename_i h; exact ⟨hR, hr, fun h' => absurd h h'⟩
  · rename_i h
    obtain ⟨h1, h2, h3, h4, h5, h6⟩ := gd_first h
    exact ⟨pourF_len hR _ _, pour_rack hR hr h1 h2 h3, fun _ => by simpa [goodF] using h4⟩
theorem gpR_facts {R : List Int} (hR : R.length = 24) (hr : rackB R = true) : ∀ n, (gpR R n).length = 24 ∧ rackB (gpR R n) = true
  | 0 => ⟨hR, hr⟩
  | n + 1 => by
    have := gpR_facts hR hr n
    have h2 := stR_facts this.1 this.2
    exact ⟨h2.1, h2.2.1⟩
theorem gp_stop {R : List Int} {n : Nat} (h : gdL (gpR R n) = []) : ∀ k, gpR R (n + k) = gpR R n ∧ gpL R (n + k) = gpL R n
  | 0 => ⟨rfl, rfl⟩
  | k + 1 => by
    have ih := gp_stop h k
    refine ⟨?_, ?_⟩
    · show stR (gpR R (n + k)) = _
      rw [ih.1]; unfold stR; rw [if_pos h]
    · show gpL R (n + k) ++ (gdL (gpR R (n + k))).take 2 = _
      rw [ih.1, h, ih.2]; simp
theorem gp_end {R : List Int} {n : Nat} (h : gdL (gpR R n) = []) (hn : n ≤ 100) : gpR R 100 = gpR R n ∧ gpL R 100 = gpL R n := by
  have := gp_stop h (100 - n)
  rwa [show n + (100 - n) = 100 by omega] at this
def gpaL (R : List Int) : List Int := if rackB R = true then gpL R 100 else []
def gpaR (R : List Int) : List Int := if rackB R = true then gpR R 100 else List.replicate 24 0
theorem gpR_zero (R : List Int) : gpR R 0 = R := rfl
theorem gpL_zero (R : List Int) : gpL R 0 = [] := rfl
theorem gpR_next {R : List Int} {n : Nat} (hg : gdL (gpR R n) ≠ []) : gpR R (n + 1) = pourF (gpR R n) ((gdL (gpR R n)).getD 0 0).toNat ((gdL (gpR R n)).getD 1 0).toNat := by show stR _ = _; unfold stR; rw [if_neg hg]
theorem gpL_next {R : List Int} {n : Nat} (hg : gdL (gpR R n) ≠ []) : gpL R (n + 1) = gpL R n ++ [(gdL (gpR R n)).getD 0 0, (gdL (gpR R n)).getD 1 0] := by show gpL R n ++ List.take 2 _ = _; rw [(gd_first hg).2.2.2.2.2]
theorem gp_dec {R : List Int} (hR : R.length = 24) (hr : rackB R = true) {n : Nat} (hg : gdL (gpR R n) ≠ []) : bndF (gpR R (n + 1)) < bndF (gpR R n) := (stR_facts (gpR_facts hR hr n).1 (gpR_facts hR hr n).2).2.2 hg
attribute [local irreducible] gpR gpL gdL pourF bndF canF goodF
/-- A list of good pours as it stands: nil or a block. -/
def gnV (nl : Bool) (b len cap : Nat) : SV := match nl with
  | true => .nils
  | false => .slice b 0 len cap
def gnH (nl : Bool) (b : Nat) (L : List Int) (e : Nat) (base : Heap) : Heap := match nl with
  | true => base
  | false => (b, .ints L e) :: base
theorem gnV_t (b len cap : Nat) : gnV true b len cap = .nils := rfl
theorem gnV_f (b len cap : Nat) : gnV false b len cap = .slice b 0 len cap := rfl
theorem gnH_t (b : Nat) (L : List Int) (e : Nat) (base : Heap) : gnH true b L e base = base := rfl
theorem gnH_f (b : Nat) (L : List Int) (e : Nat) (base : Heap) : gnH false b L e base = (b, .ints L e) :: base := rfl
def GoodPath_F : List SV → Heap → Nat → Nat → K1 → Prop
  | [.arr R], H, n, _, κ => (R.length = 24) ∧ freshK (.more [.arr (gpaR R), .bool (rackB R)]) (gpaL R) ((gpaL R).length / 2) 2 50 (true) H n κ
  | _, _, _, _, _ => False
--@tbl GoodPath = impl.GoodPath
def sGoodPath_F : List SV → Heap → Nat → Nat → K1 → Prop
  | [.arr R], H, n, _, κ => (R.length = 24) ∧ freshK (.more [.arr (gpaR R), .bool (rackB R)]) (gpaL R) ((gpaL R).length / 2) 2 50 (false) H n κ
  | _, _, _, _, _ => False
--@tbl sGoodPath = spec.GoodPath
theorem gpaL_even (R : List Int) (hR : R.length = 24) : ∃ k, (gpaL R).length = k * 2 ∧ k ≤ 100 := by
  have : ∀ n, ∃ k, (gpL R n).length = k * 2 ∧ k ≤ n := fun n => by
    induction n with
    | zero => exact ⟨0, by rw [gpL_zero]; rfl, by omega⟩
    | succ n ih =>
      obtain ⟨k, h1, h2⟩ := ih
      by_cases hg : gdL (gpR R n) = []
      · exact ⟨k, by rw [(gp_stop hg 1).2]; exact h1, by omega⟩
      · exact ⟨k + 1, by rw [gpL_next hg, List.length_append, h1]; simp; omega, by omega⟩
  unfold gpaL
  split
  · exact this 100
  · exact ⟨0, rfl, by omega⟩
theorem gpaR_len (R : List Int) (hR : R.length = 24) : (gpaR R).length = 24 := by
  unfold gpaR
  split
  · rename_i hr; exact (gpR_facts hR hr 100).1
  · simp
end Go.Proofs.Ytfdpeenamkpcbaa
