/- Walks: PourBacks. -/
import Derived.Test.YtfdpeenamkpcbaaPath
set_option maxRecDepth 100000
set_option linter.unusedSimpArgs false
set_option linter.unusedVariables false
namespace Go.Proofs.Ytfdpeenamkpcbaa
open Go Go.RowKit
/-- The first number from i on, below i + f, at which p fails; else i + f. -/
def firstN (p : Nat → Bool) : Nat → Nat → Nat
  | 0, i => i
  | f + 1, i => if p i = true then firstN p f (i + 1) else i
theorem firstN_skip (p : Nat → Bool) (f : Nat) : ∀ d i, (∀ q, i ≤ q → q < i + d → p q = true) → firstN p (d + f) i = firstN p f (i + d)
  | 0, i, _ => by rw [Nat.zero_add, Nat.add_zero]
  | d + 1, i, h => by
    rw [show d + 1 + f = (d + f) + 1 by omega]
    show (if p i = true then firstN p (d + f) (i + 1) else i) = _
    rw [if_pos (h i (by omega) (by omega)), firstN_skip p f d (i + 1) fun q h1 h2 => h q (by omega) (by omega), show i + 1 + d = i + (d + 1) by omega]
theorem firstN_at {p : Nat → Bool} {len i : Nat} (hi : i < len) (h : ∀ q, q < i → p q = true) (hn : p i = false) : firstN p len 0 = i := by
  have := firstN_skip p (len - i) i 0 fun q _ h2 => h q (by omega)
  rw [show i + (len - i) = len by omega, Nat.zero_add] at this
  rw [this, show len - i = (len - i - 1) + 1 by omega]
  show (if p i = true then firstN p (len - i - 1) (i + 1) else i) = _
  rw [hn]; rfl
theorem firstN_end {p : Nat → Bool} {len : Nat} (h : ∀ q, q < len → p q = true) : firstN p len 0 = len := by
  have := firstN_skip p 0 len 0 fun q _ h2 => h q (by omega)
  rw [Nat.add_zero, Nat.zero_add] at this
  exact this
theorem firstN_le (p : Nat → Bool) : ∀ f i, firstN p f i ≤ i + f
  | 0, i => by simp [firstN]
  | f + 1, i => by
    unfold firstN
    split
    · have := firstN_le p f (i + 1); omega
    · omega
theorem firstN_congr {p q : Nat → Bool} : ∀ f i, (∀ k, i ≤ k → k < i + f → p k = q k) → firstN p f i = firstN q f i
  | 0, i, _ => rfl
  | f + 1, i, h => by
    show (if p i = true then firstN p f (i + 1) else i) = if q i = true then firstN q f (i + 1) else i
    rw [h i (by omega) (by omega), firstN_congr f (i + 1) fun k h1 h2 => h k (by omega) (by omega)]
def pbS (R L : List Int) : Nat → List Int
  | 0 => R
  | k + 1 => bkR (pbS R L k) (L.getD (k * 3) 0) (L.getD (k * 3 + 1) 0) (L.getD (k * 3 + 2) 0)
theorem pbS_zero (R L : List Int) : pbS R L 0 = R := rfl
theorem pbS_succ (R L : List Int) (k : Nat) : pbS R L (k + 1) = bkR (pbS R L k) (L.getD (k * 3) 0) (L.getD (k * 3 + 1) 0) (L.getD (k * 3 + 2) 0) := rfl
def pbO (R L : List Int) (k : Nat) : Bool := bkB (pbS R L k) (L.getD (k * 3) 0) (L.getD (k * 3 + 1) 0) (L.getD (k * 3 + 2) 0)
theorem bkB_rack {R : List Int} {i j m : Int} (hR : R.length = 24) (hr : rackB R = true) (h : bkB R i j m = true) : rackB (bkR R i j m) = true := by
  have h2 := bk_21 h
  simp only [bk2, Bool.and_eq_true] at h2
  exact bk_rack hR hr h2.1
theorem pbS_facts {R L : List Int} (hR : R.length = 24) (hr : rackB R = true) : ∀ k, (∀ i, i < k → pbO R L i = true) → (pbS R L k).length = 24 ∧ rackB (pbS R L k) = true
  | 0, _ => ⟨hR, hr⟩
  | k + 1, h => by
    have ih := pbS_facts hR hr k fun i hi => h i (by omega)
    exact ⟨bkR_len ih.1 _ _ _, bkB_rack ih.1 ih.2 (h k (by omega))⟩
def pbsN (R L : List Int) (len : Nat) : Nat := firstN (pbO R L) len 0
def pbsT (R L : List Int) (len : Nat) : List SV := if rackB R = true then [.arr (pbS R L (pbsN R L len)), .int (pbsN R L len), .bool true] else [.arr (List.replicate 24 0), .int 0, .bool false]
theorem bkT_pos {R : List Int} {i j m : Int} (h : bkB R i j m = true) : bkT R i j m = bkR R i j m := by unfold bkT; rw [if_pos h]
theorem take3_drop (L : List Int) (a : Nat) (h : a + 3 ≤ L.length) : List.take 3 (List.drop a L) = [L.getD a 0, L.getD (a + 1) 0, L.getD (a + 2) 0] := by
  apply List.ext_getElem
  · simp; omega
  · intro i h1 h2
    simp at h2
    rcases (show i = 0 ∨ i = 1 ∨ i = 2 by omega) with rfl | rfl | rfl <;> simp [List.getD, List.getElem?_eq_getElem (show a < L.length by omega), List.getElem?_eq_getElem (show a + 1 < L.length by omega), List.getElem?_eq_getElem (show a + 2 < L.length by omega)]
attribute [local irreducible] bkR bkB bk2 bkT
--@tbl PourBacks = impl.PourBacks
--@tbl sPourBacks = spec.PourBacks
theorem pbS_app (R L J : List Int) : ∀ k, k * 3 ≤ L.length → pbS R (L ++ J) k = pbS R L k
  | 0, _ => rfl
  | k + 1, h => by rw [pbS_succ, pbS_succ, pbS_app R L J k (by omega), getD_app _ _ _ (by omega), getD_app _ _ _ (by omega), getD_app _ _ _ (by omega)]
theorem pbsT_app (R L J : List Int) (len : Nat) (h : len * 3 ≤ L.length) : pbsT R (L ++ J) len = pbsT R L len := by
  have hn : pbsN R (L ++ J) len = pbsN R L len := firstN_congr len 0 fun k _ hk => by
    unfold pbO
    rw [pbS_app R L J k (by omega), getD_app _ _ _ (by omega), getD_app _ _ _ (by omega), getD_app _ _ _ (by omega)]
  have hle : pbsN R L len ≤ 0 + len := firstN_le _ _ _
  unfold pbsT
  rw [hn, pbS_app R L J _ (by omega)]
def PourBacks_F : List SV → Heap → Option (Prop × SV)
  | [.arr R, .slice b 0 len _], H => match hget H b with
    | some (.ints L _) => some (R.length = 24 ∧ len * 3 ≤ L.length ∧ len ≤ 1048576, .tup (pbsT R (L.take (len * 3)) len))
    | _ => none
  | _, _ => none
def sPourBacks_F : List SV → Heap → Option (Prop × SV)
  | [.arr R, .slice b 0 len _], H => match hget H b with
    | some (.ints L _) => some (R.length = 24 ∧ len * 3 ≤ L.length ∧ len ≤ 1048576, .tup (pbsT R (L.take (len * 3)) len))
    | _ => none
  | _, _ => none
theorem pbsT_three (R L : List Int) (len : Nat) (hR : R.length = 24) : ∃ T n b, pbsT R L len = [.arr T, .int n, .bool b] ∧ T.length = 24 := by
  unfold pbsT
  split
  · rename_i hr
    refine ⟨_, _, _, rfl, ?_⟩
    have : ∀ k, (pbS R L k).length = 24 := fun k => by
      induction k with
      | zero => exact hR
      | succ k ih => exact bkR_len ih _ _ _
    exact this _
  · exact ⟨_, _, _, rfl, by simp⟩
end Go.Proofs.Ytfdpeenamkpcbaa
