/- Walks: DealAlike, DealRuns. -/
import Derived.Test.YtnlbljikbonioaaG
set_option maxRecDepth 100000
set_option linter.unusedSimpArgs false
set_option linter.unusedVariables false
namespace Go.Proofs.Ytnlbljikbonioaa
open Go Go.RowKit
theorem le_sum2 {a : Int} : ∀ (l : List Int) (i j : Nat), Bd 0 a l → i < j → j < l.length → l.getD i 0 + l.getD j 0 ≤ l.sum
  | [], i, j, _, _, h => by simp at h
  | x :: r, 0, j + 1, hb, _, h => by
    have h1 := le_sum r j (fun y hy => hb y (by simp [hy])) (by simpa using h)
    simp only [List.getD_cons_zero, List.getD_cons_succ, List.sum_cons]
    omega
  | x :: r, i + 1, 0, hb, hij, _ => by omega
  | x :: r, 0, 0, hb, hij, _ => by omega
  | x :: r, i + 1, j + 1, hb, hij, h => by
    have h1 := le_sum2 r i j (fun y hy => hb y (by simp [hy])) (by omega) (by simpa using h)
    have h2 := hb x (by simp)
    simp only [List.getD_cons_succ, List.sum_cons]
    omega
theorem prF_le : ∀ (l : List Int), Bd 0 24 l → prF l ≤ l.sum * (l.sum - 1)
  | [], _ => by simp [prF]
  | x :: r, hb => by
    have h1 := prF_le r fun y hy => hb y (by simp [hy])
    have h2 := hb x (by simp)
    have h3 := (sum_bd r fun y hy => hb y (by simp [hy])).1
    simp only [prF, List.map_cons, List.sum_cons] at h1 ⊢
    have h4 : 0 ≤ x * r.sum := Int.mul_nonneg h2.1 (by omega)
    have e : (x + r.sum) * (x + r.sum - 1) = x * (x - 1) + r.sum * (r.sum - 1) + 2 * (x * r.sum) := by
      simp only [Int.mul_sub, Int.add_mul, Int.mul_add, Int.mul_one]
      rw [Int.mul_comm r.sum x]; omega
    omega
theorem prF_drop {c : List Int} (hc : c.length = 6) (h0 : c.getD 0 0 = 0) : prF (c.drop 1) = prF c := by
  obtain ⟨a, r, rfl⟩ : ∃ a r, c = a :: r := ⟨_, _, cons_of (by omega)⟩
  obtain rfl : a = 0 := by simpa using h0
  simp [prF]
theorem mul_bd {x y a b : Int} (hx : 0 ≤ x) (hxa : x ≤ a) (hy : 0 ≤ y) (hyb : y ≤ b) : 0 ≤ x * y ∧ x * y ≤ a * b := ⟨Int.mul_nonneg hx hy, Int.mul_le_mul hxa hyb hy (by omega)⟩
theorem fracF_pos {a b : Int} (ha : 0 ≤ a) (hb : 0 < b) : 0 ≤ (fracF a b).getD 0 0 ∧ (fracF a b).getD 0 0 ≤ a ∧ 0 < (fracF a b).getD 1 0 ∧ (fracF a b).getD 1 0 ≤ b := by
  have hg := gcd_posI (a := a) hb
  obtain ⟨x, rfl⟩ := Int.eq_ofNat_of_zero_le ha
  obtain ⟨y, rfl⟩ := Int.eq_ofNat_of_zero_le (Int.le_of_lt hb)
  have hy : 0 < y := by omega
  simp only [Int.toNat_natCast] at hg
  have e : fracF (x : Int) (y : Int) = [((x / Nat.gcd x y : Nat) : Int), ((y / Nat.gcd x y : Nat) : Int)] := by
    simp only [fracF, Int.toNat_natCast]; rfl
  rw [e]
  have h1 := Nat.div_le_self x (Nat.gcd x y)
  have h2 := Nat.div_le_self y (Nat.gcd x y)
  have h3 : 0 < y / Nat.gcd x y := Nat.div_pos (Nat.le_of_dvd hy (Nat.gcd_dvd_right x y)) hg
  simp only [List.getD_cons_zero, List.getD_cons_succ]
  refine ⟨Int.natCast_nonneg _, Int.ofNat_le.2 h1, Int.natCast_pos.2 h3, Int.ofNat_le.2 h2⟩

--@tbl DealAlike = impl.DealAlike
--@tbl sDealAlike = spec.DealAlike
def dealAlikeB (m c : List Int) (i j : Int) : Bool := isDealF m c && plF i && plF j && !decide (i = j) && !decide (m.getD i.toNat 0 = 0) && !decide (m.getD j.toNat 0 = 0)
def dealAlikeF (m c : List Int) (i j : Int) : List Int := if dealAlikeB m c i j = true then fracF (prF c) (c.sum * (c.sum - 1)) else [0, 0]
theorem alike_facts {m c : List Int} {i j : Int} (hm : m.length = 6) (hc : c.length = 6) (h : isDealF m c = true) (h1 : plF i = true) (h2 : plF j = true) (hij : ¬ i = j) (hi : ¬ m.getD i.toNat 0 = 0) (hj : ¬ m.getD j.toNat 0 = 0) :
    2 ≤ c.sum ∧ c.sum ≤ 24 ∧ 2 ≤ c.sum * (c.sum - 1) ∧ c.sum * (c.sum - 1) ≤ 552 ∧ 0 ≤ prF c ∧ prF c ≤ 3456 := by
  have b1 := pl_bd h1
  have b2 := pl_bd h2
  obtain ⟨f1, f2, f3, f4, f5, f6⟩ := deal_facts hm hc h
  have g1 := f2.getD (k := i.toNat) (by omega)
  have g2 := f2.getD (k := j.toNat) (by omega)
  have hs : 2 ≤ m.sum := by
    rcases Nat.lt_or_gt_of_ne (show i.toNat ≠ j.toNat by omega) with hl | hl
    · have := le_sum2 m i.toNat j.toNat f2 hl (by omega); omega
    · have := le_sum2 m j.toNat i.toNat f2 hl (by omega); omega
  have g3 := prF_bd f3
  rw [hc] at g3
  have g4 := mul_bd (x := c.sum - 2) (y := c.sum) (a := 22) (b := 24) (by omega) (by omega) (by omega) (by omega)
  have e : c.sum * (c.sum - 1) = (c.sum - 2) * c.sum + c.sum := by rw [Int.mul_sub, Int.sub_mul]; omega
  omega
theorem dealAlikeF_len (m c : List Int) (i k : Int) : (dealAlikeF m c i k).length = 2 := by
  unfold dealAlikeF
  split <;> rfl
def plusF (A B : List Int) : List Int := fracF (A.getD 0 0 * B.getD 1 0 + B.getD 0 0 * A.getD 1 0) (A.getD 1 0 * B.getD 1 0)
def smallF (A : List Int) : Prop := A.length = 2 ∧ 0 ≤ A.getD 0 0 ∧ A.getD 0 0 ≤ 1000000000 ∧ 0 < A.getD 1 0 ∧ A.getD 1 0 ≤ 1000000000
theorem plus_facts {A B : List Int} (hA : smallF A) (hB : smallF B) : In64 (A.getD 0 0 * B.getD 1 0) ∧ In64 (B.getD 0 0 * A.getD 1 0) ∧ In64 (A.getD 0 0 * B.getD 1 0 + B.getD 0 0 * A.getD 1 0) ∧ In64 (A.getD 1 0 * B.getD 1 0) ∧
    0 ≤ A.getD 0 0 * B.getD 1 0 + B.getD 0 0 * A.getD 1 0 ∧ 0 < A.getD 1 0 * B.getD 1 0 ∧ In64 (A.getD 0 0 * B.getD 1 0 + B.getD 0 0 * A.getD 1 0) ∧ In64 (A.getD 1 0 * B.getD 1 0) := by
  obtain ⟨_, a1, a2, a3, a4⟩ := hA
  obtain ⟨_, b1, b2, b3, b4⟩ := hB
  have m1 := mul_bd a1 a2 (Int.le_of_lt b3) b4
  have m2 := mul_bd b1 b2 (Int.le_of_lt a3) a4
  have m3 := mul_bd (Int.le_of_lt a3) a4 (Int.le_of_lt b3) b4
  have m4 := Int.mul_pos a3 b3
  unfold In64
  omega
theorem plusF_len (A B : List Int) : (plusF A B).length = 2 := rfl
--@tbl plus = impl.plus
--@tbl l7Plus = spec.l7Plus
def tubF (l : List Int) : Int := (l.map fun n => min n 1).sum
def besF (l : List Int) : Int := (l.map fun n => max (n - 1) 0).sum
theorem tub_facts : ∀ (l : List Int), Bd 0 4 l → tubF l + besF l = l.sum ∧ 0 ≤ tubF l ∧ tubF l ≤ l.length ∧ 0 ≤ besF l ∧ besF l ≤ 3 * tubF l
  | [], _ => by simp [tubF, besF]
  | x :: r, h => by
    have h1 := tub_facts r fun y hy => h y (by simp [hy])
    have h2 := h x (by simp)
    simp only [tubF, besF, List.map_cons, List.sum_cons, List.length_cons] at h1 ⊢
    omega
theorem tubF_take_succ (l : List Int) (k : Nat) (h : k < l.length) : tubF (l.take (k + 1)) = tubF (l.take k) + min (l.getD k 0) 1 := by
  unfold tubF
  rw [List.map_take, List.map_take, sum_take_succ _ k (by simpa using h)]
  simp [List.getD, List.getElem?_eq_getElem h]
theorem besF_take_succ (l : List Int) (k : Nat) (h : k < l.length) : besF (l.take (k + 1)) = besF (l.take k) + max (l.getD k 0 - 1) 0 := by
  unfold besF
  rw [List.map_take, List.map_take, sum_take_succ _ k (by simpa using h)]
  simp [List.getD, List.getElem?_eq_getElem h]
--@tbl DealRuns = impl.DealRuns
--@tbl sDealRuns = spec.DealRuns
def dealRunsF (m c : List Int) : List Int := if isDealF m c = true then if besF m = 0 then [tubF m, 1] else plusF [tubF m, 1] (fracF (besF m * (c.sum * (c.sum - 1) - prF c)) (c.sum * (c.sum - 1))) else [0, 0]
theorem dealRunsF_len (m c : List Int) : (dealRunsF m c).length = 2 := by
  unfold dealRunsF
  split
  · split <;> rfl
  · rfl
theorem runs_facts {m c : List Int} (hm : m.length = 6) (hc : c.length = 6) (h : isDealF m c = true) (hb : ¬ besF m = 0) :
    2 ≤ c.sum ∧ c.sum ≤ 24 ∧ 2 ≤ c.sum * (c.sum - 1) ∧ c.sum * (c.sum - 1) ≤ 552 ∧ 0 ≤ prF c ∧ prF c ≤ c.sum * (c.sum - 1) ∧ 0 ≤ besF m * (c.sum * (c.sum - 1) - prF c) ∧ besF m * (c.sum * (c.sum - 1) - prF c) ≤ 9936 ∧
      smallF [tubF m, 1] ∧ smallF (fracF (besF m * (c.sum * (c.sum - 1) - prF c)) (c.sum * (c.sum - 1))) := by
  obtain ⟨f1, f2, f3, f4, f5, f6⟩ := deal_facts hm hc h
  obtain ⟨t1, t2, t3, t4, t5⟩ := tub_facts m f2
  have g3 := prF_bd f3
  have g5 := prF_le c f3
  have g4 := mul_bd (x := c.sum - 2) (y := c.sum) (a := 22) (b := 24) (by omega) (by omega) (by omega) (by omega)
  have e : c.sum * (c.sum - 1) = (c.sum - 2) * c.sum + c.sum := by rw [Int.mul_sub, Int.sub_mul]; omega
  have g6 := mul_bd (x := besF m) (y := c.sum * (c.sum - 1) - prF c) (a := 18) (b := 552) (by omega) (by omega) (by omega) (by omega)
  have g7 := fracF_pos (a := besF m * (c.sum * (c.sum - 1) - prF c)) (b := c.sum * (c.sum - 1)) (by omega) (by omega)
  refine ⟨by omega, by omega, by omega, by omega, by omega, g5, by omega, by omega, ⟨rfl, ?_⟩, ⟨rfl, ?_⟩⟩
  · simp; omega
  · omega
end Go.Proofs.Ytnlbljikbonioaa
