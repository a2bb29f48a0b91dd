/- Walks: the deals' functions. -/
import Derived.Test.YtnlbljikbonioaaE
set_option maxRecDepth 100000
set_option linter.unusedSimpArgs false
set_option linter.unusedVariables false
namespace Go.Proofs.Ytnlbljikbonioaa
open Go Go.RowKit
theorem deal_facts {m c : List Int} (hm : m.length = 6) (hc : c.length = 6) (h : isDealF m c = true) : c.getD 0 0 = 0 ∧ Bd 0 4 m ∧ Bd 0 24 c ∧ m.sum = c.sum ∧ 0 ≤ m.sum ∧ m.sum ≤ 24 := by
  obtain ⟨h1, h2, h3, h4⟩ := isDealF_bd h
  have h5 := sum_bd _ h2
  rw [hm] at h5
  exact ⟨h1, h2, h3, h4, by omega, by omega⟩
theorem le_sum {a : Int} : ∀ (l : List Int) (k : Nat), Bd 0 a l → k < l.length → l.getD k 0 ≤ l.sum
  | [], k, _, h => by simp at h
  | x :: r, 0, hb, _ => by
    have := sum_bd r (a := 0) (b := a) fun y hy => hb y (by simp [hy])
    simp only [List.getD_cons_zero, List.sum_cons]
    omega
  | x :: r, k + 1, hb, h => by
    have h1 := le_sum r k (fun y hy => hb y (by simp [hy])) (by simpa using h)
    have h2 := hb x (by simp)
    simp only [List.getD_cons_succ, List.sum_cons]
    omega
theorem getD_drop1 (l : List Int) (k : Nat) : l.getD (k + 1) 0 = (l.drop 1).getD k 0 := by simp [List.getD, Nat.add_comm]

theorem fracF_len (a b : Int) : (fracF a b).length = 2 := rfl
theorem fracF_take (a b : Int) : (fracF a b).take 2 = fracF a b := rfl
theorem rep2_take : List.take 2 (List.replicate 2 (0 : Int)) = [0, 0] := rfl
theorem pl_bd {i : Int} (h : plF i = true) : 0 ≤ i ∧ i ≤ 5 := by simpa [plF] using h
theorem co_bd {i : Int} (h : coF i = true) : 1 ≤ i ∧ i ≤ 5 := by simpa [coF] using h
theorem in64_of {x a b : Int} (h : a ≤ x ∧ x ≤ b) (ha : -9223372036854775808 ≤ a) (hb : b ≤ 9223372036854775807) : In64 x := by unfold In64; omega
--@tbl DealTop = impl.DealTop
--@tbl sDealTop = spec.DealTop
def dealTopB (m c : List Int) (i k : Int) : Bool := isDealF m c && plF i && coF k
def dealTopF (m c : List Int) (i k : Int) : List Int := if dealTopB m c i k = true then if m.getD i.toNat 0 = 0 then [0, 1] else fracF (c.getD k.toNat 0) c.sum else [0, 0]
theorem dealTopF_len (m c : List Int) (i k : Int) : (dealTopF m c i k).length = 2 := by
  unfold dealTopF
  split
  · split <;> rfl
  · rfl
end Go.Proofs.Ytnlbljikbonioaa
