/- Plain: lists of pairs of places, by a condition. -/
import Derived.Test.YtnlbljikbonioaaUse
set_option maxRecDepth 100000
set_option linter.unusedSimpArgs false
set_option linter.unusedVariables false
namespace Go.Proofs.Ytnlbljikbonioaa
open Go Go.RowKit
def prG (c : Nat → Nat → Bool) (k : Nat) : List Int := if c (k / 6) (k % 6) = true then [((k / 6 : Nat) : Int), ((k % 6 : Nat) : Int)] else []
def GL (c : Nat → Nat → Bool) (m : Nat) : List Int := (List.range m).flatMap (prG c)
theorem GL_zero (c : Nat → Nat → Bool) : GL c 0 = [] := rfl
theorem GL_succ (c : Nat → Nat → Bool) (m : Nat) : GL c (m + 1) = GL c m ++ prG c m := by simp [GL, List.range_succ]
theorem GL_at (c : Nat → Nat → Bool) (i j : Nat) (hj : j < 6) : GL c (i * 6 + j + 1) = GL c (i * 6 + j) ++ if c i j = true then [(i : Int), (j : Int)] else [] := by
  rw [GL_succ]
  have e1 : (i * 6 + j) / 6 = i := by omega
  have e2 : (i * 6 + j) % 6 = j := by omega
  simp only [prG, e1, e2]
theorem GL_mem {c : Nat → Nat → Bool} {m : Nat} (hm : m ≤ 36) : ∀ x ∈ GL c m, 0 ≤ x ∧ x ≤ 5 := by
  intro x hx
  unfold GL at hx
  obtain ⟨k, hk, hx⟩ := List.mem_flatMap.1 hx
  have := List.mem_range.1 hk
  unfold prG at hx
  split at hx
  · simp at hx; omega
  · simp at hx
theorem GL_even (c : Nat → Nat → Bool) : ∀ m, ∃ n, (GL c m).length = n * 2 ∧ n ≤ m
  | 0 => ⟨0, rfl, by omega⟩
  | m + 1 => by
    obtain ⟨n, h1, h2⟩ := GL_even c m
    rw [GL_succ, List.length_append, h1]
    unfold prG
    split
    · exact ⟨n + 1, by simp; omega, by omega⟩
    · exact ⟨n, by simp, by omega⟩
theorem GL_okP (c : Nat → Nat → Bool) (i : Nat) (junk : List Int) (h : i * 2 + 2 ≤ (GL c 36).length) : okP (List.take 2 (List.drop (i * 2) (GL c 36 ++ junk))) := by
  have hbd : Bd 0 5 (GL c 36) := GL_mem (by omega)
  rw [take2_drop _ _ (by rw [List.length_append]; omega), getD_app _ _ _ (by omega), getD_app _ _ _ (by omega)]
  exact ⟨rfl, hbd.getD (by omega), hbd.getD (by omega)⟩
theorem PL_GL (R : List Int) (m : Nat) : PL R m = GL (fun i j => canF R i j) m := rfl
/-- Pairs that are kept out of pairs by a condition: pairs by both. -/
theorem kept_GL (c d : Nat → Nat → Bool) (np : List Int → Bool) (h : ∀ i j, i < 6 → j < 6 → c i j = true → np [(i : Int), (j : Int)] = d i j) (hd : ∀ i j, i < 6 → j < 6 → d i j = true → c i j = true) :
    ∀ m, m ≤ 36 → ∃ n, (GL c m).length = n * 2 ∧ kept np (GL c m) n = GL d m
  | 0, _ => ⟨0, rfl, rfl⟩
  | m + 1, hm => by
    obtain ⟨n, h1, h2⟩ := kept_GL c d np h hd m (by omega)
    have a1 : m / 6 < 6 := by omega
    have a2 : m % 6 < 6 := by omega
    rw [GL_succ c, GL_succ d]
    unfold prG
    cases hc : c (m / 6) (m % 6) with
    | false =>
      have : d (m / 6) (m % 6) = false := by
        cases hdd : d (m / 6) (m % 6) with
        | false => rfl
        | true => rw [hd _ _ a1 a2 hdd] at hc; cases hc
      rw [this]
      exact ⟨n, by simpa using h1, by simpa using h2⟩
    | true =>
      refine ⟨n + 1, by simp [h1]; omega, ?_⟩
      have e0 : (((GL c m ++ [((m / 6 : Nat) : Int), ((m % 6 : Nat) : Int)]).drop (n * 2)).take 2) = [((m / 6 : Nat) : Int), ((m % 6 : Nat) : Int)] := by rw [List.drop_left' h1]; rfl
      simp only [if_true]
      rw [kept_succ, kept_app _ _ _ _ (by omega), h2, e0, h _ _ a1 a2 hc]
/-- A slice that grows: nothing yet, or block b. -/
def outVn (b i len cap : Nat) : SV := match i with
  | 0 => .nils
  | _ + 1 => .slice b 0 len cap
def outHn (b i : Nat) (L : List Int) (e : Nat) (base : Heap) : Heap := match i with
  | 0 => base
  | _ + 1 => (b, .ints L e) :: base
theorem outVn_zero (b len cap : Nat) : outVn b 0 len cap = .nils := rfl
theorem outVn_succ (b i len cap : Nat) : outVn b (i + 1) len cap = .slice b 0 len cap := rfl
theorem outHn_zero (b : Nat) (L : List Int) (e : Nat) (base : Heap) : outHn b 0 L e base = base := rfl
theorem outHn_succ (b i : Nat) (L : List Int) (e : Nat) (base : Heap) : outHn b (i + 1) L e base = (b, .ints L e) :: base := rfl
theorem hget_outHn (b n : Nat) (L : List Int) (e : Nat) (base : Heap) (k : Nat) : hget (outHn b n L e base) k = if k = b then (if n = 0 then hget base k else some (.ints L e)) else hget base k := by
  cases n with
  | zero => rw [outHn_zero]; simp
  | succ n => rw [outHn_succ, hget_cons]; simp
theorem known_outVn (b n l c : Nat) : (outVn b n l c).known = true := by cases n <;> rfl
theorem GL_pair (c : Nat → Nat → Bool) : ∀ m, m ≤ 36 → ∀ i, i * 2 + 2 ≤ (GL c m).length → ∃ a b : Nat, a < 6 ∧ b < 6 ∧ c a b = true ∧ ((GL c m).drop (i * 2)).take 2 = [(a : Int), (b : Int)]
  | 0, _, i, h => by simp [GL_zero] at h
  | m + 1, hm, i, h => by
    obtain ⟨n, hn, _⟩ := GL_even c m
    rw [GL_succ, List.length_append, hn] at h
    by_cases hi : i * 2 + 2 ≤ n * 2
    · obtain ⟨a, b, h1, h2, h3, h4⟩ := GL_pair c m (by omega) i (by omega)
      refine ⟨a, b, h1, h2, h3, ?_⟩
      rw [GL_succ, List.drop_append_of_le_length (by omega), List.take_append_of_le_length (by rw [List.length_drop]; omega)]
      exact h4
    · unfold prG at h
      split at h
      · rename_i hc
        simp at h
        have : i = n := by omega
        subst this
        refine ⟨m / 6, m % 6, by omega, by omega, hc, ?_⟩
        rw [GL_succ, List.drop_left' hn]
        unfold prG
        rw [if_pos hc]; rfl
      · simp at h; omega
end Go.Proofs.Ytnlbljikbonioaa
