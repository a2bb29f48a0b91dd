/- Walks: slices.IndexFunc and slices.DeleteFunc over pairs. -/
import Derived.Test.YtfdpeenamkpcbaaO
import Derived.Test.YtfdpeenamkpcbaaUpd
set_option maxRecDepth 100000
set_option linter.unusedSimpArgs false
set_option linter.unusedVariables false
namespace Go.Proofs.Ytfdpeenamkpcbaa
open Go Go.RowKit
def chk (L : List Int) (off len : Nat) : List (List Int) := (List.range len).map fun i => (L.drop (off + i * 2)).take 2
theorem chk_len (L : List Int) (off len : Nat) : (chk L off len).length = len := by simp [chk]
theorem chk_getD (L : List Int) (off len k : Nat) (h : k < len) : (chk L off len).getD k [] = (L.drop (off + k * 2)).take 2 := by simp [chk, List.getD, h]
theorem chk_take (L : List Int) (off len k : Nat) (h : k ≤ len) : (chk L off len).take k = chk L off k := by
  unfold chk
  rw [← List.map_take, List.take_range, Nat.min_eq_left h]
theorem chk_succ (L : List Int) (off k : Nat) : chk L off (k + 1) = chk L off k ++ [(L.drop (off + k * 2)).take 2] := by
  unfold chk
  rw [List.range_succ, List.map_append]; rfl
theorem chk_mem {L : List Int} {off len : Nat} (h : off + len * 2 ≤ L.length) {x : List Int} (hx : x ∈ chk L off len) : x.length = 2 := by
  obtain ⟨i, hi, rfl⟩ := List.mem_map.1 hx
  have := List.mem_range.1 hi
  rw [List.length_take, List.length_drop]; omega
theorem chk_flat (L : List Int) : ∀ k, k * 2 ≤ L.length → (chk L 0 k).flatten = L.take (k * 2)
  | 0, _ => by simp [chk]
  | k + 1, h => by
    rw [chk_succ, List.flatten_append, chk_flat L k (by omega), Nat.zero_add, show (k + 1) * 2 = k * 2 + 2 by omega, List.take_add]
    simp
/-- What is kept. -/
def kept (np : List Int → Bool) (L : List Int) (k : Nat) : List Int := ((chk L 0 k).filter np).flatten
theorem kept_zero (np : List Int → Bool) (L : List Int) : kept np L 0 = [] := rfl
theorem kept_succ (np : List Int → Bool) (L : List Int) (k : Nat) : kept np L (k + 1) = kept np L k ++ if np ((L.drop (k * 2)).take 2) = true then (L.drop (k * 2)).take 2 else [] := by
  unfold kept
  rw [chk_succ, List.filter_append, List.flatten_append, Nat.zero_add]
  congr 1
  simp only [List.filter_cons, List.filter_nil]
  split <;> simp
theorem kept_even (np : List Int → Bool) (L : List Int) : ∀ k, k * 2 ≤ L.length → ∃ i, (kept np L k).length = i * 2 ∧ i ≤ k
  | 0, _ => ⟨0, rfl, by omega⟩
  | k + 1, h => by
    obtain ⟨i, h1, h2⟩ := kept_even np L k (by omega)
    rw [kept_succ, List.length_append, h1]
    split
    · exact ⟨i + 1, by rw [List.length_take, List.length_drop]; omega, by omega⟩
    · exact ⟨i, by simp, by omega⟩
theorem kept_all {np : List Int → Bool} {L : List Int} : ∀ k, k * 2 ≤ L.length → (∀ i, i < k → np ((L.drop (i * 2)).take 2) = true) → kept np L k = L.take (k * 2)
  | 0, _, _ => by simp [kept_zero]
  | k + 1, h, hn => by
    rw [kept_succ, if_pos (hn k (by omega)), kept_all k (by omega) fun i hi => hn i (by omega), show (k + 1) * 2 = k * 2 + 2 by omega, List.take_add]
theorem kept_app (np : List Int → Bool) (L M : List Int) : ∀ k, k * 2 ≤ L.length → kept np (L ++ M) k = kept np L k
  | 0, _ => rfl
  | k + 1, h => by
    have e : ((L ++ M).drop (k * 2)).take 2 = (L.drop (k * 2)).take 2 := by
      rw [List.drop_append_of_le_length (by omega), List.take_append_of_le_length (by rw [List.length_drop]; omega)]
    rw [kept_succ, kept_succ, kept_app np L M k (by omega), e]

theorem idxG_none' {α : Type} {pr : α → Bool} {l : List α} (d : α) (h : idxG pr l < 0) : idxG pr l = -1 ∧ ∀ k, k < l.length → pr (l.getD k d) = false := by
  unfold idxG at h ⊢
  cases hf : l.findIdx? pr with
  | none =>
    refine ⟨rfl, fun k hk => ?_⟩
    have := (List.findIdx?_eq_none_iff).1 hf l[k] (List.getElem_mem hk)
    simpa [List.getD, List.getElem?_eq_getElem hk] using this
  | some k => rw [hf] at h; simp at h; omega
theorem idxG_some' {α : Type} {pr : α → Bool} {l : List α} (d : α) (h : ¬ idxG pr l < 0) : ∃ i : Nat, idxG pr l = (i : Int) ∧ i < l.length ∧ pr (l.getD i d) = true ∧ ∀ k : Nat, k < i → pr (l.getD k d) = false := by
  unfold idxG at h ⊢
  cases hf : l.findIdx? pr with
  | none => rw [hf] at h; simp at h
  | some k =>
    obtain ⟨hk, hp, hn⟩ := List.findIdx?_eq_some_iff_getElem.1 hf
    refine ⟨k, rfl, hk, by simpa [List.getD, List.getElem?_eq_getElem hk] using hp, fun j hj => ?_⟩
    have := hn j hj
    simpa [List.getD, List.getElem?_eq_getElem (show j < l.length by omega)] using this
end Go.Proofs.Ytfdpeenamkpcbaa
