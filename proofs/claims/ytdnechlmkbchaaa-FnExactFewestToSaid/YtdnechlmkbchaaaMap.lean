/- Lists of racks; maps that know racks. -/
import Derived.Test.YtdnechlmkbchaaaEqR
import Derived.Test.YtdnechlmkbchaaaGL
set_option maxRecDepth 100000
set_option linter.unusedSimpArgs false
set_option linter.unusedVariables false
namespace Go.Proofs.Ytdnechlmkbchaaa
open Go Go.RowKit
/-! Lists of racks. -/
def all24 (Q : List (List Int)) : Prop := ∀ x ∈ Q, x.length = 24
theorem flat_len : ∀ {Q : List (List Int)}, all24 Q → Q.flatten.length = Q.length * 24
  | [], _ => rfl
  | x :: Q, h => by
    rw [List.flatten_cons, List.length_append, flat_len fun y hy => h y (List.mem_cons_of_mem _ hy), h x (List.mem_cons_self ..), List.length_cons]; omega
theorem flat_get : ∀ {Q : List (List Int)}, all24 Q → ∀ {i : Nat}, i < Q.length → ∀ J, ((Q.flatten ++ J).drop (i * 24)).take 24 = Q.getD i []
  | [], _, i, hi, _ => by simp at hi
  | x :: Q, h, i, hi, J => by
    have hx := h x (List.mem_cons_self ..)
    rw [List.flatten_cons, List.append_assoc]
    cases i with
    | zero => rw [Nat.zero_mul, List.drop_zero, List.take_left' hx]; rfl
    | succ i =>
      rw [show (i + 1) * 24 = 24 + i * 24 by omega, ← List.drop_drop, List.drop_left' hx, flat_get (fun y hy => h y (List.mem_cons_of_mem _ hy)) (by simpa using hi) J]
      rfl
theorem getD_mem {Q : List (List Int)} {i : Nat} (hi : i < Q.length) : Q.getD i [] ∈ Q := by
  rw [List.getD_eq_getElem?_getD, List.getElem?_eq_getElem hi]; exact List.getElem_mem hi
theorem take_succ_getD {α : Type} (Q : List (List α)) (i : Nat) (hi : i < Q.length) : Q.take (i + 1) = Q.take i ++ [Q.getD i []] := by
  rw [List.take_succ_eq_append_getElem hi, List.getD_eq_getElem?_getD, List.getElem?_eq_getElem hi]; rfl
/-! Maps that know racks. -/
def mk1 (K : List (List Int)) : List (List Int × Int) := K.map fun k => (k, 1)
theorem mk1_len (K : List (List Int)) : (mk1 K).length = K.length := by simp [mk1]
theorem mk1_nil : mk1 [] = [] := rfl
theorem mk1_keys {K : List (List Int)} (h : all24 K) : keysOK (mk1 K) 24 := fun q hq => by
  obtain ⟨k, hk, rfl⟩ := List.mem_map.1 hq
  exact h k hk
theorem mget_mk1 (x : List Int) : ∀ K : List (List Int), mget (mk1 K) x = if x ∈ K then 1 else 0
  | [] => rfl
  | k :: K => by
    show (if x = k then 1 else mget (mk1 K) x) = _
    rw [mget_mk1 x K]
    by_cases h : x = k
    · simp [h]
    · simp [h]
theorem mset_mk1 {x : List Int} : ∀ {K : List (List Int)}, x ∉ K → mset (mk1 K) x 1 = mk1 (K ++ [x])
  | [], _ => rfl
  | k :: K, h => by
    have h1 : ¬ x = k := fun e => h (e ▸ List.mem_cons_self ..)
    have ih := mset_mk1 (K := K) fun hx => h (List.mem_cons_of_mem _ hx)
    show (if x = k then (k, 1) :: mk1 K else (k, 1) :: mset (mk1 K) x 1) = _
    rw [if_neg h1, ih]; rfl
/-! What is new. -/
def nwS (K O : List (List Int)) (x : List Int) : List (List Int) := if x ∈ K ++ O then O else O ++ [x]
def nwF (K xs : List (List Int)) : List (List Int) := xs.foldl (nwS K) []
theorem nwF_nil (K : List (List Int)) : nwF K [] = [] := rfl
theorem nwF_snoc (K xs : List (List Int)) (x : List Int) : nwF K (xs ++ [x]) = nwS K (nwF K xs) x := by simp [nwF, List.foldl_append]
theorem nwF_old {K xs : List (List Int)} {x : List Int} (h : x ∈ K ++ nwF K xs) : nwF K (xs ++ [x]) = nwF K xs := by rw [nwF_snoc, nwS, if_pos h]
theorem nwF_new {K xs : List (List Int)} {x : List Int} (h : x ∉ K ++ nwF K xs) : nwF K (xs ++ [x]) = nwF K xs ++ [x] := by rw [nwF_snoc, nwS, if_neg h]
theorem snoc_ind {α : Type} {P : List α → Prop} (h0 : P []) (h1 : ∀ l x, P l → P (l ++ [x])) (l : List α) : P l := by
  have : P l.reverse.reverse := by
    generalize l.reverse = r
    induction r with
    | nil => exact h0
    | cons x r ih => rw [List.reverse_cons]; exact h1 _ _ ih
  rwa [List.reverse_reverse] at this
theorem nwF_sub (K xs : List (List Int)) : ∀ y ∈ nwF K xs, y ∈ xs ∧ y ∉ K := by
  refine snoc_ind (P := fun xs => ∀ y ∈ nwF K xs, y ∈ xs ∧ y ∉ K) (by simp [nwF]) (fun l x ih y hy => ?_) xs
  by_cases h : x ∈ K ++ nwF K l
  · rw [nwF_old h] at hy
    exact ⟨List.mem_append_left _ (ih y hy).1, (ih y hy).2⟩
  · rw [nwF_new h] at hy
    rcases List.mem_append.1 hy with hy | hy
    · exact ⟨List.mem_append_left _ (ih y hy).1, (ih y hy).2⟩
    · simp at hy; subst hy
      exact ⟨by simp, fun hK => h (List.mem_append_left _ hK)⟩
theorem nwF_all (K xs : List (List Int)) : ∀ y ∈ xs, y ∈ K ++ nwF K xs := by
  refine snoc_ind (P := fun xs => ∀ y ∈ xs, y ∈ K ++ nwF K xs) (by simp) (fun l x ih y hy => ?_) xs
  by_cases h : x ∈ K ++ nwF K l
  · rw [nwF_old h]
    rcases List.mem_append.1 hy with hy | hy
    · exact ih y hy
    · simp at hy; subst hy; exact h
  · rw [nwF_new h, ← List.append_assoc]
    rcases List.mem_append.1 hy with hy | hy
    · exact List.mem_append_left _ (ih y hy)
    · exact List.mem_append_right _ hy
theorem nwF_len (K xs : List (List Int)) : (nwF K xs).length ≤ xs.length := by
  refine snoc_ind (P := fun xs => (nwF K xs).length ≤ xs.length) (by simp [nwF]) (fun l x ih => ?_) xs
  rw [nwF_snoc, nwS]
  split <;> simp <;> omega
/-- What is known already changes nothing. -/
theorem nwF_skip (K ys xs : List (List Int)) (h : ∀ y ∈ ys, y ∈ K) : nwF K (ys ++ xs) = nwF K xs := by
  have h0 : nwF K ys = [] := by
    have := nwF_sub K ys
    rcases List.eq_nil_or_concat (nwF K ys) with h1 | ⟨l, x, h1⟩
    · exact h1
    · have h2 := this x (by rw [h1]; simp)
      exact absurd (h x h2.1) h2.2
  show (ys ++ xs).foldl (nwS K) [] = _
  rw [List.foldl_append]
  show xs.foldl (nwS K) (nwF K ys) = _
  rw [h0]; rfl
theorem mset_mk1_in {x : List Int} : ∀ {K : List (List Int)}, x ∈ K → mset (mk1 K) x 1 = mk1 K
  | [], h => by simp at h
  | k :: K, h => by
    show (if x = k then (k, 1) :: mk1 K else (k, 1) :: mset (mk1 K) x 1) = _
    by_cases h1 : x = k
    · rw [if_pos h1]; rfl
    · rw [if_neg h1, mset_mk1_in ((List.mem_cons.1 h).resolve_left h1)]; rfl
theorem memT (G : List (List Int)) (x : List Int) (m : Nat) (hm : m < G.length) : decide (x ∈ G.take (m + 1)) = (decide (x ∈ G.take m) || decide (G.getD m [] = x)) := by
  rw [take_succ_getD G m hm]
  by_cases h : x ∈ G.take m
  · simp only [List.mem_append, h, true_or, decide_true, Bool.true_or]
  · by_cases h2 : G.getD m [] = x
    · rw [h2]; simp
    · have h3 : ¬ x = G.getD m [] := fun e => h2 e.symm
      simp only [List.mem_append, h, List.mem_singleton, h3, h2, or_self, decide_false, Bool.or_self]
end Go.Proofs.Ytdnechlmkbchaaa
