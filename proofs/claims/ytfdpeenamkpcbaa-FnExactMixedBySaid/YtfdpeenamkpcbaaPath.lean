/- Walks: IsGoodPath. -/
import Derived.Test.YtfdpeenamkpcbaaArg
import Derived.Test.YtfdpeenamkpcbaaGPath
set_option maxRecDepth 100000
set_option linter.unusedSimpArgs false
set_option linter.unusedVariables false
namespace Go.Proofs.Ytfdpeenamkpcbaa
open Go Go.RowKit
def cppB (R : List Int) (i j : Int) : Bool := plF i && plF j && canF R i j
theorem cppB_facts {R : List Int} {i j : Int} (h : cppB R i j = true) : (0 ≤ i ∧ i ≤ 5) ∧ (0 ≤ j ∧ j ≤ 5) ∧ canF R i j = true := by
  simp only [cppB, plF, Bool.and_eq_true, decide_eq_true_eq] at h
  exact ⟨h.1.1, h.1.2, h.2⟩
--@tbl canPourPath = impl.canPourPath
--@tbl l6Can = spec.l6Can
/-- A rack behind the first k pours of a list. -/
def paR (R L : List Int) : Nat → List Int
  | 0 => R
  | k + 1 => pourF (paR R L k) (L.getD (k * 2) 0).toNat (L.getD (k * 2 + 1) 0).toNat
theorem paR_zero (R L : List Int) : paR R L 0 = R := rfl
theorem paR_succ (R L : List Int) (k : Nat) : paR R L (k + 1) = pourF (paR R L k) (L.getD (k * 2) 0).toNat (L.getD (k * 2 + 1) 0).toNat := rfl
def paC (R L : List Int) (k : Nat) : Bool := cppB (paR R L k) (L.getD (k * 2) 0) (L.getD (k * 2 + 1) 0)
theorem paR_facts {R L : List Int} (hR : R.length = 24) (hr : rackB R = true) : ∀ k, (∀ i, i < k → paC R L i = true) → (paR R L k).length = 24 ∧ rackB (paR R L k) = true
  | 0, _ => ⟨hR, hr⟩
  | k + 1, h => by
    have ih := paR_facts hR hr k fun i hi => h i (by omega)
    have c := cppB_facts (h k (by omega))
    exact ⟨pourF_len ih.1 _ _, pour_rack ih.1 ih.2 c.1 c.2.1 c.2.2⟩
def paG (R L : List Int) (k : Nat) : Bool := paC R L k && goodF (paR R L k) [L.getD (k * 2) 0, L.getD (k * 2 + 1) 0]
def igB (R L : List Int) (len : Nat) : Bool := (List.range len).all (paG R L)
theorem igB_true {R L : List Int} {len : Nat} (h : ∀ i, i < len → paG R L i = true) : igB R L len = true := by
  unfold igB; rw [List.all_eq_true]; intro i hi; exact h i (List.mem_range.1 hi)
theorem igB_false {R L : List Int} {len i : Nat} (hi : i < len) (h : paG R L i = false) : igB R L len = false := by
  unfold igB; rw [List.all_eq_false]; exact ⟨i, List.mem_range.2 hi, by simp [h]⟩
theorem paG_C {R L : List Int} {i : Nat} (h : paG R L i = true) : paC R L i = true := by
  simp only [paG, Bool.and_eq_true] at h; exact h.1
theorem goodF_lt {R : List Int} {a b : Int} (h : goodF R [a, b] = true) : ¬ bndF R ≤ bndF (pourF R a.toNat b.toNat) := by
  have : bndF (pourF R a.toNat b.toNat) < bndF R := of_decide_eq_true h
  omega
theorem goodF_ge {R : List Int} {a b : Int} (h : goodF R [a, b] = false) : bndF R ≤ bndF (pourF R a.toNat b.toNat) := by
  have : ¬ bndF (pourF R a.toNat b.toNat) < bndF R := of_decide_eq_false h
  omega
attribute [local irreducible] pourF bndF canF goodF cppB
def igOk (R : List Int) (len : Nat) : Bool := rackB R && decide (len ≤ 60)
--@tbl IsGoodPath = impl.IsGoodPath
--@tbl sIsGoodPath = spec.IsGoodPath
theorem igB_app (R L J : List Int) (len : Nat) (h : len * 2 ≤ L.length) : igB R (L ++ J) len = igB R L len := by
  have hp : ∀ k, k ≤ len → paR R (L ++ J) k = paR R L k := fun k => by
    induction k with
    | zero => intro _; rfl
    | succ k ih =>
      intro hk
      rw [paR_succ, paR_succ, ih (by omega), getD_app _ _ _ (by omega), getD_app _ _ _ (by omega)]
  have : ∀ n, n ≤ len → (List.range n).all (paG R (L ++ J)) = (List.range n).all (paG R L) := fun n => by
    induction n with
    | zero => intro _; rfl
    | succ n ih =>
      intro hn
      rw [List.range_succ, List.all_append, List.all_append, ih (by omega)]
      simp only [List.all_cons, List.all_nil, Bool.and_true]
      unfold paG paC
      rw [hp n (by omega), getD_app _ _ _ (by omega), getD_app _ _ _ (by omega)]
  exact this len (Nat.le_refl _)
def IsGoodPath_F : List SV → Heap → Option (Prop × SV)
  | [.arr R, .slice b 0 len _], H => match hget H b with
    | some (.ints L _) => some (R.length = 24 ∧ len * 2 ≤ L.length ∧ len ≤ 1048576, .tup [.bool (igOk R len && igB R (L.take (len * 2)) len), .bool (igOk R len)])
    | _ => none
  | _, _ => none
def sIsGoodPath_F : List SV → Heap → Option (Prop × SV)
  | [.arr R, .slice b 0 len _], H => match hget H b with
    | some (.ints L _) => some (R.length = 24 ∧ len * 2 ≤ L.length ∧ len ≤ 1048576, .tup [.bool (igOk R len && igB R (L.take (len * 2)) len), .bool (igOk R len)])
    | _ => none
  | _, _ => none
end Go.Proofs.Ytfdpeenamkpcbaa
