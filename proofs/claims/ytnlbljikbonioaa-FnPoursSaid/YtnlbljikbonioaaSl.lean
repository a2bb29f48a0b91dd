/- Walks: what the laws do with lists of pairs. -/
import Derived.Test.YtnlbljikbonioaaUpd
import Derived.Test.YtnlbljikbonioaaO
import Derived.Test.YtnlbljikbonioaaQ
set_option maxRecDepth 100000
set_option linter.unusedSimpArgs false
set_option linter.unusedVariables false
namespace Go.Proofs.Ytnlbljikbonioaa
open Go Go.RowKit
--@tbl eqS2 = laws.eqIntA2S
def eqS2_F : List SV → Heap → Option (Prop × SV)
  | [.slice a 0 l1 _, .slice b 0 l2 _], H => match hget H a, hget H b with
    | some (.ints L1 _), some (.ints L2 _) => some (a ≠ b ∧ l1 = l2 ∧ l1 * 2 ≤ L1.length ∧ l2 * 2 ≤ L2.length ∧ L1.take (l1 * 2) = L2.take (l2 * 2) ∧ l1 ≤ 4611686018427387903, .bool true)
    | _, _ => none
  | [.nils, .slice b 0 l2 _], H => match hget H b with
    | some (.ints _ _) => some (l2 = 0, .bool true)
    | _ => none
  | [.nils, .nils], _ => some (True, .bool true)
  | _, _ => none
/-! Marks. -/
def mkL (k : Int) (t : Nat) : List Int := (List.range t).map fun i : Nat => k + (i : Int)
theorem mkL_len (k : Int) (t : Nat) : (mkL k t).length = t := by simp [mkL]
theorem mkL_zero (k : Int) : mkL k 0 = [] := rfl
theorem mkL_succ (k : Int) (t : Nat) : mkL k (t + 1) = mkL k t ++ [k + (t : Int)] := by simp [mkL, List.range_succ]
theorem mkL_getD (k : Int) (t i : Nat) (h : i < t) : (mkL k t).getD i 0 = k + (i : Int) := by simp [mkL, List.getD, h]
theorem mkL_set (k : Int) (L : List Int) (t : Nat) (h : t < L.length) : (mkL k t ++ L.drop t).set t (k + (t : Int)) = mkL k (t + 1) ++ L.drop (t + 1) := by
  rw [mkL_succ, List.set_append_right _ _ (by rw [mkL_len]; omega), mkL_len, Nat.sub_self, List.drop_eq_getElem_cons h, List.set_cons_zero]
  simp
--@tbl mark2 = laws.markIntA2S
--@tbl held2 = laws.heldIntA2S
theorem gen_of_pure {P : Program} {f : FuncId} {args : List SV} {H : Heap} {n m : Nat} {v : SV} {κ : K1} (h : PureH P f args H v) (hk : κ v H n) : GenOK P f args H n m κ :=
  ⟨h.ent, fun B M w hH hwH hwa hown hM => (h.call B w hH).mono fun e w' hh => ⟨v, H, n, B, hh.1, hk, Nat.le_refl _, h.wf n hwa hwH, hwH, fun _ _ => rfl, hH.of_below hh.2, hown, Kept.of_below hh.2⟩⟩
def mark2_F : List SV → Heap → Nat → Nat → K1 → Prop
  | [.slice b 0 l _, .int k], H, n, m, κ => match hget H b with
    | some (.ints L e) => m ≤ b ∧ l * 2 ≤ L.length ∧ l ≤ 2000000 ∧ (0 ≤ k ∧ k ≤ 1000000) ∧ κ (.int (k + (l * 2 : Nat))) ((b, .ints (mkL k (l * 2) ++ L.drop (l * 2)) e) :: H) n
    | _ => False
  | [.nils, .int k], H, n, _, κ => κ (.int k) H n
  | _, _, _, _, _ => False
def held2_F : List SV → Heap → Option (Prop × SV)
  | [.slice b 0 l _, .int k], H => match hget H b with
    | some (.ints M _) => some (l ≤ 2000000 ∧ (0 ≤ k ∧ k ≤ 1000000) ∧ M.take (l * 2) = mkL k (l * 2), .int (k + (l * 2 : Nat)))
    | _ => none
  | [.nils, .int k], _ => some (True, .int k)
  | _, _ => none
theorem mkL_take (k : Int) (t : Nat) (M : List Int) : (mkL k t ++ M).take t = mkL k t := List.take_left' (mkL_len k t)
/-- What is left of a law that compares lists, marks one, and asks again. -/
theorem lawS2 {L : List Int} {m : Nat} (nl : Bool) (hm : L.length = m * 2) (hb : m ≤ 2000000) : ∀ (cap : Nat) (junk : List Int), junk.length + L.length = cap * 2 →
    (nl = true → L = [] → m = 0 ∧ (nl = true → L = [] → m = 0) ∧ ((nl = true → ¬L = []) → ∀ (cap : Nat) (junk_1 : List Int), junk_1.length + L.length = cap * 2 → m * 2 ≤ (L ++ junk_1).length ∧ m * 2 ≤ (L ++ junk).length ∧ List.take (m * 2) (L ++ junk_1) = List.take (m * 2) (L ++ junk) ∧ m ≤ 4611686018427387903)) ∧
    ((nl = true → ¬L = []) → ∀ (cap : Nat) (junk_1 : List Int), junk_1.length + L.length = cap * 2 →
      (m * 2 ≤ (L ++ junk_1).length ∧ m * 2 ≤ (L ++ junk).length ∧ List.take (m * 2) (L ++ junk_1) = List.take (m * 2) (L ++ junk) ∧ m ≤ 4611686018427387903) ∧ m * 2 ≤ (L ++ junk_1).length ∧ m ≤ 2000000 ∧
      (m ≤ 2000000 ∧ List.take (m * 2) (mkL 1 (m * 2) ++ List.drop (m * 2) (L ++ junk_1)) = mkL 1 (m * 2)) ∧ (1 + ((m * 2 : Nat) : Int) < 0 → False) ∧
      (¬1 + ((m * 2 : Nat) : Int) < 0 → (nl = true → L = [] → m = 0 ∧ (m ≤ 2000000 ∧ List.take (m * 2) (mkL 1 (m * 2) ++ List.drop (m * 2) (L ++ junk_1)) = mkL 1 (m * 2)) ∧ (1 + ((m * 2 : Nat) : Int) < 0 → False) ∧ (¬1 + ((m * 2 : Nat) : Int) < 0 → True)) ∧
        ((nl = true → ¬L = []) → ∀ (cap : Nat) (junk_2 : List Int), junk_2.length + L.length = cap * 2 → (m * 2 ≤ (L ++ junk_2).length ∧ m * 2 ≤ (L ++ junk).length ∧ List.take (m * 2) (L ++ junk_2) = List.take (m * 2) (L ++ junk) ∧ m ≤ 4611686018427387903) ∧
          (m ≤ 2000000 ∧ List.take (m * 2) (mkL 1 (m * 2) ++ List.drop (m * 2) (L ++ junk_1)) = mkL 1 (m * 2)) ∧ (1 + ((m * 2 : Nat) : Int) < 0 → False) ∧ (¬1 + ((m * 2 : Nat) : Int) < 0 → True)))) := by
  have tL : ∀ J : List Int, List.take (m * 2) (L ++ J) = L := fun J => List.take_left' hm
  have lL : ∀ J : List Int, m * 2 ≤ (L ++ J).length := fun J => by rw [List.length_append]; omega
  have l0 : L = [] → m = 0 := fun h => by rw [h] at hm; simp at hm; omega
  have nn : ¬ (1 + ((m * 2 : Nat) : Int) < 0) := by omega
  have e1 : ∀ J : List Int, List.take (m * 2) (mkL 1 (m * 2) ++ J) = mkL 1 (m * 2) := fun J => mkL_take _ _ _
  intro cap junk hj
  refine ⟨fun _ h => ⟨l0 h, fun _ h => l0 h, fun _ cap1 junk1 hj1 => ⟨lL _, lL _, by rw [tL, tL], by omega⟩⟩, fun _ cap1 junk1 hj1 => ⟨⟨lL _, lL _, by rw [tL, tL], by omega⟩, lL _, hb, ⟨hb, e1 _⟩, fun h => nn h, fun _ => ⟨fun _ h => ⟨l0 h, ⟨hb, e1 _⟩, fun h => nn h, fun _ => trivial⟩, fun _ cap2 junk2 hj2 => ⟨⟨lL _, lL _, by rw [tL, tL], by omega⟩, ⟨hb, e1 _⟩, fun h => nn h, fun _ => trivial⟩⟩⟩⟩
/-- The same where the list is nil if it is empty. -/
theorem lawS2' {L : List Int} {m : Nat} (hm : L.length = m * 2) (hb : m ≤ 2000000) : ∀ (cap : Nat) (junk : List Int), junk.length + L.length = cap * 2 →
    (L = [] → m = 0 ∧ (L = [] → m = 0) ∧ (¬L = [] → ∀ (cap : Nat) (junk_1 : List Int), junk_1.length + L.length = cap * 2 → m * 2 ≤ (L ++ junk_1).length ∧ m * 2 ≤ (L ++ junk).length ∧ List.take (m * 2) (L ++ junk_1) = List.take (m * 2) (L ++ junk) ∧ m ≤ 4611686018427387903)) ∧
    (¬L = [] → ∀ (cap : Nat) (junk_1 : List Int), junk_1.length + L.length = cap * 2 →
      (m * 2 ≤ (L ++ junk_1).length ∧ m * 2 ≤ (L ++ junk).length ∧ List.take (m * 2) (L ++ junk_1) = List.take (m * 2) (L ++ junk) ∧ m ≤ 4611686018427387903) ∧ m * 2 ≤ (L ++ junk_1).length ∧ m ≤ 2000000 ∧
      (m ≤ 2000000 ∧ List.take (m * 2) (mkL 1 (m * 2) ++ List.drop (m * 2) (L ++ junk_1)) = mkL 1 (m * 2)) ∧ (1 + ((m * 2 : Nat) : Int) < 0 → False) ∧
      (¬1 + ((m * 2 : Nat) : Int) < 0 → (L = [] → m = 0 ∧ (m ≤ 2000000 ∧ List.take (m * 2) (mkL 1 (m * 2) ++ List.drop (m * 2) (L ++ junk_1)) = mkL 1 (m * 2)) ∧ (1 + ((m * 2 : Nat) : Int) < 0 → False) ∧ (¬1 + ((m * 2 : Nat) : Int) < 0 → True)) ∧
        (¬L = [] → ∀ (cap : Nat) (junk_2 : List Int), junk_2.length + L.length = cap * 2 → (m * 2 ≤ (L ++ junk_2).length ∧ m * 2 ≤ (L ++ junk).length ∧ List.take (m * 2) (L ++ junk_2) = List.take (m * 2) (L ++ junk) ∧ m ≤ 4611686018427387903) ∧
          (m ≤ 2000000 ∧ List.take (m * 2) (mkL 1 (m * 2) ++ List.drop (m * 2) (L ++ junk_1)) = mkL 1 (m * 2)) ∧ (1 + ((m * 2 : Nat) : Int) < 0 → False) ∧ (¬1 + ((m * 2 : Nat) : Int) < 0 → True)))) := by
  have := lawS2 true hm hb
  simpa only [true_implies, forall_const] using this
end Go.Proofs.Ytnlbljikbonioaa
