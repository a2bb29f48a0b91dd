/- Walks: fractions, deals. -/
import Derived.Test.YtnlbljikbonioaaD
set_option maxRecDepth 100000
set_option linter.unusedSimpArgs false
set_option linter.unusedVariables false
namespace Go.Proofs.Ytnlbljikbonioaa
open Go Go.RowKit
theorem cons_of {c : List Int} (h : 0 < c.length) : c = c.getD 0 0 :: c.drop 1 := by
  cases c with
  | nil => simp at h
  | cons a r => simp
theorem deal_link (m c : List Int) (hc : c.length = 6) : (isDealF m c = true → l9DealF m c = (m.sum, true)) ∧ (isDealF m c = false → (l9DealF m c).2 = false) := by
  obtain ⟨a, r, rfl⟩ : ∃ a r, c = a :: r := ⟨_, _, cons_of (by omega)⟩
  simp only [isDealF, l9DealF, List.getD_cons_zero, List.drop_one, List.tail_cons, List.all_cons, List.sum_cons]
  cases m.all in04 <;> cases hr : r.all in024 <;> simp
  constructor
  · rintro rfl _ h; simpa using h
  · intro h h2; subst h2; simpa using h rfl (by decide)
theorem arrF_drop {c : List Int} (hc : c.length = 6) (h0 : c.getD 0 0 = 0) : arrF (c.drop 1) = arrF c := by
  obtain ⟨a, r, rfl⟩ : ∃ a r, c = a :: r := ⟨_, _, cons_of (by omega)⟩
  obtain rfl : a = 0 := by simpa using h0
  rfl
--@tbl CountDeals = impl.CountDeals
--@tbl sCountDeals = spec.CountDeals
def countDealsF (m c : List Int) : Int := if isDealF m c = true then arrF c else 0
--@tbl divisor = impl.divisor
theorem toNat_tmod {a b : Int} (ha : 0 ≤ a) (hb : 0 ≤ b) : (a.tmod b).toNat = a.toNat % b.toNat := by
  obtain ⟨x, rfl⟩ := Int.eq_ofNat_of_zero_le ha
  obtain ⟨y, rfl⟩ := Int.eq_ofNat_of_zero_le hb
  rfl
theorem gcd_step {a b : Int} (ha : 0 ≤ a) (hb : 0 ≤ b) : Nat.gcd b.toNat (a.tmod b).toNat = Nat.gcd a.toNat b.toNat := by
  rw [toNat_tmod ha hb, Nat.gcd_comm b.toNat, ← Nat.gcd_rec, Nat.gcd_comm]
theorem tmod_lt' {a b : Int} (ha : 0 ≤ a) (hb : 0 < b) : (a.tmod b).toNat < b.toNat := by
  rw [toNat_tmod ha (by omega)]; exact Nat.mod_lt _ (by omega)
def fracF (a b : Int) : List Int := [a.tdiv (Nat.gcd a.toNat b.toNat : Nat), b.tdiv (Nat.gcd a.toNat b.toNat : Nat)]
theorem gcd_posI {a b : Int} (hb : 0 < b) : 0 < Nat.gcd a.toNat b.toNat := Nat.gcd_pos_of_pos_right _ (by omega)
theorem tdiv_in64 {a g : Int} (ha : 0 ≤ a) (hg : 0 < g) (h : In64 a) : In64 (a.tdiv g) := by
  have h1 := Int.tdiv_nonneg ha (Int.le_of_lt hg)
  have h2 := Int.tdiv_le_self g ha
  unfold In64 at *; omega
--@tbl fraction = impl.fraction
--@tbl l1Most = spec.l1Most
theorem l1Most_ok (a b : Int) : PureH Try.prog 125 [.int a, .int b] [] (.int (max a b)) := by
  refine pure_of_vc (X := ⟨Try.prog, tys, [], [], true, true, 0, [], []⟩) fn_125 ⟨tys_ok, .nil, .nil, mixed⟩ (n0 := 0) (Nat.le_of_ble_eq_true rfl) (by simp [wfL, SV.wf]) (wfH_spec (by simp [wfH, SObj.wf])) (Nat.le_refl _) (fun _ => by simp [SV.wf, wfL]) ?_
  simp -implicitDefEqProofs only [Try.f125, Option.getD_some, argS, ZB, Int.reduceToNat, Nat.reduceLT, Nat.reduceLeDiff, Int.reduceLE, Int.reduceLT, Nat.reduceEqDiff, Nat.reduceSub, SB, SV.known, packR, ne_eq, reduceCtorEq, Nat.reduceEqDiff, ↓reduceIte, if_true, if_false, eq_self, Nat.reduceAdd, Nat.reduceMul, Nat.reduceSub, forall_const, oneCellS, litOne, flat1, Kd.isSca, flat, TYB]
  constructor <;> intro h <;> omega
def l1Most_F : List SV → Heap → Option (Prop × SV)
  | [.int a, .int b], _ => some (True, .int (max a b))
  | _, _ => none
theorem l1Most_T : ∀ args H p v, l1Most_F args H = some (p, v) → p → PureH Try.prog 125 args H v := by
  intro args H p v h hp
  unfold l1Most_F at h
  split at h
  · cases h; exact (l1Most_ok _ _).any _
  · cases h
--@tbl l7Cut = spec.l7Cut
--@tbl isPlace = impl.isPlace
--@tbl l2Place = spec.l2Place
--@tbl isColor = impl.isColor
def plF (i : Int) : Bool := decide (0 ≤ i ∧ i ≤ 5)
def coF (i : Int) : Bool := decide (1 ≤ i ∧ i ≤ 5)
theorem isPlace_ok (i : Int) : PureH Try.prog 105 [.int i] [] (.bool (plF i)) := by
  refine pure_of_vc (X := ⟨Try.prog, tys, [(100, within_F)], [], true, true, 0, [], []⟩) fn_105 ⟨tys_ok, (.cons within_T .nil), .nil, mixed⟩ (n0 := 0) (Nat.le_of_ble_eq_true rfl) (by simp [wfL, SV.wf]) (wfH_spec (by simp [wfH, SObj.wf])) (Nat.le_refl _) (fun _ => by simp [SV.wf, wfL]) ?_
  simp -implicitDefEqProofs only [Try.f105, Option.getD_some, argS, within_F, SB, SV.known, packR, ne_eq, reduceCtorEq, Nat.reduceEqDiff, ↓reduceIte, if_true, if_false, eq_self, Nat.reduceAdd, Nat.reduceMul, Nat.reduceSub, forall_const, oneCellS, litOne, flat1, Kd.isSca, flat, TYB]
  trivial
def isPlace_F : List SV → Heap → Option (Prop × SV)
  | [.int i], _ => some (True, .bool (plF i))
  | _, _ => none
theorem isPlace_T : ∀ args H p v, isPlace_F args H = some (p, v) → p → PureH Try.prog 105 args H v := by
  intro args H p v h hp
  unfold isPlace_F at h
  split at h
  · cases h; exact (isPlace_ok _).any _
  · cases h
theorem l2Place_ok (i : Int) : PureH Try.prog 60 [.int i] [] (.bool (plF i)) := by
  refine pure_of_vc (X := ⟨Try.prog, tys, [(101, l1In_F)], [], true, true, 0, [], []⟩) fn_60 ⟨tys_ok, (.cons l1In_T .nil), .nil, mixed⟩ (n0 := 0) (Nat.le_of_ble_eq_true rfl) (by simp [wfL, SV.wf]) (wfH_spec (by simp [wfH, SObj.wf])) (Nat.le_refl _) (fun _ => by simp [SV.wf, wfL]) ?_
  simp -implicitDefEqProofs only [Try.f60, Option.getD_some, argS, l1In_F, SB, SV.known, packR, ne_eq, reduceCtorEq, Nat.reduceEqDiff, ↓reduceIte, if_true, if_false, eq_self, Nat.reduceAdd, Nat.reduceMul, Nat.reduceSub, forall_const, oneCellS, litOne, flat1, Kd.isSca, flat, TYB]
  trivial
def l2Place_F : List SV → Heap → Option (Prop × SV)
  | [.int i], _ => some (True, .bool (plF i))
  | _, _ => none
theorem l2Place_T : ∀ args H p v, l2Place_F args H = some (p, v) → p → PureH Try.prog 60 args H v := by
  intro args H p v h hp
  unfold l2Place_F at h
  split at h
  · cases h; exact (l2Place_ok _).any _
  · cases h
theorem isColor_ok (i : Int) : PureH Try.prog 115 [.int i] [] (.bool (coF i)) := by
  refine pure_of_vc (X := ⟨Try.prog, tys, [(100, within_F)], [], true, true, 0, [], []⟩) fn_115 ⟨tys_ok, (.cons within_T .nil), .nil, mixed⟩ (n0 := 0) (Nat.le_of_ble_eq_true rfl) (by simp [wfL, SV.wf]) (wfH_spec (by simp [wfH, SObj.wf])) (Nat.le_refl _) (fun _ => by simp [SV.wf, wfL]) ?_
  simp -implicitDefEqProofs only [Try.f115, Option.getD_some, argS, within_F, SB, SV.known, packR, ne_eq, reduceCtorEq, Nat.reduceEqDiff, ↓reduceIte, if_true, if_false, eq_self, Nat.reduceAdd, Nat.reduceMul, Nat.reduceSub, forall_const, oneCellS, litOne, flat1, Kd.isSca, flat, TYB]
  trivial
def isColor_F : List SV → Heap → Option (Prop × SV)
  | [.int i], _ => some (True, .bool (coF i))
  | _, _ => none
theorem isColor_T : ∀ args H p v, isColor_F args H = some (p, v) → p → PureH Try.prog 115 args H v := by
  intro args H p v h hp
  unfold isColor_F at h
  split at h
  · cases h; exact (isColor_ok _).any _
  · cases h

--@tbl eqIntA2 = laws.eqIntA2
def prF (l : List Int) : Int := (l.map fun c => c * (c - 1)).sum
theorem pr_bd {c m : Int} (h0 : 0 ≤ c) (hm : c ≤ m) : 0 ≤ c * (c - 1) ∧ c * (c - 1) ≤ m * m := by
  constructor
  · rcases Int.lt_or_le 0 c with h | h
    · exact Int.mul_nonneg h0 (by omega)
    · obtain rfl : c = 0 := by omega
      simp
  · rcases Int.lt_or_le 0 c with h | h
    · exact Int.mul_le_mul hm (by omega) (by omega) (by omega)
    · obtain rfl : c = 0 := by omega
      simpa using Int.mul_nonneg (a := m) (b := m) (by omega) (by omega)
theorem prF_bd {l : List Int} (h : Bd 0 24 l) : 0 ≤ prF l ∧ prF l ≤ 576 * l.length := by
  have : Bd 0 576 (l.map fun c => c * (c - 1)) := by
    intro x hx
    obtain ⟨c, hc, rfl⟩ := List.mem_map.1 hx
    have := pr_bd (h c hc).1 (h c hc).2
    omega
  have := sum_bd _ this
  simp only [List.length_map] at this
  unfold prF
  omega
theorem prF_take_succ (l : List Int) (k : Nat) (h : k < l.length) : prF (l.take (k + 1)) = prF (l.take k) + l.getD k 0 * (l.getD k 0 - 1) := by
  unfold prF
  rw [List.map_take, List.map_take, sum_take_succ _ k (by simpa using h)]
  simp [List.getD, List.getElem?_eq_getElem h]
--@tbl pairs = impl.pairs
--@tbl l9Pairs = spec.l9Pairs
end Go.Proofs.Ytnlbljikbonioaa
