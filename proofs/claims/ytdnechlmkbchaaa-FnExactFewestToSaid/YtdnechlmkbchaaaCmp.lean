/- Walks: comparisons. -/
import Derived.Test.YtdnechlmkbchaaaR
import Derived.Test.YtdnechlmkbchaaaEqR
set_option maxRecDepth 100000
set_option linter.unusedSimpArgs false
set_option linter.unusedVariables false
namespace Go.Proofs.Ytdnechlmkbchaaa
open Go Go.RowKit
def lexC : List Int → List Int → Int
  | a :: A, b :: B => if a < b then -1 else if b < a then 1 else lexC A B
  | _, _ => 0
def icmp (a b : Int) : Int := if a < b then -1 else if b < a then 1 else 0
--@tbl isNaNI = cmp.isNaN[int]
theorem isNaNI_ok (x : Int) : PureH Try.prog 167 [.int x] [] (.bool false) := by
  refine pure_of_vc (X := ⟨Try.prog, tys, [], [], true, true, 0, [], []⟩) fn_167 ⟨tys_ok, .nil, .nil, mixed⟩ (n0 := 0) (Nat.le_of_ble_eq_true rfl) (by simp [wfL, SV.wf]) (wfH_spec (by simp [wfH, SObj.wf])) (Nat.le_refl _) (fun _ => by simp [SV.wf, wfL]) ?_
  simp -implicitDefEqProofs only [Try.f167, Option.getD_some, argS, ZB, Int.reduceToNat, Nat.reduceLT, Nat.reduceLeDiff, Int.reduceLE, Int.reduceLT, Nat.reduceEqDiff, Nat.reduceSub, SB, SV.known, packR, ne_eq, reduceCtorEq, Nat.reduceEqDiff, ↓reduceIte, if_true, if_false, eq_self, Nat.reduceAdd, Nat.reduceMul, Nat.reduceSub, forall_const, oneCellS, litOne, flat1, Kd.isSca, flat, TYB]
  all_goals simp
def isNaNI_F : List SV → Heap → Option (Prop × SV)
  | [.int x], _ => some (True, .bool false)
  | _, _ => none
theorem isNaNI_T : ∀ args H p v, isNaNI_F args H = some (p, v) → p → PureH Try.prog 167 args H v := by
  intro args H p v h hp
  unfold isNaNI_F at h
  split at h
  · cases h; exact (isNaNI_ok _).any _
  · cases h
--@tbl cmpI = cmp.Compare[int]
theorem cmpI_ok (x y : Int) : PureH Try.prog 152 [.int x, .int y] [] (.int (icmp x y)) := by
  unfold icmp
  refine pure_of_vc (X := ⟨Try.prog, tys, [(167, isNaNI_F)], [], true, true, 0, [], []⟩) fn_152 ⟨tys_ok, (.cons isNaNI_T .nil), .nil, mixed⟩ (n0 := 0) (Nat.le_of_ble_eq_true rfl) (by simp [wfL, SV.wf]) (wfH_spec (by simp [wfH, SObj.wf])) (Nat.le_refl _) (fun _ => by simp [SV.wf, wfL]) ?_
  simp -implicitDefEqProofs only [Try.f152, Option.getD_some, argS, isNaNI_F, ZB, Int.reduceToNat, Nat.reduceLT, Nat.reduceLeDiff, Int.reduceLE, Int.reduceLT, Nat.reduceEqDiff, Nat.reduceSub, SB, SV.known, packR, ne_eq, reduceCtorEq, Nat.reduceEqDiff, ↓reduceIte, if_true, if_false, eq_self, Nat.reduceAdd, Nat.reduceMul, Nat.reduceSub, forall_const, oneCellS, litOne, flat1, Kd.isSca, flat, TYB]
  refine ⟨fun h => by rw [if_pos h], fun h => ⟨fun h2 => by rw [if_neg h, if_pos h2], fun h2 => by rw [if_neg h, if_neg h2]⟩⟩
def cmpI_F : List SV → Heap → Option (Prop × SV)
  | [.int x, .int y], _ => some (True, .int (icmp x y))
  | _, _ => none
theorem cmpI_T : ∀ args H p v, cmpI_F args H = some (p, v) → p → PureH Try.prog 152 args H v := by
  intro args H p v h hp
  unfold cmpI_F at h
  split at h
  · cases h; exact (cmpI_ok _ _).any _
  · cases h
theorem lexC_step (x y : List Int) (n i : Nat) (hi : i < n) (hx : n ≤ x.length) (hy : n ≤ y.length) : lexC ((x.take n).drop i) ((y.take n).drop i) = if icmp (x.getD i 0) (y.getD i 0) = 0 then lexC ((x.take n).drop (i + 1)) ((y.take n).drop (i + 1)) else icmp (x.getD i 0) (y.getD i 0) := by
  have e : ∀ l : List Int, n ≤ l.length → (l.take n).drop i = l.getD i 0 :: (l.take n).drop (i + 1) := fun l hl => by
    rw [List.drop_eq_getElem_cons (by rw [List.length_take]; omega), List.getElem_take, List.getD_eq_getElem?_getD, List.getElem?_eq_getElem (by omega)]; rfl
  rw [e x hx, e y hy]
  unfold icmp
  simp only [lexC]
  repeat' split
  all_goals (first | rfl | omega)
theorem cmpS_ok (x y : List Int) (e e' n c c' : Nat) (hx : n ≤ x.length) (hy : n ≤ y.length) (hn : n ≤ 1000) : PureH Try.prog 130 [.slice 0 0 n c, .slice 1 0 n c'] [(0, .ints x e), (1, .ints y e')] (.int (lexC (x.take n) (y.take n))) := by
  refine pure_of_vc (X := ⟨Try.prog, tys, [(152, cmpI_F)], [], true, true, 2, [], []⟩) fn_130 ⟨tys_ok, (.cons cmpI_T .nil), .nil, mixed⟩ (n0 := 2) (Nat.le_of_ble_eq_true rfl) (by simp [wfL, SV.wf]) (wfH_spec (by simp [wfH, SObj.wf])) (Nat.le_refl _) (fun _ => by simp [SV.wf, wfL]) ?_
  simp -implicitDefEqProofs only [Try.f130, Option.getD_some, argS, cmpI_F, ZB, Int.reduceToNat, Nat.reduceLT, Nat.reduceLeDiff, Int.reduceLE, Int.reduceLT, Nat.reduceEqDiff, Nat.reduceSub, SB, SV.known, packR, ne_eq, reduceCtorEq, Nat.reduceEqDiff, ↓reduceIte, if_true, if_false, eq_self, Nat.reduceAdd, Nat.reduceMul, Nat.reduceSub, forall_const, oneCellS, litOne, flat1, Kd.isSca, flat, TYB]
  refine loop_intro (fun i : Nat => [(11, .int i), (10, .int n), (9, .slice 0 0 n c), (0, .slice 0 0 n c), (1, .slice 1 0 n c')]) (fun _ => [(0, .ints x e), (1, .ints y e')]) 2 (fun i => i ≤ n ∧ lexC (x.take n) (y.take n) = lexC ((x.take n).drop i) ((y.take n).drop i)) (fun i => n - i) ?_ ?_
  · refine ⟨0, ⟨by omega, rfl⟩, Sub.mk_id ?_ ?_ ?_ ?_ ?_⟩
    all_goals ((try simp only [LB, subS, subH, wfS, wfH, SV.ren, renL, SObj.ren, SV.wf, SObj.wf, wfL, SV.known, Nat.reduceEqDiff, ↓reduceIte, if_true, if_false, eq_self, Nat.reduceAdd, Nat.reduceLT, Nat.reduceLeDiff, implies_true, reduceCtorEq, forall_const]) <;> simp)
  · rintro i ⟨hi, he⟩
    by_cases hlt : i < n
    · have hil : (i : Int) < n := by omega
      have hnl : ¬ (i : Int) ≥ n := by omega
      have hix : i < x.length := by omega
      have hiy : i < y.length := by omega
      have st := lexC_step x y n i hlt hx hy
      rw [← he] at st
      by_cases hc : icmp (x.getD i 0) (y.getD i 0) = 0
      · rw [if_pos hc] at st
        simp -implicitDefEqProofs only [lk_normal, cmpI_F, hil, hnl, hix, hiy, hc, ZB, Int.reduceToNat, Nat.reduceLT, Nat.reduceLeDiff, Int.reduceLE, Int.reduceLT, Nat.reduceEqDiff, Nat.reduceSub, SB, SV.known, packR, ne_eq, reduceCtorEq, Nat.reduceEqDiff, ↓reduceIte, if_true, if_false, eq_self, Nat.reduceAdd, Nat.reduceMul, Nat.reduceSub, forall_const, oneCellS, litOne, flat1, Kd.isSca, flat, TYB]
        refine ⟨by omega, by omega, by unfold In64; omega, i + 1, ⟨by omega, st⟩, by omega, Sub.mk_id ?_ ?_ ?_ ?_ ?_⟩
        all_goals ((try simp only [LB, subS, subH, wfS, wfH, SV.ren, renL, SObj.ren, SV.wf, SObj.wf, wfL, SV.known, Nat.reduceEqDiff, ↓reduceIte, if_true, if_false, eq_self, Nat.reduceAdd, Nat.reduceLT, Nat.reduceLeDiff, implies_true, reduceCtorEq, forall_const]) <;> simp)
      · rw [if_neg hc] at st
        simp -implicitDefEqProofs only [lk_normal, cmpI_F, hil, hnl, hix, hiy, hc, ZB, Int.reduceToNat, Nat.reduceLT, Nat.reduceLeDiff, Int.reduceLE, Int.reduceLT, Nat.reduceEqDiff, Nat.reduceSub, SB, SV.known, packR, ne_eq, reduceCtorEq, Nat.reduceEqDiff, ↓reduceIte, if_true, if_false, eq_self, Nat.reduceAdd, Nat.reduceMul, Nat.reduceSub, forall_const, oneCellS, litOne, flat1, Kd.isSca, flat, TYB]
        exact ⟨by omega, by omega, st.symm⟩
    · have hil : ¬ (i : Int) < n := by omega
      obtain rfl : i = n := by omega
      have e0 : lexC (x.take i) (y.take i) = 0 := by
        rw [he, List.drop_eq_nil_of_le (by rw [List.length_take]; omega)]; rfl
      simp -implicitDefEqProofs only [lk_normal, hil, e0, Int.lt_irrefl, ZB, Int.reduceToNat, Nat.reduceLT, Nat.reduceLeDiff, Int.reduceLE, Int.reduceLT, Nat.reduceEqDiff, Nat.reduceSub, SB, SV.known, packR, ne_eq, reduceCtorEq, Nat.reduceEqDiff, ↓reduceIte, if_true, if_false, eq_self, Nat.reduceAdd, Nat.reduceMul, Nat.reduceSub, forall_const, oneCellS, litOne, flat1, Kd.isSca, flat, TYB]
--@tbl cmpS = slices.Compare[[]int,int]
def cmpS_F : List SV → Heap → Option (Prop × SV)
  | [.slice 0 0 n _, .slice 1 0 n' _], H => match hget H 0, hget H 1 with
    | some (.ints x _), some (.ints y _) => some (n = n' ∧ n ≤ x.length ∧ n ≤ y.length ∧ n ≤ 1000, .int (lexC (x.take n) (y.take n)))
    | _, _ => none
  | _, _ => none
theorem cmpS_T : ∀ args H p v, cmpS_F args H = some (p, v) → p → PureH Try.prog 130 args H v := by
  intro args H p v h hp
  unfold cmpS_F at h
  split at h
  · rename_i n c n' c'
    split at h
    · rename_i x e y e' h1 h2
      cases h
      obtain ⟨rfl, g1, g2, g3⟩ := hp
      refine (cmpS_ok x y e e' n c c' g1 g2 g3).weaken (fun k o hk => ?_) (fun _ => trivial)
      simp only [hget_cons] at hk
      split at hk
      · rename_i h0; cases hk; subst h0; exact h1
      · split at hk
        · rename_i h0; cases hk; subst h0; exact h2
        · cases hk
    · cases h
  · cases h
theorem cmpT_ok (x y : List Int) (hx : x.length = 4) (hy : y.length = 4) : PureH Try.prog 100 [.arr x, .arr y] [] (.int (lexC x y)) := by
  have tx : x.take 4 = x := List.take_of_length_le (by omega)
  have ty : y.take 4 = y := List.take_of_length_le (by omega)
  refine pure_of_vc (X := ⟨Try.prog, tys, [(130, cmpS_F)], [], true, true, 0, [], []⟩) fn_100 ⟨tys_ok, (.cons cmpS_T .nil), .nil, mixed⟩ (n0 := 0) (Nat.le_of_ble_eq_true rfl) (by simp [wfL, SV.wf]) (wfH_spec (by simp [wfH, SObj.wf])) (Nat.le_refl _) (fun _ => by simp [SV.wf, wfL]) ?_
  simp -implicitDefEqProofs only [Try.f100, Option.getD_some, argS, cmpS_F, hx, hy, tx, ty, ZB, Int.reduceToNat, Nat.reduceLT, Nat.reduceLeDiff, Int.reduceLE, Int.reduceLT, Nat.reduceEqDiff, Nat.reduceSub, SB, SV.known, packR, ne_eq, reduceCtorEq, Nat.reduceEqDiff, ↓reduceIte, if_true, if_false, eq_self, Nat.reduceAdd, Nat.reduceMul, Nat.reduceSub, forall_const, oneCellS, litOne, flat1, Kd.isSca, flat, TYB]
--@tbl compareTubes = impl.compareTubes
def compareTubes_F : List SV → Heap → Option (Prop × SV)
  | [.arr x, .arr y], _ => some (x.length = 4 ∧ y.length = 4, .int (lexC x y))
  | _, _ => none
theorem compareTubes_T : ∀ args H p v, compareTubes_F args H = some (p, v) → p → PureH Try.prog 100 args H v := by
  intro args H p v h hp
  unfold compareTubes_F at h
  split at h
  · cases h; exact (cmpT_ok _ _ hp.1 hp.2).any _
  · cases h
/-! The order. -/
theorem lexC_refl : ∀ x : List Int, lexC x x = 0
  | [] => rfl
  | a :: A => by
    show (if a < a then -1 else if a < a then 1 else lexC A A) = 0
    rw [if_neg (by omega), if_neg (by omega), lexC_refl A]
theorem lexC_lt {a b : Int} {A B : List Int} : lexC (a :: A) (b :: B) < 0 ↔ a < b ∨ (a = b ∧ lexC A B < 0) := by
  show (if a < b then -1 else if b < a then 1 else lexC A B) < 0 ↔ _
  split
  · rename_i h; simp [h]
  · split
    · rename_i h1 h2; constructor
      · intro h; omega
      · rintro (h | ⟨h, _⟩) <;> omega
    · rename_i h1 h2
      have : a = b := by omega
      simp [this]
theorem lexC_trans : ∀ {x y z : List Int}, x.length = y.length → y.length = z.length → lexC x y < 0 → lexC y z < 0 → lexC x z < 0
  | [], _, _, _, _, h, _ => by simp [lexC] at h
  | _ :: _, [], _, h, _, _, _ => by simp at h
  | _ :: _, _ :: _, [], _, h, _, _ => by simp at h
  | a :: A, b :: B, c :: C, h1, h2, h3, h4 => by
    rw [lexC_lt] at h3 h4 ⊢
    have := lexC_trans (x := A) (y := B) (z := C) (by simpa using h1) (by simpa using h2)
    rcases h3 with h3 | ⟨h3, h5⟩ <;> rcases h4 with h4 | ⟨h4, h6⟩
    · left; omega
    · left; omega
    · left; omega
    · right; exact ⟨by omega, this h5 h6⟩
theorem lexC_total : ∀ {x y : List Int}, x.length = y.length → ¬ lexC x y < 0 → ¬ lexC y x < 0 → x = y
  | [], [], _, _, _ => rfl
  | [], _ :: _, h, _, _ => by simp at h
  | _ :: _, [], h, _, _ => by simp at h
  | a :: A, b :: B, h1, h2, h3 => by
    rw [lexC_lt] at h2 h3
    have hab : a = b := by omega
    subst hab
    have := lexC_total (x := A) (y := B) (by simpa using h1) (fun h => h2 (.inr ⟨rfl, h⟩)) (fun h => h3 (.inr ⟨rfl, h⟩))
    rw [this]
theorem lexC_ne : ∀ {x y : List Int}, x.length = y.length → lexC y x < 0 → ¬ lexC x y = 0
  | [], [], _, h => by simp [lexC] at h
  | [], _ :: _, h, _ => by simp at h
  | _ :: _, [], h, _ => by simp at h
  | a :: A, b :: B, h, h1 => by
    rw [lexC_lt] at h1
    have ih := lexC_ne (x := A) (y := B) (by simpa using h)
    show ¬ (if a < b then -1 else if b < a then 1 else lexC A B) = 0
    rcases h1 with h1 | ⟨h1, h2⟩
    · rw [if_neg (by omega), if_pos h1]; omega
    · rw [if_neg (by omega), if_neg (by omega)]; exact ih h2
theorem lexC_zero {x y : List Int} (h : x.length = y.length) : lexC x y = 0 ↔ x = y := by
  refine ⟨fun h0 => ?_, fun e => by rw [e]; exact lexC_refl y⟩
  refine lexC_total h (by omega) (fun hy => ?_)
  exact absurd h0 (lexC_ne h hy)
/-- At most. -/
def lexL (x y : List Int) : Bool := !decide (lexC y x < 0)
theorem lexL_trans {x y z : List Int} (h1 : x.length = y.length) (h2 : y.length = z.length) (h3 : lexL x y = true) (h4 : lexL y z = true) : lexL x z = true := by
  simp only [lexL, Bool.not_eq_true', decide_eq_false_iff_not] at *
  intro h
  by_cases hxy : lexC x y < 0
  · exact h4 (lexC_trans (by omega) (by omega) h hxy)
  · rw [lexC_total h1 hxy h3] at h; exact h4 h
theorem lexL_anti {x y : List Int} (h : x.length = y.length) (h1 : lexL x y = true) (h2 : lexL y x = true) : x = y := by
  simp only [lexL, Bool.not_eq_true', decide_eq_false_iff_not] at *
  exact lexC_total h h2 h1
theorem lexL_total (x y : List Int) (h : x.length = y.length) : lexL x y = true ∨ lexL y x = true := by
  simp only [lexL, Bool.not_eq_true', decide_eq_false_iff_not]
  by_cases h1 : lexC y x < 0
  · right
    intro h2
    have := lexC_trans (by omega) (by omega) h1 h2
    rw [lexC_refl] at this; omega
  · exact .inl h1
/-- There is one sorted list of given lists. -/
theorem lexL_one {w : Nat} {l1 l2 : List (List Int)} (h1 : ∀ x ∈ l1, x.length = w) (hp : l1.Perm l2) (s1 : l1.Pairwise (fun x y => lexL x y = true)) (s2 : l2.Pairwise (fun x y => lexL x y = true)) : l1 = l2 :=
  List.Perm.eq_of_pairwise (le := fun x y => lexL x y = true) (fun a b ha hb ab ba => lexL_anti (by rw [h1 a ha, h1 b (hp.mem_iff.2 hb)]) ab ba) s1 s2 hp
end Go.Proofs.Ytdnechlmkbchaaa
