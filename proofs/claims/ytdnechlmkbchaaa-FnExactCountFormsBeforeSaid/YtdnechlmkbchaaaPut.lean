/- Walks: the model's racks before a rack. -/
import Derived.Test.YtdnechlmkbchaaaForm
import Derived.Test.YtdnechlmkbchaaaMap
import Derived.Test.YtdnechlmkbchaaaGen
set_option maxRecDepth 100000
set_option linter.unusedSimpArgs false
set_option linter.unusedVariables false
namespace Go.Proofs.Ytdnechlmkbchaaa
open Go Go.RowKit
--@tbl l2Before = spec.l2Before
theorem lexC_at (x y : List Int) (i : Nat) (hx : i < x.length) (hy : i < y.length) : lexC (x.drop i) (y.drop i) = if x.getD i 0 < y.getD i 0 then -1 else if y.getD i 0 < x.getD i 0 then 1 else lexC (x.drop (i + 1)) (y.drop (i + 1)) := by
  have e : ∀ l : List Int, i < l.length → l.drop i = l.getD i 0 :: l.drop (i + 1) := fun l hl => by
    rw [List.drop_eq_getElem_cons hl, List.getD_eq_getElem?_getD, List.getElem?_eq_getElem hl]; rfl
  rw [e x hx, e y hy]; rfl
theorem l2Before_ok (x y : List Int) (hx : x.length = 24) (hy : y.length = 24) : PureH Try.prog 104 [.arr x, .arr y] [] (.bool (decide (lexC x y < 0))) := by
  have tx : x.take 24 = x := List.take_of_length_le (by omega)
  have ty : y.take 24 = y := List.take_of_length_le (by omega)
  refine pure_of_vc (X := ⟨Try.prog, tys, [], [], true, true, 0, [], []⟩) fn_104 ⟨tys_ok, .nil, .nil, mixed⟩ (n0 := 0) (Nat.le_of_ble_eq_true rfl) (by simp [wfL, SV.wf]) (wfH_spec (by simp [wfH, SObj.wf])) (Nat.le_refl _) (fun _ => by simp [SV.wf, wfL]) ?_
  simp -implicitDefEqProofs only [Try.f104, Option.getD_some, argS, hx, hy, tx, ty, ZB, Int.reduceToNat, Nat.reduceLT, Nat.reduceLeDiff, Int.reduceLE, Int.reduceLT, Nat.reduceEqDiff, Nat.reduceSub, SB, SV.known, packR, ne_eq, reduceCtorEq, Nat.reduceEqDiff, ↓reduceIte, if_true, if_false, eq_self, Nat.reduceAdd, Nat.reduceMul, Nat.reduceSub, forall_const, oneCellS, Kd.isSca, flat, TYB]
  refine loop_intro (fun i : Nat => [(5, .int i), (3, .ptr 1 0), (2, .ptr 0 0)]) (fun _ => [(1, .ints y 29), (0, .ints x 29)]) 2 (fun i => i ≤ 6 ∧ lexC x y = lexC (x.drop (i * 4)) (y.drop (i * 4))) (fun i => 6 - i) ?_ ?_
  · refine ⟨0, ⟨by omega, rfl⟩, Sub.mk_id ?_ ?_ ?_ ?_ ?_⟩
    all_goals ((try simp only [LB, subS, subH, wfS, wfH, SV.ren, renL, SObj.ren, SV.wf, SObj.wf, wfL, SV.known, Nat.reduceEqDiff, ↓reduceIte, if_true, if_false, eq_self, Nat.reduceAdd, Nat.reduceLT, Nat.reduceLeDiff, implies_true, reduceCtorEq, forall_const]) <;> simp)
  · rintro i ⟨hi, he⟩
    by_cases hlt : i < 6
    · have hil : (i : Int) < 6 := by omega
      simp -implicitDefEqProofs only [lk_normal, hil, ZB, Int.reduceToNat, Nat.reduceLT, Nat.reduceLeDiff, Int.reduceLE, Int.reduceLT, Nat.reduceEqDiff, Nat.reduceSub, SB, SV.known, packR, ne_eq, reduceCtorEq, Nat.reduceEqDiff, ↓reduceIte, if_true, if_false, eq_self, Nat.reduceAdd, Nat.reduceMul, Nat.reduceSub, forall_const, oneCellS, Kd.isSca, flat, TYB]
      refine loop_intro (fun k : Nat => [(6, .int k), (5, .int i), (3, .ptr 1 0), (2, .ptr 0 0)]) (fun _ => [(1, .ints y 29), (0, .ints x 29)]) 2 (fun k => k ≤ 4 ∧ lexC x y = lexC (x.drop (i * 4 + k)) (y.drop (i * 4 + k))) (fun k => 4 - k) ?_ ?_
      · refine ⟨0, ⟨by omega, he⟩, Sub.mk_id ?_ ?_ ?_ ?_ ?_⟩
        all_goals ((try simp only [LB, subS, subH, wfS, wfH, SV.ren, renL, SObj.ren, SV.wf, SObj.wf, wfL, SV.known, Nat.reduceEqDiff, ↓reduceIte, if_true, if_false, eq_self, Nat.reduceAdd, Nat.reduceLT, Nat.reduceLeDiff, implies_true, reduceCtorEq, forall_const]) <;> simp)
      · rintro k ⟨hk, he⟩
        by_cases hk4 : k < 4
        · have hkl : (k : Int) < 4 := by omega
          have st := lexC_at x y (i * 4 + k) (by omega) (by omega)
          rw [← he] at st
          by_cases hc : x.getD (i * 4 + k) 0 = y.getD (i * 4 + k) 0
          · simp only [hc, Int.lt_irrefl, if_false] at st
            simp -implicitDefEqProofs only [lk_normal, hil, hkl, hk4, hx, hy, hc, ZB, Int.reduceToNat, Nat.reduceLT, Nat.reduceLeDiff, Int.reduceLE, Int.reduceLT, Nat.reduceEqDiff, Nat.reduceSub, SB, SV.known, packR, ne_eq, reduceCtorEq, Nat.reduceEqDiff, ↓reduceIte, if_true, if_false, eq_self, Nat.reduceAdd, Nat.reduceMul, Nat.reduceSub, forall_const, oneCellS, Kd.isSca, flat, TYB]
            refine ⟨by omega, by omega, by omega, by omega, by omega, by omega, by unfold In64; omega, k + 1, ⟨by omega, st⟩, by omega, Sub.mk_id ?_ ?_ ?_ ?_ ?_⟩
            all_goals ((try simp only [LB, subS, subH, wfS, wfH, SV.ren, renL, SObj.ren, SV.wf, SObj.wf, wfL, SV.known, Nat.reduceEqDiff, ↓reduceIte, if_true, if_false, eq_self, Nat.reduceAdd, Nat.reduceLT, Nat.reduceLeDiff, implies_true, reduceCtorEq, forall_const]) <;> simp)
          · simp -implicitDefEqProofs only [lk_normal, hil, hkl, hk4, hx, hy, hc, ZB, Int.reduceToNat, Nat.reduceLT, Nat.reduceLeDiff, Int.reduceLE, Int.reduceLT, Nat.reduceEqDiff, Nat.reduceSub, SB, SV.known, packR, ne_eq, reduceCtorEq, Nat.reduceEqDiff, ↓reduceIte, if_true, if_false, eq_self, Nat.reduceAdd, Nat.reduceMul, Nat.reduceSub, forall_const, oneCellS, Kd.isSca, flat, TYB]
            refine ⟨by omega, by omega, by omega, by omega, by omega, by omega, by omega, by omega, by omega, by omega, by omega, by omega, ?_⟩
            congr 1
            apply propext
            rw [st]
            repeat' split
            all_goals omega
        · have hkl : ¬ (k : Int) < 4 := by omega
          simp -implicitDefEqProofs only [lk_normal, hkl, ZB, Int.reduceToNat, Nat.reduceLT, Nat.reduceLeDiff, Int.reduceLE, Int.reduceLT, Nat.reduceEqDiff, Nat.reduceSub, SB, SV.known, packR, ne_eq, reduceCtorEq, Nat.reduceEqDiff, ↓reduceIte, if_true, if_false, eq_self, Nat.reduceAdd, Nat.reduceMul, Nat.reduceSub, forall_const, oneCellS, Kd.isSca, flat, TYB]
          obtain rfl : k = 4 := by omega
          refine ⟨by unfold In64; omega, i + 1, ⟨by omega, by rw [show (i + 1) * 4 = i * 4 + 4 by omega]; exact he⟩, by omega, Sub.mk_id ?_ ?_ ?_ ?_ ?_⟩
          all_goals ((try simp only [LB, subS, subH, wfS, wfH, SV.ren, renL, SObj.ren, SV.wf, SObj.wf, wfL, SV.known, Nat.reduceEqDiff, ↓reduceIte, if_true, if_false, eq_self, Nat.reduceAdd, Nat.reduceLT, Nat.reduceLeDiff, implies_true, reduceCtorEq, forall_const]) <;> simp)
    · have hil : ¬ (i : Int) < 6 := by omega
      obtain rfl : i = 6 := by omega
      have e0 : lexC x y = 0 := by
        rw [he, List.drop_eq_nil_of_le (by omega)]; rfl
      simp -implicitDefEqProofs only [lk_normal, hil, e0, Int.lt_irrefl, ZB, Int.reduceToNat, Nat.reduceLT, Nat.reduceLeDiff, Int.reduceLE, Int.reduceLT, Nat.reduceEqDiff, Nat.reduceSub, SB, SV.known, packR, ne_eq, reduceCtorEq, Nat.reduceEqDiff, ↓reduceIte, if_true, if_false, eq_self, Nat.reduceAdd, Nat.reduceMul, Nat.reduceSub, forall_const, oneCellS, Kd.isSca, flat, TYB]
/-! A strictly sorted list that takes one more. -/
def insU (x : List Int) : List (List Int) → List (List Int)
  | [] => [x]
  | y :: l => if lexC y x < 0 then y :: insU x l else if y = x then y :: l else x :: y :: l
theorem insU_mem (x : List Int) : ∀ l z, z ∈ insU x l ↔ z = x ∨ z ∈ l
  | [], z => by simp [insU]
  | y :: l, z => by
    unfold insU
    split
    · rw [List.mem_cons, insU_mem x l z, List.mem_cons]
      constructor
      · rintro (h | h | h)
        · exact .inr (.inl h)
        · exact .inl h
        · exact .inr (.inr h)
      · rintro (h | h | h)
        · exact .inr (.inl h)
        · exact .inl h
        · exact .inr (.inr h)
    · split
      · rename_i h; subst h; simp
      · simp
theorem insU_pw {w : Nat} {x : List Int} (hx : x.length = w) : ∀ {l : List (List Int)}, (∀ y ∈ l, y.length = w) → l.Pairwise (fun a b => lexC a b < 0) → (insU x l).Pairwise (fun a b => lexC a b < 0)
  | [], _, _ => by simp [insU]
  | y :: l, h, hp => by
    have hy := h y (List.mem_cons_self ..)
    rw [List.pairwise_cons] at hp
    unfold insU
    split
    · rename_i hyx
      rw [List.pairwise_cons]
      refine ⟨fun z hz => ?_, insU_pw hx (fun z hz => h z (List.mem_cons_of_mem _ hz)) hp.2⟩
      rcases (insU_mem x l z).1 hz with rfl | hz
      · exact hyx
      · exact hp.1 z hz
    · rename_i hyx
      split
      · exact List.pairwise_cons.2 hp
      · rename_i hne
        have hxy : lexC x y < 0 := by
          by_cases h1 : lexC x y < 0
          · exact h1
          · exact absurd (lexC_total (by rw [hx, hy]) h1 hyx).symm hne
        rw [List.pairwise_cons]
        refine ⟨fun z hz => ?_, List.pairwise_cons.2 hp⟩
        rcases List.mem_cons.1 hz with rfl | hz
        · exact hxy
        · exact lexC_trans (by rw [hx, hy]) (by rw [hy, h z (List.mem_cons_of_mem _ hz)]) hxy (hp.1 z hz)
def insA (l : List (List Int)) (xs : List (List Int)) : List (List Int) := xs.foldl (fun a x => insU x a) l
/-- Two strictly sorted lists of the same members are one. -/
theorem strict_one {w : Nat} : ∀ {l1 l2 : List (List Int)}, (∀ x ∈ l1, x.length = w) → (∀ x ∈ l2, x.length = w) → l1.Pairwise (fun a b => lexC a b < 0) → l2.Pairwise (fun a b => lexC a b < 0) → (∀ z, z ∈ l1 ↔ z ∈ l2) → l1 = l2
  | [], [], _, _, _, _, _ => rfl
  | [], y :: l2, _, _, _, _, h => by have := (h y).2 (List.mem_cons_self ..); simp at this
  | x :: l1, [], _, _, _, _, h => by have := (h x).1 (List.mem_cons_self ..); simp at this
  | x :: l1, y :: l2, w1, w2, p1, p2, h => by
    rw [List.pairwise_cons] at p1 p2
    have irr : ∀ z : List Int, ¬ lexC z z < 0 := fun z => by rw [lexC_refl]; omega
    have hxy : x = y := by
      rcases List.mem_cons.1 ((h x).1 (List.mem_cons_self ..)) with h1 | h1
      · exact h1
      · rcases List.mem_cons.1 ((h y).2 (List.mem_cons_self ..)) with h2 | h2
        · exact h2.symm
        · have a := p2.1 x h1
          have b := p1.1 y h2
          exact absurd (lexC_trans (by rw [w1 x (List.mem_cons_self ..), w2 y (List.mem_cons_self ..)]) (by rw [w1 x (List.mem_cons_self ..), w2 y (List.mem_cons_self ..)]) b a) (irr x)
    subst hxy
    rw [strict_one (fun z hz => w1 z (List.mem_cons_of_mem _ hz)) (fun z hz => w2 z (List.mem_cons_of_mem _ hz)) p1.2 p2.2 fun z => ?_]
    constructor
    · intro hz
      rcases List.mem_cons.1 ((h z).1 (List.mem_cons_of_mem _ hz)) with h1 | h1
      · subst h1; exact absurd (p1.1 z hz) (irr z)
      · exact h1
    · intro hz
      rcases List.mem_cons.1 ((h z).2 (List.mem_cons_of_mem _ hz)) with h1 | h1
      · subst h1; exact absurd (p2.1 z hz) (irr z)
      · exact h1
def l2Before_F : List SV → Heap → Option (Prop × SV)
  | [.arr x, .arr y], _ => some (x.length = 24 ∧ y.length = 24, .bool (decide (lexC x y < 0)))
  | _, _ => none
theorem l2Before_T : ∀ args H p v, l2Before_F args H = some (p, v) → p → PureH Try.prog 104 args H v := by
  intro args H p v h hp
  unfold l2Before_F at h
  split at h
  · cases h; exact (l2Before_ok _ _ hp.1 hp.2).any _
  · cases h
/-- How many are before x. -/
theorem insU_at {x : List Int} : ∀ {l : List (List Int)} {i : Nat}, i ≤ l.length → (∀ k, k < i → lexC (l.getD k []) x < 0) → (i = l.length ∨ ¬ lexC (l.getD i []) x < 0) → insU x l = if i < l.length ∧ l.getD i [] = x then l else l.take i ++ [x] ++ l.drop i
  | [], i, hi, _, _ => by
    obtain rfl : i = 0 := by simpa using hi
    simp [insU]
  | y :: l, 0, _, _, h => by
    have hn : ¬ lexC y x < 0 := h.resolve_left (by simp)
    unfold insU
    rw [if_neg hn]
    by_cases hy : y = x
    · rw [if_pos hy, if_pos ⟨by simp, hy⟩]
    · rw [if_neg hy, if_neg (fun h => hy h.2)]; simp
  | y :: l, i + 1, hi, h1, h2 => by
    have h0 : lexC y x < 0 := h1 0 (by omega)
    have ih := insU_at (x := x) (l := l) (i := i) (by simpa using hi) (fun k hk => h1 (k + 1) (by omega)) (by simpa using h2)
    unfold insU
    rw [if_pos h0, ih]
    by_cases hc : i < l.length ∧ l.getD i [] = x
    · rw [if_pos hc, if_pos ⟨by simpa using hc.1, hc.2⟩]
    · rw [if_neg hc, if_neg (fun h => hc ⟨by simpa using h.1, h.2⟩)]; simp
set_option maxHeartbeats 1600000 in
theorem l5Put_ok (Q : List (List Int)) (J x : List Int) (e n cap : Nat) (hQ : all24 Q) (hn : Q.length = n) (hc : (Q.flatten ++ J).length = cap * 24) (hx : x.length = 24) (hb : n ≤ 1000) :
    codeVC (⟨Try.prog, tys, [(104, l2Before_F)], [], true, true, 1, [], [(6, .tree (.one 1 (.one 2 (.one 3 (.one 8 (.one 9 (.one 10 (.alt 0 (.alt 4 (.one 5 (.one 6 (.one 7 (.one 11 (.one 12 .done))))) (.alt 5 (.alt 4 (.one 6 (.one 7 (.one 11 (.one 12 .done)))) (.alt 6 (.one 4 (.one 7 (.one 11 (.one 12 .done)))) .stop)) .stop)) (.alt 5 (.alt 0 (.alt 4 (.one 6 (.one 7 (.one 11 (.one 12 .done)))) (.alt 6 (.one 4 (.one 7 (.one 11 (.one 12 .done)))) .stop)) (.alt 6 (.one 0 (.one 4 (.one 7 (.one 11 (.one 12 .done))))) .stop)) .stop)))))))))]⟩ : Cx) 1 (Try.f62.body.getD .skip) (argS 0 [.slice 0 0 n cap, .arr x]) [(0, .ints (Q.flatten ++ J) e)] 1
      (retK tys Try.f62.results.toList (finK 1 1 fun v H' n' => (insU x Q = Q ∧ v = .slice 0 0 n cap ∧ H' = [] ∧ n' = 1) ∨ ∃ c j, v = .slice 1 0 (n + 1) c ∧ H' = [(1, .ints ((insU x Q).flatten ++ j) 29)] ∧ n' = 2 ∧ (insU x Q).length = n + 1 ∧ j.length + (n + 1) * 24 = c * 24)) := by
  have tx : x.take 24 = x := List.take_of_length_le (by omega)
  have eqr := eqI_rack
  have hfl := flat_len hQ
  simp -implicitDefEqProofs only [Try.f62, Option.getD_some, argS, hx, tx, ZB, Int.reduceToNat, Nat.reduceLT, Nat.reduceLeDiff, Int.reduceLE, Int.reduceLT, Nat.reduceEqDiff, Nat.reduceSub, SB, SV.known, packR, ne_eq, reduceCtorEq, Nat.reduceEqDiff, ↓reduceIte, if_true, if_false, eq_self, Nat.reduceAdd, Nat.reduceMul, Nat.reduceSub, forall_const, oneCellS, Kd.isSca, flat, TYB]
  refine loop_intro (fun i : Nat => [(5, .int i), (3, .ptr 1 0), (0, .slice 0 0 n cap)]) (fun _ => [(1, .ints x 29), (0, .ints (Q.flatten ++ J) e)]) 2 (fun i => i ≤ n ∧ ∀ k, k < i → lexC (Q.getD k []) x < 0) (fun i => n - i) ?_ ?_
  · refine ⟨0, ⟨by omega, by simp⟩, Sub.mk_id ?_ ?_ ?_ ?_ ?_⟩
    all_goals ((try simp only [LB, subS, subH, wfS, wfH, SV.ren, renL, SObj.ren, SV.wf, SObj.wf, wfL, SV.known, Nat.reduceEqDiff, ↓reduceIte, if_true, if_false, eq_self, Nat.reduceAdd, Nat.reduceLT, Nat.reduceLeDiff, implies_true, reduceCtorEq, forall_const]) <;> simp)
  · rintro i ⟨hi, hall⟩
    by_cases hlt : i < n
    · have hil : (i : Int) < n := by omega
      have lQ : i * 24 + 24 ≤ (Q.flatten ++ J).length := by rw [List.length_append, hfl]; omega
      have r1 : List.take 24 (List.drop (i * 24) (Q.flatten ++ J)) = Q.getD i [] := flat_get hQ (by omega) J
      have g1 := hQ _ (getD_mem (show i < Q.length by omega))
      by_cases hc1 : lexC (Q.getD i []) x < 0
      · simp -implicitDefEqProofs only [lk_normal, l2Before_F, hil, lQ, r1, g1, hx, tx, hc1, decide_true, ZB, Int.reduceToNat, Nat.reduceLT, Nat.reduceLeDiff, Int.reduceLE, Int.reduceLT, Nat.reduceEqDiff, Nat.reduceSub, SB, SV.known, packR, ne_eq, reduceCtorEq, Nat.reduceEqDiff, ↓reduceIte, if_true, if_false, eq_self, Nat.reduceAdd, Nat.reduceMul, Nat.reduceSub, forall_const, oneCellS, Kd.isSca, flat, TYB]
        refine ⟨by omega, by unfold In64; omega, i + 1, ⟨by omega, fun k hk => ?_⟩, by omega, Sub.mk_id ?_ ?_ ?_ ?_ ?_⟩
        · by_cases hki : k = i
          · subst hki; exact hc1
          · exact hall k (by omega)
        all_goals ((try simp only [LB, subS, subH, wfS, wfH, SV.ren, renL, SObj.ren, SV.wf, SObj.wf, wfL, SV.known, Nat.reduceEqDiff, ↓reduceIte, if_true, if_false, eq_self, Nat.reduceAdd, Nat.reduceLT, Nat.reduceLeDiff, implies_true, reduceCtorEq, forall_const]) <;> simp)
      · have iu := insU_at (x := x) (l := Q) (i := i) (by omega) hall (.inr hc1)
        by_cases hq : Q.getD i [] = x
        · have hq' := decide_eq_true hq
          have lr : ¬ lexC x x < 0 := by rw [lexC_refl]; omega
          rw [if_pos ⟨by omega, hq⟩] at iu
          simp -implicitDefEqProofs only [lk_normal, l2Before_F, hil, lQ, r1, g1, hx, tx, eqr, lr, hq, hq', decide_false, ZB, Int.reduceToNat, Nat.reduceLT, Nat.reduceLeDiff, Int.reduceLE, Int.reduceLT, Nat.reduceEqDiff, Nat.reduceSub, SB, SV.known, packR, ne_eq, reduceCtorEq, Nat.reduceEqDiff, ↓reduceIte, if_true, if_false, eq_self, Nat.reduceAdd, Nat.reduceMul, Nat.reduceSub, forall_const, oneCellS, Kd.isSca, flat, TYB]
          refine ⟨by omega, by omega, .slice 0 0 n cap, [], 1, Sub.mk_id ?_ ?_ ?_ ?_ ?_, .inl ⟨iu, rfl, rfl, rfl⟩⟩
          all_goals ((try simp only [LB, subS, subH, wfS, wfH, SV.ren, renL, SObj.ren, SV.wf, SObj.wf, wfL, SV.known, Nat.reduceEqDiff, ↓reduceIte, if_true, if_false, eq_self, Nat.reduceAdd, Nat.reduceLT, Nat.reduceLeDiff, implies_true, reduceCtorEq, forall_const]) <;> simp)
        · have hq' := decide_eq_false hq
          rw [if_neg (fun h => hq h.2)] at iu
          simp -implicitDefEqProofs only [lk_normal, l2Before_F, hil, lQ, r1, g1, hx, tx, eqr, hc1, hq', decide_false, ZB, Int.reduceToNat, Nat.reduceLT, Nat.reduceLeDiff, Int.reduceLE, Int.reduceLT, Nat.reduceEqDiff, Nat.reduceSub, SB, SV.known, packR, ne_eq, reduceCtorEq, Nat.reduceEqDiff, ↓reduceIte, if_true, if_false, eq_self, Nat.reduceAdd, Nat.reduceMul, Nat.reduceSub, forall_const, oneCellS, Kd.isSca, flat, TYB]
          have ic : i < cap := by rw [List.length_append, hfl] at hc; omega
          have nc : n ≤ cap := by rw [List.length_append, hfl] at hc; omega
          have co : cutOff cap i 0 24 = i * 24 := by unfold cutOff; rw [if_neg (by omega)]; omega
          have i0 : 0 ≤ (i : Int) := by omega
          have i1 : (i : Int) ≤ cap := by omega
          have i2 : (i : Int) ≤ n := by omega
          have s1 : srcE (.slice 0 (i * 24) (n - i) (cap - i)) = false := by
            obtain ⟨d, hd⟩ : ∃ d, n - i = d + 1 := ⟨n - i - 1, by omega⟩
            rw [hd]; rfl
          have ta : List.take (i * 24) (Q.flatten ++ J) = (Q.take i).flatten := by
            have e : Q.flatten = (Q.take i).flatten ++ (Q.drop i).flatten := by rw [← List.flatten_append, List.take_append_drop]
            rw [e, List.append_assoc, List.take_left' (by rw [flat_len fun y hy => hQ y (List.mem_of_mem_take hy), List.length_take]; omega)]
          have tb : List.take ((n - i) * 24) (List.drop (i * 24) (Q.flatten ++ J)) = (Q.drop i).flatten := by
            have e : Q.flatten = (Q.take i).flatten ++ (Q.drop i).flatten := by rw [← List.flatten_append, List.take_append_drop]
            rw [e, List.append_assoc, List.drop_left' (by rw [flat_len fun y hy => hQ y (List.mem_of_mem_take hy), List.length_take]; omega), List.take_left' (by rw [flat_len fun y hy => hQ y (List.mem_of_mem_drop hy), List.length_drop]; omega)]
          refine ⟨by omega, by omega, {s : Nat × List Int // s.2.length + (n + 1) * 24 = s.1 * 24}, fun s => [(4, .slice 2 0 (n + 1) s.1.1)], fun s => [(2, .ints ((insU x Q).flatten ++ s.1.2) 29)], fun _ => 3, ?_, ?_⟩
          · cases i with
            | zero =>
              have s3 : srcE (.slice 0 0 n cap) = false := by
                obtain ⟨d, rfl⟩ : ∃ d, n = d + 1 := ⟨n - 1, by omega⟩
                rfl
              have tq : List.take (n * 24) (Q.flatten ++ J) = Q.flatten := List.take_left' (by rw [hfl, hn])
              have c0 : 0 ≤ (cap : Int) := by omega
              have n0 : 0 ≤ (n : Int) := by omega
              simp -implicitDefEqProofs only [co, i0, i1, i2, c0, n0, s1, s3, ta, tb, tq, hx, tx, hc, ZB, Int.reduceToNat, Nat.reduceLT, Nat.reduceLeDiff, Int.reduceLE, Int.reduceLT, Nat.reduceEqDiff, Nat.reduceSub, SB, SV.known, packR, ne_eq, reduceCtorEq, Nat.reduceEqDiff, ↓reduceIte, if_true, if_false, eq_self, Nat.reduceAdd, Nat.reduceMul, Nat.reduceSub, forall_const, oneCellS, Kd.isSca, flat, TYB]
              have tj : ∀ J : List Int, List.take 24 (x ++ J) = x := fun J => List.take_left' hx
              have lj : ∀ J : List Int, (x ++ J).length = 24 + J.length := fun J => by rw [List.length_append, hx]
              have iu2 : (insU x Q).flatten = x ++ Q.flatten := by rw [iu]; simp
              have e1 : 1 + n = n + 1 := by omega
              repeat' apply And.intro
              all_goals (intro junk cap' hj; refine ⟨by rw [lj]; omega, by omega, by omega, by omega, by omega, by omega, fun junk1 cap1 hj1 => ⟨⟨(cap1, junk1), by show junk1.length + (n + 1) * 24 = cap1 * 24; omega⟩, Sub.mk_to 2 5 ?_ ?_ ?_ ?_ ?_ ?_ ?_⟩⟩)
              all_goals (try simp only [tj, iu2, e1])
              all_goals ((try simp only [LB, subS, subH, wfS, wfH, SV.ren, renL, SObj.ren, SV.wf, SObj.wf, wfL, SV.known, Nat.reduceEqDiff, ↓reduceIte, if_true, if_false, eq_self, Nat.reduceAdd, Nat.reduceLT, Nat.reduceLeDiff, implies_true, reduceCtorEq, forall_const]) <;> simp)
            | succ i =>
              have s2 : srcE (.slice 0 0 (i + 1) cap) = false := rfl
              have lA : (Q.take (i + 1)).flatten.length = (i + 1) * 24 := by
                rw [flat_len fun y hy => hQ y (List.mem_of_mem_take hy), List.length_take]; omega
              have iu2 : (insU x Q).flatten = (Q.take (i + 1)).flatten ++ x ++ (Q.drop (i + 1)).flatten := by rw [iu]; simp
              generalize hA : (Q.take (i + 1)).flatten = A at *
              have tl1 : ∀ J : List Int, List.take ((i + 1) * 24) (A ++ J) = A := fun J => List.take_left' lA
              have tl2 : ∀ J : List Int, List.take ((i + 1 + 1) * 24) (A ++ x ++ J) = A ++ x := fun J => List.take_left' (by rw [List.length_append, lA, hx]; omega)
              have ll1 : ∀ J : List Int, (A ++ J).length = (i + 1) * 24 + J.length := fun J => by rw [List.length_append, lA]
              have ll2 : ∀ J : List Int, (A ++ x ++ J).length = (i + 1) * 24 + 24 + J.length := fun J => by rw [List.length_append, List.length_append, lA, hx]
              have e1 : i + 1 + 1 + (n - (i + 1)) = n + 1 := by omega
              simp -implicitDefEqProofs only [co, i0, i1, i2, s1, s2, ta, tb, hx, tx, hc, tl1, tl2, ll2, e1, ZB, Int.reduceToNat, Nat.reduceLT, Nat.reduceLeDiff, Int.reduceLE, Int.reduceLT, Nat.reduceEqDiff, Nat.reduceSub, SB, SV.known, packR, ne_eq, reduceCtorEq, Nat.reduceEqDiff, ↓reduceIte, if_true, if_false, eq_self, Nat.reduceAdd, Nat.reduceMul, Nat.reduceSub, forall_const, oneCellS, Kd.isSca, flat, TYB]
              repeat' apply And.intro
              all_goals clear g1 hc1 lQ hall r1 hq hq' hil
              all_goals (first | (intro junk cap' hj; refine ⟨by rw [ll1]; omega, by omega, by omega, by omega, fun junk1 cap1 hj1 => ⟨by omega, by omega, by omega, by omega, by omega, by omega, fun junk2 cap2 hj2 => ⟨⟨(cap2, junk2), by show junk2.length + (n + 1) * 24 = cap2 * 24; omega⟩, Sub.mk_to 2 6 ?_ ?_ ?_ ?_ ?_ ?_ ?_⟩⟩⟩) | omega)
              all_goals (try simp only [iu2])
              all_goals ((try simp only [LB, subS, subH, wfS, wfH, SV.ren, renL, SObj.ren, SV.wf, SObj.wf, wfL, SV.known, Nat.reduceEqDiff, ↓reduceIte, if_true, if_false, eq_self, Nat.reduceAdd, Nat.reduceLT, Nat.reduceLeDiff, implies_true, reduceCtorEq, forall_const]) <;> simp)
          · rintro ⟨⟨c, j⟩, hj⟩
            simp only at hj
            simp -implicitDefEqProofs only [lk_normal, ZB, Int.reduceToNat, Nat.reduceLT, Nat.reduceLeDiff, Int.reduceLE, Int.reduceLT, Nat.reduceEqDiff, Nat.reduceSub, SB, SV.known, packR, ne_eq, reduceCtorEq, Nat.reduceEqDiff, ↓reduceIte, if_true, if_false, eq_self, Nat.reduceAdd, Nat.reduceMul, Nat.reduceSub, forall_const, oneCellS, Kd.isSca, flat, TYB]
            refine ⟨.slice 1 0 (n + 1) c, [(1, .ints ((insU x Q).flatten ++ j) 29)], 2, Sub.mk_to 1 2 ?_ ?_ ?_ ?_ ?_ ?_ ?_, .inr ⟨c, j, rfl, rfl, rfl, ?_, hj⟩⟩
            · simp only [LB, subS, subH, wfS, wfH, SV.ren, renL, SObj.ren, SV.wf, SObj.wf, wfL, SV.known, Nat.reduceEqDiff, ↓reduceIte, if_true, if_false, eq_self, Nat.reduceAdd, Nat.reduceLT, Nat.reduceLeDiff, implies_true, reduceCtorEq, forall_const]; try simp
            · simp only [LB, subS, subH, wfS, wfH, SV.ren, renL, SObj.ren, SV.wf, SObj.wf, wfL, SV.known, Nat.reduceEqDiff, ↓reduceIte, if_true, if_false, eq_self, Nat.reduceAdd, Nat.reduceLT, Nat.reduceLeDiff, implies_true, reduceCtorEq, forall_const]; try simp
            · simp only [LB, subS, subH, wfS, wfH, SV.ren, renL, SObj.ren, SV.wf, SObj.wf, wfL, SV.known, Nat.reduceEqDiff, ↓reduceIte, if_true, if_false, eq_self, Nat.reduceAdd, Nat.reduceLT, Nat.reduceLeDiff, implies_true, reduceCtorEq, forall_const]; try simp
            · simp only [LB, subS, subH, wfS, wfH, SV.ren, renL, SObj.ren, SV.wf, SObj.wf, wfL, SV.known, Nat.reduceEqDiff, ↓reduceIte, if_true, if_false, eq_self, Nat.reduceAdd, Nat.reduceLT, Nat.reduceLeDiff, implies_true, reduceCtorEq, forall_const]; try simp
            · omega
            · omega
            · simp
            · rw [iu]; simp; omega
    · have hil : ¬ (i : Int) < n := by omega
      obtain rfl : i = n := by omega
      simp -implicitDefEqProofs only [lk_normal, hil, ZB, Int.reduceToNat, Nat.reduceLT, Nat.reduceLeDiff, Int.reduceLE, Int.reduceLT, Nat.reduceEqDiff, Nat.reduceSub, SB, SV.known, packR, ne_eq, reduceCtorEq, Nat.reduceEqDiff, ↓reduceIte, if_true, if_false, eq_self, Nat.reduceAdd, Nat.reduceMul, Nat.reduceSub, forall_const, oneCellS, Kd.isSca, flat, TYB]
      have iu := insU_at (x := x) (l := Q) (i := i) (by omega) hall (.inl hn.symm)
      rw [if_neg (fun h => by omega)] at iu
      have nc : i ≤ cap := by rw [List.length_append, hfl] at hc; omega
      have i0 : 0 ≤ (i : Int) := by omega
      have i1 : (i : Int) ≤ cap := by omega
      have s1 : ∀ b o c, srcE (.slice b o 0 c) = true := fun _ _ _ => rfl
      have ta : List.take (i * 24) (Q.flatten ++ J) = Q.flatten := List.take_left' (by rw [hfl, hn])
      have iu2 : (insU x Q).flatten = Q.flatten ++ x := by
        rw [iu, List.take_of_length_le (by omega), List.drop_eq_nil_of_le (by omega)]; simp
      clear hall
      refine ⟨{s : Nat × List Int // s.2.length + (i + 1) * 24 = s.1 * 24}, fun s => [(4, .slice 2 0 (i + 1) s.1.1)], fun s => [(2, .ints ((insU x Q).flatten ++ s.1.2) 29)], fun _ => 3, ?_, ?_⟩
      · cases i with
        | zero =>
          obtain rfl : Q = [] := List.length_eq_zero_iff.1 hn
          simp -implicitDefEqProofs only [i0, i1, s1, hx, tx, hc, ZB, Int.reduceToNat, Nat.reduceLT, Nat.reduceLeDiff, Int.reduceLE, Int.reduceLT, Nat.reduceEqDiff, Nat.reduceSub, SB, SV.known, packR, ne_eq, reduceCtorEq, Nat.reduceEqDiff, ↓reduceIte, if_true, if_false, eq_self, Nat.reduceAdd, Nat.reduceMul, Nat.reduceSub, forall_const, oneCellS, Kd.isSca, flat, TYB]
          have iu3 : (insU x []).flatten = x := by simpa using iu2
          repeat' apply And.intro
          all_goals (first | (intro junk cap' hj; exact ⟨by omega, ⟨(cap', junk), by show junk.length + (0 + 1) * 24 = cap' * 24; omega⟩, Sub.mk_to 2 4 (by simp only [iu3, LB, subS, subH, wfS, wfH, SV.ren, renL, SObj.ren, SV.wf, SObj.wf, wfL, SV.known, Nat.reduceEqDiff, ↓reduceIte, if_true, if_false, eq_self, Nat.reduceAdd, Nat.reduceLT, Nat.reduceLeDiff, implies_true, reduceCtorEq, forall_const]; try simp) (by simp only [iu3, LB, subS, subH, wfS, wfH, SV.ren, renL, SObj.ren, SV.wf, SObj.wf, wfL, SV.known, Nat.reduceEqDiff, ↓reduceIte, if_true, if_false, eq_self, Nat.reduceAdd, Nat.reduceLT, Nat.reduceLeDiff, implies_true, reduceCtorEq, forall_const]; try simp) (by simp only [iu3, LB, subS, subH, wfS, wfH, SV.ren, renL, SObj.ren, SV.wf, SObj.wf, wfL, SV.known, Nat.reduceEqDiff, ↓reduceIte, if_true, if_false, eq_self, Nat.reduceAdd, Nat.reduceLT, Nat.reduceLeDiff, implies_true, reduceCtorEq, forall_const]; try simp) (by simp only [iu3, LB, subS, subH, wfS, wfH, SV.ren, renL, SObj.ren, SV.wf, SObj.wf, wfL, SV.known, Nat.reduceEqDiff, ↓reduceIte, if_true, if_false, eq_self, Nat.reduceAdd, Nat.reduceLT, Nat.reduceLeDiff, implies_true, reduceCtorEq, forall_const]; try simp) (by omega) (by omega) (by simp)⟩) | omega)
        | succ i =>
          have s2 : srcE (.slice 0 0 (i + 1) cap) = false := rfl
          have tl2 : ∀ J : List Int, List.take ((i + 1) * 24) (Q.flatten ++ J) = Q.flatten := fun J => List.take_left' (by rw [hfl, hn])
          have ll1 : ∀ J : List Int, (Q.flatten ++ J).length = (i + 1) * 24 + J.length := fun J => by rw [List.length_append, hfl, hn]
          simp -implicitDefEqProofs only [i0, i1, s1, s2, ta, hx, tx, hc, tl2, ZB, Int.reduceToNat, Nat.reduceLT, Nat.reduceLeDiff, Int.reduceLE, Int.reduceLT, Nat.reduceEqDiff, Nat.reduceSub, SB, SV.known, packR, ne_eq, reduceCtorEq, Nat.reduceEqDiff, ↓reduceIte, if_true, if_false, eq_self, Nat.reduceAdd, Nat.reduceMul, Nat.reduceSub, forall_const, oneCellS, Kd.isSca, flat, TYB]
          repeat' apply And.intro
          all_goals (first | (intro junk cap' hj; refine ⟨by rw [ll1]; omega, by omega, by omega, by omega, fun junk1 cap1 hj1 => ⟨by omega, ⟨(cap1, junk1), by show junk1.length + (i + 1 + 1) * 24 = cap1 * 24; omega⟩, Sub.mk_to 2 5 (by simp only [iu2, LB, subS, subH, wfS, wfH, SV.ren, renL, SObj.ren, SV.wf, SObj.wf, wfL, SV.known, Nat.reduceEqDiff, ↓reduceIte, if_true, if_false, eq_self, Nat.reduceAdd, Nat.reduceLT, Nat.reduceLeDiff, implies_true, reduceCtorEq, forall_const]; try simp) (by simp only [iu2, LB, subS, subH, wfS, wfH, SV.ren, renL, SObj.ren, SV.wf, SObj.wf, wfL, SV.known, Nat.reduceEqDiff, ↓reduceIte, if_true, if_false, eq_self, Nat.reduceAdd, Nat.reduceLT, Nat.reduceLeDiff, implies_true, reduceCtorEq, forall_const]; try simp) (by simp only [iu2, LB, subS, subH, wfS, wfH, SV.ren, renL, SObj.ren, SV.wf, SObj.wf, wfL, SV.known, Nat.reduceEqDiff, ↓reduceIte, if_true, if_false, eq_self, Nat.reduceAdd, Nat.reduceLT, Nat.reduceLeDiff, implies_true, reduceCtorEq, forall_const]; try simp) (by simp only [iu2, LB, subS, subH, wfS, wfH, SV.ren, renL, SObj.ren, SV.wf, SObj.wf, wfL, SV.known, Nat.reduceEqDiff, ↓reduceIte, if_true, if_false, eq_self, Nat.reduceAdd, Nat.reduceLT, Nat.reduceLeDiff, implies_true, reduceCtorEq, forall_const]; try simp) (by omega) (by omega) (by simp)⟩⟩) | omega)
      · rintro ⟨⟨c, j⟩, hj⟩
        simp only at hj
        simp -implicitDefEqProofs only [lk_normal, ZB, Int.reduceToNat, Nat.reduceLT, Nat.reduceLeDiff, Int.reduceLE, Int.reduceLT, Nat.reduceEqDiff, Nat.reduceSub, SB, SV.known, packR, ne_eq, reduceCtorEq, Nat.reduceEqDiff, ↓reduceIte, if_true, if_false, eq_self, Nat.reduceAdd, Nat.reduceMul, Nat.reduceSub, forall_const, oneCellS, Kd.isSca, flat, TYB]
        refine ⟨.slice 1 0 (i + 1) c, [(1, .ints ((insU x Q).flatten ++ j) 29)], 2, Sub.mk_to 1 2 ?_ ?_ ?_ ?_ ?_ ?_ ?_, .inr ⟨c, j, rfl, rfl, rfl, ?_, hj⟩⟩
        · simp only [LB, subS, subH, wfS, wfH, SV.ren, renL, SObj.ren, SV.wf, SObj.wf, wfL, SV.known, Nat.reduceEqDiff, ↓reduceIte, if_true, if_false, eq_self, Nat.reduceAdd, Nat.reduceLT, Nat.reduceLeDiff, implies_true, reduceCtorEq, forall_const]; try simp
        · simp only [LB, subS, subH, wfS, wfH, SV.ren, renL, SObj.ren, SV.wf, SObj.wf, wfL, SV.known, Nat.reduceEqDiff, ↓reduceIte, if_true, if_false, eq_self, Nat.reduceAdd, Nat.reduceLT, Nat.reduceLeDiff, implies_true, reduceCtorEq, forall_const]; try simp
        · simp only [LB, subS, subH, wfS, wfH, SV.ren, renL, SObj.ren, SV.wf, SObj.wf, wfL, SV.known, Nat.reduceEqDiff, ↓reduceIte, if_true, if_false, eq_self, Nat.reduceAdd, Nat.reduceLT, Nat.reduceLeDiff, implies_true, reduceCtorEq, forall_const]; try simp
        · simp only [LB, subS, subH, wfS, wfH, SV.ren, renL, SObj.ren, SV.wf, SObj.wf, wfL, SV.known, Nat.reduceEqDiff, ↓reduceIte, if_true, if_false, eq_self, Nat.reduceAdd, Nat.reduceLT, Nat.reduceLeDiff, implies_true, reduceCtorEq, forall_const]; try simp
        · omega
        · omega
        · simp
        · rw [iu]; simp; omega
end Go.Proofs.Ytdnechlmkbchaaa
