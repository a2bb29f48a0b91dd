/- Texts of this claim, joined (R, C, S, K, M, N, D, E, P, G, Pour, O, H, Q, Val, Bnd, View). -/
import Derived.Test.YtckcojgfgcjamaaQ1
import Derived.Test.YtckcojgfgcjamaaQ2
import Derived.Test.YtckcojgfgcjamaaQ3
set_option maxRecDepth 100000
set_option linter.unusedSimpArgs false
set_option linter.unusedVariables false
namespace Go.Proofs.Ytckcojgfgcjamaa
open Go Go.RowKit
/-! Tubes. -/
def isZ0 (x : Int) : Bool := decide (0 = x)
def coT (i : Int) : Bool := decide (1 ≤ i ∧ i ≤ 5)
def layN (t : List Int) : Nat := (t.findIdx? isZ0).getD 4
theorem index_ok (v : Int) (L : List Int) (e off len cap : Nat) (hl : off + len ≤ L.length) (hm : len ≤ 9223372036854775806) :
    PureH Try.prog 106 [.slice 0 off len cap, .int v] [(0, .ints L e)] (.int (idxI (fun x => decide (v = x)) ((L.drop off).take len))) := by
  have hE : ((L.drop off).take len).length = len := by simp; omega
  refine pure_of_vc (X := ⟨Try.prog, tys, [], [], true, true, 1, [], []⟩) fn_106 ⟨tys_ok, .nil, .nil, mixed⟩ (n0 := 1) (Nat.le_of_ble_eq_true rfl) (by simp [wfL, SV.wf]) (wfH_spec (by simp [wfH, SObj.wf, wfL, SV.wf])) (Nat.le_refl _) (fun _ => by simp [SV.wf, wfL]) ?_
  simp -implicitDefEqProofs only [Try.f106, Option.getD_some, argS, ZB, Int.reduceToNat, Nat.reduceLT, Nat.reduceLeDiff, Int.reduceLE, Int.reduceLT, Nat.reduceEqDiff, Nat.reduceSub, SB, SV.known, packR, ne_eq, reduceCtorEq, Nat.reduceEqDiff, ↓reduceIte, if_true, if_false, eq_self, Nat.reduceAdd, Nat.reduceMul, Nat.reduceSub, forall_const, oneCellS, litOne, flat1, Kd.isSca, flat, TYB]
  refine loop_intro (fun i : Nat => [(0, .slice 0 off len cap), (1, .int v), (7, .int len), (8, .int i)]) (fun _ => [(0, .ints L e)]) 1 (fun i => i ≤ len ∧ ∀ k, k < i → (fun x => decide (v = x)) (((L.drop off).take len).getD k 0) = false) (fun i => len - i) ?_ ?_
  · refine ⟨0, ⟨by omega, by simp⟩, Sub.mk_id ?_ ?_ ?_ ?_ ?_⟩
    all_goals simp only [LB, subS, subH, wfS, wfH, SV.ren, renL, SObj.ren, SV.wf, SObj.wf, wfL, SV.known, Nat.reduceEqDiff, ↓reduceIte, if_true, if_false, eq_self, Nat.reduceAdd, Nat.reduceLT, Nat.reduceLeDiff, implies_true, reduceCtorEq, forall_const]
    all_goals simp
  · intro i hi
    obtain ⟨hi1, hi2⟩ := hi
    simp -implicitDefEqProofs only [lk_normal, ZB, Int.reduceToNat, Nat.reduceLT, Nat.reduceLeDiff, Int.reduceLE, Int.reduceLT, Nat.reduceEqDiff, Nat.reduceSub, SB, SV.known, packR, ne_eq, reduceCtorEq, Nat.reduceEqDiff, ↓reduceIte, if_true, if_false, eq_self, Nat.reduceAdd, Nat.reduceMul, Nat.reduceSub, forall_const, oneCellS, litOne, flat1, Kd.isSca, flat, TYB]
    refine ⟨fun h => ?_, fun h => ?_⟩
    · have hlt : i < len := by omega
      rw [← getD_cut L off len i hlt]
      (try (and_intros <;> try (first | omega | (unfold In64; omega) | trivial | assumption)))
      all_goals intro hv
      · rw [idxI_hit (i := i) (by omega) (by simpa using hv) hi2]
      · (try (and_intros <;> try (first | omega | (unfold In64; omega) | trivial | assumption)))
        refine ⟨i + 1, ⟨by omega, fun k hk => ?_⟩, by omega, Sub.mk_id ?_ ?_ ?_ ?_ ?_⟩
        · by_cases hki : k = i
          · subst hki; simpa using hv
          · exact hi2 k (by omega)
        all_goals simp only [LB, subS, subH, wfS, wfH, SV.ren, renL, SObj.ren, SV.wf, SObj.wf, wfL, SV.known, Nat.reduceEqDiff, ↓reduceIte, if_true, if_false, eq_self, Nat.reduceAdd, Nat.reduceLT, Nat.reduceLeDiff, implies_true, reduceCtorEq, forall_const]
    · obtain rfl : i = len := by omega
      rw [idxI_none (by rw [hE]; exact hi2)]
--@tbl index = slices.Index[[]int,int]
def index_F : List SV → Heap → Option (Prop × SV)
  | [.slice b off len _, .int v], H => match hget H b with
    | some (.ints L _) => some (off + len ≤ L.length ∧ len ≤ 9223372036854775806, .int (idxI (fun x => decide (v = x)) ((L.drop off).take len)))
    | _ => none
  | _, _ => none
theorem index_T : ∀ args H p v, index_F args H = some (p, v) → p → PureH Try.prog 106 args H v := by
  intro args H p v h hp
  unfold index_F at h
  split at h
  · rename_i b off len cap v
    split at h
    · rename_i L e hb
      cases h
      exact (index_ok v L e off len cap hp.1 hp.2).sub (H := H) (fun _ => b) (fun j o hj => by
        rw [hget_cons] at hj
        split at hj
        · cases hj; exact ⟨hb, fun _ => by omega, by simp [*]⟩
        · cases hj) (fun a ha c hc _ => by simp at ha hc; omega) (fun _ => trivial)
    · cases h
  · cases h
theorem lay_idx (t : List Int) : (idxI (fun x => decide (0 = x)) t < 0 → layN t = 4) ∧ (¬ idxI (fun x => decide (0 = x)) t < 0 → idxI (fun x => decide (0 = x)) t = layN t) := by
  unfold idxI layN
  have e : (fun x : Int => decide (0 = x)) = isZ0 := rfl
  rw [e]
  cases t.findIdx? isZ0 with
  | none => exact ⟨fun _ => rfl, fun h => (h (by simp)).elim⟩
  | some k => exact ⟨fun h => by simp at h; omega, fun _ => rfl⟩
theorem lay_le (t : List Int) (h : t.length = 4) : layN t ≤ 4 := by
  unfold layN
  cases hf : t.findIdx? isZ0 with
  | none => simp
  | some k =>
    obtain ⟨hk, _⟩ := List.findIdx?_eq_some_iff_getElem.1 hf
    simp; omega
--@tbl layers = impl.layers
theorem layers_ok (t : List Int) (ht : t.length = 4) : PureH Try.prog 54 [.arr t] [] (.int (layN t)) := by
  have tk : t.take 4 = t := List.take_of_length_le (by omega)
  obtain ⟨l1, l2⟩ := lay_idx t
  refine pure_of_vc (X := ⟨Try.prog, tys, [(106, index_F)], [], true, true, 0, [], []⟩) fn_54 ⟨tys_ok, (.cons index_T .nil), .nil, mixed⟩ (n0 := 0) (Nat.le_of_ble_eq_true rfl) (by simp [wfL, SV.wf]) (wfH_spec (by simp [wfH, SObj.wf, wfL, SV.wf])) (Nat.le_refl _) (fun _ => by simp [SV.wf, wfL]) ?_
  simp -implicitDefEqProofs only [Try.f54, Option.getD_some, argS, index_F, tk, ht, ZB, Int.reduceToNat, Nat.reduceLT, Nat.reduceLeDiff, Int.reduceLE, Int.reduceLT, Nat.reduceEqDiff, Nat.reduceSub, SB, SV.known, packR, ne_eq, reduceCtorEq, Nat.reduceEqDiff, ↓reduceIte, if_true, if_false, eq_self, Nat.reduceAdd, Nat.reduceMul, Nat.reduceSub, forall_const, oneCellS, litOne, flat1, Kd.isSca, flat, TYB]
  exact ⟨fun h => by rw [l1 h]; rfl, fun h => by rw [l2 h]⟩
def layers_F : List SV → Heap → Option (Prop × SV)
  | [.arr t], _ => some (t.length = 4, .int (layN t))
  | _, _ => none
theorem layers_T : ∀ args H p v, layers_F args H = some (p, v) → p → PureH Try.prog 54 args H v := by
  intro args H p v h hp
  unfold layers_F at h
  split at h
  · cases h; exact (layers_ok _ hp).any _
  · cases h
def is0 (c : Int) : Bool := decide (c = 0)
def tubeB (t : List Int) : Bool := (t.take (layN t)).all coT && (t.drop (layN t)).all is0
theorem isTube1_ok (n : Int) : PureH Try.prog 121 [.int n] [] (.bool (is0 n)) := by
  refine pure_of_vc (X := ⟨Try.prog, tys, [], [], true, true, 0, [], []⟩) fn_121 ⟨tys_ok, .nil, .nil, mixed⟩ (n0 := 0) (Nat.le_of_ble_eq_true rfl) (by simp [wfL, SV.wf]) (wfH_spec (by simp [wfH, SObj.wf, wfL, SV.wf])) (Nat.le_refl _) (fun _ => by simp [SV.wf, wfL]) ?_
  simp -implicitDefEqProofs only [Try.f121, Option.getD_some, argS, SB, SV.known, packR, ne_eq, reduceCtorEq, Nat.reduceEqDiff, ↓reduceIte, if_true, if_false, eq_self, Nat.reduceAdd, Nat.reduceMul, Nat.reduceSub, forall_const, oneCellS, litOne, flat1, Kd.isSca, flat, TYB]
  trivial
theorem isColor_ok' (i : Int) : PureH Try.prog 72 [.int i] [] (.bool (coT i)) := by
  refine pure_of_vc (X := ⟨Try.prog, tys, [(63, within_F)], [], true, true, 0, [], []⟩) fn_72 ⟨tys_ok, (.cons within_T .nil), .nil, mixed⟩ (n0 := 0) (Nat.le_of_ble_eq_true rfl) (by simp [wfL, SV.wf]) (wfH_spec (by simp [wfH, SObj.wf, wfL, SV.wf])) (Nat.le_refl _) (fun _ => by simp [SV.wf, wfL]) ?_
  simp -implicitDefEqProofs only [Try.f72, Option.getD_some, argS, within_F, SB, SV.known, packR, ne_eq, reduceCtorEq, Nat.reduceEqDiff, ↓reduceIte, if_true, if_false, eq_self, Nat.reduceAdd, Nat.reduceMul, Nat.reduceSub, forall_const, oneCellS, litOne, flat1, Kd.isSca, flat, TYB]
  trivial
--@tbl areAll_tube = impl.areAll[int]
def areAll_tube_F := areAllI_F [(72, coT), (121, is0)]
theorem areAll_tube_T : ∀ args H p v, areAll_tube_F args H = some (p, v) → p → PureH Try.prog 78 args H v :=
  areAllI_T (by intro q hq; simp at hq; rcases hq with rfl | rfl; exact isColor_ok'; exact isTube1_ok)
theorem cut_take (t : List Int) (m l : Nat) : (t.drop (cutOff m l 0 1)).take (m - l) = (t.drop l).take (m - l) := by
  unfold cutOff
  split
  · rename_i h; subst h; simp
  · simp
--@tbl isTube = impl.isTube
theorem isTube_ok (t : List Int) (ht : t.length = 4) : PureH Try.prog 102 [.arr t] [] (.bool (tubeB t)) := by
  have tk : t.take 4 = t := List.take_of_length_le (by omega)
  have hle := lay_le t ht
  unfold tubeB
  cases h : (t.take (layN t)).all coT
  · refine pure_of_vc (X := ⟨Try.prog, tys, [(54, layers_F), (78, areAll_tube_F)], [], true, true, 0, [], []⟩) fn_102 ⟨tys_ok, (.cons layers_T (.cons areAll_tube_T .nil)), .nil, mixed⟩ (n0 := 0) (Nat.le_of_ble_eq_true rfl) (by simp [wfL, SV.wf]) (wfH_spec (by simp [wfH, SObj.wf, wfL, SV.wf])) (Nat.le_refl _) (fun _ => by simp [SV.wf, wfL]) ?_
    simp -implicitDefEqProofs only [Try.f102, Option.getD_some, argS, layers_F, areAll_tube_F, areAllI_F, tk, ht, h, ZB, Int.reduceToNat, Nat.reduceLT, Nat.reduceLeDiff, Int.reduceLE, Int.reduceLT, Nat.reduceEqDiff, Nat.reduceSub, SB, SV.known, packR, ne_eq, reduceCtorEq, Nat.reduceEqDiff, ↓reduceIte, if_true, if_false, eq_self, Nat.reduceAdd, Nat.reduceMul, Nat.reduceSub, forall_const, oneCellS, litOne, flat1, Kd.isSca, flat, TYB]
    (try (and_intros <;> try (first | omega | (unfold In64; omega) | trivial | assumption)))
  · refine pure_of_vc (X := ⟨Try.prog, tys, [(54, layers_F), (78, areAll_tube_F)], [], true, true, 0, [], []⟩) fn_102 ⟨tys_ok, (.cons layers_T (.cons areAll_tube_T .nil)), .nil, mixed⟩ (n0 := 0) (Nat.le_of_ble_eq_true rfl) (by simp [wfL, SV.wf]) (wfH_spec (by simp [wfH, SObj.wf, wfL, SV.wf])) (Nat.le_refl _) (fun _ => by simp [SV.wf, wfL]) ?_
    simp -implicitDefEqProofs only [Try.f102, Option.getD_some, argS, layers_F, areAll_tube_F, areAllI_F, tk, ht, h, cut_take, ZB, Int.reduceToNat, Nat.reduceLT, Nat.reduceLeDiff, Int.reduceLE, Int.reduceLT, Nat.reduceEqDiff, Nat.reduceSub, SB, SV.known, packR, ne_eq, reduceCtorEq, Nat.reduceEqDiff, ↓reduceIte, if_true, if_false, eq_self, Nat.reduceAdd, Nat.reduceMul, Nat.reduceSub, forall_const, oneCellS, litOne, flat1, Kd.isSca, flat, TYB]
    have e : (t.drop (layN t)).take (4 - layN t) = t.drop (layN t) := List.take_of_length_le (by simp; omega)
    rw [e]
    have hc : cutOff 4 (layN t) 0 1 + (4 - layN t) ≤ 4 := by unfold cutOff; split <;> omega
    (try (and_intros <;> try (first | omega | (unfold In64; omega) | trivial | assumption)))
/-! The same for tubes as elements. -/
def tubesOf (L : List Int) (off len : Nat) : List (List Int) := (List.range len).map fun i => (L.drop (off + i * 4)).take 4
theorem tubesOf_len (L : List Int) (off len : Nat) : (tubesOf L off len).length = len := by simp [tubesOf]
theorem tubesOf_getD (L : List Int) (off len k : Nat) (h : k < len) : (tubesOf L off len).getD k [] = (L.drop (off + k * 4)).take 4 := by simp [tubesOf, List.getD, h]
def idxG {α : Type} (pr : α → Bool) (l : List α) : Int := match l.findIdx? pr with
  | some k => k
  | none => -1
theorem idxG_hit {α : Type} {d : α} {pr : α → Bool} {l : List α} {i : Nat} (hi : i < l.length) (hp : pr (l.getD i d) = true) (hn : ∀ k, k < i → pr (l.getD k d) = false) : idxG pr l = i := by
  have : l.findIdx? pr = some i := by
    rw [List.findIdx?_eq_some_iff_getElem]
    refine ⟨hi, by simpa [List.getD, List.getElem?_eq_getElem hi] using hp, fun j hj => ?_⟩
    have := hn j hj
    simpa [List.getD, List.getElem?_eq_getElem (show j < l.length by omega)] using this
  simp [idxG, this]
theorem idxG_none {α : Type} {d : α} {pr : α → Bool} {l : List α} (hn : ∀ k, k < l.length → pr (l.getD k d) = false) : idxG pr l = -1 := by
  have : l.findIdx? pr = none := by
    rw [List.findIdx?_eq_none_iff]
    intro x hx
    obtain ⟨k, hk, rfl⟩ := List.getElem_of_mem hx
    have := hn k hk
    simpa [List.getD, List.getElem?_eq_getElem hk] using this
  simp [idxG, this]
theorem idxG_any {α : Type} (pr : α → Bool) (l : List α) : decide (0 ≤ idxG pr l) = l.any pr := by
  unfold idxG
  cases h : l.findIdx? pr with
  | none =>
    have := (List.findIdx?_eq_none_iff).1 h
    have e : l.any pr = false := by rw [List.any_eq_false]; intro x hx; simp [this x hx]
    rw [e]; decide
  | some k =>
    obtain ⟨hk, hp, _⟩ := List.findIdx?_eq_some_iff_getElem.1 h
    have e : l.any pr = true := List.any_eq_true.2 ⟨l[k], List.getElem_mem _, hp⟩
    rw [e]; simp
theorem indexFuncT_ok (g : Nat) (caps : List SV) (Hc : Heap) (pr : List Int → Bool) (n0 : Nat) (L : List Int) (e off len cap : Nat) (hl : off + len * 4 ≤ L.length) (hm : len ≤ 9223372036854775806)
    (hc : ∀ x ∈ tubesOf L off len, PureH Try.prog g (.arr x :: caps) ((0, .ints L e) :: Hc) (.bool (pr x))) (hw : wfL n0 caps) (hwH : hwf n0 ((0, .ints L e) :: Hc)) :
    PureH Try.prog 124 [.slice 0 off len cap, .fn g caps] ((0, .ints L e) :: Hc) (.int (idxG pr (tubesOf L off len))) := by
  have hE := tubesOf_len L off len
  have h00 : 0 < n0 := (hwH 0 _ (by rw [hget_cons, if_pos rfl])).1
  refine pure_of_vc (X := ⟨Try.prog, tys, [(g, fun args H => match args with | .arr x :: r => some (r = caps ∧ H = ((0, .ints L e) :: Hc) ∧ x ∈ tubesOf L off len, .bool (pr x)) | _ => none)], [], true, true, n0, [], []⟩) fn_124
    ⟨tys_ok, .cons (fun args H p v h hp => ?_) .nil, .nil, mixed⟩ (n0 := n0) (Nat.le_of_ble_eq_true rfl) ⟨by have := (hwH 0 _ (by rw [hget_cons, if_pos rfl])).1; simpa [SV.wf] using this, by simpa [SV.wf] using hw, trivial⟩ hwH (Nat.le_refl _) (fun _ => trivial) ?_
  · split at h
    · cases h
      obtain ⟨rfl, rfl, hx⟩ := hp
      exact hc _ hx
    · cases h
  simp -implicitDefEqProofs only [Try.f124, Option.getD_some, argS, SB, SV.known, packR, ne_eq, reduceCtorEq, Nat.reduceEqDiff, ↓reduceIte, if_true, if_false, eq_self, Nat.reduceAdd, Nat.reduceMul, Nat.reduceSub, forall_const, oneCellS, litOne, flat1, Kd.isSca, flat, TYB]
  refine loop_intro (fun i : Nat => [(0, .slice 0 off len cap), (1, .fn g caps), (7, .int len), (8, .int i)]) (fun i => (0, .ints L e) :: Hc) n0 (fun i => i ≤ len ∧ ∀ k, k < i → pr ((tubesOf L off len).getD k []) = false) (fun i => len - i) ?_ ?_
  · refine ⟨0, ⟨by omega, by simp⟩, Sub.same ?_ ?_ hwH (Nat.le_refl _)⟩
    · simp [subS, subH, wfS, wfH, SV.ren, renL, SObj.ren, SV.wf, SObj.wf, wfL, sget_cons, hget_cons, SV.known, renL_id]
    · simp [subS, subH, wfS, wfH, SV.ren, renL, SObj.ren, SV.wf, SObj.wf, wfL, sget_cons, hget_cons, hw, h00]
  · intro i hi
    obtain ⟨hi1, hi2⟩ := hi
    simp -implicitDefEqProofs only [lk_normal, SB, SV.known, packR, ne_eq, reduceCtorEq, Nat.reduceEqDiff, ↓reduceIte, if_true, if_false, eq_self, Nat.reduceAdd, Nat.reduceMul, Nat.reduceSub, forall_const, oneCellS, litOne, flat1, Kd.isSca, flat, TYB]
    refine ⟨fun h => ?_, fun h => ?_⟩
    · have hlt : i < len := by omega
      have e1 : off + (i : Int).toNat * 4 = off + i * 4 := by simp
      have e2 : (L.drop (off + i * 4)).take 4 = (tubesOf L off len).getD i [] := (tubesOf_getD L off len i hlt).symm
      simp only [e1, e2]
      refine ⟨by omega, by omega, by omega, ?_, ?_⟩
      · simp only [List.getD, List.getElem?_eq_getElem (show i < (tubesOf L off len).length by omega), Option.getD_some]
        exact List.getElem_mem _
      · cases hp : pr ((tubesOf L off len).getD i []) with
        | true =>
          simp -implicitDefEqProofs only [SB, SV.known, packR, ne_eq, reduceCtorEq, Nat.reduceEqDiff, ↓reduceIte, if_true, if_false, eq_self, Nat.reduceAdd, Nat.reduceMul, Nat.reduceSub, forall_const, oneCellS, litOne, flat1, Kd.isSca, flat, TYB]
          rw [idxG_hit (by omega) hp hi2]
        | false =>
          simp -implicitDefEqProofs only [lk_normal, SB, SV.known, packR, ne_eq, reduceCtorEq, Nat.reduceEqDiff, ↓reduceIte, if_true, if_false, eq_self, Nat.reduceAdd, Nat.reduceMul, Nat.reduceSub, forall_const, oneCellS, litOne, flat1, Kd.isSca, flat, TYB]
          refine ⟨by unfold In64; omega, i + 1, ⟨by omega, fun k hk => ?_⟩, by omega, Sub.same ?_ ?_ hwH (Nat.le_refl _)⟩
          · by_cases hki : k = i
            · subst hki; exact hp
            · exact hi2 k (by omega)
          · simp [subS, subH, wfS, wfH, SV.ren, renL, SObj.ren, SV.wf, SObj.wf, wfL, sget_cons, hget_cons, SV.known, renL_id]
          · simp [subS, subH, wfS, wfH, SV.ren, renL, SObj.ren, SV.wf, SObj.wf, wfL, sget_cons, hget_cons, hw, h00]
    · obtain rfl : i = len := by omega
      rw [idxG_none (by rw [hE]; exact hi2)]

theorem containsFuncT_ok (g : Nat) (caps : List SV) (Hc : Heap) (pr : List Int → Bool) (n0 : Nat) (L : List Int) (e off len cap : Nat) (hl : off + len * 4 ≤ L.length) (hm : len ≤ 9223372036854775806)
    (hc : ∀ x ∈ tubesOf L off len, PureH Try.prog g (.arr x :: caps) ((0, .ints L e) :: Hc) (.bool (pr x))) (hw : wfL n0 caps) (hwH : hwf n0 ((0, .ints L e) :: Hc)) :
    PureH Try.prog 119 [.slice 0 off len cap, .fn g caps] ((0, .ints L e) :: Hc) (.bool ((tubesOf L off len).any pr)) := by
  have h00 : 0 < n0 := (hwH 0 _ (by rw [hget_cons, if_pos rfl])).1
  refine pure_of_vc (X := ⟨Try.prog, tys, [(124, fun args H => some (args = [.slice 0 off len cap, .fn g caps] ∧ H = ((0, .ints L e) :: Hc), .int (idxG pr (tubesOf L off len))))], [], true, true, n0, [], []⟩) fn_119
    ⟨tys_ok, .cons (fun args H p v h hp => ?_) .nil, .nil, mixed⟩ (n0 := n0) (Nat.le_of_ble_eq_true rfl) ⟨by simpa [SV.wf] using h00, by simpa [SV.wf] using hw, trivial⟩ hwH (Nat.le_refl _) (fun _ => trivial) ?_
  · cases h
    obtain ⟨rfl, rfl⟩ := hp
    exact indexFuncT_ok g caps Hc pr n0 L e off len cap hl hm hc hw hwH
  simp -implicitDefEqProofs only [Try.f119, Option.getD_some, argS, SB, SV.known, packR, ne_eq, reduceCtorEq, Nat.reduceEqDiff, ↓reduceIte, if_true, if_false, eq_self, Nat.reduceAdd, Nat.reduceMul, Nat.reduceSub, forall_const, oneCellS, litOne, flat1, Kd.isSca, flat, TYB, idxG_any]

/-- areAll's own closure. -/
theorem tubesOf_mem {L : List Int} {off len : Nat} (h : off + len * 4 ≤ L.length) {x : List Int} (hx : x ∈ tubesOf L off len) : x.length = 4 := by
  obtain ⟨i, hi, rfl⟩ := List.mem_map.1 hx
  have := List.mem_range.1 hi
  rw [List.length_take, List.length_drop]; omega
theorem areAllT1_ok (x : List Int) (hx4 : x.length = 4) (g : Nat) (pr : List Int → Bool) (k et : Nat) (H : Heap) (hk : hget H k = some (.cells [.fn g []] et)) (hg : PureH Try.prog g [.arr x] [] (.bool (pr x))) :
    PureH Try.prog 120 [.arr x, .ptr k 0] H (.bool (!pr x)) := by
  have h0 : PureH Try.prog 120 [.arr x, .ptr 0 0] [(0, .cells [.fn g []] et)] (.bool (!pr x)) := by
    refine pure_of_vc (X := ⟨Try.prog, tys, [(g, fun args _ => some (args = [.arr x], .bool (pr x)))], [], true, true, 1, [], []⟩) fn_120
      ⟨tys_ok, .cons (fun args H p v h hp => ?_) .nil, .nil, mixed⟩ (n0 := 1) (Nat.le_of_ble_eq_true rfl) (by simp [wfL, SV.wf]) (wfH_spec (by simp [wfH, SObj.wf, wfL, SV.wf])) (Nat.le_refl _) (fun _ => trivial) ?_
    · cases h; subst hp; exact hg.any H
    have tkx : x.take 4 = x := List.take_of_length_le (by omega)
    simp -implicitDefEqProofs only [Try.f120, hx4, tkx, Option.getD_some, argS, SB, SV.known, packR, ne_eq, reduceCtorEq, Nat.reduceEqDiff, ↓reduceIte, if_true, if_false, eq_self, Nat.reduceAdd, Nat.reduceMul, Nat.reduceSub, forall_const, oneCellS, litOne, flat1, Kd.isSca, flat, TYB]
  exact h0.sub (H := H) (fun _ => k) (fun j o hj => by
    rw [hget_cons] at hj
    split at hj
    · cases hj; exact ⟨hk, fun _ => by omega, by simp [*]⟩
    · cases hj) (fun a ha b hb _ => by simp at ha hb; omega) (fun _ => trivial)

theorem all_anyT (pr : List Int → Bool) (l : List (List Int)) : (!l.any fun x => !pr x) = l.all pr := by simp [List.all_eq_not_any_not]

theorem areAllT_ok (g : Nat) (pr : List Int → Bool) (L : List Int) (e off len cap : Nat) (hl : off + len * 4 ≤ L.length) (hm : len ≤ 9223372036854775806) (hg : ∀ x ∈ tubesOf L off len, PureH Try.prog g [.arr x] [] (.bool (pr x))) :
    PureH Try.prog 101 [.slice 0 off len cap, .fn g []] [(0, .ints L e)] (.bool ((tubesOf L off len).all pr)) := by
  refine pure_of_vc (X := ⟨Try.prog, tys, [(119, fun args H => some (args = [.slice 0 off len cap, .fn 120 [.ptr 1 0]] ∧ hget H 0 = some (.ints L e) ∧ ∃ et, hget H 1 = some (.cells [.fn g []] et), .bool ((tubesOf L off len).any fun x => !pr x)))], [], true, true, 1, [], []⟩) fn_101
    ⟨tys_ok, .cons (fun args H p v h hp => ?_) .nil, .nil, mixed⟩ (n0 := 1) (Nat.le_of_ble_eq_true rfl) (by simp [wfL, SV.wf]) (wfH_spec (by simp [wfH, SObj.wf])) (Nat.le_refl _) (fun _ => trivial) ?_
  · cases h
    obtain ⟨rfl, h0, et, h1⟩ := hp
    have := containsFuncT_ok 120 [.ptr 1 0] [(1, .cells [.fn g []] et)] (fun x => !pr x) 2 L e off len cap hl hm (fun x hx => areAllT1_ok x (tubesOf_mem hl hx) g pr 1 et _ (by simp [hget_cons]) (hg x hx)) (by simp [wfL, SV.wf]) (wfH_spec (by simp [wfH, SObj.wf, wfL, SV.wf]))
    refine this.weaken (fun k o hk => ?_) (fun _ => trivial)
    simp only [hget_cons, hget_nil] at hk
    split at hk
    · rename_i h; cases hk; rw [h]; exact h0
    · split at hk
      · rename_i h; cases hk; rw [h]; exact h1
      · cases hk
  simp -implicitDefEqProofs only [Try.f101, Option.getD_some, argS, SB, SV.known, packR, ne_eq, reduceCtorEq, Nat.reduceEqDiff, ↓reduceIte, if_true, if_false, eq_self, Nat.reduceAdd, Nat.reduceMul, Nat.reduceSub, forall_const, oneCellS, litOne, flat1, Kd.isSca, flat, TYB, all_anyT]
  exact ⟨_, rfl⟩

end Go.Proofs.Ytckcojgfgcjamaa
set_option maxRecDepth 100000
set_option linter.unusedSimpArgs false
set_option linter.unusedVariables false
namespace Go.Proofs.Ytckcojgfgcjamaa
open Go Go.RowKit

/-! Sums. -/
def Bd (a b : Int) (l : List Int) : Prop := ∀ x ∈ l, a ≤ x ∧ x ≤ b
theorem Bd.getD {a b : Int} {l : List Int} (h : Bd a b l) {k : Nat} (hk : k < l.length) : a ≤ l.getD k 0 ∧ l.getD k 0 ≤ b := by
  simp only [List.getD, List.getElem?_eq_getElem hk, Option.getD_some]
  exact h _ (List.getElem_mem _)
theorem Bd.take {a b : Int} {l : List Int} (h : Bd a b l) (k : Nat) : Bd a b (l.take k) := fun x hx => h x (List.mem_of_mem_take hx)
theorem Bd.drop {a b : Int} {l : List Int} (h : Bd a b l) (k : Nat) : Bd a b (l.drop k) := fun x hx => h x (List.mem_of_mem_drop hx)
theorem sum_bd {a b : Int} : ∀ (l : List Int), Bd a b l → a * l.length ≤ l.sum ∧ l.sum ≤ b * l.length
  | [], _ => by simp
  | x :: r, h => by
    have h1 := h x (by simp)
    have h2 := sum_bd r fun y hy => h y (by simp [hy])
    simp only [List.sum_cons, List.length_cons]
    have e1 : a * ((r.length + 1 : Nat) : Int) = a * r.length + a := by rw [Int.natCast_add, Int.mul_add]; simp
    have e2 : b * ((r.length + 1 : Nat) : Int) = b * r.length + b := by rw [Int.natCast_add, Int.mul_add]; simp
    omega
theorem sum_take_succ (l : List Int) (k : Nat) (h : k < l.length) : (l.take (k + 1)).sum = (l.take k).sum + l.getD k 0 := by
  rw [List.take_succ_eq_append_getElem h, List.sum_append]
  simp [List.getD, List.getElem?_eq_getElem h]

--@tbl sum = impl.sum
theorem sum_ok (L : List Int) (e off len cap : Nat) (hl : off + len ≤ L.length) (hm : len ≤ 1000) (hb : Bd (-1000000) 1000000 ((L.drop off).take len)) :
    PureH Try.prog 68 [.slice 0 off len cap] [(0, .ints L e)] (.int ((L.drop off).take len).sum) := by
  have hE : ((L.drop off).take len).length = len := by simp; omega
  refine pure_of_vc (X := ⟨Try.prog, tys, [], [], true, true, 1, [], []⟩) fn_68 ⟨tys_ok, .nil, .nil, mixed⟩ (n0 := 1) (Nat.le_of_ble_eq_true rfl) (by simp [wfL, SV.wf]) (wfH_spec (by simp [wfH, SObj.wf, wfL, SV.wf])) (Nat.le_refl _) (fun _ => by simp [SV.wf, wfL]) ?_
  simp -implicitDefEqProofs only [Try.f68, Option.getD_some, argS, SB, SV.known, packR, ne_eq, reduceCtorEq, Nat.reduceEqDiff, ↓reduceIte, if_true, if_false, eq_self, Nat.reduceAdd, Nat.reduceMul, Nat.reduceSub, forall_const, oneCellS, litOne, flat1, Kd.isSca, flat, TYB]
  refine loop_intro (fun i : Nat => [(6, .slice 0 off len cap), (7, .int len), (8, .int i), (3, .int (((L.drop off).take len).take i).sum)]) (fun _ => [(0, .ints L e)]) 1 (fun i => i ≤ len) (fun i => len - i) ?_ ?_
  · refine ⟨0, by omega, Sub.mk_id ?_ ?_ ?_ ?_ ?_⟩
    all_goals simp only [LB, subS, subH, wfS, wfH, SV.ren, renL, SObj.ren, SV.wf, SObj.wf, wfL, SV.known, Nat.reduceEqDiff, ↓reduceIte, if_true, if_false, eq_self, Nat.reduceAdd, Nat.reduceLT, Nat.reduceLeDiff, implies_true, reduceCtorEq, forall_const]
    all_goals simp
  · intro i hi
    simp -implicitDefEqProofs only [lk_normal, SB, SV.known, packR, ne_eq, reduceCtorEq, Nat.reduceEqDiff, ↓reduceIte, if_true, if_false, eq_self, Nat.reduceAdd, Nat.reduceMul, Nat.reduceSub, forall_const, oneCellS, litOne, flat1, Kd.isSca, flat, TYB]
    simp only [Int.toNat_natCast, Nat.mul_one]
    have hb1 := sum_bd _ (hb.take i)
    have hl1 : (((L.drop off).take len).take i).length = i := by rw [List.length_take, hE]; omega
    rw [hl1] at hb1
    refine ⟨fun h => ?_, fun h => ?_⟩
    · have hlt : i < len := by omega
      have hg := hb.getD (k := i) (by omega)
      rw [← getD_cut L off len i hlt]
      refine ⟨by omega, by omega, by omega, by unfold In64; omega, by unfold In64; omega, i + 1, by omega, by omega, Sub.mk_id ?_ ?_ ?_ ?_ ?_⟩
      any_goals (simp only [LB, subS, subH, wfS, wfH, SV.ren, renL, SObj.ren, SV.wf, SObj.wf, wfL, SV.known, Nat.reduceEqDiff, ↓reduceIte, if_true, if_false, eq_self, Nat.reduceAdd, Nat.reduceLT, Nat.reduceLeDiff, implies_true, reduceCtorEq, forall_const]; done)
      simp only [LB, subS, subH, wfS, wfH, SV.ren, renL, SObj.ren, SV.wf, SObj.wf, wfL, SV.known, Nat.reduceEqDiff, ↓reduceIte, if_true, if_false, eq_self, Nat.reduceAdd, Nat.reduceLT, Nat.reduceLeDiff, implies_true, reduceCtorEq, forall_const]
      exact (sum_take_succ _ i (by omega)).symm
    · obtain rfl : i = len := by omega
      rw [List.take_take, Nat.min_self]
def sum_F : List SV → Heap → Option (Prop × SV)
  | [.slice b off len _], H => match hget H b with
    | some (.ints L _) => some (off + len ≤ L.length ∧ len ≤ 1000 ∧ Bd (-1000000) 1000000 ((L.drop off).take len), .int ((L.drop off).take len).sum)
    | _ => none
  | _, _ => none
theorem one_block {P : Program} {f : FuncId} {args : List SV} {o : SObj} {r : SV} {H : Heap} {b : Nat} (h : PureH P f args [(0, o)] r) (hb : hget H b = some o) (ho : o.ren (fun _ => b) = o) (hr : ∀ n, r.wf n) : PureH P f (renL (fun _ => b) args) H r :=
  h.sub (fun _ => b) (fun j o' hj => by
    rw [hget_cons] at hj
    split at hj
    · cases hj; exact ⟨by rw [ho]; exact hb, fun _ => by omega, by simp [*]⟩
    · cases hj) (fun a ha c hc _ => by simp at ha hc; omega) hr
theorem sum_T : ∀ args H p v, sum_F args H = some (p, v) → p → PureH Try.prog 68 args H v := by
  intro args H p v h hp
  unfold sum_F at h
  split at h
  · rename_i b off len cap
    split at h
    · rename_i L e hb
      cases h
      exact one_block (sum_ok L e off len cap hp.1 hp.2.1 hp.2.2) hb rfl (fun _ => trivial)
    · cases h
  · cases h

/-! Arrangements. -/
def arrN : Nat → Int × Int → Int × Int
  | 0, s => s
  | k + 1, s => (IntKind.i64.wrap ((IntKind.i64.wrap ((arrN k s).1 * ((arrN k s).2 + 1))).tdiv (k + 1)), (arrN k s).2 + 1)
def arrL : List Int → Int × Int → Int × Int
  | [], s => s
  | n :: r, s => arrL r (arrN n.toNat s)
def arrF (l : List Int) : Int := (arrL l (1, 0)).1
theorem arrN_snd : ∀ (k : Nat) (s : Int × Int), (arrN k s).2 = s.2 + k
  | 0, s => by simp [arrN]
  | k + 1, s => by simp only [arrN]; rw [arrN_snd k s]; omega
theorem arrL_append : ∀ (l m : List Int) (s : Int × Int), arrL (l ++ m) s = arrL m (arrL l s)
  | [], m, s => rfl
  | n :: r, m, s => by simp only [List.cons_append, arrL]; exact arrL_append r m _
theorem arrL_take_succ (l : List Int) (k : Nat) (h : k < l.length) (s : Int × Int) : arrL (l.take (k + 1)) s = arrN (l.getD k 0).toNat (arrL (l.take k) s) := by
  rw [List.take_succ_eq_append_getElem h, arrL_append]
  simp [arrL, List.getD, List.getElem?_eq_getElem h]
theorem arrL_snd (m : Int) : ∀ (l : List Int) (s : Int × Int), Bd 0 m l → s.2 ≤ (arrL l s).2 ∧ (arrL l s).2 ≤ s.2 + m * l.length
  | [], s, _ => by simp [arrL]
  | n :: r, s, h => by
    have h1 := h n (by simp)
    have h2 := arrL_snd m r (arrN n.toNat s) fun y hy => h y (by simp [hy])
    rw [arrN_snd] at h2
    simp only [arrL, List.length_cons]
    have e1 : m * ((r.length + 1 : Nat) : Int) = m * r.length + m := by rw [Int.natCast_add, Int.mul_add]; simp
    omega

--@tbl arrangements = impl.arrangements
theorem arrangements_ok (L : List Int) (hL : L.length = 6) (hb : Bd 0 1000000 L) : PureH Try.prog 55 [.arr L] [] (.int (arrF L)) := by
  have tk : L.take 6 = L := List.take_of_length_le (by omega)
  refine pure_of_vc (X := ⟨Try.prog, tys, [], [], true, false, 0, [], []⟩) fn_55 ⟨tys_ok, .nil, .nil, mixed⟩ (n0 := 0) (Nat.le_of_ble_eq_true rfl) (by simp [wfL, SV.wf]) (wfH_spec (by simp [wfH, SObj.wf, wfL, SV.wf])) (Nat.le_refl _) (fun _ => by simp [SV.wf, wfL]) ?_
  simp -implicitDefEqProofs only [Try.f55, Option.getD_some, argS, tk, hL, SB, SV.known, packR, ne_eq, reduceCtorEq, Nat.reduceEqDiff, ↓reduceIte, if_true, if_false, eq_self, Nat.reduceAdd, Nat.reduceMul, Nat.reduceSub, forall_const, oneCellS, litOne, flat1, Kd.isSca, flat, TYB]
  refine loop_intro (fun i : Nat => [(1, .ptr 0 0), (8, .arr L), (9, .int i), (3, .int (arrL (L.take i) (1, 0)).1), (4, .int (arrL (L.take i) (1, 0)).2)]) (fun _ => [(0, .ints L 29)]) 1 (fun i => i ≤ 6) (fun i => 6 - i) ?_ ?_
  · refine ⟨0, by omega, Sub.mk_id ?_ ?_ ?_ ?_ ?_⟩
    all_goals simp only [LB, subS, subH, wfS, wfH, SV.ren, renL, SObj.ren, SV.wf, SObj.wf, wfL, SV.known, Nat.reduceEqDiff, ↓reduceIte, if_true, if_false, eq_self, Nat.reduceAdd, Nat.reduceLT, Nat.reduceLeDiff, implies_true, reduceCtorEq, forall_const]
    all_goals simp [arrL]
  · intro i hi
    simp -implicitDefEqProofs only [lk_normal, SB, SV.known, packR, ne_eq, reduceCtorEq, Nat.reduceEqDiff, ↓reduceIte, if_true, if_false, eq_self, Nat.reduceAdd, Nat.reduceMul, Nat.reduceSub, forall_const, oneCellS, litOne, flat1, Kd.isSca, flat, TYB]
    simp only [Int.toNat_natCast, Nat.mul_one]
    refine ⟨fun h => ?_, fun h => ?_⟩
    · have hlt : i < 6 := by omega
      have hg := hb.getD (k := i) (by omega)
      refine ⟨by omega, by omega, by omega, ?_⟩
      refine loop_intro (fun j : Nat => [(1, .ptr 0 0), (8, .arr L), (9, .int i), (12, .int (L.getD i 0)), (13, .int j), (3, .int (arrN j (arrL (L.take i) (1, 0))).1), (4, .int (arrN j (arrL (L.take i) (1, 0))).2)]) (fun _ => [(0, .ints L 29)]) 1 (fun j => j ≤ (L.getD i 0).toNat) (fun j => (L.getD i 0).toNat - j) ?_ ?_
      · refine ⟨0, by omega, Sub.mk_id ?_ ?_ ?_ ?_ ?_⟩
        all_goals simp only [LB, subS, subH, wfS, wfH, SV.ren, renL, SObj.ren, SV.wf, SObj.wf, wfL, SV.known, Nat.reduceEqDiff, ↓reduceIte, if_true, if_false, eq_self, Nat.reduceAdd, Nat.reduceLT, Nat.reduceLeDiff, implies_true, reduceCtorEq, forall_const]
        all_goals simp [arrN]
      · intro j hj
        simp -implicitDefEqProofs only [lk_normal, SB, SV.known, packR, ne_eq, reduceCtorEq, Nat.reduceEqDiff, ↓reduceIte, if_true, if_false, eq_self, Nat.reduceAdd, Nat.reduceMul, Nat.reduceSub, forall_const, oneCellS, litOne, flat1, Kd.isSca, flat, TYB]
        have h1 := arrN_snd j (arrL (L.take i) (1, 0))
        have h2 := arrL_snd 1000000 (L.take i) (1, 0) (hb.take i)
        have hl1 : (L.take i).length = i := by rw [List.length_take]; omega
        rw [hl1] at h2
        simp only at h2
        refine ⟨fun h => ?_, fun h => ?_⟩
        · refine ⟨by unfold In64; omega, by unfold In64; omega, by omega, by unfold In64; omega, j + 1, by omega, by omega, Sub.mk_id ?_ ?_ ?_ ?_ ?_⟩
          any_goals (simp only [LB, subS, subH, wfS, wfH, SV.ren, renL, SObj.ren, SV.wf, SObj.wf, wfL, SV.known, Nat.reduceEqDiff, ↓reduceIte, if_true, if_false, eq_self, Nat.reduceAdd, Nat.reduceLT, Nat.reduceLeDiff, implies_true, reduceCtorEq, forall_const]; done)
          simp only [LB, subS, subH, wfS, wfH, SV.ren, renL, SObj.ren, SV.wf, SObj.wf, wfL, SV.known, Nat.reduceEqDiff, ↓reduceIte, if_true, if_false, eq_self, Nat.reduceAdd, Nat.reduceLT, Nat.reduceLeDiff, implies_true, reduceCtorEq, forall_const, arrN]
        · have e1 : (L.getD i 0).toNat = j := by omega
          refine ⟨by unfold In64; omega, i + 1, by omega, by omega, Sub.mk_id ?_ ?_ ?_ ?_ ?_⟩
          any_goals (simp only [LB, subS, subH, wfS, wfH, SV.ren, renL, SObj.ren, SV.wf, SObj.wf, wfL, SV.known, Nat.reduceEqDiff, ↓reduceIte, if_true, if_false, eq_self, Nat.reduceAdd, Nat.reduceLT, Nat.reduceLeDiff, implies_true, reduceCtorEq, forall_const]; done)
          simp only [LB, subS, subH, wfS, wfH, SV.ren, renL, SObj.ren, SV.wf, SObj.wf, wfL, SV.known, Nat.reduceEqDiff, ↓reduceIte, if_true, if_false, eq_self, Nat.reduceAdd, Nat.reduceLT, Nat.reduceLeDiff, implies_true, reduceCtorEq, forall_const]
          rw [arrL_take_succ L i (by omega), e1]
          exact ⟨rfl, rfl⟩
    · obtain rfl : i = 6 := by omega
      rw [tk]
      rfl
def arrangements_F : List SV → Heap → Option (Prop × SV)
  | [.arr L], _ => some (L.length = 6 ∧ Bd 0 1000000 L, .int (arrF L))
  | _, _ => none
theorem arrangements_T : ∀ args H p v, arrangements_F args H = some (p, v) → p → PureH Try.prog 55 args H v := by
  intro args H p v h hp
  unfold arrangements_F at h
  split at h
  · cases h; exact (arrangements_ok _ hp.1 hp.2).any _
  · cases h

--@tbl l7Ways = spec.l7Ways
theorem l7Ways_ok (L : List Int) (hL : L.length = 6) (hb : Bd 0 1000000 (L.drop 1)) : PureH Try.prog 58 [.arr L] [] (.int (arrF (L.drop 1))) := by
  refine pure_of_vc (X := ⟨Try.prog, tys, [], [], true, false, 0, [], []⟩) fn_58 ⟨tys_ok, .nil, .nil, mixed⟩ (n0 := 0) (Nat.le_of_ble_eq_true rfl) (by simp [wfL, SV.wf]) (wfH_spec (by simp [wfH, SObj.wf, wfL, SV.wf])) (Nat.le_refl _) (fun _ => by simp [SV.wf, wfL]) ?_
  simp -implicitDefEqProofs only [Try.f58, Option.getD_some, argS, SB, SV.known, packR, ne_eq, reduceCtorEq, Nat.reduceEqDiff, ↓reduceIte, if_true, if_false, eq_self, Nat.reduceAdd, Nat.reduceMul, Nat.reduceSub, forall_const, oneCellS, litOne, flat1, Kd.isSca, flat, TYB]
  refine loop_intro (fun i : Nat => [(1, .ptr 0 0), (5, .int (i + 1)), (3, .int (arrL ((L.drop 1).take i) (1, 0)).1), (4, .int (arrL ((L.drop 1).take i) (1, 0)).2)]) (fun _ => [(0, .ints L 29)]) 1 (fun i => i ≤ 5) (fun i => 5 - i) ?_ ?_
  · refine ⟨0, by omega, Sub.mk_id ?_ ?_ ?_ ?_ ?_⟩
    all_goals simp only [LB, subS, subH, wfS, wfH, SV.ren, renL, SObj.ren, SV.wf, SObj.wf, wfL, SV.known, Nat.reduceEqDiff, ↓reduceIte, if_true, if_false, eq_self, Nat.reduceAdd, Nat.reduceLT, Nat.reduceLeDiff, implies_true, reduceCtorEq, forall_const]
    all_goals simp [arrL]
  · intro i hi
    simp -implicitDefEqProofs only [lk_normal, SB, SV.known, packR, ne_eq, reduceCtorEq, Nat.reduceEqDiff, ↓reduceIte, if_true, if_false, eq_self, Nat.reduceAdd, Nat.reduceMul, Nat.reduceSub, forall_const, oneCellS, litOne, flat1, Kd.isSca, flat, TYB]
    refine ⟨fun h => ?_, fun h => ?_⟩
    · have hlt : i < 5 := by omega
      have hd : (L.drop 1).length = 5 := by simp; omega
      have hg := hb.getD (k := i) (by omega)
      have ed : (L.drop 1).getD i 0 = L.getD (i + 1) 0 := by simp [List.getD, Nat.add_comm]
      refine loop_intro (fun j : Nat => [(1, .ptr 0 0), (5, .int (i + 1)), (6, .int (j + 1)), (3, .int (arrN j (arrL ((L.drop 1).take i) (1, 0))).1), (4, .int (arrN j (arrL ((L.drop 1).take i) (1, 0))).2)]) (fun _ => [(0, .ints L 29)]) 1 (fun j => j ≤ ((L.drop 1).getD i 0).toNat) (fun j => ((L.drop 1).getD i 0).toNat - j) ?_ ?_
      · refine ⟨0, by omega, Sub.mk_id ?_ ?_ ?_ ?_ ?_⟩
        all_goals simp only [LB, subS, subH, wfS, wfH, SV.ren, renL, SObj.ren, SV.wf, SObj.wf, wfL, SV.known, Nat.reduceEqDiff, ↓reduceIte, if_true, if_false, eq_self, Nat.reduceAdd, Nat.reduceLT, Nat.reduceLeDiff, implies_true, reduceCtorEq, forall_const]
        all_goals simp [arrN]
      · intro j hj
        simp -implicitDefEqProofs only [lk_normal, SB, SV.known, packR, ne_eq, reduceCtorEq, Nat.reduceEqDiff, ↓reduceIte, if_true, if_false, eq_self, Nat.reduceAdd, Nat.reduceMul, Nat.reduceSub, forall_const, oneCellS, litOne, flat1, Kd.isSca, flat, TYB]
        have e0 : ((i : Int) + 1).toNat = i + 1 := by omega
        simp only [e0, Nat.mul_one]
        have h1 := arrN_snd j (arrL ((L.drop 1).take i) (1, 0))
        have h2 := arrL_snd 1000000 ((L.drop 1).take i) (1, 0) (hb.take i)
        have hl1 : ((L.drop 1).take i).length = i := by rw [List.length_take]; omega
        rw [hl1] at h2
        simp only at h2
        rw [ed] at hg hj
        refine ⟨by omega, by omega, by omega, fun h => ?_, fun h => ?_⟩
        · refine ⟨by unfold In64; omega, by omega, by unfold In64; omega, j + 1, by rw [ed]; omega, by rw [ed]; omega, Sub.mk_id ?_ ?_ ?_ ?_ ?_⟩
          any_goals (simp only [LB, subS, subH, wfS, wfH, SV.ren, renL, SObj.ren, SV.wf, SObj.wf, wfL, SV.known, Nat.reduceEqDiff, ↓reduceIte, if_true, if_false, eq_self, Nat.reduceAdd, Nat.reduceLT, Nat.reduceLeDiff, implies_true, reduceCtorEq, forall_const]; done)
          simp only [LB, subS, subH, wfS, wfH, SV.ren, renL, SObj.ren, SV.wf, SObj.wf, wfL, SV.known, Nat.reduceEqDiff, ↓reduceIte, if_true, if_false, eq_self, Nat.reduceAdd, Nat.reduceLT, Nat.reduceLeDiff, implies_true, reduceCtorEq, forall_const, arrN]
        · have e1 : ((L.drop 1).getD i 0).toNat = j := by rw [ed]; omega
          refine ⟨by unfold In64; omega, i + 1, by omega, by omega, Sub.mk_id ?_ ?_ ?_ ?_ ?_⟩
          any_goals (simp only [LB, subS, subH, wfS, wfH, SV.ren, renL, SObj.ren, SV.wf, SObj.wf, wfL, SV.known, Nat.reduceEqDiff, ↓reduceIte, if_true, if_false, eq_self, Nat.reduceAdd, Nat.reduceLT, Nat.reduceLeDiff, implies_true, reduceCtorEq, forall_const]; done)
          simp only [LB, subS, subH, wfS, wfH, SV.ren, renL, SObj.ren, SV.wf, SObj.wf, wfL, SV.known, Nat.reduceEqDiff, ↓reduceIte, if_true, if_false, eq_self, Nat.reduceAdd, Nat.reduceLT, Nat.reduceLeDiff, implies_true, reduceCtorEq, forall_const]
          rw [arrL_take_succ (L.drop 1) i (by omega), e1]
          exact ⟨rfl, rfl⟩
    · obtain rfl : i = 5 := by omega
      rw [List.take_of_length_le (by simp; omega)]
      rfl
def l7Ways_F : List SV → Heap → Option (Prop × SV)
  | [.arr L], _ => some (L.length = 6 ∧ Bd 0 1000000 (L.drop 1), .int (arrF (L.drop 1)))
  | _, _ => none
theorem l7Ways_T : ∀ args H p v, l7Ways_F args H = some (p, v) → p → PureH Try.prog 58 args H v := by
  intro args H p v h hp
  unfold l7Ways_F at h
  split at h
  · cases h; exact (l7Ways_ok _ hp.1 hp.2).any _
  · cases h
end Go.Proofs.Ytckcojgfgcjamaa
set_option maxRecDepth 100000
set_option linter.unusedSimpArgs false
set_option linter.unusedVariables false
namespace Go.Proofs.Ytckcojgfgcjamaa
open Go Go.RowKit
def rackB (R : List Int) : Bool := (tubesOf R 0 6).all tubeB
--@tbl areAll_rack = impl.areAll[[4]int]
def areAll_rack_F : List SV → Heap → Option (Prop × SV)
  | [.slice b off len _, .fn g []], H => match hget H b with
    | some (.ints L _) => some (g = 102 ∧ off + len * 4 ≤ L.length ∧ len ≤ 9223372036854775806, .bool ((tubesOf L off len).all tubeB))
    | _ => none
  | _, _ => none
theorem areAll_rack_T : ∀ args H p v, areAll_rack_F args H = some (p, v) → p → PureH Try.prog 101 args H v := by
  intro args H p v h hp
  unfold areAll_rack_F at h
  split at h
  · rename_i b off len cap g
    split at h
    · rename_i L e hb
      cases h
      obtain ⟨rfl, hl, hm⟩ := hp
      exact one_block (areAllT_ok _ tubeB L e off len cap hl hm fun x hx => isTube_ok x (tubesOf_mem hl hx)) hb rfl (fun _ => trivial)
    · cases h
  · cases h
--@tbl IsRack = impl.IsRack
theorem IsRack_ok (R : List Int) (hR : R.length = 24) : PureH Try.prog 49 [.arr R] [] (.bool (rackB R)) := by
  refine pure_of_vc (X := ⟨Try.prog, tys, [(101, areAll_rack_F)], [], true, true, 0, [], []⟩) fn_49 ⟨tys_ok, (.cons areAll_rack_T .nil), .nil, mixed⟩ (n0 := 0) (Nat.le_of_ble_eq_true rfl) (by simp [wfL, SV.wf]) (wfH_spec (by simp [wfH, SObj.wf, wfL, SV.wf])) (Nat.le_refl _) (fun _ => by simp [SV.wf, wfL]) ?_
  simp -implicitDefEqProofs only [Try.f49, Option.getD_some, argS, areAll_rack_F, hR, ZB, Int.reduceToNat, Nat.reduceLT, Nat.reduceLeDiff, Int.reduceLE, Int.reduceLT, Nat.reduceEqDiff, Nat.reduceSub, SB, SV.known, packR, ne_eq, reduceCtorEq, Nat.reduceEqDiff, ↓reduceIte, if_true, if_false, eq_self, Nat.reduceAdd, Nat.reduceMul, Nat.reduceSub, forall_const, oneCellS, litOne, flat1, Kd.isSca, flat, TYB]
  rfl
def IsRack_F : List SV → Heap → Option (Prop × SV)
  | [.arr R], _ => some (R.length = 24, .bool (rackB R))
  | _, _ => none
theorem IsRack_T : ∀ args H p v, IsRack_F args H = some (p, v) → p → PureH Try.prog 49 args H v := by
  intro args H p v h hp
  unfold IsRack_F at h
  split at h
  · cases h; exact (IsRack_ok _ hp).any _
  · cases h

def cB (R : List Int) (a b : Nat) : Prop := (0 ≤ R.getD (a * 4 + b) 0 ∧ R.getD (a * 4 + b) 0 ≤ 5) ∧ ¬ (0 < b ∧ 0 < R.getD (a * 4 + b) 0 ∧ R.getD (a * 4 + (b - 1)) 0 = 0)
theorem tubeB_iff (t : List Int) (h : t.length = 4) : tubeB t = true ↔ ∀ b, b < 4 → cB t 0 b := by
  obtain ⟨a, b, c, d, rfl⟩ : ∃ a b c d, t = [a, b, c, d] := by
    match t, h with
    | [a, b, c, d], _ => exact ⟨a, b, c, d, rfl⟩
  have e : (∀ k, k < 4 → cB [a, b, c, d] 0 k) ↔ cB [a, b, c, d] 0 0 ∧ cB [a, b, c, d] 0 1 ∧ cB [a, b, c, d] 0 2 ∧ cB [a, b, c, d] 0 3 :=
    ⟨fun h => ⟨h 0 (by omega), h 1 (by omega), h 2 (by omega), h 3 (by omega)⟩, fun h k hk => by
      match k, hk with
      | 0, _ => exact h.1
      | 1, _ => exact h.2.1
      | 2, _ => exact h.2.2.1
      | 3, _ => exact h.2.2.2⟩
  rw [e]
  by_cases ha : a = 0
  · subst ha
    simp [tubeB, layN, isZ0, cB, coT, is0, List.findIdx?_cons]; omega
  · by_cases hb : b = 0
    · subst hb
      simp [tubeB, layN, isZ0, cB, coT, is0, List.findIdx?_cons, ha, Ne.symm ha]; omega
    · by_cases hc : c = 0
      · subst hc
        simp [tubeB, layN, isZ0, cB, coT, is0, List.findIdx?_cons, ha, hb, Ne.symm ha, Ne.symm hb]; omega
      · by_cases hd : d = 0
        · subst hd
          simp [tubeB, layN, isZ0, cB, coT, is0, List.findIdx?_cons, ha, hb, hc, Ne.symm ha, Ne.symm hb, Ne.symm hc]; omega
        · simp [tubeB, layN, isZ0, cB, coT, is0, List.findIdx?_cons, ha, hb, hc, hd, Ne.symm ha, Ne.symm hb, Ne.symm hc, Ne.symm hd]; omega
theorem cut_getD (R : List Int) (i k : Nat) (h : k < 4) : ((R.drop (i * 4)).take 4).getD k 0 = R.getD (i * 4 + k) 0 := by
  simp [List.getD, List.getElem?_take, h, List.getElem?_drop]
theorem rackB_iff (R : List Int) (h : R.length = 24) : rackB R = true ↔ ∀ a b, a < 6 → b < 4 → cB R a b := by
  unfold rackB tubesOf
  simp only [List.all_map, List.all_eq_true, List.mem_range, Function.comp, Nat.zero_add]
  constructor
  · intro hh a b ha hb
    have h1 := (tubeB_iff _ (by rw [List.length_take, List.length_drop]; omega)).1 (hh a ha) b hb
    unfold cB at h1 ⊢
    rw [Nat.zero_mul, Nat.zero_add, Nat.zero_add, cut_getD _ _ _ hb, cut_getD _ _ _ (by omega)] at h1
    exact h1
  · intro hh a ha
    refine (tubeB_iff _ (by rw [List.length_take, List.length_drop]; omega)).2 fun b hb => ?_
    have h1 := hh a b ha hb
    unfold cB at h1 ⊢
    rw [Nat.zero_mul, Nat.zero_add, Nat.zero_add, cut_getD _ _ _ hb, cut_getD _ _ _ (by omega)]
    exact h1
--@tbl l2Rack = spec.l2Rack
theorem l2Rack_ok (R : List Int) (hR : R.length = 24) : PureH Try.prog 51 [.arr R] [] (.bool (rackB R)) := by
  refine pure_of_vc (X := ⟨Try.prog, tys, [(65, l1In_F)], [], true, true, 0, [], []⟩) fn_51 ⟨tys_ok, (.cons l1In_T .nil), .nil, mixed⟩ (n0 := 0) (Nat.le_of_ble_eq_true rfl) (by simp [wfL, SV.wf]) (wfH_spec (by simp [wfH, SObj.wf, wfL, SV.wf])) (Nat.le_refl _) (fun _ => by simp [SV.wf, wfL]) ?_
  simp -implicitDefEqProofs only [Try.f51, Option.getD_some, argS, l1In_F, hR, ZB, Int.reduceToNat, Nat.reduceLT, Nat.reduceLeDiff, Int.reduceLE, Int.reduceLT, Nat.reduceEqDiff, Nat.reduceSub, SB, SV.known, packR, ne_eq, reduceCtorEq, Nat.reduceEqDiff, ↓reduceIte, if_true, if_false, eq_self, Nat.reduceAdd, Nat.reduceMul, Nat.reduceSub, forall_const, oneCellS, litOne, flat1, Kd.isSca, flat, TYB]
  refine loop_intro (fun i : Nat => [(1, .ptr 0 0), (3, .int i)]) (fun _ => [(0, .ints R 27)]) 1 (fun i => i ≤ 6 ∧ ∀ a b, a < i → b < 4 → cB R a b) (fun i => 6 - i) ?_ ?_
  · refine ⟨0, ⟨by omega, by omega⟩, Sub.mk_id ?_ ?_ ?_ ?_ ?_⟩
    all_goals simp only [LB, subS, subH, wfS, wfH, SV.ren, renL, SObj.ren, SV.wf, SObj.wf, wfL, SV.known, Nat.reduceEqDiff, ↓reduceIte, if_true, if_false, eq_self, Nat.reduceAdd, Nat.reduceLT, Nat.reduceLeDiff, implies_true, reduceCtorEq, forall_const]
    all_goals simp
  · intro i hi
    obtain ⟨hi1, hi2⟩ := hi
    simp -implicitDefEqProofs only [lk_normal, l1In_F, hR, ZB, Int.reduceToNat, Nat.reduceLT, Nat.reduceLeDiff, Int.reduceLE, Int.reduceLT, Nat.reduceEqDiff, Nat.reduceSub, SB, SV.known, packR, ne_eq, reduceCtorEq, Nat.reduceEqDiff, ↓reduceIte, if_true, if_false, eq_self, Nat.reduceAdd, Nat.reduceMul, Nat.reduceSub, forall_const, oneCellS, litOne, flat1, Kd.isSca, flat, TYB]
    refine ⟨fun h => ?_, fun h => ?_⟩
    · have hlt : i < 6 := by omega
      refine loop_intro (fun k : Nat => [(1, .ptr 0 0), (3, .int i), (4, .int k)]) (fun _ => [(0, .ints R 27)]) 1 (fun k => k ≤ 4 ∧ ∀ b, b < k → cB R i b) (fun k => 4 - k) ?_ ?_
      · refine ⟨0, ⟨by omega, by omega⟩, Sub.mk_id ?_ ?_ ?_ ?_ ?_⟩
        all_goals simp only [LB, subS, subH, wfS, wfH, SV.ren, renL, SObj.ren, SV.wf, SObj.wf, wfL, SV.known, Nat.reduceEqDiff, ↓reduceIte, if_true, if_false, eq_self, Nat.reduceAdd, Nat.reduceLT, Nat.reduceLeDiff, implies_true, reduceCtorEq, forall_const]
        all_goals simp
      · intro k hk
        obtain ⟨hk1, hk2⟩ := hk
        simp -implicitDefEqProofs only [lk_normal, l1In_F, hR, ZB, Int.reduceToNat, Nat.reduceLT, Nat.reduceLeDiff, Int.reduceLE, Int.reduceLT, Nat.reduceEqDiff, Nat.reduceSub, SB, SV.known, packR, ne_eq, reduceCtorEq, Nat.reduceEqDiff, ↓reduceIte, if_true, if_false, eq_self, Nat.reduceAdd, Nat.reduceMul, Nat.reduceSub, forall_const, oneCellS, litOne, flat1, Kd.isSca, flat, TYB]
        refine ⟨fun h => ?_, fun h => ?_⟩
        · have e0 : ((k : Int) - 1).toNat = k - 1 := by omega
          simp only [e0]
          have no : ¬ cB R i k → false = rackB R := fun hn => by
            cases hr : rackB R with
            | false => rfl
            | true => exact absurd ((rackB_iff R hR).1 hr i k hlt (by omega)) hn
          have inv : cB R i k → ∀ b, b < k + 1 → cB R i b := fun hc b hb => by
            by_cases hbk : b = k
            · subst hbk; exact hc
            · exact hk2 b (by omega)
          (try (and_intros <;> try (first | omega | (unfold In64; omega) | trivial | assumption)))
          all_goals intro h1
          · (try (and_intros <;> try (first | omega | (unfold In64; omega) | trivial | assumption)))
            all_goals intro h2
            · (try (and_intros <;> try (first | omega | (unfold In64; omega) | trivial | assumption)))
              all_goals intro h3
              · (try (and_intros <;> try (first | omega | (unfold In64; omega) | trivial | assumption)))
                all_goals intro h4
                · exact no fun hc => hc.2 ⟨by omega, h3, h4⟩
                · (try (and_intros <;> try (first | omega | (unfold In64; omega) | trivial | assumption)))
                  refine ⟨k + 1, ⟨by omega, inv ⟨h1, fun hn => h4 hn.2.2⟩⟩, by omega, Sub.mk_id ?_ ?_ ?_ ?_ ?_⟩
                  all_goals simp only [LB, subS, subH, wfS, wfH, SV.ren, renL, SObj.ren, SV.wf, SObj.wf, wfL, SV.known, Nat.reduceEqDiff, ↓reduceIte, if_true, if_false, eq_self, Nat.reduceAdd, Nat.reduceLT, Nat.reduceLeDiff, implies_true, reduceCtorEq, forall_const]
              · (try (and_intros <;> try (first | omega | (unfold In64; omega) | trivial | assumption)))
                refine ⟨k + 1, ⟨by omega, inv ⟨h1, fun hn => h3 hn.2.1⟩⟩, by omega, Sub.mk_id ?_ ?_ ?_ ?_ ?_⟩
                all_goals simp only [LB, subS, subH, wfS, wfH, SV.ren, renL, SObj.ren, SV.wf, SObj.wf, wfL, SV.known, Nat.reduceEqDiff, ↓reduceIte, if_true, if_false, eq_self, Nat.reduceAdd, Nat.reduceLT, Nat.reduceLeDiff, implies_true, reduceCtorEq, forall_const]
            · (try (and_intros <;> try (first | omega | (unfold In64; omega) | trivial | assumption)))
              refine ⟨k + 1, ⟨by omega, inv ⟨h1, fun hn => h2 (by omega)⟩⟩, by omega, Sub.mk_id ?_ ?_ ?_ ?_ ?_⟩
              all_goals simp only [LB, subS, subH, wfS, wfH, SV.ren, renL, SObj.ren, SV.wf, SObj.wf, wfL, SV.known, Nat.reduceEqDiff, ↓reduceIte, if_true, if_false, eq_self, Nat.reduceAdd, Nat.reduceLT, Nat.reduceLeDiff, implies_true, reduceCtorEq, forall_const]
          · exact no fun hc => h1 hc.1
        · obtain rfl : k = 4 := by omega
          (try (and_intros <;> try (first | omega | (unfold In64; omega) | trivial | assumption)))
          refine ⟨i + 1, ⟨by omega, fun a b ha hb => ?_⟩, by omega, Sub.mk_id ?_ ?_ ?_ ?_ ?_⟩
          · by_cases hai : a = i
            · subst hai; exact hk2 b hb
            · exact hi2 a b (by omega) hb
          all_goals simp only [LB, subS, subH, wfS, wfH, SV.ren, renL, SObj.ren, SV.wf, SObj.wf, wfL, SV.known, Nat.reduceEqDiff, ↓reduceIte, if_true, if_false, eq_self, Nat.reduceAdd, Nat.reduceLT, Nat.reduceLeDiff, implies_true, reduceCtorEq, forall_const]
    · obtain rfl : i = 6 := by omega
      rw [(rackB_iff R hR).2 fun a b ha hb => hi2 a b ha hb]
def l2Rack_F : List SV → Heap → Option (Prop × SV)
  | [.arr R], _ => some (R.length = 24, .bool (rackB R))
  | _, _ => none
theorem l2Rack_T : ∀ args H p v, l2Rack_F args H = some (p, v) → p → PureH Try.prog 51 args H v := by
  intro args H p v h hp
  unfold l2Rack_F at h
  split at h
  · cases h; exact (l2Rack_ok _ hp).any _
  · cases h

/-! Layers, as the model counts them. -/
def posC (t : List Int) : Int := ((t.map fun x => if 0 < x then (1 : Int) else 0)).sum
theorem posC_take_succ (l : List Int) (k : Nat) (h : k < l.length) : posC (l.take (k + 1)) = posC (l.take k) + if 0 < l.getD k 0 then 1 else 0 := by
  unfold posC
  rw [List.map_take, List.map_take, sum_take_succ _ k (by simpa using h)]
  simp [List.getD, List.getElem?_eq_getElem h]
theorem posC_bd (l : List Int) : 0 ≤ posC l ∧ posC l ≤ l.length := by
  have : Bd 0 1 (l.map fun x => if 0 < x then (1 : Int) else 0) := by
    intro x hx
    obtain ⟨c, _, rfl⟩ := List.mem_map.1 hx
    split <;> omega
  have := sum_bd _ this
  simp only [List.length_map] at this
  unfold posC; omega
theorem posC_lay (t : List Int) (h : t.length = 4) (ht : tubeB t = true) : posC t = layN t := by
  rw [tubeB_iff t h] at ht
  obtain ⟨a, b, c, d, rfl⟩ : ∃ a b c d, t = [a, b, c, d] := by
    match t, h with
    | [a, b, c, d], _ => exact ⟨a, b, c, d, rfl⟩
  have h0 := ht 0 (by omega)
  have h1 := ht 1 (by omega)
  have h2 := ht 2 (by omega)
  have h3 := ht 3 (by omega)
  simp [cB] at h0 h1 h2 h3
  by_cases ha : a = 0
  · subst ha
    simp [posC, layN, isZ0, List.findIdx?_cons]
    repeat' (split)
    all_goals omega
  · by_cases hb : b = 0
    · subst hb
      simp [posC, layN, isZ0, List.findIdx?_cons, Ne.symm ha]
      repeat' (split)
      all_goals omega
    · by_cases hc : c = 0
      · subst hc
        simp [posC, layN, isZ0, List.findIdx?_cons, Ne.symm ha, Ne.symm hb]
        repeat' (split)
        all_goals omega
      · by_cases hd : d = 0
        · subst hd
          simp [posC, layN, isZ0, List.findIdx?_cons, Ne.symm ha, Ne.symm hb, Ne.symm hc]
          repeat' (split)
          all_goals omega
        · simp [posC, layN, isZ0, List.findIdx?_cons, Ne.symm ha, Ne.symm hb, Ne.symm hc, Ne.symm hd]
          repeat' (split)
          all_goals omega
--@tbl l2Many = spec.l2Many
theorem l2Many_ok (t : List Int) (h : t.length = 4) : PureH Try.prog 57 [.arr t] [] (.int (posC t)) := by
  refine pure_of_vc (X := ⟨Try.prog, tys, [], [], true, true, 0, [], []⟩) fn_57 ⟨tys_ok, .nil, .nil, mixed⟩ (n0 := 0) (Nat.le_of_ble_eq_true rfl) (by simp [wfL, SV.wf]) (wfH_spec (by simp [wfH, SObj.wf, wfL, SV.wf])) (Nat.le_refl _) (fun _ => by simp [SV.wf, wfL]) ?_
  simp -implicitDefEqProofs only [Try.f57, Option.getD_some, argS, h, ZB, Int.reduceToNat, Nat.reduceLT, Nat.reduceLeDiff, Int.reduceLE, Int.reduceLT, Nat.reduceEqDiff, Nat.reduceSub, SB, SV.known, packR, ne_eq, reduceCtorEq, Nat.reduceEqDiff, ↓reduceIte, if_true, if_false, eq_self, Nat.reduceAdd, Nat.reduceMul, Nat.reduceSub, forall_const, oneCellS, litOne, flat1, Kd.isSca, flat, TYB]
  refine loop_intro (fun i : Nat => [(1, .ptr 0 0), (4, .int i), (3, .int (posC (t.take i)))]) (fun _ => [(0, .ints t 24)]) 1 (fun i => i ≤ 4) (fun i => 4 - i) ?_ ?_
  · refine ⟨0, by omega, Sub.mk_id ?_ ?_ ?_ ?_ ?_⟩
    all_goals simp only [LB, subS, subH, wfS, wfH, SV.ren, renL, SObj.ren, SV.wf, SObj.wf, wfL, SV.known, Nat.reduceEqDiff, ↓reduceIte, if_true, if_false, eq_self, Nat.reduceAdd, Nat.reduceLT, Nat.reduceLeDiff, implies_true, reduceCtorEq, forall_const]
    all_goals simp [posC]
  · intro i hi
    simp -implicitDefEqProofs only [lk_normal, h, ZB, Int.reduceToNat, Nat.reduceLT, Nat.reduceLeDiff, Int.reduceLE, Int.reduceLT, Nat.reduceEqDiff, Nat.reduceSub, SB, SV.known, packR, ne_eq, reduceCtorEq, Nat.reduceEqDiff, ↓reduceIte, if_true, if_false, eq_self, Nat.reduceAdd, Nat.reduceMul, Nat.reduceSub, forall_const, oneCellS, litOne, flat1, Kd.isSca, flat, TYB]
    have hb := posC_bd (t.take i)
    have hl1 : (t.take i).length = i := by rw [List.length_take]; omega
    rw [hl1] at hb
    refine ⟨fun hx => ?_, fun hx => ?_⟩
    · have es := posC_take_succ t i (by omega)
      (try (and_intros <;> try (first | omega | (unfold In64; omega) | trivial | assumption)))
      all_goals intro hp
      · (try (and_intros <;> try (first | omega | (unfold In64; omega) | trivial | assumption)))
        refine ⟨i + 1, by omega, by omega, Sub.mk_id ?_ ?_ ?_ ?_ ?_⟩
        any_goals (simp only [LB, subS, subH, wfS, wfH, SV.ren, renL, SObj.ren, SV.wf, SObj.wf, wfL, SV.known, Nat.reduceEqDiff, ↓reduceIte, if_true, if_false, eq_self, Nat.reduceAdd, Nat.reduceLT, Nat.reduceLeDiff, implies_true, reduceCtorEq, forall_const]; done)
        simp only [LB, subS, subH, wfS, wfH, SV.ren, renL, SObj.ren, SV.wf, SObj.wf, wfL, SV.known, Nat.reduceEqDiff, ↓reduceIte, if_true, if_false, eq_self, Nat.reduceAdd, Nat.reduceLT, Nat.reduceLeDiff, implies_true, reduceCtorEq, forall_const]
        rw [es, if_pos hp]
      · (try (and_intros <;> try (first | omega | (unfold In64; omega) | trivial | assumption)))
        refine ⟨i + 1, by omega, by omega, Sub.mk_id ?_ ?_ ?_ ?_ ?_⟩
        any_goals (simp only [LB, subS, subH, wfS, wfH, SV.ren, renL, SObj.ren, SV.wf, SObj.wf, wfL, SV.known, Nat.reduceEqDiff, ↓reduceIte, if_true, if_false, eq_self, Nat.reduceAdd, Nat.reduceLT, Nat.reduceLeDiff, implies_true, reduceCtorEq, forall_const]; done)
        simp only [LB, subS, subH, wfS, wfH, SV.ren, renL, SObj.ren, SV.wf, SObj.wf, wfL, SV.known, Nat.reduceEqDiff, ↓reduceIte, if_true, if_false, eq_self, Nat.reduceAdd, Nat.reduceLT, Nat.reduceLeDiff, implies_true, reduceCtorEq, forall_const]
        rw [es, if_neg hp, Int.add_zero]
    · obtain rfl : i = 4 := by omega
      rw [List.take_of_length_le (by omega)]
def l2Many_F : List SV → Heap → Option (Prop × SV)
  | [.arr t], _ => some (t.length = 4, .int (posC t))
  | _, _ => none
theorem l2Many_T : ∀ args H p v, l2Many_F args H = some (p, v) → p → PureH Try.prog 57 args H v := by
  intro args H p v h hp
  unfold l2Many_F at h
  split at h
  · cases h; exact (l2Many_ok _ hp).any _
  · cases h

/-! Fitting depths. -/
def tubeAt (R : List Int) (i : Nat) : List Int := (R.drop (i * 4)).take 4
theorem tubeAt_len {R : List Int} (h : R.length = 24) {i : Nat} (hi : i < 6) : (tubeAt R i).length = 4 := by unfold tubeAt; rw [List.length_take, List.length_drop]; omega
theorem tubeAt_ok {R : List Int} (hr : rackB R = true) {i : Nat} (hi : i < 6) : tubeB (tubeAt R i) = true := by
  unfold rackB at hr
  refine List.all_eq_true.1 hr _ (List.mem_map.2 ⟨i, List.mem_range.2 hi, ?_⟩)
  rw [Nat.zero_add]; rfl
end Go.Proofs.Ytckcojgfgcjamaa
set_option maxRecDepth 100000
set_option linter.unusedSimpArgs false
set_option linter.unusedVariables false
namespace Go.Proofs.Ytckcojgfgcjamaa
open Go Go.RowKit

/-- How a slice comes back: by itself, or ahead of other values. -/
inductive Wrap
  | one
  | more (l : List SV)
  | mid (a : SV) (l : List SV)
def Wrap.ap : Wrap → SV → SV
  | .one, v => v
  | .more l, v => .tup (v :: l)
  | .mid a l, v => .tup (a :: v :: l)
def flatL : List SV → Bool
  | [] => true
  | v :: r => flat v && flatL r
def Wrap.ok : Wrap → Bool
  | .one => true
  | .more l => flatL l
  | .mid a l => flat a && flatL l
theorem flatL_den : ∀ {l : List SV}, flatL l = true → ∀ B B' : Nat → Nat, denL B l = denL B' l
  | [], _, _, _ => rfl
  | v :: r, h, B, B' => by
    simp only [flatL, Bool.and_eq_true] at h
    simp only [denL]
    rw [den_flat h.1 B B', flatL_den h.2 B B']
theorem flatL_wf : ∀ {l : List SV}, flatL l = true → ∀ n, wfL n l
  | [], _, _ => trivial
  | v :: r, h, n => by
    simp only [flatL, Bool.and_eq_true] at h
    exact ⟨wf_flat h.1 n, flatL_wf h.2 n⟩
theorem Wrap.den_eq {wr : Wrap} (h : wr.ok = true) {B B' : Nat → Nat} {v v' : SV} (hv : v.den B = v'.den B') : (wr.ap v).den B = (wr.ap v').den B' := by
  cases wr with
  | one => exact hv
  | more l => simp only [Wrap.ap, SV.den, denL, hv, flatL_den h B B']
  | mid a l =>
    simp only [Wrap.ok, Bool.and_eq_true] at h
    simp only [Wrap.ap, SV.den, denL, hv, den_flat h.1 B B', flatL_den h.2 B B']
theorem Wrap.wf_ap {wr : Wrap} (h : wr.ok = true) {v : SV} {n : Nat} (hv : v.wf n) : (wr.ap v).wf n := by
  cases wr with
  | one => exact hv
  | more l => exact ⟨hv, flatL_wf h n⟩
  | mid a l =>
    simp only [Wrap.ok, Bool.and_eq_true] at h
    exact ⟨wf_flat h.1 n, hv, flatL_wf h.2 n⟩

structure FreshP (P : Program) (f : FuncId) (args : List SV) (H0 : Heap) (L : List Int) (len es e : Nat) (nl : Bool) (wr : Wrap) : Prop where
  ent : Entd P f
  ok : wr.ok = true
  call : ∀ B w, HR B H0 w → Calls P f (denL B args).toArray w fun r w' => Bel w.heap.size w w' ∧ ((nl = true ∧ L = [] ∧ r = .returned ((wr.ap .nils).den B)) ∨
    ∃ id cap junk, w.heap.size ≤ id ∧ r = .returned ((wr.ap (.slice 0 0 len cap)).den fun _ => id) ∧ w'.heap[id]? = some ((SObj.ints (L ++ junk) e).den B) ∧ junk.length + L.length = cap * es ∧ (nl = true → L ≠ []))

def freshPost (m : Nat) (L : List Int) (len es e : Nat) (nl : Bool) (wr : Wrap) (v : SV) (H' : Heap) : Prop :=
  (nl = true ∧ L = [] ∧ v = wr.ap .nils) ∨ ∃ b cap junk, v = wr.ap (.slice b 0 len cap) ∧ hget H' b = some (.ints (L ++ junk) e) ∧ m ≤ b ∧ junk.length + L.length = cap * es ∧ (nl = true → L ≠ [])
theorem fresh_of_vc {X : Cx} {f : FuncId} {fn : Func} {c : Code} (hf : FnOK X.P f fn c X.sx X.hr) (hX : CxOK X) {n0 : Nat} {args : List SV} {H0 : Heap} {L : List Int} {len es e : Nat} {nl : Bool} {wr : Wrap} (hw : wr.ok = true) (hN : args.length ≤ fn.ntmps) (hwa : wfL n0 args) (hwH : hwf n0 H0) (hm : n0 ≤ X.m)
    (h : codeVC X n0 c (argS 0 args) H0 n0 (retK X.τ fn.results.toList fun v H' _ => freshPost X.m L len es e nl wr v H')) : FreshP X.P f args H0 L len es e nl wr := by
  refine ⟨hf.ent, hw, fun B w hH => ?_⟩
  refine (run_of_vc hf hX hN hwa hwH (Nat.le_refl _) h B (fun i => w.heap.size ≤ i) w hH (own_ge hwH hm) (fun _ h => h)).mono fun r w' hh => ?_
  obtain ⟨v, H', n', B', rfl, hk, g1, g2, g3, g4, g5, g6, g7⟩ := hh
  refine ⟨g5.below fun i hi hge => by omega, ?_⟩
  rcases hk with ⟨h1, h2, rfl⟩ | ⟨b, cap, junk, rfl, h2, h3, h4, h5⟩
  · exact .inl ⟨h1, h2, congrArg Ending.returned (Wrap.den_eq hw rfl)⟩
  · exact .inr ⟨B' b, cap, junk, g4 b _ h2 rfl h3, congrArg Ending.returned (Wrap.den_eq hw rfl), g3.at_ b _ h2 rfl, h4, h5⟩

def freshK (wr : Wrap) (L : List Int) (len es e : Nat) (nl : Bool) (H : Heap) (n : Nat) (κ : K1) : Prop :=
  (nl = true → L = [] → κ (wr.ap .nils) H n) ∧ ((nl = true → L ≠ []) → ∀ (cap : Nat) (junk : List Int), junk.length + L.length = cap * es → κ (wr.ap (.slice n 0 len cap)) ((n, .ints (L ++ junk) e) :: H) (n + 1))

theorem HR.cons_fresh {B : Nat → Nat} {H : Heap} {n id : Nat} {w w' : World} {o : SObj} (h : HR B H w) (hw : hwf n H) (hb : Bel w.heap.size w w') (hid : w.heap.size ≤ id) (hwo : o.wf n) (hfl : o.full = true) (ho : w'.heap[id]? = some (o.den B)) : HR (upd B n id) ((n, o) :: H) w' := by
  have hag := upd_lt B n id
  have h' := h.of_below hb
  refine ⟨fun k o' hl hk => ?_, fun k j o1 o2 h1 h2 h3 h4 he => ?_⟩
  · rw [hget_cons] at hl
    split at hl
    · rename_i hkn
      subst hkn
      cases hl
      rw [upd_self]
      exact SObj.sat_of_den hfl (by rw [SObj.den_congr hag o hwo]; exact ho)
    · have hkn := (hw k o' hl).1
      rw [hag k hkn]
      exact SObj.sat_congr hag o' (hw k o' hl).2 (h'.at_ k o' hl hk)
  · rw [hget_cons] at h1 h3
    split at h1
    · rename_i hk
      split at h3
      · rename_i hj; omega
      · subst hk
        rw [upd_self, hag j (hw j o2 h3).1] at he
        have := h.lt h3 h4
        omega
    · split at h3
      · rename_i hj
        subst hj
        rw [upd_self, hag k (hw k o1 h1).1] at he
        have := h.lt h1 h2
        omega
      · rw [hag k (hw k o1 h1).1, hag j (hw j o2 h3).1] at he
        exact h.inj k j o1 o2 h1 h2 h3 h4 he

theorem gen_of_fresh {P : Program} {f : FuncId} {args : List SV} {H0 H : Heap} {L : List Int} {len es e n m : Nat} {nl : Bool} {wr : Wrap} {κ : K1} (h : FreshP P f args H0 L len es e nl wr) (hs : ∀ k o, hget H0 k = some o → hget H k = some o) (hk : freshK wr L len es e nl H n κ) : GenOK P f args H n m κ := by
  refine ⟨h.ent, fun B M w hH hwH hwa hown hM => ?_⟩
  have hH0 : HR B H0 w := ⟨fun k o hk hl => hH.at_ k o (hs k o hk) hl, fun k j o o' hk hl hj hl' he => hH.inj k j o o' (hs k o hk) hl (hs j o' hj) hl' he⟩
  refine (h.call B w hH0).mono fun r w' hh => ?_
  obtain ⟨hb, hh⟩ := hh
  rcases hh with ⟨h1, h2, rfl⟩ | ⟨id, cap, junk, h1, rfl, h3, h4, h5⟩
  · exact ⟨_, H, n, B, rfl, hk.1 h1 h2, Nat.le_refl _, Wrap.wf_ap h.ok trivial, hwH, fun _ _ => rfl, hH.of_below hb, hown, Kept.of_below hb⟩
  · refine ⟨_, _, n + 1, upd B n id, ?_, hk.2 h5 cap junk h4, by omega, Wrap.wf_ap h.ok (by simp [SV.wf]), ?_, upd_lt B n id, HR.cons_fresh hH hwH hb h1 trivial rfl h3, ?_, Kept.of_below hb⟩
    · exact congrArg Ending.returned (Wrap.den_eq h.ok (by simp [SV.den, upd_self]))
    · intro k o hl
      rw [hget_cons] at hl
      split at hl
      · cases hl; exact ⟨by omega, trivial⟩
      · have := hwH k o hl
        exact ⟨by omega, SObj.wf_mono (by omega) _ this.2⟩
    · intro k o hl hlive hmk
      rw [hget_cons] at hl
      split at hl
      · rename_i hkn
        subst hkn
        rw [upd_self]
        exact hM id h1
      · rw [upd_lt B n id k (hwH k o hl).1]
        exact hown k o hl hlive hmk

/-- A block under another name. -/
theorem Sub.mk_to (b b' : Nat) {p m : Nat} {S S' : Env} {H H' : Heap} {n' : Nat} (h1 : subS (fun k => if k = b then b' else k) S S') (h2 : subH (fun k => if k = b then b' else k) m H H') (h3 : wfS n' S') (h4 : wfH n' H') (h5 : p ≤ n') (h6 : p ≤ b)
    (h7 : ∀ k ∈ H'.map (·.1), k ≠ b → k ≠ b') : Sub p m S H S' H' n' := by
  refine ⟨fun k => if k = b then b' else k, h1, subH_spec h2, h3, wfH_spec h4, fun x hx y hy he => ?_, fun k hk => if_neg (by omega), h5⟩
  simp only at he
  by_cases hxb : x = b
  · by_cases hyb : y = b
    · rw [hxb, hyb]
    · rw [if_pos hxb, if_neg hyb] at he
      exact absurd he.symm (h7 y hy hyb)
  · by_cases hyb : y = b
    · rw [if_neg hxb, if_pos hyb] at he
      exact absurd he (h7 x hx hxb)
    · rw [if_neg hxb, if_neg hyb] at he
      exact he
/-- A slice that grows: nothing yet, or block 1. -/
def outV (i len cap : Nat) : SV := match i with
  | 0 => .nils
  | _ + 1 => .slice 1 0 len cap
def outH (i : Nat) (L : List Int) (e : Nat) (base : Heap) : Heap := match i with
  | 0 => base
  | _ + 1 => (1, .ints L e) :: base
theorem outV_zero (len cap : Nat) : outV 0 len cap = .nils := rfl
theorem outV_succ (i len cap : Nat) : outV (i + 1) len cap = .slice 1 0 len cap := rfl
theorem outH_zero (L : List Int) (e : Nat) (base : Heap) : outH 0 L e base = base := rfl
theorem outH_succ (i : Nat) (L : List Int) (e : Nat) (base : Heap) : outH (i + 1) L e base = (1, .ints L e) :: base := rfl
end Go.Proofs.Ytckcojgfgcjamaa
set_option maxRecDepth 100000
set_option linter.unusedSimpArgs false
set_option linter.unusedVariables false
namespace Go.Proofs.Ytckcojgfgcjamaa
open Go Go.RowKit
def stepR (L : List Int) (c : Int) : List Int := if 0 < L.length ∧ L.getD (L.length - 2) 0 = c then L.set (L.length - 1) (L.getD (L.length - 1) 0 + 1) else L ++ [c, 1]
def RL (t : List Int) (i : Nat) : List Int := (t.take i).foldl stepR []
def runsL (t : List Int) : List Int := (t.take (layN t)).foldl stepR []
theorem RL_zero (t : List Int) : RL t 0 = [] := by simp [RL]
theorem RL_succ (t : List Int) (i : Nat) (h : i < t.length) : RL t (i + 1) = stepR (RL t i) (t.getD i 0) := by
  unfold RL
  rw [List.take_succ_eq_append_getElem h, List.foldl_append]
  simp [List.getD, List.getElem?_eq_getElem h]
theorem stepR_eq {L : List Int} {n : Nat} {c : Int} (hL : L.length = n * 2) (hn : 0 < n) (h : L.getD (n * 2 - 2) 0 = c) : stepR L c = L.set (n * 2 - 1) (L.getD (n * 2 - 1) 0 + 1) := by
  unfold stepR
  rw [hL, if_pos ⟨by omega, h⟩]
theorem stepR_ne {L : List Int} {n : Nat} {c : Int} (hL : L.length = n * 2) (h : ¬ L.getD (n * 2 - 2) 0 = c) : stepR L c = L ++ [c, 1] := by
  unfold stepR
  rw [hL, if_neg fun hh => h hh.2]
theorem RL_one (t : List Int) (h : 0 < t.length) : RL t 1 = [t.getD 0 0, 1] := by
  rw [RL_succ t 0 h, RL_zero]; simp [stepR]
theorem getD_app (L M : List Int) (k : Nat) (h : k < L.length) : (L ++ M).getD k 0 = L.getD k 0 := by
  simp [List.getD, List.getElem?_append_left h]
theorem set_app (L M : List Int) (k : Nat) (x : Int) (h : k < L.length) : (L ++ M).set k x = L.set k x ++ M := List.set_append_left _ _ h
theorem getD_set_self (L : List Int) (k : Nat) (x : Int) (h : k < L.length) : (L.set k x).getD k 0 = x := by
  simp [List.getD, h]
theorem getD_app_right (L M : List Int) (k : Nat) : (L ++ M).getD (L.length + k) 0 = M.getD k 0 := by
  simp [List.getD, List.getElem?_append_right]
--@tbl runs = impl.runs
theorem runs_ok (t : List Int) (ht : t.length = 4) : FreshP Try.prog 114 [.arr t] [] (runsL t) ((runsL t).length / 2) 2 47 true .one := by
  have tk : t.take 4 = t := List.take_of_length_le (by omega)
  have hle := lay_le t ht
  refine fresh_of_vc (X := ⟨Try.prog, tys, [(54, layers_F)], [], true, true, 0, [], []⟩) fn_114 ⟨tys_ok, (.cons layers_T .nil), .nil, mixed⟩ (n0 := 0) rfl (Nat.le_of_ble_eq_true rfl) (by simp [wfL, SV.wf]) (wfH_spec (by simp [wfH, SObj.wf, wfL, SV.wf])) (Nat.le_refl _) ?_
  simp -implicitDefEqProofs only [Try.f114, Option.getD_some, argS, layers_F, ht, tk, ZB, Int.reduceToNat, Nat.reduceLT, Nat.reduceLeDiff, Int.reduceLE, Int.reduceLT, Nat.reduceEqDiff, Nat.reduceSub, SB, SV.known, packR, ne_eq, reduceCtorEq, Nat.reduceEqDiff, ↓reduceIte, if_true, if_false, eq_self, Nat.reduceAdd, Nat.reduceMul, Nat.reduceSub, forall_const, oneCellS, litOne, flat1, Kd.isSca, flat, TYB]
  refine ⟨by omega, by omega, ?_⟩
  refine loop_intro (fun s : Nat × Nat × Nat × List Int => [(9, .slice 0 0 (layN t) 4), (10, .int (layN t)), (11, .int s.1), (3, outV s.1 s.2.1 s.2.2.1)]) (fun s => outH s.1 (RL t s.1 ++ s.2.2.2) 47 [(0, .ints t 24)]) 2
    (fun s => s.1 ≤ layN t ∧ (s.1 ≠ 0 → (RL t s.1).length = s.2.1 * 2 ∧ 0 < s.2.1 ∧ s.2.1 ≤ s.1 ∧ (0 ≤ (RL t s.1).getD (s.2.1 * 2 - 1) 0 ∧ (RL t s.1).getD (s.2.1 * 2 - 1) 0 ≤ s.1) ∧ s.2.2.2.length + s.2.1 * 2 = s.2.2.1 * 2)) (fun s => layN t - s.1) ?_ ?_
  · refine ⟨(0, 0, 0, []), ⟨by omega, fun h => absurd rfl h⟩, Sub.mk_id ?_ ?_ ?_ ?_ ?_⟩
    all_goals simp only [outV_zero, outH_zero, LB, subS, subH, wfS, wfH, SV.ren, renL, SObj.ren, SV.wf, SObj.wf, wfL, SV.known, Nat.reduceEqDiff, ↓reduceIte, if_true, if_false, eq_self, Nat.reduceAdd, Nat.reduceLT, Nat.reduceLeDiff, implies_true, reduceCtorEq, forall_const]
    all_goals simp
  · rintro ⟨i, n, cap, junk⟩ ⟨hi1, hi2⟩
    simp only at hi1 hi2
    cases i with
    | zero =>
      simp -implicitDefEqProofs only [lk_normal, outV_zero, outH_zero, ht, ZB, Int.reduceToNat, Nat.reduceLT, Nat.reduceLeDiff, Int.reduceLE, Int.reduceLT, Nat.reduceEqDiff, Nat.reduceSub, SB, SV.known, packR, ne_eq, reduceCtorEq, Nat.reduceEqDiff, ↓reduceIte, if_true, if_false, eq_self, Nat.reduceAdd, Nat.reduceMul, Nat.reduceSub, forall_const, oneCellS, litOne, flat1, Kd.isSca, flat, TYB]
      refine ⟨fun h => ⟨h, fun junk' cap' hj => ⟨by unfold In64; omega, (1, 1, cap', junk'), ⟨by omega, fun _ => ?_⟩, by omega, Sub.mk_to 1 3 ?_ ?_ ?_ ?_ ?_ ?_ ?_⟩⟩, fun h => ?_⟩
      · rw [RL_one t (by omega)]
        simp; omega
      any_goals (simp only [outV_succ, outH_succ, RL_one t (show 0 < t.length by omega), LB, subS, subH, wfS, wfH, SV.ren, renL, SObj.ren, SV.wf, SObj.wf, wfL, SV.known, Nat.reduceEqDiff, ↓reduceIte, if_true, if_false, eq_self, Nat.reduceAdd, Nat.reduceLT, Nat.reduceLeDiff, implies_true, reduceCtorEq, forall_const]; try simp; done)
      have h0 : layN t = 0 := by omega
      exact .inl ⟨rfl, by simp [runsL, h0], rfl⟩
    | succ i =>
      obtain ⟨hL, hn, hni, hlast, hj⟩ := hi2 (by omega)
      have e0 : ((n : Int) - 1).toNat * 2 = n * 2 - 2 := by omega
      have e1 : n * 2 - 2 + 1 = n * 2 - 1 := by omega
      have g0 := getD_app (RL t (i + 1)) junk (n * 2 - 2) (by omega)
      have g1 := getD_app (RL t (i + 1)) junk (n * 2 - 1) (by omega)
      have tkL : (RL t (i + 1) ++ junk).take (n * 2) = RL t (i + 1) := List.take_left' hL
      have lenL : (RL t (i + 1) ++ junk).length = cap * 2 := by rw [List.length_append]; omega
      have hs := fun x => set_app (RL t (i + 1)) junk (n * 2 - 1) x (by omega)
      simp -implicitDefEqProofs only [lk_normal, outV_succ, outH_succ, ht, e0, e1, g0, g1, tkL, lenL, hs, ZB, Int.reduceToNat, Nat.reduceLT, Nat.reduceLeDiff, Int.reduceLE, Int.reduceLT, Nat.reduceEqDiff, Nat.reduceSub, SB, SV.known, packR, ne_eq, reduceCtorEq, Nat.reduceEqDiff, ↓reduceIte, if_true, if_false, eq_self, Nat.reduceAdd, Nat.reduceMul, Nat.reduceSub, forall_const, oneCellS, litOne, flat1, Kd.isSca, flat, TYB]
      refine ⟨fun h => ?_, fun h => ?_⟩
      · have es := RL_succ t (i + 1) (by omega)
        (try (and_intros <;> try (first | omega | (unfold In64; omega) | trivial | assumption)))
        · intro hp
          (try (and_intros <;> try (first | omega | (unfold In64; omega) | trivial | assumption)))
          · intro he
            (try (and_intros <;> try (first | omega | (unfold In64; omega) | trivial | assumption)))
            refine ⟨(i + 1 + 1, n, cap, junk), ⟨by omega, fun _ => ?_⟩, by simp only; omega, Sub.mk_id ?_ ?_ ?_ ?_ ?_⟩
            · simp only
              rw [es, stepR_eq hL hn he]
              refine ⟨by simp [hL], hn, by omega, ?_, hj⟩
              rw [getD_set_self _ _ _ (by omega)]
              omega
            all_goals simp only [outV_succ, outH_succ, es, stepR_eq hL hn he, LB, subS, subH, wfS, wfH, SV.ren, renL, SObj.ren, SV.wf, SObj.wf, wfL, SV.known, Nat.reduceEqDiff, ↓reduceIte, if_true, if_false, eq_self, Nat.reduceAdd, Nat.reduceLT, Nat.reduceLeDiff, implies_true, reduceCtorEq, forall_const]
            all_goals (try simp)
          · intro he
            (try (and_intros <;> try (first | omega | (unfold In64; omega) | trivial | assumption)))
            intro junk' cap' hj'
            (try (and_intros <;> try (first | omega | (unfold In64; omega) | trivial | assumption)))
            refine ⟨(i + 1 + 1, n + 1, cap', junk'), ⟨by omega, fun _ => ?_⟩, by simp only; omega, Sub.mk_to 1 3 ?_ ?_ ?_ ?_ ?_ ?_ ?_⟩
            · simp only
              rw [es, stepR_ne hL he]
              refine ⟨by simp [hL]; omega, by omega, by omega, ?_, by omega⟩
              have : (n + 1) * 2 - 1 = (RL t (i + 1)).length + 1 := by omega
              rw [this, getD_app_right]
              simp; omega
            all_goals simp only [outV_succ, outH_succ, es, stepR_ne hL he, LB, subS, subH, wfS, wfH, SV.ren, renL, SObj.ren, SV.wf, SObj.wf, wfL, SV.known, Nat.reduceEqDiff, ↓reduceIte, if_true, if_false, eq_self, Nat.reduceAdd, Nat.reduceLT, Nat.reduceLeDiff, implies_true, reduceCtorEq, forall_const]
            all_goals (try simp)
      · have hii : i + 1 = layN t := by omega
        have hr : runsL t = RL t (i + 1) := by rw [hii]; rfl
        refine .inr ⟨1, cap, junk, ?_, ?_, by omega, ?_, ?_⟩
        · rw [hr, hL]; simp [Wrap.ap]
        · rw [hr]; simp [hget_cons]
        · rw [hr]; omega
        · intro _ h0
          rw [hr] at h0
          rw [h0] at hL
          simp at hL; omega
def runs_F : List SV → Heap → Nat → Nat → K1 → Prop
  | [.arr t], H, n, _, κ => t.length = 4 ∧ freshK .one (runsL t) ((runsL t).length / 2) 2 47 true H n κ
  | _, _, _, _, _ => False
theorem runs_T : ∀ args H n m κ, runs_F args H n m κ → GenOK Try.prog 114 args H n m κ := by
  intro args H n m κ h
  unfold runs_F at h
  split at h
  · exact gen_of_fresh (runs_ok _ h.1) (fun k o hk => by cases hk) h.2
  · exact h.elim
theorem RL_even (t : List Int) (ht : t.length = 4) : ∀ i, i ≤ 4 → ∃ n, (RL t i).length = n * 2 ∧ n ≤ i ∧ (0 < i → 0 < n)
  | 0, _ => ⟨0, by rw [RL_zero]; rfl, by omega, by omega⟩
  | i + 1, hi => by
    obtain ⟨n, h1, h2, h3⟩ := RL_even t ht i (by omega)
    rw [RL_succ t i (by omega)]
    by_cases hn : 0 < n
    · by_cases he : (RL t i).getD (n * 2 - 2) 0 = t.getD i 0
      · rw [stepR_eq h1 hn he]; exact ⟨n, by simpa using h1, by omega, fun _ => hn⟩
      · rw [stepR_ne h1 he]; exact ⟨n + 1, by simp; omega, by omega, fun _ => by omega⟩
    · have h0 : n = 0 := by omega
      subst h0
      have : RL t i = [] := List.length_eq_zero_iff.1 (by simpa using h1)
      rw [this]
      exact ⟨1, by simp [stepR], by omega, fun _ => by omega⟩
theorem runsL_even (t : List Int) (ht : t.length = 4) : ∃ n, (runsL t).length = n * 2 ∧ n ≤ 4 ∧ (0 < layN t → 0 < n) := by
  obtain ⟨n, h1, h2, h3⟩ := RL_even t ht (layN t) (lay_le t ht)
  have := lay_le t ht
  exact ⟨n, h1, by omega, h3⟩
def topF (t : List Int) : Int × Int := if runsL t = [] then (0, 0) else ((runsL t).getD ((runsL t).length - 2) 0, (runsL t).getD ((runsL t).length - 1) 0)
--@tbl top = impl.top
theorem top_ok (t : List Int) (ht : t.length = 4) : PureH Try.prog 103 [.arr t] [] (.tup [.int (topF t).1, .int (topF t).2]) := by
  have tk : t.take 4 = t := List.take_of_length_le (by omega)
  obtain ⟨n, hn, hn4, _⟩ := runsL_even t ht
  refine pure_of_vc (X := ⟨Try.prog, tys, [], [(114, runs_F)], true, true, 0, [], []⟩) fn_103 ⟨tys_ok, .nil, (.cons runs_T .nil), mixed⟩ (n0 := 0) (Nat.le_of_ble_eq_true rfl) (by simp [wfL, SV.wf]) (wfH_spec (by simp [wfH, SObj.wf, wfL, SV.wf])) (Nat.le_refl _) (fun _ => by simp [SV.wf, wfL]) ?_
  simp -implicitDefEqProofs only [Try.f103, Option.getD_some, argS, runs_F, ht, tk, hn, freshK, Wrap.ap, ZB, Int.reduceToNat, Nat.reduceLT, Nat.reduceLeDiff, Int.reduceLE, Int.reduceLT, Nat.reduceEqDiff, Nat.reduceSub, SB, SV.known, packR, ne_eq, reduceCtorEq, Nat.reduceEqDiff, ↓reduceIte, if_true, if_false, eq_self, Nat.reduceAdd, Nat.reduceMul, Nat.reduceSub, forall_const, oneCellS, litOne, flat1, Kd.isSca, flat, TYB]
  refine ⟨fun h => by simp [topF, h], fun h cap junk hj => ?_⟩
  have hn0 : 0 < n := by
    rcases Nat.eq_zero_or_pos n with h0 | h0
    · exact absurd (List.length_eq_zero_iff.1 (by rw [hn, h0])) h
    · exact h0
  have e2 : n * 2 / 2 = n := by omega
  have e0 : ((n : Int) - 1).toNat * 2 = n * 2 - 2 := by omega
  simp only [e2, e0]
  have hM : ((runsL t ++ junk).drop (n * 2 - 2) |>.take 2).length = 2 := by rw [List.length_take, List.length_drop, List.length_append]; omega
  have m0 : ((runsL t ++ junk).drop (n * 2 - 2) |>.take 2).getD 0 0 = (topF t).1 := by
    rw [getD_cut _ _ _ _ (by omega), getD_app _ _ _ (by omega)]
    simp [topF, h, hn]
  have m1 : ((runsL t ++ junk).drop (n * 2 - 2) |>.take 2).getD 1 0 = (topF t).2 := by
    rw [getD_cut _ _ _ _ (by omega), getD_app _ _ _ (by omega), show n * 2 - 2 + 1 = n * 2 - 1 by omega]
    simp [topF, h, hn]
  simp only [hM, Nat.sub_self, List.replicate_zero, List.append_nil, m0, m1]
  refine ⟨fun h0 => by omega, fun _ => ?_⟩
  have : (runsL t ++ junk).length = cap * 2 := by rw [List.length_append]; omega
  (try (and_intros <;> try (first | omega | (unfold In64; omega) | trivial | assumption)))
def top_F : List SV → Heap → Option (Prop × SV)
  | [.arr t], _ => some (t.length = 4, .tup [.int (topF t).1, .int (topF t).2])
  | _, _ => none
theorem top_T : ∀ args H p v, top_F args H = some (p, v) → p → PureH Try.prog 103 args H v := by
  intro args H p v h hp
  unfold top_F at h
  split at h
  · cases h; exact (top_ok _ hp).any _
  · cases h

/-! The model's top. -/
def isRun (t : List Int) (n r : Nat) : Prop := 0 < r ∧ r ≤ n ∧ (∀ k, k < r → t.getD (n - 1 - k) 0 = t.getD (n - 1) 0) ∧ (r = n ∨ ¬ t.getD (n - 1 - r) 0 = t.getD (n - 1) 0)
theorem isRun_one {t : List Int} {n r r' : Nat} (h : isRun t n r) (h' : isRun t n r') : r = r' := by
  rcases Nat.lt_trichotomy r r' with hl | he | hg
  · rcases h.2.2.2 with h1 | h1
    · have := h'.2.1; omega
    · exact absurd (h'.2.2.1 r hl) h1
  · exact he
  · rcases h'.2.2.2 with h1 | h1
    · have := h.2.1; omega
    · exact absurd (h.2.2.1 r' hg) h1
theorem topF_run (t : List Int) (ht : t.length = 4) (h0 : 0 < layN t) : ∃ r : Nat, topF t = (t.getD (layN t - 1) 0, (r : Int)) ∧ isRun t (layN t) r := by
  have key : ∀ i, 0 < i → i ≤ 4 → ∃ r n : Nat, (RL t i).length = n * 2 ∧ 0 < n ∧ (RL t i).getD (n * 2 - 2) 0 = t.getD (i - 1) 0 ∧ (RL t i).getD (n * 2 - 1) 0 = r ∧ isRun t i r := by
    intro i
    induction i with
    | zero => intro h; omega
    | succ i ih =>
      intro _ hi
      rw [RL_succ t i (by omega)]
      by_cases hi0 : i = 0
      · subst hi0
        rw [RL_zero]
        exact ⟨1, 1, by simp [stepR], by omega, by simp [stepR], by simp [stepR], by omega, by omega, fun k hk => by rw [show k = 0 by omega], .inl rfl⟩
      · obtain ⟨r, n, h1, h2, h3, h4, h5⟩ := ih (by omega) (by omega)
        by_cases he : (RL t i).getD (n * 2 - 2) 0 = t.getD i 0
        · rw [stepR_eq h1 h2 he]
          refine ⟨r + 1, n, by simpa using h1, h2, ?_, ?_, by omega, by have := h5.2.1; omega, fun k hk => ?_, ?_⟩
          · rw [show i + 1 - 1 = i by omega, ← he]
            simp only [List.getD, List.getElem?_set]
            rw [if_neg (by omega)]
          · rw [getD_set_self _ _ _ (by omega), h4]; omega
          · rcases Nat.eq_zero_or_pos k with hk0 | hk0
            · rw [hk0]; rfl
            · have := h5.2.2.1 (k - 1) (by omega)
              rw [show i + 1 - 1 - k = i - 1 - (k - 1) by omega, this, ← h3, he]; rfl
          · rcases h5.2.2.2 with h6 | h6
            · exact .inl (by omega)
            · refine .inr ?_
              rw [show i + 1 - 1 - (r + 1) = i - 1 - r by omega, show i + 1 - 1 = i by omega, ← he, h3]
              exact h6
        · rw [stepR_ne h1 he]
          refine ⟨1, n + 1, by simp; omega, by omega, ?_, ?_, by omega, by omega, fun k hk => by rw [show k = 0 by omega]; rfl, .inr ?_⟩
          · rw [show (n + 1) * 2 - 2 = (RL t i).length + 0 by omega, getD_app_right]; rfl
          · rw [show (n + 1) * 2 - 1 = (RL t i).length + 1 by omega, getD_app_right]; rfl
          · rw [show i + 1 - 1 - 1 = i - 1 by omega, show i + 1 - 1 = i by omega, ← h3]
            exact he
  obtain ⟨r, n, h1, h2, h3, h4, h5⟩ := key (layN t) h0 (lay_le t ht)
  have hr : runsL t = RL t (layN t) := rfl
  refine ⟨r, ?_, h5⟩
  unfold topF
  rw [hr, if_neg (by intro h; rw [h] at h1; simp at h1; omega), h1, h3, h4]
--@tbl l2Top = spec.l2Top
theorem l2Top_ok (t : List Int) (ht : t.length = 4) (hb : tubeB t = true) : PureH Try.prog 105 [.arr t] [] (.tup [.int (topF t).1, .int (topF t).2]) := by
  have tk : t.take 4 = t := List.take_of_length_le (by omega)
  have hp := posC_lay t ht hb
  have hle := lay_le t ht
  have hz : layN t = 0 → topF t = (0, 0) := fun h => by simp [topF, runsL, h]
  refine pure_of_vc (X := ⟨Try.prog, tys, [(57, l2Many_F)], [], true, true, 0, [], []⟩) fn_105 ⟨tys_ok, (.cons l2Many_T .nil), .nil, mixed⟩ (n0 := 0) (Nat.le_of_ble_eq_true rfl) (by simp [wfL, SV.wf]) (wfH_spec (by simp [wfH, SObj.wf, wfL, SV.wf])) (Nat.le_refl _) (fun _ => by simp [SV.wf, wfL]) ?_
  simp -implicitDefEqProofs only [Try.f105, Option.getD_some, argS, l2Many_F, ht, tk, hp, ZB, Int.reduceToNat, Nat.reduceLT, Nat.reduceLeDiff, Int.reduceLE, Int.reduceLT, Nat.reduceEqDiff, Nat.reduceSub, SB, SV.known, packR, ne_eq, reduceCtorEq, Nat.reduceEqDiff, ↓reduceIte, if_true, if_false, eq_self, Nat.reduceAdd, Nat.reduceMul, Nat.reduceSub, forall_const, oneCellS, litOne, flat1, Kd.isSca, flat, TYB]
  refine ⟨fun h => by rw [hz (by omega)]; exact ⟨rfl, rfl⟩, fun h => ?_⟩
  obtain ⟨r0, ht0, hr0⟩ := topF_run t ht (by omega)
  refine loop_intro (fun r : Nat => [(1, .ptr 0 0), (4, .int (layN t)), (5, .int r)]) (fun _ => [(0, .ints t 24)]) 1 (fun r => r ≤ layN t ∧ ∀ k, k < r → t.getD (layN t - 1 - k) 0 = t.getD (layN t - 1) 0) (fun r => layN t - r) ?_ ?_
  · refine ⟨0, ⟨by omega, by omega⟩, Sub.mk_id ?_ ?_ ?_ ?_ ?_⟩
    all_goals simp only [LB, subS, subH, wfS, wfH, SV.ren, renL, SObj.ren, SV.wf, SObj.wf, wfL, SV.known, Nat.reduceEqDiff, ↓reduceIte, if_true, if_false, eq_self, Nat.reduceAdd, Nat.reduceLT, Nat.reduceLeDiff, implies_true, reduceCtorEq, forall_const]
    all_goals simp
  · rintro r ⟨hr1, hr2⟩
    have e1 : ((layN t : Int) - 1).toNat = layN t - 1 := by omega
    have e2 : ((layN t : Int) - 1 - r).toNat = layN t - 1 - r := by omega
    simp -implicitDefEqProofs only [lk_normal, ht, e1, e2, ZB, Int.reduceToNat, Nat.reduceLT, Nat.reduceLeDiff, Int.reduceLE, Int.reduceLT, Nat.reduceEqDiff, Nat.reduceSub, SB, SV.known, packR, ne_eq, reduceCtorEq, Nat.reduceEqDiff, ↓reduceIte, if_true, if_false, eq_self, Nat.reduceAdd, Nat.reduceMul, Nat.reduceSub, forall_const, oneCellS, litOne, flat1, Kd.isSca, flat, TYB]
    (try (and_intros <;> try (first | omega | (unfold In64; omega) | trivial | assumption)))
    all_goals intro h1
    · (try (and_intros <;> try (first | omega | (unfold In64; omega) | trivial | assumption)))
      all_goals intro h2
      · (try (and_intros <;> try (first | omega | (unfold In64; omega) | trivial | assumption)))
        refine ⟨r + 1, ⟨by omega, fun k hk => ?_⟩, by omega, Sub.mk_id ?_ ?_ ?_ ?_ ?_⟩
        · by_cases hkr : k = r
          · rw [hkr]; exact h2
          · exact hr2 k (by omega)
        all_goals simp only [LB, subS, subH, wfS, wfH, SV.ren, renL, SObj.ren, SV.wf, SObj.wf, wfL, SV.known, Nat.reduceEqDiff, ↓reduceIte, if_true, if_false, eq_self, Nat.reduceAdd, Nat.reduceLT, Nat.reduceLeDiff, implies_true, reduceCtorEq, forall_const]
      · have hrun : isRun t (layN t) r := ⟨by
          rcases Nat.eq_zero_or_pos r with h0 | h0
          · subst h0; exact absurd rfl h2
          · exact h0, hr1, hr2, .inr h2⟩
        have e3 : topF t = (t.getD (layN t - 1) 0, (r : Int)) := by rw [ht0, isRun_one hr0 hrun]
        simp only [e3]
        (try (and_intros <;> try (first | omega | (unfold In64; omega) | trivial | assumption)))
    · have hrn : r = layN t := by omega
      have hrun : isRun t (layN t) r := ⟨by omega, hr1, hr2, .inl hrn⟩
      have e3 : topF t = (t.getD (layN t - 1) 0, (r : Int)) := by rw [ht0, isRun_one hr0 hrun]
      simp only [e3]
      (try (and_intros <;> try (first | omega | (unfold In64; omega) | trivial | assumption)))
def l2Top_F : List SV → Heap → Option (Prop × SV)
  | [.arr t], _ => some (t.length = 4 ∧ tubeB t = true, .tup [.int (topF t).1, .int (topF t).2])
  | _, _ => none
theorem l2Top_T : ∀ args H p v, l2Top_F args H = some (p, v) → p → PureH Try.prog 105 args H v := by
  intro args H p v h hp
  unfold l2Top_F at h
  split at h
  · cases h; exact (l2Top_ok _ hp.1 hp.2).any _
  · cases h

theorem top_pos (t : List Int) (ht : t.length = 4) (hb : tubeB t = true) : (0 < (topF t).1 ↔ 0 < layN t) ∧ (0 < (topF t).2 ↔ 0 < layN t) := by
  rcases Nat.eq_zero_or_pos (layN t) with h0 | h0
  · have : topF t = (0, 0) := by simp [topF, runsL, h0]
    simp [this, h0]
  · obtain ⟨r, h1, h2⟩ := topF_run t ht h0
    have hle := lay_le t ht
    have hc : coT (t.getD (layN t - 1) 0) = true := by
      unfold tubeB at hb
      simp only [Bool.and_eq_true] at hb
      refine List.all_eq_true.1 hb.1 _ ?_
      have hlt : layN t - 1 < t.length := by omega
      simp only [List.getD, List.getElem?_eq_getElem hlt, Option.getD_some]
      exact List.mem_take_iff_getElem.2 ⟨layN t - 1, by omega, rfl⟩
    have hc2 : 1 ≤ t.getD (layN t - 1) 0 ∧ t.getD (layN t - 1) 0 ≤ 5 := by simpa [coT] using hc
    have := h2.1
    rw [h1]
    constructor <;> constructor <;> intro _ <;> first | exact h0 | (simp only; omega)

/-! Pours. -/
def canF (R : List Int) (i j : Int) : Bool := !decide (i = j) && decide (0 < (topF (tubeAt R i.toNat)).1) && decide ((layN (tubeAt R j.toNat) : Int) < 4) && (decide ((topF (tubeAt R j.toNat)).1 = 0) || decide ((topF (tubeAt R j.toNat)).1 = (topF (tubeAt R i.toNat)).1))
--@tbl canPour = impl.canPour
end Go.Proofs.Ytckcojgfgcjamaa
set_option maxRecDepth 100000
set_option linter.unusedSimpArgs false
set_option linter.unusedVariables false
namespace Go.Proofs.Ytckcojgfgcjamaa
open Go Go.RowKit
def prK (R : List Int) (k : Nat) : List Int := if canF R ((k / 6 : Nat) : Int) ((k % 6 : Nat) : Int) = true then [((k / 6 : Nat) : Int), ((k % 6 : Nat) : Int)] else []
def PL (R : List Int) (m : Nat) : List Int := (List.range m).flatMap (prK R)
def pmN (R : List Int) (i j : Nat) : Int := min (topF (tubeAt R i)).2 (4 - (layN (tubeAt R j) : Int))
def pmR (R : List Int) (i j : Nat) : Nat → List Int
  | 0 => R
  | k + 1 => ((pmR R i j k).set (i * 4 + (layN (tubeAt R i) - 1 - k)) 0).set (j * 4 + (layN (tubeAt R j) + k)) (topF (tubeAt R i)).1
def pourF (R : List Int) (i j : Nat) : List Int := pmR R i j (pmN R i j).toNat
--@tbl pour = impl.pour
end Go.Proofs.Ytckcojgfgcjamaa
set_option maxRecDepth 100000
set_option linter.unusedSimpArgs false
set_option linter.unusedVariables false
namespace Go.Proofs.Ytckcojgfgcjamaa
open Go Go.RowKit

def in04 (n : Int) : Bool := decide (0 ≤ n ∧ n ≤ 4)
def in024 (n : Int) : Bool := decide (0 ≤ n ∧ n ≤ 24)
--@tbl areAll_deal = impl.areAll[int]
theorem all_bd {a b : Int} {pr : Int → Bool} {l : List Int} (h : l.all pr = true) (hp : ∀ x, pr x = true → a ≤ x ∧ x ≤ b) : Bd a b l := fun x hx => hp x (List.all_eq_true.1 h x hx)
theorem all_take_succ (pr : Int → Bool) (l : List Int) (k : Nat) (h : k < l.length) : (l.take (k + 1)).all pr = ((l.take k).all pr && pr (l.getD k 0)) := by
  rw [List.take_succ_eq_append_getElem h, List.all_append]
  simp [List.getD, List.getElem?_eq_getElem h]
theorem in024_bd (x : Int) (h : in024 x = true) : 0 ≤ x ∧ x ≤ 24 := by simpa [in024] using h
end Go.Proofs.Ytckcojgfgcjamaa
set_option maxRecDepth 100000
set_option linter.unusedSimpArgs false
set_option linter.unusedVariables false
namespace Go.Proofs.Ytckcojgfgcjamaa
open Go Go.RowKit
theorem cons_of {c : List Int} (h : 0 < c.length) : c = c.getD 0 0 :: c.drop 1 := by
  cases c with
  | nil => simp at h
  | cons a r => simp
theorem arrF_drop {c : List Int} (hc : c.length = 6) (h0 : c.getD 0 0 = 0) : arrF (c.drop 1) = arrF c := by
  obtain ⟨a, r, rfl⟩ : ∃ a r, c = a :: r := ⟨_, _, cons_of (by omega)⟩
  obtain rfl : a = 0 := by simpa using h0
  rfl
--@tbl CountDeals = impl.CountDeals
--@tbl sCountDeals = spec.CountDeals
theorem toNat_tmod {a b : Int} (ha : 0 ≤ a) (hb : 0 ≤ b) : (a.tmod b).toNat = a.toNat % b.toNat := by
  obtain ⟨x, rfl⟩ := Int.eq_ofNat_of_zero_le ha
  obtain ⟨y, rfl⟩ := Int.eq_ofNat_of_zero_le hb
  rfl
theorem gcd_step {a b : Int} (ha : 0 ≤ a) (hb : 0 ≤ b) : Nat.gcd b.toNat (a.tmod b).toNat = Nat.gcd a.toNat b.toNat := by
  rw [toNat_tmod ha hb, Nat.gcd_comm b.toNat, ← Nat.gcd_rec, Nat.gcd_comm]
theorem tmod_lt' {a b : Int} (ha : 0 ≤ a) (hb : 0 < b) : (a.tmod b).toNat < b.toNat := by
  rw [toNat_tmod ha (by omega)]; exact Nat.mod_lt _ (by omega)
theorem divisor_ok (a b : Int) (ha : 0 ≤ a) (hb : 0 ≤ b) : PureH Try.prog 109 [.int a, .int b] [] (.int (Nat.gcd a.toNat b.toNat)) := by
  refine pure_of_vc (X := ⟨Try.prog, tys, [], [], true, true, 0, [], []⟩) fn_109 ⟨tys_ok, .nil, .nil, mixed⟩ (n0 := 0) (Nat.le_of_ble_eq_true rfl) (by simp [wfL, SV.wf]) (wfH_spec (by simp [wfH, SObj.wf, wfL, SV.wf])) (Nat.le_refl _) (fun _ => by simp [SV.wf, wfL]) ?_
  simp -implicitDefEqProofs only [Try.f109, Option.getD_some, argS, ZB, Int.reduceToNat, Nat.reduceLT, Nat.reduceLeDiff, Int.reduceLE, Int.reduceLT, Nat.reduceEqDiff, Nat.reduceSub, SB, SV.known, packR, ne_eq, reduceCtorEq, Nat.reduceEqDiff, ↓reduceIte, if_true, if_false, eq_self, Nat.reduceAdd, Nat.reduceMul, Nat.reduceSub, forall_const, oneCellS, litOne, flat1, Kd.isSca, flat, TYB]
  refine loop_intro (fun s : Int × Int => [(0, .int s.1), (1, .int s.2)]) (fun _ => []) 0 (fun s => 0 ≤ s.1 ∧ 0 ≤ s.2 ∧ Nat.gcd s.1.toNat s.2.toNat = Nat.gcd a.toNat b.toNat) (fun s => s.2.toNat) ?_ ?_
  · refine ⟨(a, b), ⟨ha, hb, rfl⟩, Sub.mk_id ?_ ?_ ?_ ?_ ?_⟩
    all_goals simp only [LB, subS, subH, wfS, wfH, SV.ren, renL, SObj.ren, SV.wf, SObj.wf, wfL, SV.known, Nat.reduceEqDiff, ↓reduceIte, if_true, if_false, eq_self, Nat.reduceAdd, Nat.reduceLT, Nat.reduceLeDiff, implies_true, reduceCtorEq, forall_const]
  · rintro ⟨x, y⟩ ⟨h1, h2, h3⟩
    simp only at h1 h2 h3
    simp -implicitDefEqProofs only [lk_normal, ZB, Int.reduceToNat, Nat.reduceLT, Nat.reduceLeDiff, Int.reduceLE, Int.reduceLT, Nat.reduceEqDiff, Nat.reduceSub, SB, SV.known, packR, ne_eq, reduceCtorEq, Nat.reduceEqDiff, ↓reduceIte, if_true, if_false, eq_self, Nat.reduceAdd, Nat.reduceMul, Nat.reduceSub, forall_const, oneCellS, litOne, flat1, Kd.isSca, flat, TYB]
    refine ⟨fun h => ?_, fun h => ?_⟩
    · subst h
      rw [← h3]; simp; omega
    · refine ⟨h, (y, x.tmod y), ⟨h2, Int.tmod_nonneg _ h1, ?_⟩, tmod_lt' h1 (by omega), Sub.mk_id ?_ ?_ ?_ ?_ ?_⟩
      · exact (gcd_step h1 h2).trans h3
      all_goals simp only [LB, subS, subH, wfS, wfH, SV.ren, renL, SObj.ren, SV.wf, SObj.wf, wfL, SV.known, Nat.reduceEqDiff, ↓reduceIte, if_true, if_false, eq_self, Nat.reduceAdd, Nat.reduceLT, Nat.reduceLeDiff, implies_true, reduceCtorEq, forall_const]
def divisor_F : List SV → Heap → Option (Prop × SV)
  | [.int a, .int b], _ => some (0 ≤ a ∧ 0 ≤ b, .int (Nat.gcd a.toNat b.toNat))
  | _, _ => none
theorem divisor_T : ∀ args H p v, divisor_F args H = some (p, v) → p → PureH Try.prog 109 args H v := by
  intro args H p v h hp
  unfold divisor_F at h
  split at h
  · cases h; exact (divisor_ok _ _ hp.1 hp.2).any _
  · cases h
def fracF (a b : Int) : List Int := [a.tdiv (Nat.gcd a.toNat b.toNat : Nat), b.tdiv (Nat.gcd a.toNat b.toNat : Nat)]
theorem gcd_posI {a b : Int} (hb : 0 < b) : 0 < Nat.gcd a.toNat b.toNat := Nat.gcd_pos_of_pos_right _ (by omega)
theorem tdiv_in64 {a g : Int} (ha : 0 ≤ a) (hg : 0 < g) (h : In64 a) : In64 (a.tdiv g) := by
  have h1 := Int.tdiv_nonneg ha (Int.le_of_lt hg)
  have h2 := Int.tdiv_le_self g ha
  unfold In64 at *; omega
--@tbl fraction = impl.fraction
theorem fraction_ok (a b : Int) (ha : 0 ≤ a) (hb : 0 < b) (ia : In64 a) (ib : In64 b) : PureH Try.prog 73 [.int a, .int b] [] (.arr (fracF a b)) := by
  have hg : 0 < Nat.gcd a.toNat b.toNat := gcd_posI hb
  refine pure_of_vc (X := ⟨Try.prog, tys, [(109, divisor_F)], [], true, true, 0, [], []⟩) fn_73 ⟨tys_ok, (.cons divisor_T .nil), .nil, mixed⟩ (n0 := 0) (Nat.le_of_ble_eq_true rfl) (by simp [wfL, SV.wf]) (wfH_spec (by simp [wfH, SObj.wf, wfL, SV.wf])) (Nat.le_refl _) (fun _ => by simp [SV.wf, wfL]) ?_
  simp -implicitDefEqProofs only [Try.f73, Option.getD_some, argS, divisor_F, ZB, Int.reduceToNat, Nat.reduceLT, Nat.reduceLeDiff, Int.reduceLE, Int.reduceLT, Nat.reduceEqDiff, Nat.reduceSub, SB, SV.known, packR, ne_eq, reduceCtorEq, Nat.reduceEqDiff, ↓reduceIte, if_true, if_false, eq_self, Nat.reduceAdd, Nat.reduceMul, Nat.reduceSub, forall_const, oneCellS, litOne, flat1, Kd.isSca, flat, TYB]
  exact ⟨⟨ha, by omega⟩, by omega, tdiv_in64 ha (by omega) ia, by omega, tdiv_in64 (by omega) (by omega) ib, rfl⟩
def fraction_F : List SV → Heap → Option (Prop × SV)
  | [.int a, .int b], _ => some (0 ≤ a ∧ 0 < b ∧ In64 a ∧ In64 b, .arr (fracF a b))
  | _, _ => none
theorem fraction_T : ∀ args H p v, fraction_F args H = some (p, v) → p → PureH Try.prog 73 args H v := by
  intro args H p v h hp
  unfold fraction_F at h
  split at h
  · cases h; exact (fraction_ok _ _ hp.1 hp.2.1 hp.2.2.1 hp.2.2.2).any _
  · cases h
--@tbl l1Most = spec.l1Most
theorem l1Most_ok (a b : Int) : PureH Try.prog 87 [.int a, .int b] [] (.int (max a b)) := by
  refine pure_of_vc (X := ⟨Try.prog, tys, [], [], true, true, 0, [], []⟩) fn_87 ⟨tys_ok, .nil, .nil, mixed⟩ (n0 := 0) (Nat.le_of_ble_eq_true rfl) (by simp [wfL, SV.wf]) (wfH_spec (by simp [wfH, SObj.wf, wfL, SV.wf])) (Nat.le_refl _) (fun _ => by simp [SV.wf, wfL]) ?_
  simp -implicitDefEqProofs only [Try.f87, Option.getD_some, argS, ZB, Int.reduceToNat, Nat.reduceLT, Nat.reduceLeDiff, Int.reduceLE, Int.reduceLT, Nat.reduceEqDiff, Nat.reduceSub, SB, SV.known, packR, ne_eq, reduceCtorEq, Nat.reduceEqDiff, ↓reduceIte, if_true, if_false, eq_self, Nat.reduceAdd, Nat.reduceMul, Nat.reduceSub, forall_const, oneCellS, litOne, flat1, Kd.isSca, flat, TYB]
  constructor <;> intro h <;> omega
def l1Most_F : List SV → Heap → Option (Prop × SV)
  | [.int a, .int b], _ => some (True, .int (max a b))
  | _, _ => none
theorem l1Most_T : ∀ args H p v, l1Most_F args H = some (p, v) → p → PureH Try.prog 87 args H v := by
  intro args H p v h hp
  unfold l1Most_F at h
  split at h
  · cases h; exact (l1Most_ok _ _).any _
  · cases h
--@tbl l7Cut = spec.l7Cut
theorem l7Cut_ok (a b : Int) (ha : 0 ≤ a) (hb : 0 < b) (ia : In64 a) (ib : In64 b) : PureH Try.prog 75 [.int a, .int b] [] (.arr (fracF a b)) := by
  have hg : 0 < Nat.gcd a.toNat b.toNat := gcd_posI hb
  refine pure_of_vc (X := ⟨Try.prog, tys, [(87, l1Most_F)], [], true, true, 0, [], []⟩) fn_75 ⟨tys_ok, (.cons l1Most_T .nil), .nil, mixed⟩ (n0 := 0) (Nat.le_of_ble_eq_true rfl) (by simp [wfL, SV.wf]) (wfH_spec (by simp [wfH, SObj.wf, wfL, SV.wf])) (Nat.le_refl _) (fun _ => by simp [SV.wf, wfL]) ?_
  simp -implicitDefEqProofs only [Try.f75, Option.getD_some, argS, l1Most_F, ZB, Int.reduceToNat, Nat.reduceLT, Nat.reduceLeDiff, Int.reduceLE, Int.reduceLT, Nat.reduceEqDiff, Nat.reduceSub, SB, SV.known, packR, ne_eq, reduceCtorEq, Nat.reduceEqDiff, ↓reduceIte, if_true, if_false, eq_self, Nat.reduceAdd, Nat.reduceMul, Nat.reduceSub, forall_const, oneCellS, litOne, flat1, Kd.isSca, flat, TYB]
  refine loop_intro (fun s : Int × Int => [(0, .int a), (1, .int b), (4, .ptr 0 0), (5, .int s.1), (6, .int s.2)]) (fun _ => [(0, .ints (List.replicate 2 0) 47)]) 1 (fun s => 0 ≤ s.1 ∧ 0 ≤ s.2 ∧ Nat.gcd s.1.toNat s.2.toNat = Nat.gcd a.toNat b.toNat) (fun s => s.2.toNat) ?_ ?_
  · refine ⟨(a, b), ⟨ha, by simp; omega, rfl⟩, Sub.mk_id ?_ ?_ ?_ ?_ ?_⟩
    all_goals simp only [LB, subS, subH, wfS, wfH, SV.ren, renL, SObj.ren, SV.wf, SObj.wf, wfL, SV.known, Nat.reduceEqDiff, ↓reduceIte, if_true, if_false, eq_self, Nat.reduceAdd, Nat.reduceLT, Nat.reduceLeDiff, implies_true, reduceCtorEq, forall_const]
  · rintro ⟨x, y⟩ ⟨h1, h2, h3⟩
    simp only at h1 h2 h3
    simp -implicitDefEqProofs only [lk_normal, l1Most_F, ZB, Int.reduceToNat, Nat.reduceLT, Nat.reduceLeDiff, Int.reduceLE, Int.reduceLT, Nat.reduceEqDiff, Nat.reduceSub, SB, SV.known, packR, ne_eq, reduceCtorEq, Nat.reduceEqDiff, ↓reduceIte, if_true, if_false, eq_self, Nat.reduceAdd, Nat.reduceMul, Nat.reduceSub, forall_const, oneCellS, litOne, flat1, Kd.isSca, flat, TYB]
    refine ⟨fun h => ?_, fun h => ?_⟩
    · refine ⟨by omega, (y, x.tmod y), ⟨h2, Int.tmod_nonneg _ h1, ?_⟩, tmod_lt' h1 (by omega), Sub.mk_id ?_ ?_ ?_ ?_ ?_⟩
      · exact (gcd_step h1 h2).trans h3
      all_goals simp only [LB, subS, subH, wfS, wfH, SV.ren, renL, SObj.ren, SV.wf, SObj.wf, wfL, SV.known, Nat.reduceEqDiff, ↓reduceIte, if_true, if_false, eq_self, Nat.reduceAdd, Nat.reduceLT, Nat.reduceLeDiff, implies_true, reduceCtorEq, forall_const]
    · obtain rfl : y = 0 := by omega
      have e1 : x = Nat.gcd a.toNat b.toNat := by rw [← h3]; simp; omega
      have e2 : max x 1 = x := by omega
      rw [e2, e1]
      exact ⟨by omega, tdiv_in64 ha (by omega) ia, by omega, tdiv_in64 (by omega) (by omega) ib, rfl⟩
def l7Cut_F : List SV → Heap → Option (Prop × SV)
  | [.int a, .int b], _ => some (0 ≤ a ∧ 0 < b ∧ In64 a ∧ In64 b, .arr (fracF a b))
  | _, _ => none
theorem l7Cut_T : ∀ args H p v, l7Cut_F args H = some (p, v) → p → PureH Try.prog 75 args H v := by
  intro args H p v h hp
  unfold l7Cut_F at h
  split at h
  · cases h; exact (l7Cut_ok _ _ hp.1 hp.2.1 hp.2.2.1 hp.2.2.2).any _
  · cases h

--@tbl isPlace = impl.isPlace
--@tbl l2Place = spec.l2Place
--@tbl isColor = impl.isColor
def plF (i : Int) : Bool := decide (0 ≤ i ∧ i ≤ 5)
def coF (i : Int) : Bool := decide (1 ≤ i ∧ i ≤ 5)
theorem isPlace_ok (i : Int) : PureH Try.prog 108 [.int i] [] (.bool (plF i)) := by
  refine pure_of_vc (X := ⟨Try.prog, tys, [(63, within_F)], [], true, true, 0, [], []⟩) fn_108 ⟨tys_ok, (.cons within_T .nil), .nil, mixed⟩ (n0 := 0) (Nat.le_of_ble_eq_true rfl) (by simp [wfL, SV.wf]) (wfH_spec (by simp [wfH, SObj.wf, wfL, SV.wf])) (Nat.le_refl _) (fun _ => by simp [SV.wf, wfL]) ?_
  simp -implicitDefEqProofs only [Try.f108, Option.getD_some, argS, within_F, SB, SV.known, packR, ne_eq, reduceCtorEq, Nat.reduceEqDiff, ↓reduceIte, if_true, if_false, eq_self, Nat.reduceAdd, Nat.reduceMul, Nat.reduceSub, forall_const, oneCellS, litOne, flat1, Kd.isSca, flat, TYB]
  trivial
theorem l2Place_ok (i : Int) : PureH Try.prog 74 [.int i] [] (.bool (plF i)) := by
  refine pure_of_vc (X := ⟨Try.prog, tys, [(65, l1In_F)], [], true, true, 0, [], []⟩) fn_74 ⟨tys_ok, (.cons l1In_T .nil), .nil, mixed⟩ (n0 := 0) (Nat.le_of_ble_eq_true rfl) (by simp [wfL, SV.wf]) (wfH_spec (by simp [wfH, SObj.wf, wfL, SV.wf])) (Nat.le_refl _) (fun _ => by simp [SV.wf, wfL]) ?_
  simp -implicitDefEqProofs only [Try.f74, Option.getD_some, argS, l1In_F, SB, SV.known, packR, ne_eq, reduceCtorEq, Nat.reduceEqDiff, ↓reduceIte, if_true, if_false, eq_self, Nat.reduceAdd, Nat.reduceMul, Nat.reduceSub, forall_const, oneCellS, litOne, flat1, Kd.isSca, flat, TYB]
  trivial
def l2Place_F : List SV → Heap → Option (Prop × SV)
  | [.int i], _ => some (True, .bool (plF i))
  | _, _ => none
theorem l2Place_T : ∀ args H p v, l2Place_F args H = some (p, v) → p → PureH Try.prog 74 args H v := by
  intro args H p v h hp
  unfold l2Place_F at h
  split at h
  · cases h; exact (l2Place_ok _).any _
  · cases h
theorem isColor_ok (i : Int) : PureH Try.prog 72 [.int i] [] (.bool (coF i)) := by
  refine pure_of_vc (X := ⟨Try.prog, tys, [(63, within_F)], [], true, true, 0, [], []⟩) fn_72 ⟨tys_ok, (.cons within_T .nil), .nil, mixed⟩ (n0 := 0) (Nat.le_of_ble_eq_true rfl) (by simp [wfL, SV.wf]) (wfH_spec (by simp [wfH, SObj.wf, wfL, SV.wf])) (Nat.le_refl _) (fun _ => by simp [SV.wf, wfL]) ?_
  simp -implicitDefEqProofs only [Try.f72, Option.getD_some, argS, within_F, SB, SV.known, packR, ne_eq, reduceCtorEq, Nat.reduceEqDiff, ↓reduceIte, if_true, if_false, eq_self, Nat.reduceAdd, Nat.reduceMul, Nat.reduceSub, forall_const, oneCellS, litOne, flat1, Kd.isSca, flat, TYB]
  trivial
def isColor_F : List SV → Heap → Option (Prop × SV)
  | [.int i], _ => some (True, .bool (coF i))
  | _, _ => none
theorem isColor_T : ∀ args H p v, isColor_F args H = some (p, v) → p → PureH Try.prog 72 args H v := by
  intro args H p v h hp
  unfold isColor_F at h
  split at h
  · cases h; exact (isColor_ok _).any _
  · cases h

--@tbl eqIntA2 = laws.eqIntA2
end Go.Proofs.Ytckcojgfgcjamaa
set_option maxRecDepth 100000
set_option linter.unusedSimpArgs false
set_option linter.unusedVariables false
namespace Go.Proofs.Ytckcojgfgcjamaa
open Go Go.RowKit
--@tbl isAt = impl.isAt
--@tbl areAll_place = impl.areAll[int]
def areAll_place_F := areAllI_F [(108, plF)]
theorem areAll_place_T : ∀ args H p v, areAll_place_F args H = some (p, v) → p → PureH Try.prog 78 args H v :=
  areAllI_T (by intro q hq; simp at hq; rcases hq with rfl; exact isPlace_ok)
end Go.Proofs.Ytckcojgfgcjamaa
set_option maxRecDepth 100000
set_option linter.unusedSimpArgs false
set_option linter.unusedVariables false
namespace Go.Proofs.Ytckcojgfgcjamaa
open Go Go.RowKit
theorem le_sum {a : Int} : ∀ (l : List Int) (k : Nat), Bd 0 a l → k < l.length → l.getD k 0 ≤ l.sum
  | [], k, _, h => by simp at h
  | x :: r, 0, hb, _ => by
    have := sum_bd r (a := 0) (b := a) fun y hy => hb y (by simp [hy])
    simp only [List.getD_cons_zero, List.sum_cons]
    omega
  | x :: r, k + 1, hb, h => by
    have h1 := le_sum r k (fun y hy => hb y (by simp [hy])) (by simpa using h)
    have h2 := hb x (by simp)
    simp only [List.getD_cons_succ, List.sum_cons]
    omega
theorem fracF_len (a b : Int) : (fracF a b).length = 2 := rfl
theorem fracF_take (a b : Int) : (fracF a b).take 2 = fracF a b := rfl
theorem rep2_take : List.take 2 (List.replicate 2 (0 : Int)) = [0, 0] := rfl
end Go.Proofs.Ytckcojgfgcjamaa
set_option maxRecDepth 100000
set_option linter.unusedSimpArgs false
set_option linter.unusedVariables false
namespace Go.Proofs.Ytckcojgfgcjamaa
open Go Go.RowKit
end Go.Proofs.Ytckcojgfgcjamaa
set_option maxRecDepth 100000
set_option linter.unusedSimpArgs false
set_option linter.unusedVariables false
namespace Go.Proofs.Ytckcojgfgcjamaa
open Go Go.RowKit
end Go.Proofs.Ytckcojgfgcjamaa
set_option maxRecDepth 100000
set_option linter.unusedSimpArgs false
set_option linter.unusedVariables false
namespace Go.Proofs.Ytckcojgfgcjamaa
open Go Go.RowKit
theorem mul_bd {x y a b : Int} (hx : 0 ≤ x) (hxa : x ≤ a) (hy : 0 ≤ y) (hyb : y ≤ b) : 0 ≤ x * y ∧ x * y ≤ a * b := ⟨Int.mul_nonneg hx hy, Int.mul_le_mul hxa hyb hy (by omega)⟩
theorem fracF_pos {a b : Int} (ha : 0 ≤ a) (hb : 0 < b) : 0 ≤ (fracF a b).getD 0 0 ∧ (fracF a b).getD 0 0 ≤ a ∧ 0 < (fracF a b).getD 1 0 ∧ (fracF a b).getD 1 0 ≤ b := by
  have hg := gcd_posI (a := a) hb
  obtain ⟨x, rfl⟩ := Int.eq_ofNat_of_zero_le ha
  obtain ⟨y, rfl⟩ := Int.eq_ofNat_of_zero_le (Int.le_of_lt hb)
  have hy : 0 < y := by omega
  simp only [Int.toNat_natCast] at hg
  have e : fracF (x : Int) (y : Int) = [((x / Nat.gcd x y : Nat) : Int), ((y / Nat.gcd x y : Nat) : Int)] := by
    simp only [fracF, Int.toNat_natCast]; rfl
  rw [e]
  have h1 := Nat.div_le_self x (Nat.gcd x y)
  have h2 := Nat.div_le_self y (Nat.gcd x y)
  have h3 : 0 < y / Nat.gcd x y := Nat.div_pos (Nat.le_of_dvd hy (Nat.gcd_dvd_right x y)) hg
  simp only [List.getD_cons_zero, List.getD_cons_succ]
  refine ⟨Int.natCast_nonneg _, Int.ofNat_le.2 h1, Int.natCast_pos.2 h3, Int.ofNat_le.2 h2⟩

--@tbl DealAlike = impl.DealAlike
--@tbl sDealAlike = spec.DealAlike
def plusF (A B : List Int) : List Int := fracF (A.getD 0 0 * B.getD 1 0 + B.getD 0 0 * A.getD 1 0) (A.getD 1 0 * B.getD 1 0)
def smallF (A : List Int) : Prop := A.length = 2 ∧ 0 ≤ A.getD 0 0 ∧ A.getD 0 0 ≤ 1000000000 ∧ 0 < A.getD 1 0 ∧ A.getD 1 0 ≤ 1000000000
def besF (l : List Int) : Int := (l.map fun n => max (n - 1) 0).sum
end Go.Proofs.Ytckcojgfgcjamaa
set_option maxRecDepth 100000
set_option linter.unusedSimpArgs false
set_option linter.unusedVariables false
namespace Go.Proofs.Ytckcojgfgcjamaa
open Go Go.RowKit

--@tbl eqIntA3 = laws.eqIntA3
--@tbl eqIntA4 = laws.eqIntA4
--@tbl eqIntA5 = laws.eqIntA5
--@tbl eqIntA6 = laws.eqIntA6
--@tbl eqIntA4A6 = laws.eqIntA4A6
--@tbl eqRack = laws.eqRack
--@tbl eqView = laws.eqView
--@tbl toSource = laws.toSource
end Go.Proofs.Ytckcojgfgcjamaa
set_option maxRecDepth 100000
set_option linter.unusedSimpArgs false
set_option linter.unusedVariables false
namespace Go.Proofs.Ytckcojgfgcjamaa
open Go Go.RowKit
theorem tube_cells {t : List Int} (ht : t.length = 4) (hb : tubeB t = true) : (∀ b, b < layN t → 1 ≤ t.getD b 0 ∧ t.getD b 0 ≤ 5) ∧ (∀ b, layN t ≤ b → t.getD b 0 = 0) := by
  have hle := lay_le t ht
  unfold tubeB at hb
  simp only [Bool.and_eq_true] at hb
  constructor
  · intro b hbn
    have hlt : b < t.length := by omega
    have := List.all_eq_true.1 hb.1 (t.getD b 0) (by
      simp only [List.getD, List.getElem?_eq_getElem hlt, Option.getD_some]
      exact List.mem_take_iff_getElem.2 ⟨b, by omega, rfl⟩)
    simpa [coT] using this
  · intro b hbn
    rcases Nat.lt_or_ge b 4 with h4 | h4
    · have hlt : b < t.length := by omega
      have := List.all_eq_true.1 hb.2 (t.getD b 0) (by
        simp only [List.getD, List.getElem?_eq_getElem hlt, Option.getD_some]
        exact List.mem_drop_iff_getElem.2 ⟨b - layN t, by omega, by congr 1; omega⟩)
      simpa [is0] using this
    · simp [List.getD, List.getElem?_eq_none (show t.length ≤ b by omega)]
theorem tube_of {t : List Int} (ht : t.length = 4) {n : Nat} (hn : n ≤ 4) (h1 : ∀ b, b < n → 1 ≤ t.getD b 0 ∧ t.getD b 0 ≤ 5) (h2 : ∀ b, n ≤ b → b < 4 → t.getD b 0 = 0) : tubeB t = true ∧ layN t = n := by
  have hl : layN t = n := by
    unfold layN
    rcases Nat.lt_or_ge n 4 with h4 | h4
    · have : t.findIdx? isZ0 = some n := by
        rw [List.findIdx?_eq_some_iff_getElem]
        refine ⟨by omega, ?_, fun j hj => ?_⟩
        · have := h2 n (by omega) h4
          simp only [List.getD, List.getElem?_eq_getElem (show n < t.length by omega), Option.getD_some] at this
          simp [isZ0, this]
        · have := h1 j hj
          simp only [List.getD, List.getElem?_eq_getElem (show j < t.length by omega), Option.getD_some] at this
          simp [isZ0]; omega
      rw [this]; rfl
    · have : t.findIdx? isZ0 = none := by
        rw [List.findIdx?_eq_none_iff]
        intro x hx
        obtain ⟨k, hk, rfl⟩ := List.getElem_of_mem hx
        have := h1 k (by omega)
        simp only [List.getD, List.getElem?_eq_getElem hk, Option.getD_some] at this
        simp [isZ0]; omega
      rw [this]
      simp; omega
  refine ⟨?_, hl⟩
  unfold tubeB
  rw [hl]
  simp only [Bool.and_eq_true]
  constructor
  · rw [List.all_eq_true]
    intro x hx
    obtain ⟨k, hk, rfl⟩ := List.mem_take_iff_getElem.1 hx
    have := h1 k (by omega)
    simp only [List.getD, List.getElem?_eq_getElem (show k < t.length by omega), Option.getD_some] at this
    simpa [coT] using this
  · rw [List.all_eq_true]
    intro x hx
    obtain ⟨k, hk, rfl⟩ := List.mem_drop_iff_getElem.1 hx
    have := h2 (n + k) (by omega) (by omega)
    simp only [List.getD, List.getElem?_eq_getElem (show n + k < t.length by omega), Option.getD_some] at this
    simpa [is0] using this
theorem rack_tubes {R : List Int} : rackB R = true ↔ ∀ i, i < 6 → tubeB (tubeAt R i) = true := by
  unfold rackB tubesOf tubeAt
  simp only [List.all_map, List.all_eq_true, List.mem_range, Function.comp, Nat.zero_add]
theorem tubeAt_getD (R : List Int) (i k : Nat) (h : k < 4) : (tubeAt R i).getD k 0 = R.getD (i * 4 + k) 0 := cut_getD R i k h
theorem getD_set' (L : List Int) (a b : Nat) (x : Int) (h : a < L.length) : (L.set a x).getD b 0 = if a = b then x else L.getD b 0 := by
  simp only [List.getD, List.getElem?_set]
  split
  · simp [h]
  · rfl
end Go.Proofs.Ytckcojgfgcjamaa
set_option maxRecDepth 100000
set_option linter.unusedSimpArgs false
set_option linter.unusedVariables false
namespace Go.Proofs.Ytckcojgfgcjamaa
open Go Go.RowKit
def sumT (f : List Int → Int) (R : List Int) (k : Nat) : Int := ((List.range k).map fun i => f (tubeAt R i)).sum
def crN (t : List Int) : Int := ((runsL t).length / 2 : Nat)
def cbN (t : List Int) : Int := max (crN t - 1) 0
/-! Counts. -/
def incr (L : List Int) (j : Nat) : List Int := L.set j (L.getD j 0 + 1)
def cntL (l : List Int) : List Int := l.foldl (fun c x => incr c x.toNat) (List.replicate 6 0)
theorem cntL_nil : cntL [] = List.replicate 6 0 := rfl
theorem cntL_take_succ (l : List Int) (k : Nat) (h : k < l.length) : cntL (l.take (k + 1)) = incr (cntL (l.take k)) (l.getD k 0).toNat := by
  unfold cntL
  rw [List.take_succ_eq_append_getElem h, List.foldl_append]
  simp [List.getD, List.getElem?_eq_getElem h]
theorem foldl_len (l : List Int) : ∀ c : List Int, (l.foldl (fun c x => incr c x.toNat) c).length = c.length := by
  induction l with
  | nil => intro c; rfl
  | cons x l ih => intro c; rw [List.foldl_cons, ih]; simp [incr]
theorem cntL_len (l : List Int) : (cntL l).length = 6 := by unfold cntL; rw [foldl_len]; rfl
theorem incr_bd {L : List Int} {b : Int} (j : Nat) (h : ∀ k, 0 ≤ L.getD k 0 ∧ L.getD k 0 ≤ b) : ∀ k, 0 ≤ (incr L j).getD k 0 ∧ (incr L j).getD k 0 ≤ b + 1 := by
  intro k
  have h1 := h k
  have h2 := h j
  unfold incr
  simp only [List.getD, List.getElem?_set] at *
  split
  · split
    · simp; omega
    · simp; omega
  · omega
theorem foldl_bd (l : List Int) : ∀ (c : List Int) (b : Int), (∀ k, 0 ≤ c.getD k 0 ∧ c.getD k 0 ≤ b) → ∀ k, 0 ≤ (l.foldl (fun c x => incr c x.toNat) c).getD k 0 ∧ (l.foldl (fun c x => incr c x.toNat) c).getD k 0 ≤ b + l.length := by
  induction l with
  | nil => intro c b h k; simpa using h k
  | cons x l ih =>
    intro c b h k
    have := ih (incr c x.toNat) (b + 1) (incr_bd _ h) k
    rw [List.foldl_cons, List.length_cons]
    omega
theorem cntL_bd (l : List Int) (k : Nat) : 0 ≤ (cntL l).getD k 0 ∧ (cntL l).getD k 0 ≤ l.length := by
  have := foldl_bd l (List.replicate 6 0) 0 (fun k => by
    simp only [List.getD, List.getElem?_replicate]
    split <;> simp) k
  unfold cntL
  omega
def botL (R : List Int) : List Int := (List.range 6).map fun i => R.getD (i * 4) 0
theorem rack_cell {R : List Int} (hR : R.length = 24) (hr : rackB R = true) {k : Nat} (h : k < 24) : 0 ≤ R.getD k 0 ∧ R.getD k 0 ≤ 5 := by
  have := (rackB_iff R hR).1 hr (k / 4) (k % 4) (by omega) (by omega)
  unfold cB at this
  rw [show k / 4 * 4 + k % 4 = k by omega] at this
  exact this.1
--@tbl bottoms = impl.bottoms
--@tbl l6Bottoms = spec.l6Bottoms
/-! The bound. -/
def bndF (R : List Int) : Int := sumT cbN R 6 + besF ((cntL (botL R)).drop 1)
/-! The model's boundaries. -/
end Go.Proofs.Ytckcojgfgcjamaa
set_option maxRecDepth 100000
set_option linter.unusedSimpArgs false
set_option linter.unusedVariables false
namespace Go.Proofs.Ytckcojgfgcjamaa
open Go Go.RowKit
/-! Colors counted. -/
--@tbl countColors = impl.countColors
--@tbl l2Counts = spec.l2Counts
theorem cnt_step {R : List Int} (hR : R.length = 24) (hr : rackB R = true) {i j : Nat} (hi : i < 6) (hj : j < 4) : cntL (R.take (i * 4 + (j + 1))) = incr (cntL (R.take (i * 4 + j))) (R.getD (i * 4 + j) 0).toNat ∧ (0 ≤ R.getD (i * 4 + j) 0 ∧ R.getD (i * 4 + j) 0 ≤ 5) ∧
    0 ≤ (cntL (R.take (i * 4 + j))).getD (R.getD (i * 4 + j) 0).toNat 0 ∧ (cntL (R.take (i * 4 + j))).getD (R.getD (i * 4 + j) 0).toNat 0 ≤ 24 := by
  have := cntL_take_succ R (i * 4 + j) (by omega)
  have rc := rack_cell hR hr (k := i * 4 + j) (by omega)
  have cb := cntL_bd (R.take (i * 4 + j)) (R.getD (i * 4 + j) 0).toNat
  have : (R.take (i * 4 + j)).length ≤ 24 := by rw [List.length_take]; omega
  refine ⟨by rw [← Nat.add_assoc]; assumption, rc, by omega, by omega⟩
theorem countColors_ok (R : List Int) (hR : R.length = 24) (hr : rackB R = true) : PureH Try.prog 104 [.arr R] [] (.arr (cntL R)) := by
  have tkR : R.take 24 = R := List.take_of_length_le (by omega)
  refine pure_of_vc (X := ⟨Try.prog, tys, [], [], true, true, 0, [], []⟩) fn_104 ⟨tys_ok, .nil, .nil, mixed⟩ (n0 := 0) (Nat.le_of_ble_eq_true rfl) (by simp [wfL, SV.wf]) (wfH_spec (by simp [wfH, SObj.wf, wfL, SV.wf])) (Nat.le_refl _) (fun _ => by simp [SV.wf, wfL]) ?_
  simp -implicitDefEqProofs only [Try.f104, Option.getD_some, argS, hR, tkR, ZB, Int.reduceToNat, Nat.reduceLT, Nat.reduceLeDiff, Int.reduceLE, Int.reduceLT, Nat.reduceEqDiff, Nat.reduceSub, SB, SV.known, packR, ne_eq, reduceCtorEq, Nat.reduceEqDiff, ↓reduceIte, if_true, if_false, eq_self, Nat.reduceAdd, Nat.reduceMul, Nat.reduceSub, forall_const, oneCellS, litOne, flat1, Kd.isSca, flat, TYB]
  refine loop_intro (fun i : Nat => [(10, .int i), (9, .arr R), (3, .ptr 2 0), (2, .ptr 1 0), (1, .ptr 0 0)]) (fun i => [(0, .ints R 27), (1, .ints (List.replicate 6 0) 29), (2, .ints (cntL (R.take (i * 4))) 29)]) 3 (fun i => i ≤ 6) (fun i => 6 - i) ?_ ?_
  · refine ⟨0, ?_, Sub.mk_id ?_ ?_ ?_ ?_ ?_⟩
    all_goals (try (simp only [List.take_zero, Nat.zero_mul, cntL_nil, LB, subS, subH, wfS, wfH, SV.ren, renL, SObj.ren, SV.wf, SObj.wf, wfL, SV.known, Nat.reduceEqDiff, ↓reduceIte, if_true, if_false, eq_self, Nat.reduceAdd, Nat.reduceLT, Nat.reduceLeDiff, implies_true, reduceCtorEq, forall_const]; done))
    all_goals (try (simp only [List.take_zero, Nat.zero_mul, cntL_nil, LB, subS, subH, wfS, wfH, SV.ren, renL, SObj.ren, SV.wf, SObj.wf, wfL, SV.known, Nat.reduceEqDiff, ↓reduceIte, if_true, if_false, eq_self, Nat.reduceAdd, Nat.reduceLT, Nat.reduceLeDiff, implies_true, reduceCtorEq, forall_const]; simp; done))
    all_goals (try (simp only [List.take_zero, Nat.zero_mul, cntL_nil, LB, subS, subH, wfS, wfH, SV.ren, renL, SObj.ren, SV.wf, SObj.wf, wfL, SV.known, Nat.reduceEqDiff, ↓reduceIte, if_true, if_false, eq_self, Nat.reduceAdd, Nat.reduceLT, Nat.reduceLeDiff, implies_true, reduceCtorEq, forall_const]; (and_intros <;> (first | omega | rfl | (simp; done) | (simp; omega))); done))
    all_goals (try dsimp only)
    all_goals (and_intros <;> try (first | omega | (unfold In64; omega) | trivial | assumption))
  · intro i hi
    have eT : List.take 4 (List.drop (i * 4) R) = tubeAt R i := rfl
    by_cases hlt : i < 6
    · have hil : (i : Int) < 6 := by omega
      have hl := tubeAt_len hR hlt
      have tk4 : (tubeAt R i).take 4 = tubeAt R i := List.take_of_length_le (by omega)
      simp -implicitDefEqProofs only [lk_normal, hil, hR, eT, hl, tk4, ZB, Int.reduceToNat, Nat.reduceLT, Nat.reduceLeDiff, Int.reduceLE, Int.reduceLT, Nat.reduceEqDiff, Nat.reduceSub, SB, SV.known, packR, ne_eq, reduceCtorEq, Nat.reduceEqDiff, ↓reduceIte, if_true, if_false, eq_self, Nat.reduceAdd, Nat.reduceMul, Nat.reduceSub, forall_const, oneCellS, litOne, flat1, Kd.isSca, flat, TYB]
      refine ⟨by omega, ?_⟩
      refine loop_intro (fun j : Nat => [(14, .int j), (13, .arr (tubeAt R i)), (10, .int i), (9, .arr R), (3, .ptr 2 0), (2, .ptr 1 0), (1, .ptr 0 0)]) (fun j => [(0, .ints R 27), (1, .ints (List.replicate 6 0) 29), (2, .ints (cntL (R.take (i * 4 + j))) 29)]) 3 (fun j => j ≤ 4) (fun j => 4 - j) ?_ ?_
      · refine ⟨0, ?_, Sub.mk_id ?_ ?_ ?_ ?_ ?_⟩
        all_goals (try (simp only [Nat.add_zero, LB, subS, subH, wfS, wfH, SV.ren, renL, SObj.ren, SV.wf, SObj.wf, wfL, SV.known, Nat.reduceEqDiff, ↓reduceIte, if_true, if_false, eq_self, Nat.reduceAdd, Nat.reduceLT, Nat.reduceLeDiff, implies_true, reduceCtorEq, forall_const]; done))
        all_goals (try (simp only [Nat.add_zero, LB, subS, subH, wfS, wfH, SV.ren, renL, SObj.ren, SV.wf, SObj.wf, wfL, SV.known, Nat.reduceEqDiff, ↓reduceIte, if_true, if_false, eq_self, Nat.reduceAdd, Nat.reduceLT, Nat.reduceLeDiff, implies_true, reduceCtorEq, forall_const]; simp; done))
        all_goals (try (simp only [Nat.add_zero, LB, subS, subH, wfS, wfH, SV.ren, renL, SObj.ren, SV.wf, SObj.wf, wfL, SV.known, Nat.reduceEqDiff, ↓reduceIte, if_true, if_false, eq_self, Nat.reduceAdd, Nat.reduceLT, Nat.reduceLeDiff, implies_true, reduceCtorEq, forall_const]; (and_intros <;> (first | omega | rfl | (simp; done) | (simp; omega))); done))
        all_goals (try dsimp only)
        all_goals (and_intros <;> try (first | omega | (unfold In64; omega) | trivial | assumption))
      · intro j hj
        by_cases hjt : j < 4
        · have hjl : (j : Int) < 4 := by omega
          have cs := cnt_step hR hr hlt hjt
          have cl := cntL_len (R.take (i * 4 + j))
          have eg : (tubeAt R i).getD j 0 = R.getD (i * 4 + j) 0 := tubeAt_getD R i j hjt
          simp -implicitDefEqProofs only [lk_normal, hil, hjl, hR, cl, hl, eg, ZB, Int.reduceToNat, Nat.reduceLT, Nat.reduceLeDiff, Int.reduceLE, Int.reduceLT, Nat.reduceEqDiff, Nat.reduceSub, SB, SV.known, packR, ne_eq, reduceCtorEq, Nat.reduceEqDiff, ↓reduceIte, if_true, if_false, eq_self, Nat.reduceAdd, Nat.reduceMul, Nat.reduceSub, forall_const, oneCellS, litOne, flat1, Kd.isSca, flat, TYB]
          (try (and_intros <;> try (first | omega | (unfold In64; omega) | trivial | assumption)))
          refine ⟨j + 1, ?_, ?_, Sub.mk_id ?_ ?_ ?_ ?_ ?_⟩
          all_goals (try (simp only [cs.1, incr, LB, subS, subH, wfS, wfH, SV.ren, renL, SObj.ren, SV.wf, SObj.wf, wfL, SV.known, Nat.reduceEqDiff, ↓reduceIte, if_true, if_false, eq_self, Nat.reduceAdd, Nat.reduceLT, Nat.reduceLeDiff, implies_true, reduceCtorEq, forall_const]; done))
          all_goals (try (simp only [cs.1, incr, LB, subS, subH, wfS, wfH, SV.ren, renL, SObj.ren, SV.wf, SObj.wf, wfL, SV.known, Nat.reduceEqDiff, ↓reduceIte, if_true, if_false, eq_self, Nat.reduceAdd, Nat.reduceLT, Nat.reduceLeDiff, implies_true, reduceCtorEq, forall_const]; simp; done))
          all_goals (try (simp only [cs.1, incr, LB, subS, subH, wfS, wfH, SV.ren, renL, SObj.ren, SV.wf, SObj.wf, wfL, SV.known, Nat.reduceEqDiff, ↓reduceIte, if_true, if_false, eq_self, Nat.reduceAdd, Nat.reduceLT, Nat.reduceLeDiff, implies_true, reduceCtorEq, forall_const]; (and_intros <;> (first | omega | rfl | (simp; done) | (simp; omega))); done))
          all_goals (try dsimp only)
          all_goals (and_intros <;> try (first | omega | (unfold In64; omega) | trivial | assumption))
        · have hjl : ¬ (j : Int) < 4 := by omega
          obtain rfl : j = 4 := by omega
          simp -implicitDefEqProofs only [lk_normal, hjl, ZB, Int.reduceToNat, Nat.reduceLT, Nat.reduceLeDiff, Int.reduceLE, Int.reduceLT, Nat.reduceEqDiff, Nat.reduceSub, SB, SV.known, packR, ne_eq, reduceCtorEq, Nat.reduceEqDiff, ↓reduceIte, if_true, if_false, eq_self, Nat.reduceAdd, Nat.reduceMul, Nat.reduceSub, forall_const, oneCellS, litOne, flat1, Kd.isSca, flat, TYB]
          (try (and_intros <;> try (first | omega | (unfold In64; omega) | trivial | assumption)))
          have e2 : (i + 1) * 4 = i * 4 + 4 := by omega
          refine ⟨i + 1, ?_, ?_, Sub.mk_id ?_ ?_ ?_ ?_ ?_⟩
          all_goals (try (simp only [e2, LB, subS, subH, wfS, wfH, SV.ren, renL, SObj.ren, SV.wf, SObj.wf, wfL, SV.known, Nat.reduceEqDiff, ↓reduceIte, if_true, if_false, eq_self, Nat.reduceAdd, Nat.reduceLT, Nat.reduceLeDiff, implies_true, reduceCtorEq, forall_const]; done))
          all_goals (try (simp only [e2, LB, subS, subH, wfS, wfH, SV.ren, renL, SObj.ren, SV.wf, SObj.wf, wfL, SV.known, Nat.reduceEqDiff, ↓reduceIte, if_true, if_false, eq_self, Nat.reduceAdd, Nat.reduceLT, Nat.reduceLeDiff, implies_true, reduceCtorEq, forall_const]; simp; done))
          all_goals (try (simp only [e2, LB, subS, subH, wfS, wfH, SV.ren, renL, SObj.ren, SV.wf, SObj.wf, wfL, SV.known, Nat.reduceEqDiff, ↓reduceIte, if_true, if_false, eq_self, Nat.reduceAdd, Nat.reduceLT, Nat.reduceLeDiff, implies_true, reduceCtorEq, forall_const]; (and_intros <;> (first | omega | rfl | (simp; done) | (simp; omega))); done))
          all_goals (try dsimp only)
          all_goals (and_intros <;> try (first | omega | (unfold In64; omega) | trivial | assumption))
    · have hil : ¬ (i : Int) < 6 := by omega
      obtain rfl : i = 6 := by omega
      have cl2 := cntL_len R
      have tkc : (cntL R).take 6 = cntL R := List.take_of_length_le (by omega)
      simp -implicitDefEqProofs only [lk_normal, hil, hR, tkR, cl2, tkc, ZB, Int.reduceToNat, Nat.reduceLT, Nat.reduceLeDiff, Int.reduceLE, Int.reduceLT, Nat.reduceEqDiff, Nat.reduceSub, SB, SV.known, packR, ne_eq, reduceCtorEq, Nat.reduceEqDiff, ↓reduceIte, if_true, if_false, eq_self, Nat.reduceAdd, Nat.reduceMul, Nat.reduceSub, forall_const, oneCellS, litOne, flat1, Kd.isSca, flat, TYB]
      (try (and_intros <;> try (first | omega | (unfold In64; omega) | trivial | assumption)))
def countColors_F : List SV → Heap → Option (Prop × SV)
  | [.arr R], _ => some (R.length = 24 ∧ rackB R = true, .arr (cntL R))
  | _, _ => none
theorem countColors_T : ∀ args H p v, countColors_F args H = some (p, v) → p → PureH Try.prog 104 args H v := by
  intro args H p v h hp
  unfold countColors_F at h
  split at h
  · cases h; exact (countColors_ok _ hp.1 hp.2).any _
  · cases h
theorem l2Counts_ok (R : List Int) (hR : R.length = 24) (hr : rackB R = true) : PureH Try.prog 92 [.arr R] [] (.arr (cntL R)) := by
  have tkR : R.take 24 = R := List.take_of_length_le (by omega)
  refine pure_of_vc (X := ⟨Try.prog, tys, [], [], true, true, 0, [], []⟩) fn_92 ⟨tys_ok, .nil, .nil, mixed⟩ (n0 := 0) (Nat.le_of_ble_eq_true rfl) (by simp [wfL, SV.wf]) (wfH_spec (by simp [wfH, SObj.wf, wfL, SV.wf])) (Nat.le_refl _) (fun _ => by simp [SV.wf, wfL]) ?_
  simp -implicitDefEqProofs only [Try.f92, Option.getD_some, argS, hR, tkR, ZB, Int.reduceToNat, Nat.reduceLT, Nat.reduceLeDiff, Int.reduceLE, Int.reduceLT, Nat.reduceEqDiff, Nat.reduceSub, SB, SV.known, packR, ne_eq, reduceCtorEq, Nat.reduceEqDiff, ↓reduceIte, if_true, if_false, eq_self, Nat.reduceAdd, Nat.reduceMul, Nat.reduceSub, forall_const, oneCellS, litOne, flat1, Kd.isSca, flat, TYB]
  refine loop_intro (fun i : Nat => [(4, .int i), (3, .ptr 2 0), (2, .ptr 1 0), (1, .ptr 0 0)]) (fun i => [(0, .ints R 27), (1, .ints (List.replicate 6 0) 29), (2, .ints (cntL (R.take (i * 4))) 29)]) 3 (fun i => i ≤ 6) (fun i => 6 - i) ?_ ?_
  · refine ⟨0, ?_, Sub.mk_id ?_ ?_ ?_ ?_ ?_⟩
    all_goals (try (simp only [List.take_zero, Nat.zero_mul, cntL_nil, LB, subS, subH, wfS, wfH, SV.ren, renL, SObj.ren, SV.wf, SObj.wf, wfL, SV.known, Nat.reduceEqDiff, ↓reduceIte, if_true, if_false, eq_self, Nat.reduceAdd, Nat.reduceLT, Nat.reduceLeDiff, implies_true, reduceCtorEq, forall_const]; done))
    all_goals (try (simp only [List.take_zero, Nat.zero_mul, cntL_nil, LB, subS, subH, wfS, wfH, SV.ren, renL, SObj.ren, SV.wf, SObj.wf, wfL, SV.known, Nat.reduceEqDiff, ↓reduceIte, if_true, if_false, eq_self, Nat.reduceAdd, Nat.reduceLT, Nat.reduceLeDiff, implies_true, reduceCtorEq, forall_const]; simp; done))
    all_goals (try (simp only [List.take_zero, Nat.zero_mul, cntL_nil, LB, subS, subH, wfS, wfH, SV.ren, renL, SObj.ren, SV.wf, SObj.wf, wfL, SV.known, Nat.reduceEqDiff, ↓reduceIte, if_true, if_false, eq_self, Nat.reduceAdd, Nat.reduceLT, Nat.reduceLeDiff, implies_true, reduceCtorEq, forall_const]; (and_intros <;> (first | omega | rfl | (simp; done) | (simp; omega))); done))
    all_goals (try dsimp only)
    all_goals (and_intros <;> try (first | omega | (unfold In64; omega) | trivial | assumption))
  · intro i hi
    by_cases hlt : i < 6
    · have hil : (i : Int) < 6 := by omega
      simp -implicitDefEqProofs only [lk_normal, hil, hR, ZB, Int.reduceToNat, Nat.reduceLT, Nat.reduceLeDiff, Int.reduceLE, Int.reduceLT, Nat.reduceEqDiff, Nat.reduceSub, SB, SV.known, packR, ne_eq, reduceCtorEq, Nat.reduceEqDiff, ↓reduceIte, if_true, if_false, eq_self, Nat.reduceAdd, Nat.reduceMul, Nat.reduceSub, forall_const, oneCellS, litOne, flat1, Kd.isSca, flat, TYB]
      refine loop_intro (fun j : Nat => [(4, .int i), (5, .int j), (3, .ptr 2 0), (2, .ptr 1 0), (1, .ptr 0 0)]) (fun j => [(0, .ints R 27), (1, .ints (List.replicate 6 0) 29), (2, .ints (cntL (R.take (i * 4 + j))) 29)]) 3 (fun j => j ≤ 4) (fun j => 4 - j) ?_ ?_
      · refine ⟨0, ?_, Sub.mk_id ?_ ?_ ?_ ?_ ?_⟩
        all_goals (try (simp only [Nat.add_zero, LB, subS, subH, wfS, wfH, SV.ren, renL, SObj.ren, SV.wf, SObj.wf, wfL, SV.known, Nat.reduceEqDiff, ↓reduceIte, if_true, if_false, eq_self, Nat.reduceAdd, Nat.reduceLT, Nat.reduceLeDiff, implies_true, reduceCtorEq, forall_const]; done))
        all_goals (try (simp only [Nat.add_zero, LB, subS, subH, wfS, wfH, SV.ren, renL, SObj.ren, SV.wf, SObj.wf, wfL, SV.known, Nat.reduceEqDiff, ↓reduceIte, if_true, if_false, eq_self, Nat.reduceAdd, Nat.reduceLT, Nat.reduceLeDiff, implies_true, reduceCtorEq, forall_const]; simp; done))
        all_goals (try (simp only [Nat.add_zero, LB, subS, subH, wfS, wfH, SV.ren, renL, SObj.ren, SV.wf, SObj.wf, wfL, SV.known, Nat.reduceEqDiff, ↓reduceIte, if_true, if_false, eq_self, Nat.reduceAdd, Nat.reduceLT, Nat.reduceLeDiff, implies_true, reduceCtorEq, forall_const]; (and_intros <;> (first | omega | rfl | (simp; done) | (simp; omega))); done))
        all_goals (try dsimp only)
        all_goals (and_intros <;> try (first | omega | (unfold In64; omega) | trivial | assumption))
      · intro j hj
        by_cases hjt : j < 4
        · have hjl : (j : Int) < 4 := by omega
          have cs := cnt_step hR hr hlt hjt
          have cl := cntL_len (R.take (i * 4 + j))
          simp -implicitDefEqProofs only [lk_normal, hil, hjl, hR, cl, ZB, Int.reduceToNat, Nat.reduceLT, Nat.reduceLeDiff, Int.reduceLE, Int.reduceLT, Nat.reduceEqDiff, Nat.reduceSub, SB, SV.known, packR, ne_eq, reduceCtorEq, Nat.reduceEqDiff, ↓reduceIte, if_true, if_false, eq_self, Nat.reduceAdd, Nat.reduceMul, Nat.reduceSub, forall_const, oneCellS, litOne, flat1, Kd.isSca, flat, TYB]
          (try (and_intros <;> try (first | omega | (unfold In64; omega) | trivial | assumption)))
          refine ⟨j + 1, ?_, ?_, Sub.mk_id ?_ ?_ ?_ ?_ ?_⟩
          all_goals (try (simp only [cs.1, incr, LB, subS, subH, wfS, wfH, SV.ren, renL, SObj.ren, SV.wf, SObj.wf, wfL, SV.known, Nat.reduceEqDiff, ↓reduceIte, if_true, if_false, eq_self, Nat.reduceAdd, Nat.reduceLT, Nat.reduceLeDiff, implies_true, reduceCtorEq, forall_const]; done))
          all_goals (try (simp only [cs.1, incr, LB, subS, subH, wfS, wfH, SV.ren, renL, SObj.ren, SV.wf, SObj.wf, wfL, SV.known, Nat.reduceEqDiff, ↓reduceIte, if_true, if_false, eq_self, Nat.reduceAdd, Nat.reduceLT, Nat.reduceLeDiff, implies_true, reduceCtorEq, forall_const]; simp; done))
          all_goals (try (simp only [cs.1, incr, LB, subS, subH, wfS, wfH, SV.ren, renL, SObj.ren, SV.wf, SObj.wf, wfL, SV.known, Nat.reduceEqDiff, ↓reduceIte, if_true, if_false, eq_self, Nat.reduceAdd, Nat.reduceLT, Nat.reduceLeDiff, implies_true, reduceCtorEq, forall_const]; (and_intros <;> (first | omega | rfl | (simp; done) | (simp; omega))); done))
          all_goals (try dsimp only)
          all_goals (and_intros <;> try (first | omega | (unfold In64; omega) | trivial | assumption))
        · have hjl : ¬ (j : Int) < 4 := by omega
          obtain rfl : j = 4 := by omega
          simp -implicitDefEqProofs only [lk_normal, hjl, ZB, Int.reduceToNat, Nat.reduceLT, Nat.reduceLeDiff, Int.reduceLE, Int.reduceLT, Nat.reduceEqDiff, Nat.reduceSub, SB, SV.known, packR, ne_eq, reduceCtorEq, Nat.reduceEqDiff, ↓reduceIte, if_true, if_false, eq_self, Nat.reduceAdd, Nat.reduceMul, Nat.reduceSub, forall_const, oneCellS, litOne, flat1, Kd.isSca, flat, TYB]
          (try (and_intros <;> try (first | omega | (unfold In64; omega) | trivial | assumption)))
          have e2 : (i + 1) * 4 = i * 4 + 4 := by omega
          refine ⟨i + 1, ?_, ?_, Sub.mk_id ?_ ?_ ?_ ?_ ?_⟩
          all_goals (try (simp only [e2, LB, subS, subH, wfS, wfH, SV.ren, renL, SObj.ren, SV.wf, SObj.wf, wfL, SV.known, Nat.reduceEqDiff, ↓reduceIte, if_true, if_false, eq_self, Nat.reduceAdd, Nat.reduceLT, Nat.reduceLeDiff, implies_true, reduceCtorEq, forall_const]; done))
          all_goals (try (simp only [e2, LB, subS, subH, wfS, wfH, SV.ren, renL, SObj.ren, SV.wf, SObj.wf, wfL, SV.known, Nat.reduceEqDiff, ↓reduceIte, if_true, if_false, eq_self, Nat.reduceAdd, Nat.reduceLT, Nat.reduceLeDiff, implies_true, reduceCtorEq, forall_const]; simp; done))
          all_goals (try (simp only [e2, LB, subS, subH, wfS, wfH, SV.ren, renL, SObj.ren, SV.wf, SObj.wf, wfL, SV.known, Nat.reduceEqDiff, ↓reduceIte, if_true, if_false, eq_self, Nat.reduceAdd, Nat.reduceLT, Nat.reduceLeDiff, implies_true, reduceCtorEq, forall_const]; (and_intros <;> (first | omega | rfl | (simp; done) | (simp; omega))); done))
          all_goals (try dsimp only)
          all_goals (and_intros <;> try (first | omega | (unfold In64; omega) | trivial | assumption))
    · have hil : ¬ (i : Int) < 6 := by omega
      obtain rfl : i = 6 := by omega
      have cl2 := cntL_len R
      have tkc : (cntL R).take 6 = cntL R := List.take_of_length_le (by omega)
      simp -implicitDefEqProofs only [lk_normal, hil, hR, tkR, cl2, tkc, ZB, Int.reduceToNat, Nat.reduceLT, Nat.reduceLeDiff, Int.reduceLE, Int.reduceLT, Nat.reduceEqDiff, Nat.reduceSub, SB, SV.known, packR, ne_eq, reduceCtorEq, Nat.reduceEqDiff, ↓reduceIte, if_true, if_false, eq_self, Nat.reduceAdd, Nat.reduceMul, Nat.reduceSub, forall_const, oneCellS, litOne, flat1, Kd.isSca, flat, TYB]
      (try (and_intros <;> try (first | omega | (unfold In64; omega) | trivial | assumption)))
def l2Counts_F : List SV → Heap → Option (Prop × SV)
  | [.arr R], _ => some (R.length = 24 ∧ rackB R = true, .arr (cntL R))
  | _, _ => none
theorem l2Counts_T : ∀ args H p v, l2Counts_F args H = some (p, v) → p → PureH Try.prog 92 args H v := by
  intro args H p v h hp
  unfold l2Counts_F at h
  split at h
  · cases h; exact (l2Counts_ok _ hp.1 hp.2).any _
  · cases h
/-! Views. -/
def topL (R : List Int) : List Int := (List.range 6).map fun i => (topF (tubeAt R i)).1
def manL (R : List Int) : List Int := (List.range 6).map fun i => (layN (tubeAt R i) : Int)
theorem topL_len (R : List Int) : (topL R).length = 6 := by simp [topL]
theorem manL_len (R : List Int) : (manL R).length = 6 := by simp [manL]
theorem topL_getD (R : List Int) (i : Nat) (h : i < 6) : (topL R).getD i 0 = (topF (tubeAt R i)).1 := by simp [topL, List.getD, h]
theorem manL_getD (R : List Int) (i : Nat) (h : i < 6) : (manL R).getD i 0 = (layN (tubeAt R i) : Int) := by simp [manL, List.getD, h]
def ctL (R : List Int) : List Int := (cntL R).set 0 0
theorem ctL_len (R : List Int) : (ctL R).length = 6 := by simp [ctL, cntL_len]
def viewF (R : List Int) : List Int := topL R ++ manL R ++ ctL R
theorem viewF_len (R : List Int) : (viewF R).length = 18 := by simp [viewF, topL_len, manL_len, ctL_len]
/-- A view in the making. -/
def vwK (R C : List Int) (k : Nat) : List Int := ((topL R).take k ++ List.replicate (6 - k) 0) ++ ((manL R).take k ++ List.replicate (6 - k) 0) ++ C
theorem vwK_len (R C : List Int) (k : Nat) (hk : k ≤ 6) : (vwK R C k).length = 12 + C.length := by
  simp [vwK, topL_len, manL_len]; omega
theorem vwK_zero (R C : List Int) : vwK R C 0 = List.replicate 12 0 ++ C := by
  simp only [vwK, List.take_zero, List.nil_append, Nat.sub_zero]
  rfl
theorem vwK_step (R C : List Int) (k : Nat) (hk : k < 6) : ((vwK R C k).set k (topF (tubeAt R k)).1).set (6 + k) (layN (tubeAt R k) : Int) = vwK R C (k + 1) := by
  have t1 : ((topL R).take k ++ List.replicate (6 - k) 0).length = 6 := by simp [topL_len]; omega
  have t2 : ((manL R).take k ++ List.replicate (6 - k) 0).length = 6 := by simp [manL_len]; omega
  have f1 := fill_step (topL R) k 6 hk (topL_len R)
  have f2 := fill_step (manL R) k 6 hk (manL_len R)
  rw [topL_getD R k hk] at f1
  rw [manL_getD R k hk] at f2
  unfold vwK
  rw [List.append_assoc, List.set_append_left _ _ (by omega), f1]
  have t3 : (List.take (k + 1) (topL R) ++ List.replicate (6 - (k + 1)) 0).length = 6 := by simp [topL_len]; omega
  rw [List.set_append_right _ _ (by omega), t3, show 6 + k - 6 = k by omega, List.set_append_left _ _ (by omega), f2]
  simp only [List.append_assoc]
theorem vwK_end (R C : List Int) : vwK R C 6 = topL R ++ manL R ++ C := by
  unfold vwK
  rw [List.take_of_length_le (by rw [topL_len]; omega), List.take_of_length_le (by rw [manL_len]; omega)]
  simp
theorem viewOf_ok (R : List Int) (hR : R.length = 24) (hr : rackB R = true) : PureH Try.prog 50 [.arr R] [] (.arr (viewF R)) := by
  have tkR : R.take 24 = R := List.take_of_length_le (by omega)
  have cl := cntL_len R
  refine pure_of_vc (X := ⟨Try.prog, tys, [(103, top_F), (54, layers_F), (104, countColors_F)], [], true, true, 0, [], []⟩) fn_50 ⟨tys_ok, (.cons top_T (.cons layers_T (.cons countColors_T .nil))), .nil, mixed⟩ (n0 := 0) (Nat.le_of_ble_eq_true rfl) (by simp [wfL, SV.wf]) (wfH_spec (by simp [wfH, SObj.wf, wfL, SV.wf])) (Nat.le_refl _) (fun _ => by simp [SV.wf, wfL]) ?_
  simp -implicitDefEqProofs only [Try.f50, Option.getD_some, argS, top_F, layers_F, countColors_F, hR, tkR, ZB, Int.reduceToNat, Nat.reduceLT, Nat.reduceLeDiff, Int.reduceLE, Int.reduceLT, Nat.reduceEqDiff, Nat.reduceSub, SB, SV.known, packR, ne_eq, reduceCtorEq, Nat.reduceEqDiff, ↓reduceIte, if_true, if_false, eq_self, Nat.reduceAdd, Nat.reduceMul, Nat.reduceSub, forall_const, oneCellS, litOne, flat1, Kd.isSca, flat, TYB]
  refine loop_intro (fun i : Nat => [(8, .int i), (7, .arr R), (3, .ptr 2 0), (2, .ptr 1 0), (1, .ptr 0 0)]) (fun i => [(0, .ints R 27), (1, .ints (List.replicate 18 0) 31), (2, .ints (vwK R (List.replicate 6 0) i) 31)]) 3 (fun i => i ≤ 6) (fun i => 6 - i) ?_ ?_
  · have r18 : List.replicate 18 (0 : Int) = vwK R (List.replicate 6 0) 0 := by rw [vwK_zero]; rfl
    refine ⟨0, by omega, Sub.mk_id ?_ ?_ ?_ ?_ ?_⟩
    all_goals simp only [← r18, LB, subS, subH, wfS, wfH, SV.ren, renL, SObj.ren, SV.wf, SObj.wf, wfL, SV.known, Nat.reduceEqDiff, ↓reduceIte, if_true, if_false, eq_self, Nat.reduceAdd, Nat.reduceLT, Nat.reduceLeDiff, implies_true, reduceCtorEq, forall_const]
    all_goals simp
  · intro i hi
    have eT : List.take 4 (List.drop (i * 4) R) = tubeAt R i := rfl
    have vl := vwK_len R (List.replicate 6 0) i hi
    rw [List.length_replicate] at vl
    by_cases hlt : i < 6
    · have hil : (i : Int) < 6 := by omega
      have hl := tubeAt_len hR hlt
      have tk4 : (tubeAt R i).take 4 = tubeAt R i := List.take_of_length_le (by omega)
      have es := vwK_step R (List.replicate 6 0) i hlt
      simp -implicitDefEqProofs only [lk_normal, top_F, layers_F, hil, hR, eT, hl, tk4, vl, es, ZB, Int.reduceToNat, Nat.reduceLT, Nat.reduceLeDiff, Int.reduceLE, Int.reduceLT, Nat.reduceEqDiff, Nat.reduceSub, SB, SV.known, packR, ne_eq, reduceCtorEq, Nat.reduceEqDiff, ↓reduceIte, if_true, if_false, eq_self, Nat.reduceAdd, Nat.reduceMul, Nat.reduceSub, forall_const, oneCellS, litOne, flat1, Kd.isSca, flat, TYB]
      (try (and_intros <;> try (first | omega | (unfold In64; omega) | trivial | assumption)))
      refine ⟨i + 1, ?_, ?_, Sub.mk_id ?_ ?_ ?_ ?_ ?_⟩
      all_goals (try (simp only [es, LB, subS, subH, wfS, wfH, SV.ren, renL, SObj.ren, SV.wf, SObj.wf, wfL, SV.known, Nat.reduceEqDiff, ↓reduceIte, if_true, if_false, eq_self, Nat.reduceAdd, Nat.reduceLT, Nat.reduceLeDiff, implies_true, reduceCtorEq, forall_const]; done))
      all_goals (try (simp only [es, LB, subS, subH, wfS, wfH, SV.ren, renL, SObj.ren, SV.wf, SObj.wf, wfL, SV.known, Nat.reduceEqDiff, ↓reduceIte, if_true, if_false, eq_self, Nat.reduceAdd, Nat.reduceLT, Nat.reduceLeDiff, implies_true, reduceCtorEq, forall_const]; simp; done))
      all_goals (try (simp only [es, LB, subS, subH, wfS, wfH, SV.ren, renL, SObj.ren, SV.wf, SObj.wf, wfL, SV.known, Nat.reduceEqDiff, ↓reduceIte, if_true, if_false, eq_self, Nat.reduceAdd, Nat.reduceLT, Nat.reduceLeDiff, implies_true, reduceCtorEq, forall_const]; (and_intros <;> (first | omega | rfl | (simp; done) | (simp; omega))); done))
      all_goals (try dsimp only)
      all_goals (and_intros <;> try (first | omega | (unfold In64; omega) | trivial | assumption))
    · have hil : ¬ (i : Int) < 6 := by omega
      obtain rfl : i = 6 := by omega
      simp -implicitDefEqProofs only [lk_normal, countColors_F, hil, hR, hr, tkR, vl, cl, ZB, Int.reduceToNat, Nat.reduceLT, Nat.reduceLeDiff, Int.reduceLE, Int.reduceLT, Nat.reduceEqDiff, Nat.reduceSub, SB, SV.known, packR, ne_eq, reduceCtorEq, Nat.reduceEqDiff, ↓reduceIte, if_true, if_false, eq_self, Nat.reduceAdd, Nat.reduceMul, Nat.reduceSub, forall_const, oneCellS, litOne, flat1, Kd.isSca, flat, TYB]
      have ve := vwK_end R (List.replicate 6 0)
      have vfl := viewF_len R
      have t12 : List.take 12 (topL R ++ manL R ++ List.replicate 6 0) = topL R ++ manL R := List.take_left' (by rw [List.length_append, topL_len, manL_len])
      have d18 : List.drop 18 (topL R ++ manL R ++ List.replicate 6 0) = [] := List.drop_of_length_le (by simp [topL_len, manL_len])
      have sv : (topL R ++ manL R ++ cntL R).set 12 0 = viewF R := by
        rw [List.set_append_right _ _ (by rw [List.length_append, topL_len, manL_len]; omega), List.length_append, topL_len, manL_len]; rfl
      have l18 : (topL R ++ manL R ++ cntL R).length = 18 := by simp [topL_len, manL_len, cl]
      have tv : List.take 18 (viewF R) = viewF R := List.take_of_length_le (by omega)
      rw [ve, t12, d18, List.append_nil, sv, l18, tv, vfl]
      simp only [Nat.sub_self, List.replicate_zero, List.append_nil]
      exact ⟨by omega, by omega, trivial, by omega, by omega, tv⟩
def viewOf_F : List SV → Heap → Option (Prop × SV)
  | [.arr R], _ => some (R.length = 24 ∧ rackB R = true, .arr (viewF R))
  | _, _ => none
theorem viewOf_T : ∀ args H p v, viewOf_F args H = some (p, v) → p → PureH Try.prog 50 args H v := by
  intro args H p v h hp
  unfold viewOf_F at h
  split at h
  · cases h; exact (viewOf_ok _ hp.1 hp.2).any _
  · cases h
--@tbl l7View = spec.l7View
theorem l7View_ok (R : List Int) (hR : R.length = 24) (hr : rackB R = true) : PureH Try.prog 52 [.arr R] [] (.arr (viewF R)) := by
  have tkR : R.take 24 = R := List.take_of_length_le (by omega)
  have cl := cntL_len R
  have cl2 := ctL_len R
  have w0 : List.take 12 (List.replicate 18 (0 : Int)) = List.replicate 12 0 := rfl
  have w1 : (List.replicate 12 (0 : Int) ++ cntL R).length = 18 := by rw [List.length_append, cl]; rfl
  have w2 : (List.replicate 12 (0 : Int) ++ cntL R).set 12 0 = vwK R (ctL R) 0 := by
    rw [vwK_zero, List.set_append_right _ _ (by simp)]; rfl
  refine pure_of_vc (X := ⟨Try.prog, tys, [(105, l2Top_F), (57, l2Many_F), (92, l2Counts_F)], [], true, true, 0, [], []⟩) fn_52 ⟨tys_ok, (.cons l2Top_T (.cons l2Many_T (.cons l2Counts_T .nil))), .nil, mixed⟩ (n0 := 0) (Nat.le_of_ble_eq_true rfl) (by simp [wfL, SV.wf]) (wfH_spec (by simp [wfH, SObj.wf, wfL, SV.wf])) (Nat.le_refl _) (fun _ => by simp [SV.wf, wfL]) ?_
  simp -implicitDefEqProofs only [Try.f52, Option.getD_some, argS, l2Top_F, l2Many_F, l2Counts_F, hR, tkR, hr, cl, w0, w1, w2, List.append_nil, ZB, Int.reduceToNat, Nat.reduceLT, Nat.reduceLeDiff, Int.reduceLE, Int.reduceLT, Nat.reduceEqDiff, Nat.reduceSub, SB, SV.known, packR, ne_eq, reduceCtorEq, Nat.reduceEqDiff, ↓reduceIte, if_true, if_false, eq_self, Nat.reduceAdd, Nat.reduceMul, Nat.reduceSub, forall_const, oneCellS, litOne, flat1, Kd.isSca, flat, TYB]
  (try (and_intros <;> try (first | omega | (unfold In64; omega) | trivial | assumption)))
  refine loop_intro (fun i : Nat => [(4, .int i), (3, .ptr 2 0), (2, .ptr 1 0), (1, .ptr 0 0)]) (fun i => [(0, .ints R 27), (1, .ints (List.replicate 18 0) 31), (2, .ints (vwK R (ctL R) i) 31)]) 3 (fun i => i ≤ 6) (fun i => 6 - i) ?_ ?_
  · refine ⟨0, ?_, Sub.mk_id ?_ ?_ ?_ ?_ ?_⟩
    all_goals (try (simp only [LB, subS, subH, wfS, wfH, SV.ren, renL, SObj.ren, SV.wf, SObj.wf, wfL, SV.known, Nat.reduceEqDiff, ↓reduceIte, if_true, if_false, eq_self, Nat.reduceAdd, Nat.reduceLT, Nat.reduceLeDiff, implies_true, reduceCtorEq, forall_const]; done))
    all_goals (try (simp only [LB, subS, subH, wfS, wfH, SV.ren, renL, SObj.ren, SV.wf, SObj.wf, wfL, SV.known, Nat.reduceEqDiff, ↓reduceIte, if_true, if_false, eq_self, Nat.reduceAdd, Nat.reduceLT, Nat.reduceLeDiff, implies_true, reduceCtorEq, forall_const]; simp; done))
    all_goals (try (simp only [LB, subS, subH, wfS, wfH, SV.ren, renL, SObj.ren, SV.wf, SObj.wf, wfL, SV.known, Nat.reduceEqDiff, ↓reduceIte, if_true, if_false, eq_self, Nat.reduceAdd, Nat.reduceLT, Nat.reduceLeDiff, implies_true, reduceCtorEq, forall_const]; (and_intros <;> (first | omega | rfl | (simp; done) | (simp; omega))); done))
    all_goals (try dsimp only)
    all_goals (and_intros <;> try (first | omega | (unfold In64; omega) | trivial | assumption))
  · intro i hi
    have eT : List.take 4 (List.drop (i * 4) R) = tubeAt R i := rfl
    have vl := vwK_len R (ctL R) i hi
    rw [cl2] at vl
    by_cases hlt : i < 6
    · have hil : (i : Int) < 6 := by omega
      have hl := tubeAt_len hR hlt
      have hb := tubeAt_ok hr hlt
      have hp := posC_lay _ hl hb
      have es := vwK_step R (ctL R) i hlt
      simp -implicitDefEqProofs only [lk_normal, l2Top_F, l2Many_F, hil, hR, eT, hl, hb, hp, vl, es, ZB, Int.reduceToNat, Nat.reduceLT, Nat.reduceLeDiff, Int.reduceLE, Int.reduceLT, Nat.reduceEqDiff, Nat.reduceSub, SB, SV.known, packR, ne_eq, reduceCtorEq, Nat.reduceEqDiff, ↓reduceIte, if_true, if_false, eq_self, Nat.reduceAdd, Nat.reduceMul, Nat.reduceSub, forall_const, oneCellS, litOne, flat1, Kd.isSca, flat, TYB]
      (try (and_intros <;> try (first | omega | (unfold In64; omega) | trivial | assumption)))
      refine ⟨i + 1, ?_, ?_, Sub.mk_id ?_ ?_ ?_ ?_ ?_⟩
      all_goals (try (simp only [es, LB, subS, subH, wfS, wfH, SV.ren, renL, SObj.ren, SV.wf, SObj.wf, wfL, SV.known, Nat.reduceEqDiff, ↓reduceIte, if_true, if_false, eq_self, Nat.reduceAdd, Nat.reduceLT, Nat.reduceLeDiff, implies_true, reduceCtorEq, forall_const]; done))
      all_goals (try (simp only [es, LB, subS, subH, wfS, wfH, SV.ren, renL, SObj.ren, SV.wf, SObj.wf, wfL, SV.known, Nat.reduceEqDiff, ↓reduceIte, if_true, if_false, eq_self, Nat.reduceAdd, Nat.reduceLT, Nat.reduceLeDiff, implies_true, reduceCtorEq, forall_const]; simp; done))
      all_goals (try (simp only [es, LB, subS, subH, wfS, wfH, SV.ren, renL, SObj.ren, SV.wf, SObj.wf, wfL, SV.known, Nat.reduceEqDiff, ↓reduceIte, if_true, if_false, eq_self, Nat.reduceAdd, Nat.reduceLT, Nat.reduceLeDiff, implies_true, reduceCtorEq, forall_const]; (and_intros <;> (first | omega | rfl | (simp; done) | (simp; omega))); done))
      all_goals (try dsimp only)
      all_goals (and_intros <;> try (first | omega | (unfold In64; omega) | trivial | assumption))
    · have hil : ¬ (i : Int) < 6 := by omega
      obtain rfl : i = 6 := by omega
      have ve := vwK_end R (ctL R)
      simp -implicitDefEqProofs only [lk_normal, hil, hR, tkR, vl, ve, ZB, Int.reduceToNat, Nat.reduceLT, Nat.reduceLeDiff, Int.reduceLE, Int.reduceLT, Nat.reduceEqDiff, Nat.reduceSub, SB, SV.known, packR, ne_eq, reduceCtorEq, Nat.reduceEqDiff, ↓reduceIte, if_true, if_false, eq_self, Nat.reduceAdd, Nat.reduceMul, Nat.reduceSub, forall_const, oneCellS, litOne, flat1, Kd.isSca, flat, TYB]
      have vfl := viewF_len R
      have t18 : List.take 18 (topL R ++ manL R ++ ctL R) = viewF R := List.take_of_length_le (by rw [← viewF, vfl]; omega)
      rw [t18, vfl]
      simp only [Nat.sub_self, List.replicate_zero, List.append_nil]
      refine ⟨by rw [← viewF, vfl]; omega, trivial, by omega, by omega, List.take_of_length_le (by omega)⟩
def l7View_F : List SV → Heap → Option (Prop × SV)
  | [.arr R], _ => some (R.length = 24 ∧ rackB R = true, .arr (viewF R))
  | _, _ => none
theorem l7View_T : ∀ args H p v, l7View_F args H = some (p, v) → p → PureH Try.prog 52 args H v := by
  intro args H p v h hp
  unfold l7View_F at h
  split at h
  · cases h; exact (l7View_ok _ hp.1 hp.2).any _
  · cases h
--@tbl ViewBehind = impl.ViewBehind
--@tbl sViewBehind = spec.ViewBehind
end Go.Proofs.Ytckcojgfgcjamaa
