/- Texts of this claim, joined (R, C, S, K, M, N, D, E, P, G, Pour, O, H, Q, Val, Bnd, Upd, Del, Use, GL). -/
import Derived.Test.YtopfnkmlgcjpbaaQ1
import Derived.Test.YtopfnkmlgcjpbaaQ2
import Derived.Test.YtopfnkmlgcjpbaaQ3
set_option maxRecDepth 100000
set_option linter.unusedSimpArgs false
set_option linter.unusedVariables false
namespace Go.Proofs.Ytopfnkmlgcjpbaa
open Go Go.RowKit
/-! Tubes. -/
def isZ0 (x : Int) : Bool := decide (0 = x)
def coT (i : Int) : Bool := decide (1 ≤ i ∧ i ≤ 5)
def layN (t : List Int) : Nat := (t.findIdx? isZ0).getD 4
theorem index_ok (v : Int) (L : List Int) (e off len cap : Nat) (hl : off + len ≤ L.length) (hm : len ≤ 9223372036854775806) :
    PureH Try.prog 155 [.slice 0 off len cap, .int v] [(0, .ints L e)] (.int (idxI (fun x => decide (v = x)) ((L.drop off).take len))) := by
  have hE : ((L.drop off).take len).length = len := by simp; omega
  refine pure_of_vc (X := ⟨Try.prog, tys, [], [], true, true, 1, [], []⟩) fn_155 ⟨tys_ok, .nil, .nil, mixed⟩ (n0 := 1) (Nat.le_of_ble_eq_true rfl) (by simp [wfL, SV.wf]) (wfH_spec (by simp [wfH, SObj.wf])) (Nat.le_refl _) (fun _ => by simp [SV.wf, wfL]) ?_
  simp -implicitDefEqProofs only [Try.f155, Option.getD_some, argS, ZB, Int.reduceToNat, Nat.reduceLT, Nat.reduceLeDiff, Int.reduceLE, Int.reduceLT, Nat.reduceEqDiff, Nat.reduceSub, SB, SV.known, packR, ne_eq, reduceCtorEq, Nat.reduceEqDiff, ↓reduceIte, if_true, if_false, eq_self, Nat.reduceAdd, Nat.reduceMul, Nat.reduceSub, forall_const, oneCellS, litOne, flat1, Kd.isSca, flat, TYB]
  refine loop_intro (fun i : Nat => [(0, .slice 0 off len cap), (1, .int v), (7, .int len), (8, .int i)]) (fun _ => [(0, .ints L e)]) 1 (fun i => i ≤ len ∧ ∀ k, k < i → (fun x => decide (v = x)) (((L.drop off).take len).getD k 0) = false) (fun i => len - i) ?_ ?_
  · refine ⟨0, ⟨by omega, by simp⟩, Sub.mk_id ?_ ?_ ?_ ?_ ?_⟩
    all_goals simp only [LB, subS, subH, wfS, wfH, SV.ren, renL, SObj.ren, SV.wf, SObj.wf, wfL, SV.known, Nat.reduceEqDiff, ↓reduceIte, if_true, if_false, eq_self, Nat.reduceAdd, Nat.reduceLT, Nat.reduceLeDiff, implies_true, reduceCtorEq, forall_const]
    all_goals simp
  · intro i hi
    obtain ⟨hi1, hi2⟩ := hi
    simp -implicitDefEqProofs only [lk_normal, ZB, Int.reduceToNat, Nat.reduceLT, Nat.reduceLeDiff, Int.reduceLE, Int.reduceLT, Nat.reduceEqDiff, Nat.reduceSub, SB, SV.known, packR, ne_eq, reduceCtorEq, Nat.reduceEqDiff, ↓reduceIte, if_true, if_false, eq_self, Nat.reduceAdd, Nat.reduceMul, Nat.reduceSub, forall_const, oneCellS, litOne, flat1, Kd.isSca, flat, TYB]
    refine ⟨fun h => ?_, fun h => ?_⟩
    · have hlt : i < len := by omega
      rw [← getD_cut L off len i hlt]
      (try (and_intros <;> try (first | omega | (unfold In64; omega) | trivial | assumption)))
      all_goals intro hv
      · rw [idxI_hit (i := i) (by omega) (by simpa using hv) hi2]
      · (try (and_intros <;> try (first | omega | (unfold In64; omega) | trivial | assumption)))
        refine ⟨i + 1, ⟨by omega, fun k hk => ?_⟩, by omega, Sub.mk_id ?_ ?_ ?_ ?_ ?_⟩
        · by_cases hki : k = i
          · subst hki; simpa using hv
          · exact hi2 k (by omega)
        all_goals simp only [LB, subS, subH, wfS, wfH, SV.ren, renL, SObj.ren, SV.wf, SObj.wf, wfL, SV.known, Nat.reduceEqDiff, ↓reduceIte, if_true, if_false, eq_self, Nat.reduceAdd, Nat.reduceLT, Nat.reduceLeDiff, implies_true, reduceCtorEq, forall_const]
    · obtain rfl : i = len := by omega
      rw [idxI_none (by rw [hE]; exact hi2)]
--@tbl index = slices.Index[[]int,int]
def index_F : List SV → Heap → Option (Prop × SV)
  | [.slice b off len _, .int v], H => match hget H b with
    | some (.ints L _) => some (off + len ≤ L.length ∧ len ≤ 9223372036854775806, .int (idxI (fun x => decide (v = x)) ((L.drop off).take len)))
    | _ => none
  | _, _ => none
theorem index_T : ∀ args H p v, index_F args H = some (p, v) → p → PureH Try.prog 155 args H v := by
  intro args H p v h hp
  unfold index_F at h
  split at h
  · rename_i b off len cap v
    split at h
    · rename_i L e hb
      cases h
      exact (index_ok v L e off len cap hp.1 hp.2).sub (H := H) (fun _ => b) (fun j o hj => by
        rw [hget_cons] at hj
        split at hj
        · cases hj; exact ⟨hb, fun _ => by omega, by simp [*]⟩
        · cases hj) (fun a ha c hc _ => by simp at ha hc; omega) (fun _ => trivial)
    · cases h
  · cases h
theorem lay_idx (t : List Int) : (idxI (fun x => decide (0 = x)) t < 0 → layN t = 4) ∧ (¬ idxI (fun x => decide (0 = x)) t < 0 → idxI (fun x => decide (0 = x)) t = layN t) := by
  unfold idxI layN
  have e : (fun x : Int => decide (0 = x)) = isZ0 := rfl
  rw [e]
  cases t.findIdx? isZ0 with
  | none => exact ⟨fun _ => rfl, fun h => (h (by simp)).elim⟩
  | some k => exact ⟨fun h => by simp at h; omega, fun _ => rfl⟩
theorem lay_le (t : List Int) (h : t.length = 4) : layN t ≤ 4 := by
  unfold layN
  cases hf : t.findIdx? isZ0 with
  | none => simp
  | some k =>
    obtain ⟨hk, _⟩ := List.findIdx?_eq_some_iff_getElem.1 hf
    simp; omega
--@tbl layers = impl.layers
theorem layers_ok (t : List Int) (ht : t.length = 4) : PureH Try.prog 133 [.arr t] [] (.int (layN t)) := by
  have tk : t.take 4 = t := List.take_of_length_le (by omega)
  obtain ⟨l1, l2⟩ := lay_idx t
  refine pure_of_vc (X := ⟨Try.prog, tys, [(155, index_F)], [], true, true, 0, [], []⟩) fn_133 ⟨tys_ok, (.cons index_T .nil), .nil, mixed⟩ (n0 := 0) (Nat.le_of_ble_eq_true rfl) (by simp [wfL, SV.wf]) (wfH_spec (by simp [wfH, SObj.wf])) (Nat.le_refl _) (fun _ => by simp [SV.wf, wfL]) ?_
  simp -implicitDefEqProofs only [Try.f133, Option.getD_some, argS, index_F, tk, ht, ZB, Int.reduceToNat, Nat.reduceLT, Nat.reduceLeDiff, Int.reduceLE, Int.reduceLT, Nat.reduceEqDiff, Nat.reduceSub, SB, SV.known, packR, ne_eq, reduceCtorEq, Nat.reduceEqDiff, ↓reduceIte, if_true, if_false, eq_self, Nat.reduceAdd, Nat.reduceMul, Nat.reduceSub, forall_const, oneCellS, litOne, flat1, Kd.isSca, flat, TYB]
  exact ⟨fun h => by rw [l1 h]; rfl, fun h => by rw [l2 h]⟩
def layers_F : List SV → Heap → Option (Prop × SV)
  | [.arr t], _ => some (t.length = 4, .int (layN t))
  | _, _ => none
theorem layers_T : ∀ args H p v, layers_F args H = some (p, v) → p → PureH Try.prog 133 args H v := by
  intro args H p v h hp
  unfold layers_F at h
  split at h
  · cases h; exact (layers_ok _ hp).any _
  · cases h
def is0 (c : Int) : Bool := decide (c = 0)
def tubeB (t : List Int) : Bool := (t.take (layN t)).all coT && (t.drop (layN t)).all is0
theorem isTube1_ok (n : Int) : PureH Try.prog 143 [.int n] [] (.bool (is0 n)) := by
  refine pure_of_vc (X := ⟨Try.prog, tys, [], [], true, true, 0, [], []⟩) fn_143 ⟨tys_ok, .nil, .nil, mixed⟩ (n0 := 0) (Nat.le_of_ble_eq_true rfl) (by simp [wfL, SV.wf]) (wfH_spec (by simp [wfH, SObj.wf])) (Nat.le_refl _) (fun _ => by simp [SV.wf, wfL]) ?_
  simp -implicitDefEqProofs only [Try.f143, Option.getD_some, argS, SB, SV.known, packR, ne_eq, reduceCtorEq, Nat.reduceEqDiff, ↓reduceIte, if_true, if_false, eq_self, Nat.reduceAdd, Nat.reduceMul, Nat.reduceSub, forall_const, oneCellS, litOne, flat1, Kd.isSca, flat, TYB]
  trivial
theorem isColor_ok' (i : Int) : PureH Try.prog 142 [.int i] [] (.bool (coT i)) := by
  refine pure_of_vc (X := ⟨Try.prog, tys, [(108, within_F)], [], true, true, 0, [], []⟩) fn_142 ⟨tys_ok, (.cons within_T .nil), .nil, mixed⟩ (n0 := 0) (Nat.le_of_ble_eq_true rfl) (by simp [wfL, SV.wf]) (wfH_spec (by simp [wfH, SObj.wf])) (Nat.le_refl _) (fun _ => by simp [SV.wf, wfL]) ?_
  simp -implicitDefEqProofs only [Try.f142, Option.getD_some, argS, within_F, SB, SV.known, packR, ne_eq, reduceCtorEq, Nat.reduceEqDiff, ↓reduceIte, if_true, if_false, eq_self, Nat.reduceAdd, Nat.reduceMul, Nat.reduceSub, forall_const, oneCellS, litOne, flat1, Kd.isSca, flat, TYB]
  trivial
--@tbl areAll_tube = impl.areAll[int]
def areAll_tube_F := areAllI_F [(142, coT), (143, is0)]
theorem areAll_tube_T : ∀ args H p v, areAll_tube_F args H = some (p, v) → p → PureH Try.prog 106 args H v :=
  areAllI_T (by intro q hq; simp at hq; rcases hq with rfl | rfl; exact isColor_ok'; exact isTube1_ok)
theorem cut_take (t : List Int) (m l : Nat) : (t.drop (cutOff m l 0 1)).take (m - l) = (t.drop l).take (m - l) := by
  unfold cutOff
  split
  · rename_i h; subst h; simp
  · simp
--@tbl isTube = impl.isTube
theorem isTube_ok (t : List Int) (ht : t.length = 4) : PureH Try.prog 76 [.arr t] [] (.bool (tubeB t)) := by
  have tk : t.take 4 = t := List.take_of_length_le (by omega)
  have hle := lay_le t ht
  unfold tubeB
  cases h : (t.take (layN t)).all coT
  · refine pure_of_vc (X := ⟨Try.prog, tys, [(133, layers_F), (106, areAll_tube_F)], [], true, true, 0, [], []⟩) fn_76 ⟨tys_ok, (.cons layers_T (.cons areAll_tube_T .nil)), .nil, mixed⟩ (n0 := 0) (Nat.le_of_ble_eq_true rfl) (by simp [wfL, SV.wf]) (wfH_spec (by simp [wfH, SObj.wf])) (Nat.le_refl _) (fun _ => by simp [SV.wf, wfL]) ?_
    simp -implicitDefEqProofs only [Try.f76, Option.getD_some, argS, layers_F, areAll_tube_F, areAllI_F, tk, ht, h, ZB, Int.reduceToNat, Nat.reduceLT, Nat.reduceLeDiff, Int.reduceLE, Int.reduceLT, Nat.reduceEqDiff, Nat.reduceSub, SB, SV.known, packR, ne_eq, reduceCtorEq, Nat.reduceEqDiff, ↓reduceIte, if_true, if_false, eq_self, Nat.reduceAdd, Nat.reduceMul, Nat.reduceSub, forall_const, oneCellS, litOne, flat1, Kd.isSca, flat, TYB]
    (try (and_intros <;> try (first | omega | (unfold In64; omega) | trivial | assumption)))
  · refine pure_of_vc (X := ⟨Try.prog, tys, [(133, layers_F), (106, areAll_tube_F)], [], true, true, 0, [], []⟩) fn_76 ⟨tys_ok, (.cons layers_T (.cons areAll_tube_T .nil)), .nil, mixed⟩ (n0 := 0) (Nat.le_of_ble_eq_true rfl) (by simp [wfL, SV.wf]) (wfH_spec (by simp [wfH, SObj.wf])) (Nat.le_refl _) (fun _ => by simp [SV.wf, wfL]) ?_
    simp -implicitDefEqProofs only [Try.f76, Option.getD_some, argS, layers_F, areAll_tube_F, areAllI_F, tk, ht, h, cut_take, ZB, Int.reduceToNat, Nat.reduceLT, Nat.reduceLeDiff, Int.reduceLE, Int.reduceLT, Nat.reduceEqDiff, Nat.reduceSub, SB, SV.known, packR, ne_eq, reduceCtorEq, Nat.reduceEqDiff, ↓reduceIte, if_true, if_false, eq_self, Nat.reduceAdd, Nat.reduceMul, Nat.reduceSub, forall_const, oneCellS, litOne, flat1, Kd.isSca, flat, TYB]
    have e : (t.drop (layN t)).take (4 - layN t) = t.drop (layN t) := List.take_of_length_le (by simp; omega)
    rw [e]
    have hc : cutOff 4 (layN t) 0 1 + (4 - layN t) ≤ 4 := by unfold cutOff; split <;> omega
    (try (and_intros <;> try (first | omega | (unfold In64; omega) | trivial | assumption)))
/-! The same for tubes as elements. -/
def tubesOf (L : List Int) (off len : Nat) : List (List Int) := (List.range len).map fun i => (L.drop (off + i * 4)).take 4
theorem tubesOf_len (L : List Int) (off len : Nat) : (tubesOf L off len).length = len := by simp [tubesOf]
theorem tubesOf_getD (L : List Int) (off len k : Nat) (h : k < len) : (tubesOf L off len).getD k [] = (L.drop (off + k * 4)).take 4 := by simp [tubesOf, List.getD, h]
def idxG {α : Type} (pr : α → Bool) (l : List α) : Int := match l.findIdx? pr with
  | some k => k
  | none => -1
theorem idxG_hit {α : Type} {d : α} {pr : α → Bool} {l : List α} {i : Nat} (hi : i < l.length) (hp : pr (l.getD i d) = true) (hn : ∀ k, k < i → pr (l.getD k d) = false) : idxG pr l = i := by
  have : l.findIdx? pr = some i := by
    rw [List.findIdx?_eq_some_iff_getElem]
    refine ⟨hi, by simpa [List.getD, List.getElem?_eq_getElem hi] using hp, fun j hj => ?_⟩
    have := hn j hj
    simpa [List.getD, List.getElem?_eq_getElem (show j < l.length by omega)] using this
  simp [idxG, this]
theorem idxG_none {α : Type} {d : α} {pr : α → Bool} {l : List α} (hn : ∀ k, k < l.length → pr (l.getD k d) = false) : idxG pr l = -1 := by
  have : l.findIdx? pr = none := by
    rw [List.findIdx?_eq_none_iff]
    intro x hx
    obtain ⟨k, hk, rfl⟩ := List.getElem_of_mem hx
    have := hn k hk
    simpa [List.getD, List.getElem?_eq_getElem hk] using this
  simp [idxG, this]
theorem idxG_any {α : Type} (pr : α → Bool) (l : List α) : decide (0 ≤ idxG pr l) = l.any pr := by
  unfold idxG
  cases h : l.findIdx? pr with
  | none =>
    have := (List.findIdx?_eq_none_iff).1 h
    have e : l.any pr = false := by rw [List.any_eq_false]; intro x hx; simp [this x hx]
    rw [e]; decide
  | some k =>
    obtain ⟨hk, hp, _⟩ := List.findIdx?_eq_some_iff_getElem.1 h
    have e : l.any pr = true := List.any_eq_true.2 ⟨l[k], List.getElem_mem _, hp⟩
    rw [e]; simp
theorem indexFuncT_ok (g : Nat) (caps : List SV) (Hc : Heap) (pr : List Int → Bool) (n0 : Nat) (L : List Int) (e off len cap : Nat) (hl : off + len * 4 ≤ L.length) (hm : len ≤ 9223372036854775806)
    (hc : ∀ x ∈ tubesOf L off len, PureH Try.prog g (.arr x :: caps) ((0, .ints L e) :: Hc) (.bool (pr x))) (hw : wfL n0 caps) (hwH : hwf n0 ((0, .ints L e) :: Hc)) :
    PureH Try.prog 158 [.slice 0 off len cap, .fn g caps] ((0, .ints L e) :: Hc) (.int (idxG pr (tubesOf L off len))) := by
  have hE := tubesOf_len L off len
  have h00 : 0 < n0 := (hwH 0 _ (by rw [hget_cons, if_pos rfl])).1
  refine pure_of_vc (X := ⟨Try.prog, tys, [(g, fun args H => match args with | .arr x :: r => some (r = caps ∧ H = ((0, .ints L e) :: Hc) ∧ x ∈ tubesOf L off len, .bool (pr x)) | _ => none)], [], true, true, n0, [], []⟩) fn_158
    ⟨tys_ok, .cons (fun args H p v h hp => ?_) .nil, .nil, mixed⟩ (n0 := n0) (Nat.le_of_ble_eq_true rfl) ⟨by have := (hwH 0 _ (by rw [hget_cons, if_pos rfl])).1; simpa [SV.wf] using this, by simpa [SV.wf] using hw, trivial⟩ hwH (Nat.le_refl _) (fun _ => trivial) ?_
  · split at h
    · cases h
      obtain ⟨rfl, rfl, hx⟩ := hp
      exact hc _ hx
    · cases h
  simp -implicitDefEqProofs only [Try.f158, Option.getD_some, argS, SB, SV.known, packR, ne_eq, reduceCtorEq, Nat.reduceEqDiff, ↓reduceIte, if_true, if_false, eq_self, Nat.reduceAdd, Nat.reduceMul, Nat.reduceSub, forall_const, oneCellS, litOne, flat1, Kd.isSca, flat, TYB]
  refine loop_intro (fun i : Nat => [(0, .slice 0 off len cap), (1, .fn g caps), (7, .int len), (8, .int i)]) (fun i => (0, .ints L e) :: Hc) n0 (fun i => i ≤ len ∧ ∀ k, k < i → pr ((tubesOf L off len).getD k []) = false) (fun i => len - i) ?_ ?_
  · refine ⟨0, ⟨by omega, by simp⟩, Sub.same ?_ ?_ hwH (Nat.le_refl _)⟩
    · simp [subS, subH, wfS, wfH, SV.ren, renL, SObj.ren, SV.wf, SObj.wf, wfL, sget_cons, hget_cons, SV.known, renL_id]
    · simp [subS, subH, wfS, wfH, SV.ren, renL, SObj.ren, SV.wf, SObj.wf, wfL, sget_cons, hget_cons, hw, h00]
  · intro i hi
    obtain ⟨hi1, hi2⟩ := hi
    simp -implicitDefEqProofs only [lk_normal, SB, SV.known, packR, ne_eq, reduceCtorEq, Nat.reduceEqDiff, ↓reduceIte, if_true, if_false, eq_self, Nat.reduceAdd, Nat.reduceMul, Nat.reduceSub, forall_const, oneCellS, litOne, flat1, Kd.isSca, flat, TYB]
    refine ⟨fun h => ?_, fun h => ?_⟩
    · have hlt : i < len := by omega
      have e1 : off + (i : Int).toNat * 4 = off + i * 4 := by simp
      have e2 : (L.drop (off + i * 4)).take 4 = (tubesOf L off len).getD i [] := (tubesOf_getD L off len i hlt).symm
      simp only [e1, e2]
      refine ⟨by omega, by omega, by omega, ?_, ?_⟩
      · simp only [List.getD, List.getElem?_eq_getElem (show i < (tubesOf L off len).length by omega), Option.getD_some]
        exact List.getElem_mem _
      · cases hp : pr ((tubesOf L off len).getD i []) with
        | true =>
          simp -implicitDefEqProofs only [SB, SV.known, packR, ne_eq, reduceCtorEq, Nat.reduceEqDiff, ↓reduceIte, if_true, if_false, eq_self, Nat.reduceAdd, Nat.reduceMul, Nat.reduceSub, forall_const, oneCellS, litOne, flat1, Kd.isSca, flat, TYB]
          rw [idxG_hit (by omega) hp hi2]
        | false =>
          simp -implicitDefEqProofs only [lk_normal, SB, SV.known, packR, ne_eq, reduceCtorEq, Nat.reduceEqDiff, ↓reduceIte, if_true, if_false, eq_self, Nat.reduceAdd, Nat.reduceMul, Nat.reduceSub, forall_const, oneCellS, litOne, flat1, Kd.isSca, flat, TYB]
          refine ⟨by unfold In64; omega, i + 1, ⟨by omega, fun k hk => ?_⟩, by omega, Sub.same ?_ ?_ hwH (Nat.le_refl _)⟩
          · by_cases hki : k = i
            · subst hki; exact hp
            · exact hi2 k (by omega)
          · simp [subS, subH, wfS, wfH, SV.ren, renL, SObj.ren, SV.wf, SObj.wf, wfL, sget_cons, hget_cons, SV.known, renL_id]
          · simp [subS, subH, wfS, wfH, SV.ren, renL, SObj.ren, SV.wf, SObj.wf, wfL, sget_cons, hget_cons, hw, h00]
    · obtain rfl : i = len := by omega
      rw [idxG_none (by rw [hE]; exact hi2)]

theorem containsFuncT_ok (g : Nat) (caps : List SV) (Hc : Heap) (pr : List Int → Bool) (n0 : Nat) (L : List Int) (e off len cap : Nat) (hl : off + len * 4 ≤ L.length) (hm : len ≤ 9223372036854775806)
    (hc : ∀ x ∈ tubesOf L off len, PureH Try.prog g (.arr x :: caps) ((0, .ints L e) :: Hc) (.bool (pr x))) (hw : wfL n0 caps) (hwH : hwf n0 ((0, .ints L e) :: Hc)) :
    PureH Try.prog 140 [.slice 0 off len cap, .fn g caps] ((0, .ints L e) :: Hc) (.bool ((tubesOf L off len).any pr)) := by
  have h00 : 0 < n0 := (hwH 0 _ (by rw [hget_cons, if_pos rfl])).1
  refine pure_of_vc (X := ⟨Try.prog, tys, [(158, fun args H => some (args = [.slice 0 off len cap, .fn g caps] ∧ H = ((0, .ints L e) :: Hc), .int (idxG pr (tubesOf L off len))))], [], true, true, n0, [], []⟩) fn_140
    ⟨tys_ok, .cons (fun args H p v h hp => ?_) .nil, .nil, mixed⟩ (n0 := n0) (Nat.le_of_ble_eq_true rfl) ⟨by simpa [SV.wf] using h00, by simpa [SV.wf] using hw, trivial⟩ hwH (Nat.le_refl _) (fun _ => trivial) ?_
  · cases h
    obtain ⟨rfl, rfl⟩ := hp
    exact indexFuncT_ok g caps Hc pr n0 L e off len cap hl hm hc hw hwH
  simp -implicitDefEqProofs only [Try.f140, Option.getD_some, argS, SB, SV.known, packR, ne_eq, reduceCtorEq, Nat.reduceEqDiff, ↓reduceIte, if_true, if_false, eq_self, Nat.reduceAdd, Nat.reduceMul, Nat.reduceSub, forall_const, oneCellS, litOne, flat1, Kd.isSca, flat, TYB, idxG_any]

/-- areAll's own closure. -/
theorem tubesOf_mem {L : List Int} {off len : Nat} (h : off + len * 4 ≤ L.length) {x : List Int} (hx : x ∈ tubesOf L off len) : x.length = 4 := by
  obtain ⟨i, hi, rfl⟩ := List.mem_map.1 hx
  have := List.mem_range.1 hi
  rw [List.length_take, List.length_drop]; omega
theorem areAllT1_ok (x : List Int) (hx4 : x.length = 4) (g : Nat) (pr : List Int → Bool) (k et : Nat) (H : Heap) (hk : hget H k = some (.cells [.fn g []] et)) (hg : PureH Try.prog g [.arr x] [] (.bool (pr x))) :
    PureH Try.prog 141 [.arr x, .ptr k 0] H (.bool (!pr x)) := by
  have h0 : PureH Try.prog 141 [.arr x, .ptr 0 0] [(0, .cells [.fn g []] et)] (.bool (!pr x)) := by
    refine pure_of_vc (X := ⟨Try.prog, tys, [(g, fun args _ => some (args = [.arr x], .bool (pr x)))], [], true, true, 1, [], []⟩) fn_141
      ⟨tys_ok, .cons (fun args H p v h hp => ?_) .nil, .nil, mixed⟩ (n0 := 1) (Nat.le_of_ble_eq_true rfl) (by simp [wfL, SV.wf]) (wfH_spec (by simp [wfH, SObj.wf, wfL, SV.wf])) (Nat.le_refl _) (fun _ => trivial) ?_
    · cases h; subst hp; exact hg.any H
    have tkx : x.take 4 = x := List.take_of_length_le (by omega)
    simp -implicitDefEqProofs only [Try.f141, hx4, tkx, Option.getD_some, argS, SB, SV.known, packR, ne_eq, reduceCtorEq, Nat.reduceEqDiff, ↓reduceIte, if_true, if_false, eq_self, Nat.reduceAdd, Nat.reduceMul, Nat.reduceSub, forall_const, oneCellS, litOne, flat1, Kd.isSca, flat, TYB]
  exact h0.sub (H := H) (fun _ => k) (fun j o hj => by
    rw [hget_cons] at hj
    split at hj
    · cases hj; exact ⟨hk, fun _ => by omega, by simp [*]⟩
    · cases hj) (fun a ha b hb _ => by simp at ha hb; omega) (fun _ => trivial)

theorem all_anyT (pr : List Int → Bool) (l : List (List Int)) : (!l.any fun x => !pr x) = l.all pr := by simp [List.all_eq_not_any_not]

theorem areAllT_ok (g : Nat) (pr : List Int → Bool) (L : List Int) (e off len cap : Nat) (hl : off + len * 4 ≤ L.length) (hm : len ≤ 9223372036854775806) (hg : ∀ x ∈ tubesOf L off len, PureH Try.prog g [.arr x] [] (.bool (pr x))) :
    PureH Try.prog 75 [.slice 0 off len cap, .fn g []] [(0, .ints L e)] (.bool ((tubesOf L off len).all pr)) := by
  refine pure_of_vc (X := ⟨Try.prog, tys, [(140, fun args H => some (args = [.slice 0 off len cap, .fn 141 [.ptr 1 0]] ∧ hget H 0 = some (.ints L e) ∧ ∃ et, hget H 1 = some (.cells [.fn g []] et), .bool ((tubesOf L off len).any fun x => !pr x)))], [], true, true, 1, [], []⟩) fn_75
    ⟨tys_ok, .cons (fun args H p v h hp => ?_) .nil, .nil, mixed⟩ (n0 := 1) (Nat.le_of_ble_eq_true rfl) (by simp [wfL, SV.wf]) (wfH_spec (by simp [wfH, SObj.wf])) (Nat.le_refl _) (fun _ => trivial) ?_
  · cases h
    obtain ⟨rfl, h0, et, h1⟩ := hp
    have := containsFuncT_ok 141 [.ptr 1 0] [(1, .cells [.fn g []] et)] (fun x => !pr x) 2 L e off len cap hl hm (fun x hx => areAllT1_ok x (tubesOf_mem hl hx) g pr 1 et _ (by simp [hget_cons]) (hg x hx)) (by simp [wfL, SV.wf]) (wfH_spec (by simp [wfH, SObj.wf, wfL, SV.wf]))
    refine this.weaken (fun k o hk => ?_) (fun _ => trivial)
    simp only [hget_cons, hget_nil] at hk
    split at hk
    · rename_i h; cases hk; rw [h]; exact h0
    · split at hk
      · rename_i h; cases hk; rw [h]; exact h1
      · cases hk
  simp -implicitDefEqProofs only [Try.f75, Option.getD_some, argS, SB, SV.known, packR, ne_eq, reduceCtorEq, Nat.reduceEqDiff, ↓reduceIte, if_true, if_false, eq_self, Nat.reduceAdd, Nat.reduceMul, Nat.reduceSub, forall_const, oneCellS, litOne, flat1, Kd.isSca, flat, TYB, all_anyT]
  exact ⟨_, rfl⟩

end Go.Proofs.Ytopfnkmlgcjpbaa
set_option maxRecDepth 100000
set_option linter.unusedSimpArgs false
set_option linter.unusedVariables false
namespace Go.Proofs.Ytopfnkmlgcjpbaa
open Go Go.RowKit

/-! Sums. -/
def Bd (a b : Int) (l : List Int) : Prop := ∀ x ∈ l, a ≤ x ∧ x ≤ b
theorem Bd.getD {a b : Int} {l : List Int} (h : Bd a b l) {k : Nat} (hk : k < l.length) : a ≤ l.getD k 0 ∧ l.getD k 0 ≤ b := by
  simp only [List.getD, List.getElem?_eq_getElem hk, Option.getD_some]
  exact h _ (List.getElem_mem _)
theorem Bd.take {a b : Int} {l : List Int} (h : Bd a b l) (k : Nat) : Bd a b (l.take k) := fun x hx => h x (List.mem_of_mem_take hx)
theorem Bd.drop {a b : Int} {l : List Int} (h : Bd a b l) (k : Nat) : Bd a b (l.drop k) := fun x hx => h x (List.mem_of_mem_drop hx)
theorem sum_bd {a b : Int} : ∀ (l : List Int), Bd a b l → a * l.length ≤ l.sum ∧ l.sum ≤ b * l.length
  | [], _ => by simp
  | x :: r, h => by
    have h1 := h x (by simp)
    have h2 := sum_bd r fun y hy => h y (by simp [hy])
    simp only [List.sum_cons, List.length_cons]
    have e1 : a * ((r.length + 1 : Nat) : Int) = a * r.length + a := by rw [Int.natCast_add, Int.mul_add]; simp
    have e2 : b * ((r.length + 1 : Nat) : Int) = b * r.length + b := by rw [Int.natCast_add, Int.mul_add]; simp
    omega
theorem sum_take_succ (l : List Int) (k : Nat) (h : k < l.length) : (l.take (k + 1)).sum = (l.take k).sum + l.getD k 0 := by
  rw [List.take_succ_eq_append_getElem h, List.sum_append]
  simp [List.getD, List.getElem?_eq_getElem h]

--@tbl sum = impl.sum
theorem one_block {P : Program} {f : FuncId} {args : List SV} {o : SObj} {r : SV} {H : Heap} {b : Nat} (h : PureH P f args [(0, o)] r) (hb : hget H b = some o) (ho : o.ren (fun _ => b) = o) (hr : ∀ n, r.wf n) : PureH P f (renL (fun _ => b) args) H r :=
  h.sub (fun _ => b) (fun j o' hj => by
    rw [hget_cons] at hj
    split at hj
    · cases hj; exact ⟨by rw [ho]; exact hb, fun _ => by omega, by simp [*]⟩
    · cases hj) (fun a ha c hc _ => by simp at ha hc; omega) hr
/-! Arrangements. -/
end Go.Proofs.Ytopfnkmlgcjpbaa
set_option maxRecDepth 100000
set_option linter.unusedSimpArgs false
set_option linter.unusedVariables false
namespace Go.Proofs.Ytopfnkmlgcjpbaa
open Go Go.RowKit
def rackB (R : List Int) : Bool := (tubesOf R 0 6).all tubeB
--@tbl areAll_rack = impl.areAll[[4]int]
def areAll_rack_F : List SV → Heap → Option (Prop × SV)
  | [.slice b off len _, .fn g []], H => match hget H b with
    | some (.ints L _) => some (g = 76 ∧ off + len * 4 ≤ L.length ∧ len ≤ 9223372036854775806, .bool ((tubesOf L off len).all tubeB))
    | _ => none
  | _, _ => none
theorem areAll_rack_T : ∀ args H p v, areAll_rack_F args H = some (p, v) → p → PureH Try.prog 75 args H v := by
  intro args H p v h hp
  unfold areAll_rack_F at h
  split at h
  · rename_i b off len cap g
    split at h
    · rename_i L e hb
      cases h
      obtain ⟨rfl, hl, hm⟩ := hp
      exact one_block (areAllT_ok _ tubeB L e off len cap hl hm fun x hx => isTube_ok x (tubesOf_mem hl hx)) hb rfl (fun _ => trivial)
    · cases h
  · cases h
--@tbl IsRack = impl.IsRack
theorem IsRack_ok (R : List Int) (hR : R.length = 24) : PureH Try.prog 11 [.arr R] [] (.bool (rackB R)) := by
  refine pure_of_vc (X := ⟨Try.prog, tys, [(75, areAll_rack_F)], [], true, true, 0, [], []⟩) fn_11 ⟨tys_ok, (.cons areAll_rack_T .nil), .nil, mixed⟩ (n0 := 0) (Nat.le_of_ble_eq_true rfl) (by simp [wfL, SV.wf]) (wfH_spec (by simp [wfH, SObj.wf])) (Nat.le_refl _) (fun _ => by simp [SV.wf, wfL]) ?_
  simp -implicitDefEqProofs only [Try.f11, Option.getD_some, argS, areAll_rack_F, hR, ZB, Int.reduceToNat, Nat.reduceLT, Nat.reduceLeDiff, Int.reduceLE, Int.reduceLT, Nat.reduceEqDiff, Nat.reduceSub, SB, SV.known, packR, ne_eq, reduceCtorEq, Nat.reduceEqDiff, ↓reduceIte, if_true, if_false, eq_self, Nat.reduceAdd, Nat.reduceMul, Nat.reduceSub, forall_const, oneCellS, litOne, flat1, Kd.isSca, flat, TYB]
  rfl
def IsRack_F : List SV → Heap → Option (Prop × SV)
  | [.arr R], _ => some (R.length = 24, .bool (rackB R))
  | _, _ => none
theorem IsRack_T : ∀ args H p v, IsRack_F args H = some (p, v) → p → PureH Try.prog 11 args H v := by
  intro args H p v h hp
  unfold IsRack_F at h
  split at h
  · cases h; exact (IsRack_ok _ hp).any _
  · cases h

def cB (R : List Int) (a b : Nat) : Prop := (0 ≤ R.getD (a * 4 + b) 0 ∧ R.getD (a * 4 + b) 0 ≤ 5) ∧ ¬ (0 < b ∧ 0 < R.getD (a * 4 + b) 0 ∧ R.getD (a * 4 + (b - 1)) 0 = 0)
theorem tubeB_iff (t : List Int) (h : t.length = 4) : tubeB t = true ↔ ∀ b, b < 4 → cB t 0 b := by
  obtain ⟨a, b, c, d, rfl⟩ : ∃ a b c d, t = [a, b, c, d] := by
    match t, h with
    | [a, b, c, d], _ => exact ⟨a, b, c, d, rfl⟩
  have e : (∀ k, k < 4 → cB [a, b, c, d] 0 k) ↔ cB [a, b, c, d] 0 0 ∧ cB [a, b, c, d] 0 1 ∧ cB [a, b, c, d] 0 2 ∧ cB [a, b, c, d] 0 3 :=
    ⟨fun h => ⟨h 0 (by omega), h 1 (by omega), h 2 (by omega), h 3 (by omega)⟩, fun h k hk => by
      match k, hk with
      | 0, _ => exact h.1
      | 1, _ => exact h.2.1
      | 2, _ => exact h.2.2.1
      | 3, _ => exact h.2.2.2⟩
  rw [e]
  by_cases ha : a = 0
  · subst ha
    simp [tubeB, layN, isZ0, cB, coT, is0, List.findIdx?_cons]; omega
  · by_cases hb : b = 0
    · subst hb
      simp [tubeB, layN, isZ0, cB, coT, is0, List.findIdx?_cons, ha, Ne.symm ha]; omega
    · by_cases hc : c = 0
      · subst hc
        simp [tubeB, layN, isZ0, cB, coT, is0, List.findIdx?_cons, ha, hb, Ne.symm ha, Ne.symm hb]; omega
      · by_cases hd : d = 0
        · subst hd
          simp [tubeB, layN, isZ0, cB, coT, is0, List.findIdx?_cons, ha, hb, hc, Ne.symm ha, Ne.symm hb, Ne.symm hc]; omega
        · simp [tubeB, layN, isZ0, cB, coT, is0, List.findIdx?_cons, ha, hb, hc, hd, Ne.symm ha, Ne.symm hb, Ne.symm hc, Ne.symm hd]; omega
theorem cut_getD (R : List Int) (i k : Nat) (h : k < 4) : ((R.drop (i * 4)).take 4).getD k 0 = R.getD (i * 4 + k) 0 := by
  simp [List.getD, List.getElem?_take, h, List.getElem?_drop]
theorem rackB_iff (R : List Int) (h : R.length = 24) : rackB R = true ↔ ∀ a b, a < 6 → b < 4 → cB R a b := by
  unfold rackB tubesOf
  simp only [List.all_map, List.all_eq_true, List.mem_range, Function.comp, Nat.zero_add]
  constructor
  · intro hh a b ha hb
    have h1 := (tubeB_iff _ (by rw [List.length_take, List.length_drop]; omega)).1 (hh a ha) b hb
    unfold cB at h1 ⊢
    rw [Nat.zero_mul, Nat.zero_add, Nat.zero_add, cut_getD _ _ _ hb, cut_getD _ _ _ (by omega)] at h1
    exact h1
  · intro hh a ha
    refine (tubeB_iff _ (by rw [List.length_take, List.length_drop]; omega)).2 fun b hb => ?_
    have h1 := hh a b ha hb
    unfold cB at h1 ⊢
    rw [Nat.zero_mul, Nat.zero_add, Nat.zero_add, cut_getD _ _ _ hb, cut_getD _ _ _ (by omega)]
    exact h1
--@tbl l2Rack = spec.l2Rack
theorem l2Rack_ok (R : List Int) (hR : R.length = 24) : PureH Try.prog 72 [.arr R] [] (.bool (rackB R)) := by
  refine pure_of_vc (X := ⟨Try.prog, tys, [(120, l1In_F)], [], true, true, 0, [], []⟩) fn_72 ⟨tys_ok, (.cons l1In_T .nil), .nil, mixed⟩ (n0 := 0) (Nat.le_of_ble_eq_true rfl) (by simp [wfL, SV.wf]) (wfH_spec (by simp [wfH, SObj.wf])) (Nat.le_refl _) (fun _ => by simp [SV.wf, wfL]) ?_
  simp -implicitDefEqProofs only [Try.f72, Option.getD_some, argS, l1In_F, hR, ZB, Int.reduceToNat, Nat.reduceLT, Nat.reduceLeDiff, Int.reduceLE, Int.reduceLT, Nat.reduceEqDiff, Nat.reduceSub, SB, SV.known, packR, ne_eq, reduceCtorEq, Nat.reduceEqDiff, ↓reduceIte, if_true, if_false, eq_self, Nat.reduceAdd, Nat.reduceMul, Nat.reduceSub, forall_const, oneCellS, litOne, flat1, Kd.isSca, flat, TYB]
  refine loop_intro (fun i : Nat => [(1, .ptr 0 0), (3, .int i)]) (fun _ => [(0, .ints R 27)]) 1 (fun i => i ≤ 6 ∧ ∀ a b, a < i → b < 4 → cB R a b) (fun i => 6 - i) ?_ ?_
  · refine ⟨0, ⟨by omega, by omega⟩, Sub.mk_id ?_ ?_ ?_ ?_ ?_⟩
    all_goals simp only [LB, subS, subH, wfS, wfH, SV.ren, renL, SObj.ren, SV.wf, SObj.wf, wfL, SV.known, Nat.reduceEqDiff, ↓reduceIte, if_true, if_false, eq_self, Nat.reduceAdd, Nat.reduceLT, Nat.reduceLeDiff, implies_true, reduceCtorEq, forall_const]
    all_goals simp
  · intro i hi
    obtain ⟨hi1, hi2⟩ := hi
    simp -implicitDefEqProofs only [lk_normal, l1In_F, hR, ZB, Int.reduceToNat, Nat.reduceLT, Nat.reduceLeDiff, Int.reduceLE, Int.reduceLT, Nat.reduceEqDiff, Nat.reduceSub, SB, SV.known, packR, ne_eq, reduceCtorEq, Nat.reduceEqDiff, ↓reduceIte, if_true, if_false, eq_self, Nat.reduceAdd, Nat.reduceMul, Nat.reduceSub, forall_const, oneCellS, litOne, flat1, Kd.isSca, flat, TYB]
    refine ⟨fun h => ?_, fun h => ?_⟩
    · have hlt : i < 6 := by omega
      refine loop_intro (fun k : Nat => [(1, .ptr 0 0), (3, .int i), (4, .int k)]) (fun _ => [(0, .ints R 27)]) 1 (fun k => k ≤ 4 ∧ ∀ b, b < k → cB R i b) (fun k => 4 - k) ?_ ?_
      · refine ⟨0, ⟨by omega, by omega⟩, Sub.mk_id ?_ ?_ ?_ ?_ ?_⟩
        all_goals simp only [LB, subS, subH, wfS, wfH, SV.ren, renL, SObj.ren, SV.wf, SObj.wf, wfL, SV.known, Nat.reduceEqDiff, ↓reduceIte, if_true, if_false, eq_self, Nat.reduceAdd, Nat.reduceLT, Nat.reduceLeDiff, implies_true, reduceCtorEq, forall_const]
        all_goals simp
      · intro k hk
        obtain ⟨hk1, hk2⟩ := hk
        simp -implicitDefEqProofs only [lk_normal, l1In_F, hR, ZB, Int.reduceToNat, Nat.reduceLT, Nat.reduceLeDiff, Int.reduceLE, Int.reduceLT, Nat.reduceEqDiff, Nat.reduceSub, SB, SV.known, packR, ne_eq, reduceCtorEq, Nat.reduceEqDiff, ↓reduceIte, if_true, if_false, eq_self, Nat.reduceAdd, Nat.reduceMul, Nat.reduceSub, forall_const, oneCellS, litOne, flat1, Kd.isSca, flat, TYB]
        refine ⟨fun h => ?_, fun h => ?_⟩
        · have e0 : ((k : Int) - 1).toNat = k - 1 := by omega
          simp only [e0]
          have no : ¬ cB R i k → false = rackB R := fun hn => by
            cases hr : rackB R with
            | false => rfl
            | true => exact absurd ((rackB_iff R hR).1 hr i k hlt (by omega)) hn
          have inv : cB R i k → ∀ b, b < k + 1 → cB R i b := fun hc b hb => by
            by_cases hbk : b = k
            · subst hbk; exact hc
            · exact hk2 b (by omega)
          (try (and_intros <;> try (first | omega | (unfold In64; omega) | trivial | assumption)))
          all_goals intro h1
          · (try (and_intros <;> try (first | omega | (unfold In64; omega) | trivial | assumption)))
            all_goals intro h2
            · (try (and_intros <;> try (first | omega | (unfold In64; omega) | trivial | assumption)))
              all_goals intro h3
              · (try (and_intros <;> try (first | omega | (unfold In64; omega) | trivial | assumption)))
                all_goals intro h4
                · exact no fun hc => hc.2 ⟨by omega, h3, h4⟩
                · (try (and_intros <;> try (first | omega | (unfold In64; omega) | trivial | assumption)))
                  refine ⟨k + 1, ⟨by omega, inv ⟨h1, fun hn => h4 hn.2.2⟩⟩, by omega, Sub.mk_id ?_ ?_ ?_ ?_ ?_⟩
                  all_goals simp only [LB, subS, subH, wfS, wfH, SV.ren, renL, SObj.ren, SV.wf, SObj.wf, wfL, SV.known, Nat.reduceEqDiff, ↓reduceIte, if_true, if_false, eq_self, Nat.reduceAdd, Nat.reduceLT, Nat.reduceLeDiff, implies_true, reduceCtorEq, forall_const]
              · (try (and_intros <;> try (first | omega | (unfold In64; omega) | trivial | assumption)))
                refine ⟨k + 1, ⟨by omega, inv ⟨h1, fun hn => h3 hn.2.1⟩⟩, by omega, Sub.mk_id ?_ ?_ ?_ ?_ ?_⟩
                all_goals simp only [LB, subS, subH, wfS, wfH, SV.ren, renL, SObj.ren, SV.wf, SObj.wf, wfL, SV.known, Nat.reduceEqDiff, ↓reduceIte, if_true, if_false, eq_self, Nat.reduceAdd, Nat.reduceLT, Nat.reduceLeDiff, implies_true, reduceCtorEq, forall_const]
            · (try (and_intros <;> try (first | omega | (unfold In64; omega) | trivial | assumption)))
              refine ⟨k + 1, ⟨by omega, inv ⟨h1, fun hn => h2 (by omega)⟩⟩, by omega, Sub.mk_id ?_ ?_ ?_ ?_ ?_⟩
              all_goals simp only [LB, subS, subH, wfS, wfH, SV.ren, renL, SObj.ren, SV.wf, SObj.wf, wfL, SV.known, Nat.reduceEqDiff, ↓reduceIte, if_true, if_false, eq_self, Nat.reduceAdd, Nat.reduceLT, Nat.reduceLeDiff, implies_true, reduceCtorEq, forall_const]
          · exact no fun hc => h1 hc.1
        · obtain rfl : k = 4 := by omega
          (try (and_intros <;> try (first | omega | (unfold In64; omega) | trivial | assumption)))
          refine ⟨i + 1, ⟨by omega, fun a b ha hb => ?_⟩, by omega, Sub.mk_id ?_ ?_ ?_ ?_ ?_⟩
          · by_cases hai : a = i
            · subst hai; exact hk2 b hb
            · exact hi2 a b (by omega) hb
          all_goals simp only [LB, subS, subH, wfS, wfH, SV.ren, renL, SObj.ren, SV.wf, SObj.wf, wfL, SV.known, Nat.reduceEqDiff, ↓reduceIte, if_true, if_false, eq_self, Nat.reduceAdd, Nat.reduceLT, Nat.reduceLeDiff, implies_true, reduceCtorEq, forall_const]
    · obtain rfl : i = 6 := by omega
      rw [(rackB_iff R hR).2 fun a b ha hb => hi2 a b ha hb]
def l2Rack_F : List SV → Heap → Option (Prop × SV)
  | [.arr R], _ => some (R.length = 24, .bool (rackB R))
  | _, _ => none
theorem l2Rack_T : ∀ args H p v, l2Rack_F args H = some (p, v) → p → PureH Try.prog 72 args H v := by
  intro args H p v h hp
  unfold l2Rack_F at h
  split at h
  · cases h; exact (l2Rack_ok _ hp).any _
  · cases h

/-! Layers, as the model counts them. -/
def posC (t : List Int) : Int := ((t.map fun x => if 0 < x then (1 : Int) else 0)).sum
theorem posC_take_succ (l : List Int) (k : Nat) (h : k < l.length) : posC (l.take (k + 1)) = posC (l.take k) + if 0 < l.getD k 0 then 1 else 0 := by
  unfold posC
  rw [List.map_take, List.map_take, sum_take_succ _ k (by simpa using h)]
  simp [List.getD, List.getElem?_eq_getElem h]
theorem posC_bd (l : List Int) : 0 ≤ posC l ∧ posC l ≤ l.length := by
  have : Bd 0 1 (l.map fun x => if 0 < x then (1 : Int) else 0) := by
    intro x hx
    obtain ⟨c, _, rfl⟩ := List.mem_map.1 hx
    split <;> omega
  have := sum_bd _ this
  simp only [List.length_map] at this
  unfold posC; omega
theorem posC_lay (t : List Int) (h : t.length = 4) (ht : tubeB t = true) : posC t = layN t := by
  rw [tubeB_iff t h] at ht
  obtain ⟨a, b, c, d, rfl⟩ : ∃ a b c d, t = [a, b, c, d] := by
    match t, h with
    | [a, b, c, d], _ => exact ⟨a, b, c, d, rfl⟩
  have h0 := ht 0 (by omega)
  have h1 := ht 1 (by omega)
  have h2 := ht 2 (by omega)
  have h3 := ht 3 (by omega)
  simp [cB] at h0 h1 h2 h3
  by_cases ha : a = 0
  · subst ha
    simp [posC, layN, isZ0, List.findIdx?_cons]
    repeat' (split)
    all_goals omega
  · by_cases hb : b = 0
    · subst hb
      simp [posC, layN, isZ0, List.findIdx?_cons, Ne.symm ha]
      repeat' (split)
      all_goals omega
    · by_cases hc : c = 0
      · subst hc
        simp [posC, layN, isZ0, List.findIdx?_cons, Ne.symm ha, Ne.symm hb]
        repeat' (split)
        all_goals omega
      · by_cases hd : d = 0
        · subst hd
          simp [posC, layN, isZ0, List.findIdx?_cons, Ne.symm ha, Ne.symm hb, Ne.symm hc]
          repeat' (split)
          all_goals omega
        · simp [posC, layN, isZ0, List.findIdx?_cons, Ne.symm ha, Ne.symm hb, Ne.symm hc, Ne.symm hd]
          repeat' (split)
          all_goals omega
--@tbl l2Many = spec.l2Many
theorem l2Many_ok (t : List Int) (h : t.length = 4) : PureH Try.prog 135 [.arr t] [] (.int (posC t)) := by
  refine pure_of_vc (X := ⟨Try.prog, tys, [], [], true, true, 0, [], []⟩) fn_135 ⟨tys_ok, .nil, .nil, mixed⟩ (n0 := 0) (Nat.le_of_ble_eq_true rfl) (by simp [wfL, SV.wf]) (wfH_spec (by simp [wfH, SObj.wf])) (Nat.le_refl _) (fun _ => by simp [SV.wf, wfL]) ?_
  simp -implicitDefEqProofs only [Try.f135, Option.getD_some, argS, h, ZB, Int.reduceToNat, Nat.reduceLT, Nat.reduceLeDiff, Int.reduceLE, Int.reduceLT, Nat.reduceEqDiff, Nat.reduceSub, SB, SV.known, packR, ne_eq, reduceCtorEq, Nat.reduceEqDiff, ↓reduceIte, if_true, if_false, eq_self, Nat.reduceAdd, Nat.reduceMul, Nat.reduceSub, forall_const, oneCellS, litOne, flat1, Kd.isSca, flat, TYB]
  refine loop_intro (fun i : Nat => [(1, .ptr 0 0), (4, .int i), (3, .int (posC (t.take i)))]) (fun _ => [(0, .ints t 24)]) 1 (fun i => i ≤ 4) (fun i => 4 - i) ?_ ?_
  · refine ⟨0, by omega, Sub.mk_id ?_ ?_ ?_ ?_ ?_⟩
    all_goals simp only [LB, subS, subH, wfS, wfH, SV.ren, renL, SObj.ren, SV.wf, SObj.wf, wfL, SV.known, Nat.reduceEqDiff, ↓reduceIte, if_true, if_false, eq_self, Nat.reduceAdd, Nat.reduceLT, Nat.reduceLeDiff, implies_true, reduceCtorEq, forall_const]
    all_goals simp [posC]
  · intro i hi
    simp -implicitDefEqProofs only [lk_normal, h, ZB, Int.reduceToNat, Nat.reduceLT, Nat.reduceLeDiff, Int.reduceLE, Int.reduceLT, Nat.reduceEqDiff, Nat.reduceSub, SB, SV.known, packR, ne_eq, reduceCtorEq, Nat.reduceEqDiff, ↓reduceIte, if_true, if_false, eq_self, Nat.reduceAdd, Nat.reduceMul, Nat.reduceSub, forall_const, oneCellS, litOne, flat1, Kd.isSca, flat, TYB]
    have hb := posC_bd (t.take i)
    have hl1 : (t.take i).length = i := by rw [List.length_take]; omega
    rw [hl1] at hb
    refine ⟨fun hx => ?_, fun hx => ?_⟩
    · have es := posC_take_succ t i (by omega)
      (try (and_intros <;> try (first | omega | (unfold In64; omega) | trivial | assumption)))
      all_goals intro hp
      · (try (and_intros <;> try (first | omega | (unfold In64; omega) | trivial | assumption)))
        refine ⟨i + 1, by omega, by omega, Sub.mk_id ?_ ?_ ?_ ?_ ?_⟩
        any_goals (simp only [LB, subS, subH, wfS, wfH, SV.ren, renL, SObj.ren, SV.wf, SObj.wf, wfL, SV.known, Nat.reduceEqDiff, ↓reduceIte, if_true, if_false, eq_self, Nat.reduceAdd, Nat.reduceLT, Nat.reduceLeDiff, implies_true, reduceCtorEq, forall_const]; done)
        simp only [LB, subS, subH, wfS, wfH, SV.ren, renL, SObj.ren, SV.wf, SObj.wf, wfL, SV.known, Nat.reduceEqDiff, ↓reduceIte, if_true, if_false, eq_self, Nat.reduceAdd, Nat.reduceLT, Nat.reduceLeDiff, implies_true, reduceCtorEq, forall_const]
        rw [es, if_pos hp]
      · (try (and_intros <;> try (first | omega | (unfold In64; omega) | trivial | assumption)))
        refine ⟨i + 1, by omega, by omega, Sub.mk_id ?_ ?_ ?_ ?_ ?_⟩
        any_goals (simp only [LB, subS, subH, wfS, wfH, SV.ren, renL, SObj.ren, SV.wf, SObj.wf, wfL, SV.known, Nat.reduceEqDiff, ↓reduceIte, if_true, if_false, eq_self, Nat.reduceAdd, Nat.reduceLT, Nat.reduceLeDiff, implies_true, reduceCtorEq, forall_const]; done)
        simp only [LB, subS, subH, wfS, wfH, SV.ren, renL, SObj.ren, SV.wf, SObj.wf, wfL, SV.known, Nat.reduceEqDiff, ↓reduceIte, if_true, if_false, eq_self, Nat.reduceAdd, Nat.reduceLT, Nat.reduceLeDiff, implies_true, reduceCtorEq, forall_const]
        rw [es, if_neg hp, Int.add_zero]
    · obtain rfl : i = 4 := by omega
      rw [List.take_of_length_le (by omega)]
def l2Many_F : List SV → Heap → Option (Prop × SV)
  | [.arr t], _ => some (t.length = 4, .int (posC t))
  | _, _ => none
theorem l2Many_T : ∀ args H p v, l2Many_F args H = some (p, v) → p → PureH Try.prog 135 args H v := by
  intro args H p v h hp
  unfold l2Many_F at h
  split at h
  · cases h; exact (l2Many_ok _ hp).any _
  · cases h

/-! Fitting depths. -/
def tubeAt (R : List Int) (i : Nat) : List Int := (R.drop (i * 4)).take 4
theorem tubeAt_len {R : List Int} (h : R.length = 24) {i : Nat} (hi : i < 6) : (tubeAt R i).length = 4 := by unfold tubeAt; rw [List.length_take, List.length_drop]; omega
theorem tubeAt_ok {R : List Int} (hr : rackB R = true) {i : Nat} (hi : i < 6) : tubeB (tubeAt R i) = true := by
  unfold rackB at hr
  refine List.all_eq_true.1 hr _ (List.mem_map.2 ⟨i, List.mem_range.2 hi, ?_⟩)
  rw [Nat.zero_add]; rfl
def fitF (R D : List Int) : Bool := (List.range 6).all fun i => decide ((layN (tubeAt R i) : Int) ≤ D.getD i 0)
theorem fit_hit {R D : List Int} {i : Nat} (hi : i < 6) (h : ¬ (layN (tubeAt R i) : Int) ≤ D.getD i 0) : fitF R D = false := by
  unfold fitF
  rw [List.all_eq_false]
  exact ⟨i, List.mem_range.2 hi, by simpa using h⟩
theorem fit_none {R D : List Int} (h : ∀ i, i < 6 → (layN (tubeAt R i) : Int) ≤ D.getD i 0) : fitF R D = true := by
  unfold fitF
  rw [List.all_eq_true]
  intro i hi
  simpa using h i (List.mem_range.1 hi)
--@tbl fits = impl.fits
theorem fits_ok (R D : List Int) (hR : R.length = 24) (hD : D.length = 6) : PureH Try.prog 104 [.arr R, .arr D] [] (.bool (fitF R D)) := by
  have tk1 : R.take 24 = R := List.take_of_length_le (by omega)
  refine pure_of_vc (X := ⟨Try.prog, tys, [(133, layers_F)], [], true, true, 0, [], []⟩) fn_104 ⟨tys_ok, (.cons layers_T .nil), .nil, mixed⟩ (n0 := 0) (Nat.le_of_ble_eq_true rfl) (by simp [wfL, SV.wf]) (wfH_spec (by simp [wfH, SObj.wf])) (Nat.le_refl _) (fun _ => by simp [SV.wf, wfL]) ?_
  simp -implicitDefEqProofs only [Try.f104, Option.getD_some, argS, layers_F, hR, hD, tk1, ZB, Int.reduceToNat, Nat.reduceLT, Nat.reduceLeDiff, Int.reduceLE, Int.reduceLT, Nat.reduceEqDiff, Nat.reduceSub, SB, SV.known, packR, ne_eq, reduceCtorEq, Nat.reduceEqDiff, ↓reduceIte, if_true, if_false, eq_self, Nat.reduceAdd, Nat.reduceMul, Nat.reduceSub, forall_const, oneCellS, litOne, flat1, Kd.isSca, flat, TYB]
  refine loop_intro (fun i : Nat => [(2, .ptr 0 0), (3, .ptr 1 0), (8, .arr R), (9, .int i)]) (fun _ => [(0, .ints R 27), (1, .ints D 51)]) 2 (fun i => i ≤ 6 ∧ ∀ k, k < i → (layN (tubeAt R k) : Int) ≤ D.getD k 0) (fun i => 6 - i) ?_ ?_
  · refine ⟨0, ⟨by omega, by omega⟩, Sub.mk_id ?_ ?_ ?_ ?_ ?_⟩
    all_goals simp only [LB, subS, subH, wfS, wfH, SV.ren, renL, SObj.ren, SV.wf, SObj.wf, wfL, SV.known, Nat.reduceEqDiff, ↓reduceIte, if_true, if_false, eq_self, Nat.reduceAdd, Nat.reduceLT, Nat.reduceLeDiff, implies_true, reduceCtorEq, forall_const]
    all_goals simp
  · intro i hi
    obtain ⟨hi1, hi2⟩ := hi
    have eT : List.take 4 (List.drop (i * 4) R) = tubeAt R i := rfl
    simp -implicitDefEqProofs only [lk_normal, layers_F, hR, hD, eT, ZB, Int.reduceToNat, Nat.reduceLT, Nat.reduceLeDiff, Int.reduceLE, Int.reduceLT, Nat.reduceEqDiff, Nat.reduceSub, SB, SV.known, packR, ne_eq, reduceCtorEq, Nat.reduceEqDiff, ↓reduceIte, if_true, if_false, eq_self, Nat.reduceAdd, Nat.reduceMul, Nat.reduceSub, forall_const, oneCellS, litOne, flat1, Kd.isSca, flat, TYB]
    refine ⟨fun hx => ?_, fun hx => ?_⟩
    · have hlt : i < 6 := by omega
      have hl := tubeAt_len hR hlt
      have tk3 : (tubeAt R i).take 4 = tubeAt R i := List.take_of_length_le (by omega)
      simp only [hl, tk3, List.append_nil, List.replicate_zero, Nat.le_refl, true_and, ZB, Int.reduceToNat, Nat.reduceLT, Nat.reduceLeDiff, Int.reduceLE, Int.reduceLT, Nat.reduceEqDiff, Nat.reduceSub]
      (try (and_intros <;> try (first | omega | (unfold In64; omega) | trivial | assumption)))
      all_goals intro hp
      · rw [fit_hit hlt (by omega)]
      · (try (and_intros <;> try (first | omega | (unfold In64; omega) | trivial | assumption)))
        refine ⟨i + 1, ⟨by omega, fun k hk => ?_⟩, by omega, Sub.mk_id ?_ ?_ ?_ ?_ ?_⟩
        · by_cases hki : k = i
          · subst hki; omega
          · exact hi2 k (by omega)
        all_goals simp only [LB, subS, subH, wfS, wfH, SV.ren, renL, SObj.ren, SV.wf, SObj.wf, wfL, SV.known, Nat.reduceEqDiff, ↓reduceIte, if_true, if_false, eq_self, Nat.reduceAdd, Nat.reduceLT, Nat.reduceLeDiff, implies_true, reduceCtorEq, forall_const]
    · obtain rfl : i = 6 := by omega
      rw [fit_none hi2]
def fits_F : List SV → Heap → Option (Prop × SV)
  | [.arr R, .arr D], _ => some (R.length = 24 ∧ D.length = 6, .bool (fitF R D))
  | _, _ => none
theorem fits_T : ∀ args H p v, fits_F args H = some (p, v) → p → PureH Try.prog 104 args H v := by
  intro args H p v h hp
  unfold fits_F at h
  split at h
  · cases h; exact (fits_ok _ _ hp.1 hp.2).any _
  · cases h
--@tbl l8Fits = spec.l8Fits
end Go.Proofs.Ytopfnkmlgcjpbaa
set_option maxRecDepth 100000
set_option linter.unusedSimpArgs false
set_option linter.unusedVariables false
namespace Go.Proofs.Ytopfnkmlgcjpbaa
open Go Go.RowKit

/-- How a slice comes back: by itself, or ahead of other values. -/
inductive Wrap
  | one
  | more (l : List SV)
  | mid (a : SV) (l : List SV)
def Wrap.ap : Wrap → SV → SV
  | .one, v => v
  | .more l, v => .tup (v :: l)
  | .mid a l, v => .tup (a :: v :: l)
def flatL : List SV → Bool
  | [] => true
  | v :: r => flat v && flatL r
def Wrap.ok : Wrap → Bool
  | .one => true
  | .more l => flatL l
  | .mid a l => flat a && flatL l
theorem flatL_den : ∀ {l : List SV}, flatL l = true → ∀ B B' : Nat → Nat, denL B l = denL B' l
  | [], _, _, _ => rfl
  | v :: r, h, B, B' => by
    simp only [flatL, Bool.and_eq_true] at h
    simp only [denL]
    rw [den_flat h.1 B B', flatL_den h.2 B B']
theorem flatL_wf : ∀ {l : List SV}, flatL l = true → ∀ n, wfL n l
  | [], _, _ => trivial
  | v :: r, h, n => by
    simp only [flatL, Bool.and_eq_true] at h
    exact ⟨wf_flat h.1 n, flatL_wf h.2 n⟩
theorem Wrap.den_eq {wr : Wrap} (h : wr.ok = true) {B B' : Nat → Nat} {v v' : SV} (hv : v.den B = v'.den B') : (wr.ap v).den B = (wr.ap v').den B' := by
  cases wr with
  | one => exact hv
  | more l => simp only [Wrap.ap, SV.den, denL, hv, flatL_den h B B']
  | mid a l =>
    simp only [Wrap.ok, Bool.and_eq_true] at h
    simp only [Wrap.ap, SV.den, denL, hv, den_flat h.1 B B', flatL_den h.2 B B']
theorem Wrap.wf_ap {wr : Wrap} (h : wr.ok = true) {v : SV} {n : Nat} (hv : v.wf n) : (wr.ap v).wf n := by
  cases wr with
  | one => exact hv
  | more l => exact ⟨hv, flatL_wf h n⟩
  | mid a l =>
    simp only [Wrap.ok, Bool.and_eq_true] at h
    exact ⟨wf_flat h.1 n, hv, flatL_wf h.2 n⟩

structure FreshP (P : Program) (f : FuncId) (args : List SV) (H0 : Heap) (L : List Int) (len es e : Nat) (nl : Bool) (wr : Wrap) : Prop where
  ent : Entd P f
  ok : wr.ok = true
  call : ∀ B w, HR B H0 w → Calls P f (denL B args).toArray w fun r w' => Bel w.heap.size w w' ∧ ((nl = true ∧ L = [] ∧ r = .returned ((wr.ap .nils).den B)) ∨
    ∃ id cap junk, w.heap.size ≤ id ∧ r = .returned ((wr.ap (.slice 0 0 len cap)).den fun _ => id) ∧ w'.heap[id]? = some ((SObj.ints (L ++ junk) e).den B) ∧ junk.length + L.length = cap * es ∧ (nl = true → L ≠ []))

def freshPost (m : Nat) (L : List Int) (len es e : Nat) (nl : Bool) (wr : Wrap) (v : SV) (H' : Heap) : Prop :=
  (nl = true ∧ L = [] ∧ v = wr.ap .nils) ∨ ∃ b cap junk, v = wr.ap (.slice b 0 len cap) ∧ hget H' b = some (.ints (L ++ junk) e) ∧ m ≤ b ∧ junk.length + L.length = cap * es ∧ (nl = true → L ≠ [])
theorem fresh_of_vc {X : Cx} {f : FuncId} {fn : Func} {c : Code} (hf : FnOK X.P f fn c X.sx X.hr) (hX : CxOK X) {n0 : Nat} {args : List SV} {H0 : Heap} {L : List Int} {len es e : Nat} {nl : Bool} {wr : Wrap} (hw : wr.ok = true) (hN : args.length ≤ fn.ntmps) (hwa : wfL n0 args) (hwH : hwf n0 H0) (hm : n0 ≤ X.m)
    (h : codeVC X n0 c (argS 0 args) H0 n0 (retK X.τ fn.results.toList fun v H' _ => freshPost X.m L len es e nl wr v H')) : FreshP X.P f args H0 L len es e nl wr := by
  refine ⟨hf.ent, hw, fun B w hH => ?_⟩
  refine (run_of_vc hf hX hN hwa hwH (Nat.le_refl _) h B (fun i => w.heap.size ≤ i) w hH (own_ge hwH hm) (fun _ h => h)).mono fun r w' hh => ?_
  obtain ⟨v, H', n', B', rfl, hk, g1, g2, g3, g4, g5, g6, g7⟩ := hh
  refine ⟨g5.below fun i hi hge => by omega, ?_⟩
  rcases hk with ⟨h1, h2, rfl⟩ | ⟨b, cap, junk, rfl, h2, h3, h4, h5⟩
  · exact .inl ⟨h1, h2, congrArg Ending.returned (Wrap.den_eq hw rfl)⟩
  · exact .inr ⟨B' b, cap, junk, g4 b _ h2 rfl h3, congrArg Ending.returned (Wrap.den_eq hw rfl), g3.at_ b _ h2 rfl, h4, h5⟩

def freshK (wr : Wrap) (L : List Int) (len es e : Nat) (nl : Bool) (H : Heap) (n : Nat) (κ : K1) : Prop :=
  (nl = true → L = [] → κ (wr.ap .nils) H n) ∧ ((nl = true → L ≠ []) → ∀ (cap : Nat) (junk : List Int), junk.length + L.length = cap * es → κ (wr.ap (.slice n 0 len cap)) ((n, .ints (L ++ junk) e) :: H) (n + 1))

theorem HR.cons_fresh {B : Nat → Nat} {H : Heap} {n id : Nat} {w w' : World} {o : SObj} (h : HR B H w) (hw : hwf n H) (hb : Bel w.heap.size w w') (hid : w.heap.size ≤ id) (hwo : o.wf n) (hfl : o.full = true) (ho : w'.heap[id]? = some (o.den B)) : HR (upd B n id) ((n, o) :: H) w' := by
  have hag := upd_lt B n id
  have h' := h.of_below hb
  refine ⟨fun k o' hl hk => ?_, fun k j o1 o2 h1 h2 h3 h4 he => ?_⟩
  · rw [hget_cons] at hl
    split at hl
    · rename_i hkn
      subst hkn
      cases hl
      rw [upd_self]
      exact SObj.sat_of_den hfl (by rw [SObj.den_congr hag o hwo]; exact ho)
    · have hkn := (hw k o' hl).1
      rw [hag k hkn]
      exact SObj.sat_congr hag o' (hw k o' hl).2 (h'.at_ k o' hl hk)
  · rw [hget_cons] at h1 h3
    split at h1
    · rename_i hk
      split at h3
      · rename_i hj; omega
      · subst hk
        rw [upd_self, hag j (hw j o2 h3).1] at he
        have := h.lt h3 h4
        omega
    · split at h3
      · rename_i hj
        subst hj
        rw [upd_self, hag k (hw k o1 h1).1] at he
        have := h.lt h1 h2
        omega
      · rw [hag k (hw k o1 h1).1, hag j (hw j o2 h3).1] at he
        exact h.inj k j o1 o2 h1 h2 h3 h4 he

theorem gen_of_fresh {P : Program} {f : FuncId} {args : List SV} {H0 H : Heap} {L : List Int} {len es e n m : Nat} {nl : Bool} {wr : Wrap} {κ : K1} (h : FreshP P f args H0 L len es e nl wr) (hs : ∀ k o, hget H0 k = some o → hget H k = some o) (hk : freshK wr L len es e nl H n κ) : GenOK P f args H n m κ := by
  refine ⟨h.ent, fun B M w hH hwH hwa hown hM => ?_⟩
  have hH0 : HR B H0 w := ⟨fun k o hk hl => hH.at_ k o (hs k o hk) hl, fun k j o o' hk hl hj hl' he => hH.inj k j o o' (hs k o hk) hl (hs j o' hj) hl' he⟩
  refine (h.call B w hH0).mono fun r w' hh => ?_
  obtain ⟨hb, hh⟩ := hh
  rcases hh with ⟨h1, h2, rfl⟩ | ⟨id, cap, junk, h1, rfl, h3, h4, h5⟩
  · exact ⟨_, H, n, B, rfl, hk.1 h1 h2, Nat.le_refl _, Wrap.wf_ap h.ok trivial, hwH, fun _ _ => rfl, hH.of_below hb, hown, Kept.of_below hb⟩
  · refine ⟨_, _, n + 1, upd B n id, ?_, hk.2 h5 cap junk h4, by omega, Wrap.wf_ap h.ok (by simp [SV.wf]), ?_, upd_lt B n id, HR.cons_fresh hH hwH hb h1 trivial rfl h3, ?_, Kept.of_below hb⟩
    · exact congrArg Ending.returned (Wrap.den_eq h.ok (by simp [SV.den, upd_self]))
    · intro k o hl
      rw [hget_cons] at hl
      split at hl
      · cases hl; exact ⟨by omega, trivial⟩
      · have := hwH k o hl
        exact ⟨by omega, SObj.wf_mono (by omega) _ this.2⟩
    · intro k o hl hlive hmk
      rw [hget_cons] at hl
      split at hl
      · rename_i hkn
        subst hkn
        rw [upd_self]
        exact hM id h1
      · rw [upd_lt B n id k (hwH k o hl).1]
        exact hown k o hl hlive hmk

/-- A block under another name. -/
theorem Sub.mk_to (b b' : Nat) {p m : Nat} {S S' : Env} {H H' : Heap} {n' : Nat} (h1 : subS (fun k => if k = b then b' else k) S S') (h2 : subH (fun k => if k = b then b' else k) m H H') (h3 : wfS n' S') (h4 : wfH n' H') (h5 : p ≤ n') (h6 : p ≤ b)
    (h7 : ∀ k ∈ H'.map (·.1), k ≠ b → k ≠ b') : Sub p m S H S' H' n' := by
  refine ⟨fun k => if k = b then b' else k, h1, subH_spec h2, h3, wfH_spec h4, fun x hx y hy he => ?_, fun k hk => if_neg (by omega), h5⟩
  simp only at he
  by_cases hxb : x = b
  · by_cases hyb : y = b
    · rw [hxb, hyb]
    · rw [if_pos hxb, if_neg hyb] at he
      exact absurd he.symm (h7 y hy hyb)
  · by_cases hyb : y = b
    · rw [if_neg hxb, if_pos hyb] at he
      exact absurd he (h7 x hx hxb)
    · rw [if_neg hxb, if_neg hyb] at he
      exact he
theorem Sub.mk_to2 (b b' c c' : Nat) {p m : Nat} {S S' : Env} {H H' : Heap} {n' : Nat} (h1 : subS (fun k => if k = b then b' else if k = c then c' else k) S S') (h2 : subH (fun k => if k = b then b' else if k = c then c' else k) m H H') (h3 : wfS n' S') (h4 : wfH n' H') (h5 : p ≤ n') (h6 : p ≤ b) (h8 : p ≤ c)
    (h7 : ∀ x ∈ H'.map (·.1), ∀ y ∈ H'.map (·.1), (if x = b then b' else if x = c then c' else x) = (if y = b then b' else if y = c then c' else y) → x = y) : Sub p m S H S' H' n' :=
  ⟨fun k => if k = b then b' else if k = c then c' else k, h1, subH_spec h2, h3, wfH_spec h4, fun x hx y hy he => h7 x hx y hy he, fun k hk => by show (if k = b then b' else if k = c then c' else k) = k; rw [if_neg (by omega), if_neg (by omega)], h5⟩
/-- A slice that grows: nothing yet, or block 1. -/
def outV (i len cap : Nat) : SV := match i with
  | 0 => .nils
  | _ + 1 => .slice 1 0 len cap
def outH (i : Nat) (L : List Int) (e : Nat) (base : Heap) : Heap := match i with
  | 0 => base
  | _ + 1 => (1, .ints L e) :: base
theorem outV_zero (len cap : Nat) : outV 0 len cap = .nils := rfl
theorem outV_succ (i len cap : Nat) : outV (i + 1) len cap = .slice 1 0 len cap := rfl
theorem outH_zero (L : List Int) (e : Nat) (base : Heap) : outH 0 L e base = base := rfl
theorem outH_succ (i : Nat) (L : List Int) (e : Nat) (base : Heap) : outH (i + 1) L e base = (1, .ints L e) :: base := rfl
end Go.Proofs.Ytopfnkmlgcjpbaa
set_option maxRecDepth 100000
set_option linter.unusedSimpArgs false
set_option linter.unusedVariables false
namespace Go.Proofs.Ytopfnkmlgcjpbaa
open Go Go.RowKit
def stepR (L : List Int) (c : Int) : List Int := if 0 < L.length ∧ L.getD (L.length - 2) 0 = c then L.set (L.length - 1) (L.getD (L.length - 1) 0 + 1) else L ++ [c, 1]
def RL (t : List Int) (i : Nat) : List Int := (t.take i).foldl stepR []
def runsL (t : List Int) : List Int := (t.take (layN t)).foldl stepR []
theorem RL_zero (t : List Int) : RL t 0 = [] := by simp [RL]
theorem RL_succ (t : List Int) (i : Nat) (h : i < t.length) : RL t (i + 1) = stepR (RL t i) (t.getD i 0) := by
  unfold RL
  rw [List.take_succ_eq_append_getElem h, List.foldl_append]
  simp [List.getD, List.getElem?_eq_getElem h]
theorem stepR_eq {L : List Int} {n : Nat} {c : Int} (hL : L.length = n * 2) (hn : 0 < n) (h : L.getD (n * 2 - 2) 0 = c) : stepR L c = L.set (n * 2 - 1) (L.getD (n * 2 - 1) 0 + 1) := by
  unfold stepR
  rw [hL, if_pos ⟨by omega, h⟩]
theorem stepR_ne {L : List Int} {n : Nat} {c : Int} (hL : L.length = n * 2) (h : ¬ L.getD (n * 2 - 2) 0 = c) : stepR L c = L ++ [c, 1] := by
  unfold stepR
  rw [hL, if_neg fun hh => h hh.2]
theorem RL_one (t : List Int) (h : 0 < t.length) : RL t 1 = [t.getD 0 0, 1] := by
  rw [RL_succ t 0 h, RL_zero]; simp [stepR]
theorem getD_app (L M : List Int) (k : Nat) (h : k < L.length) : (L ++ M).getD k 0 = L.getD k 0 := by
  simp [List.getD, List.getElem?_append_left h]
theorem set_app (L M : List Int) (k : Nat) (x : Int) (h : k < L.length) : (L ++ M).set k x = L.set k x ++ M := List.set_append_left _ _ h
theorem getD_set_self (L : List Int) (k : Nat) (x : Int) (h : k < L.length) : (L.set k x).getD k 0 = x := by
  simp [List.getD, h]
theorem getD_app_right (L M : List Int) (k : Nat) : (L ++ M).getD (L.length + k) 0 = M.getD k 0 := by
  simp [List.getD, List.getElem?_append_right]
--@tbl runs = impl.runs
theorem runs_ok (t : List Int) (ht : t.length = 4) : FreshP Try.prog 152 [.arr t] [] (runsL t) ((runsL t).length / 2) 2 44 true .one := by
  have tk : t.take 4 = t := List.take_of_length_le (by omega)
  have hle := lay_le t ht
  refine fresh_of_vc (X := ⟨Try.prog, tys, [(133, layers_F)], [], true, true, 0, [], []⟩) fn_152 ⟨tys_ok, (.cons layers_T .nil), .nil, mixed⟩ (n0 := 0) rfl (Nat.le_of_ble_eq_true rfl) (by simp [wfL, SV.wf]) (wfH_spec (by simp [wfH, SObj.wf])) (Nat.le_refl _) ?_
  simp -implicitDefEqProofs only [Try.f152, Option.getD_some, argS, layers_F, ht, tk, ZB, Int.reduceToNat, Nat.reduceLT, Nat.reduceLeDiff, Int.reduceLE, Int.reduceLT, Nat.reduceEqDiff, Nat.reduceSub, SB, SV.known, packR, ne_eq, reduceCtorEq, Nat.reduceEqDiff, ↓reduceIte, if_true, if_false, eq_self, Nat.reduceAdd, Nat.reduceMul, Nat.reduceSub, forall_const, oneCellS, litOne, flat1, Kd.isSca, flat, TYB]
  refine ⟨by omega, by omega, ?_⟩
  refine loop_intro (fun s : Nat × Nat × Nat × List Int => [(9, .slice 0 0 (layN t) 4), (10, .int (layN t)), (11, .int s.1), (3, outV s.1 s.2.1 s.2.2.1)]) (fun s => outH s.1 (RL t s.1 ++ s.2.2.2) 44 [(0, .ints t 24)]) 2
    (fun s => s.1 ≤ layN t ∧ (s.1 ≠ 0 → (RL t s.1).length = s.2.1 * 2 ∧ 0 < s.2.1 ∧ s.2.1 ≤ s.1 ∧ (0 ≤ (RL t s.1).getD (s.2.1 * 2 - 1) 0 ∧ (RL t s.1).getD (s.2.1 * 2 - 1) 0 ≤ s.1) ∧ s.2.2.2.length + s.2.1 * 2 = s.2.2.1 * 2)) (fun s => layN t - s.1) ?_ ?_
  · refine ⟨(0, 0, 0, []), ⟨by omega, fun h => absurd rfl h⟩, Sub.mk_id ?_ ?_ ?_ ?_ ?_⟩
    all_goals simp only [outV_zero, outH_zero, LB, subS, subH, wfS, wfH, SV.ren, renL, SObj.ren, SV.wf, SObj.wf, wfL, SV.known, Nat.reduceEqDiff, ↓reduceIte, if_true, if_false, eq_self, Nat.reduceAdd, Nat.reduceLT, Nat.reduceLeDiff, implies_true, reduceCtorEq, forall_const]
    all_goals simp
  · rintro ⟨i, n, cap, junk⟩ ⟨hi1, hi2⟩
    simp only at hi1 hi2
    cases i with
    | zero =>
      simp -implicitDefEqProofs only [lk_normal, outV_zero, outH_zero, ht, ZB, Int.reduceToNat, Nat.reduceLT, Nat.reduceLeDiff, Int.reduceLE, Int.reduceLT, Nat.reduceEqDiff, Nat.reduceSub, SB, SV.known, packR, ne_eq, reduceCtorEq, Nat.reduceEqDiff, ↓reduceIte, if_true, if_false, eq_self, Nat.reduceAdd, Nat.reduceMul, Nat.reduceSub, forall_const, oneCellS, litOne, flat1, Kd.isSca, flat, TYB]
      refine ⟨fun h => ⟨h, fun junk' cap' hj => ⟨by unfold In64; omega, (1, 1, cap', junk'), ⟨by omega, fun _ => ?_⟩, by omega, Sub.mk_to 1 3 ?_ ?_ ?_ ?_ ?_ ?_ ?_⟩⟩, fun h => ?_⟩
      · rw [RL_one t (by omega)]
        simp; omega
      any_goals (simp only [outV_succ, outH_succ, RL_one t (show 0 < t.length by omega), LB, subS, subH, wfS, wfH, SV.ren, renL, SObj.ren, SV.wf, SObj.wf, wfL, SV.known, Nat.reduceEqDiff, ↓reduceIte, if_true, if_false, eq_self, Nat.reduceAdd, Nat.reduceLT, Nat.reduceLeDiff, implies_true, reduceCtorEq, forall_const]; try simp; done)
      have h0 : layN t = 0 := by omega
      exact .inl ⟨rfl, by simp [runsL, h0], rfl⟩
    | succ i =>
      obtain ⟨hL, hn, hni, hlast, hj⟩ := hi2 (by omega)
      have e0 : ((n : Int) - 1).toNat * 2 = n * 2 - 2 := by omega
      have e1 : n * 2 - 2 + 1 = n * 2 - 1 := by omega
      have g0 := getD_app (RL t (i + 1)) junk (n * 2 - 2) (by omega)
      have g1 := getD_app (RL t (i + 1)) junk (n * 2 - 1) (by omega)
      have tkL : (RL t (i + 1) ++ junk).take (n * 2) = RL t (i + 1) := List.take_left' hL
      have lenL : (RL t (i + 1) ++ junk).length = cap * 2 := by rw [List.length_append]; omega
      have hs := fun x => set_app (RL t (i + 1)) junk (n * 2 - 1) x (by omega)
      simp -implicitDefEqProofs only [lk_normal, outV_succ, outH_succ, ht, e0, e1, g0, g1, tkL, lenL, hs, ZB, Int.reduceToNat, Nat.reduceLT, Nat.reduceLeDiff, Int.reduceLE, Int.reduceLT, Nat.reduceEqDiff, Nat.reduceSub, SB, SV.known, packR, ne_eq, reduceCtorEq, Nat.reduceEqDiff, ↓reduceIte, if_true, if_false, eq_self, Nat.reduceAdd, Nat.reduceMul, Nat.reduceSub, forall_const, oneCellS, litOne, flat1, Kd.isSca, flat, TYB]
      refine ⟨fun h => ?_, fun h => ?_⟩
      · have es := RL_succ t (i + 1) (by omega)
        (try (and_intros <;> try (first | omega | (unfold In64; omega) | trivial | assumption)))
        · intro hp
          (try (and_intros <;> try (first | omega | (unfold In64; omega) | trivial | assumption)))
          · intro he
            (try (and_intros <;> try (first | omega | (unfold In64; omega) | trivial | assumption)))
            refine ⟨(i + 1 + 1, n, cap, junk), ⟨by omega, fun _ => ?_⟩, by simp only; omega, Sub.mk_id ?_ ?_ ?_ ?_ ?_⟩
            · simp only
              rw [es, stepR_eq hL hn he]
              refine ⟨by simp [hL], hn, by omega, ?_, hj⟩
              rw [getD_set_self _ _ _ (by omega)]
              omega
            all_goals simp only [outV_succ, outH_succ, es, stepR_eq hL hn he, LB, subS, subH, wfS, wfH, SV.ren, renL, SObj.ren, SV.wf, SObj.wf, wfL, SV.known, Nat.reduceEqDiff, ↓reduceIte, if_true, if_false, eq_self, Nat.reduceAdd, Nat.reduceLT, Nat.reduceLeDiff, implies_true, reduceCtorEq, forall_const]
            all_goals (try simp)
          · intro he
            (try (and_intros <;> try (first | omega | (unfold In64; omega) | trivial | assumption)))
            intro junk' cap' hj'
            (try (and_intros <;> try (first | omega | (unfold In64; omega) | trivial | assumption)))
            refine ⟨(i + 1 + 1, n + 1, cap', junk'), ⟨by omega, fun _ => ?_⟩, by simp only; omega, Sub.mk_to 1 3 ?_ ?_ ?_ ?_ ?_ ?_ ?_⟩
            · simp only
              rw [es, stepR_ne hL he]
              refine ⟨by simp [hL]; omega, by omega, by omega, ?_, by omega⟩
              have : (n + 1) * 2 - 1 = (RL t (i + 1)).length + 1 := by omega
              rw [this, getD_app_right]
              simp; omega
            all_goals simp only [outV_succ, outH_succ, es, stepR_ne hL he, LB, subS, subH, wfS, wfH, SV.ren, renL, SObj.ren, SV.wf, SObj.wf, wfL, SV.known, Nat.reduceEqDiff, ↓reduceIte, if_true, if_false, eq_self, Nat.reduceAdd, Nat.reduceLT, Nat.reduceLeDiff, implies_true, reduceCtorEq, forall_const]
            all_goals (try simp)
      · have hii : i + 1 = layN t := by omega
        have hr : runsL t = RL t (i + 1) := by rw [hii]; rfl
        refine .inr ⟨1, cap, junk, ?_, ?_, by omega, ?_, ?_⟩
        · rw [hr, hL]; simp [Wrap.ap]
        · rw [hr]; simp [hget_cons]
        · rw [hr]; omega
        · intro _ h0
          rw [hr] at h0
          rw [h0] at hL
          simp at hL; omega
def runs_F : List SV → Heap → Nat → Nat → K1 → Prop
  | [.arr t], H, n, _, κ => t.length = 4 ∧ freshK .one (runsL t) ((runsL t).length / 2) 2 44 true H n κ
  | _, _, _, _, _ => False
theorem runs_T : ∀ args H n m κ, runs_F args H n m κ → GenOK Try.prog 152 args H n m κ := by
  intro args H n m κ h
  unfold runs_F at h
  split at h
  · exact gen_of_fresh (runs_ok _ h.1) (fun k o hk => by cases hk) h.2
  · exact h.elim
theorem RL_even (t : List Int) (ht : t.length = 4) : ∀ i, i ≤ 4 → ∃ n, (RL t i).length = n * 2 ∧ n ≤ i ∧ (0 < i → 0 < n)
  | 0, _ => ⟨0, by rw [RL_zero]; rfl, by omega, by omega⟩
  | i + 1, hi => by
    obtain ⟨n, h1, h2, h3⟩ := RL_even t ht i (by omega)
    rw [RL_succ t i (by omega)]
    by_cases hn : 0 < n
    · by_cases he : (RL t i).getD (n * 2 - 2) 0 = t.getD i 0
      · rw [stepR_eq h1 hn he]; exact ⟨n, by simpa using h1, by omega, fun _ => hn⟩
      · rw [stepR_ne h1 he]; exact ⟨n + 1, by simp; omega, by omega, fun _ => by omega⟩
    · have h0 : n = 0 := by omega
      subst h0
      have : RL t i = [] := List.length_eq_zero_iff.1 (by simpa using h1)
      rw [this]
      exact ⟨1, by simp [stepR], by omega, fun _ => by omega⟩
theorem runsL_even (t : List Int) (ht : t.length = 4) : ∃ n, (runsL t).length = n * 2 ∧ n ≤ 4 ∧ (0 < layN t → 0 < n) := by
  obtain ⟨n, h1, h2, h3⟩ := RL_even t ht (layN t) (lay_le t ht)
  have := lay_le t ht
  exact ⟨n, h1, by omega, h3⟩
def topF (t : List Int) : Int × Int := if runsL t = [] then (0, 0) else ((runsL t).getD ((runsL t).length - 2) 0, (runsL t).getD ((runsL t).length - 1) 0)
--@tbl top = impl.top
theorem top_ok (t : List Int) (ht : t.length = 4) : PureH Try.prog 137 [.arr t] [] (.tup [.int (topF t).1, .int (topF t).2]) := by
  have tk : t.take 4 = t := List.take_of_length_le (by omega)
  obtain ⟨n, hn, hn4, _⟩ := runsL_even t ht
  refine pure_of_vc (X := ⟨Try.prog, tys, [], [(152, runs_F)], true, true, 0, [], []⟩) fn_137 ⟨tys_ok, .nil, (.cons runs_T .nil), mixed⟩ (n0 := 0) (Nat.le_of_ble_eq_true rfl) (by simp [wfL, SV.wf]) (wfH_spec (by simp [wfH, SObj.wf])) (Nat.le_refl _) (fun _ => by simp [SV.wf, wfL]) ?_
  simp -implicitDefEqProofs only [Try.f137, Option.getD_some, argS, runs_F, ht, tk, hn, freshK, Wrap.ap, ZB, Int.reduceToNat, Nat.reduceLT, Nat.reduceLeDiff, Int.reduceLE, Int.reduceLT, Nat.reduceEqDiff, Nat.reduceSub, SB, SV.known, packR, ne_eq, reduceCtorEq, Nat.reduceEqDiff, ↓reduceIte, if_true, if_false, eq_self, Nat.reduceAdd, Nat.reduceMul, Nat.reduceSub, forall_const, oneCellS, litOne, flat1, Kd.isSca, flat, TYB]
  refine ⟨fun h => by simp [topF, h], fun h cap junk hj => ?_⟩
  have hn0 : 0 < n := by
    rcases Nat.eq_zero_or_pos n with h0 | h0
    · exact absurd (List.length_eq_zero_iff.1 (by rw [hn, h0])) h
    · exact h0
  have e2 : n * 2 / 2 = n := by omega
  have e0 : ((n : Int) - 1).toNat * 2 = n * 2 - 2 := by omega
  simp only [e2, e0]
  have hM : ((runsL t ++ junk).drop (n * 2 - 2) |>.take 2).length = 2 := by rw [List.length_take, List.length_drop, List.length_append]; omega
  have m0 : ((runsL t ++ junk).drop (n * 2 - 2) |>.take 2).getD 0 0 = (topF t).1 := by
    rw [getD_cut _ _ _ _ (by omega), getD_app _ _ _ (by omega)]
    simp [topF, h, hn]
  have m1 : ((runsL t ++ junk).drop (n * 2 - 2) |>.take 2).getD 1 0 = (topF t).2 := by
    rw [getD_cut _ _ _ _ (by omega), getD_app _ _ _ (by omega), show n * 2 - 2 + 1 = n * 2 - 1 by omega]
    simp [topF, h, hn]
  simp only [hM, Nat.sub_self, List.replicate_zero, List.append_nil, m0, m1]
  refine ⟨fun h0 => by omega, fun _ => ?_⟩
  have : (runsL t ++ junk).length = cap * 2 := by rw [List.length_append]; omega
  (try (and_intros <;> try (first | omega | (unfold In64; omega) | trivial | assumption)))
def top_F : List SV → Heap → Option (Prop × SV)
  | [.arr t], _ => some (t.length = 4, .tup [.int (topF t).1, .int (topF t).2])
  | _, _ => none
theorem top_T : ∀ args H p v, top_F args H = some (p, v) → p → PureH Try.prog 137 args H v := by
  intro args H p v h hp
  unfold top_F at h
  split at h
  · cases h; exact (top_ok _ hp).any _
  · cases h

/-! The model's top. -/
def isRun (t : List Int) (n r : Nat) : Prop := 0 < r ∧ r ≤ n ∧ (∀ k, k < r → t.getD (n - 1 - k) 0 = t.getD (n - 1) 0) ∧ (r = n ∨ ¬ t.getD (n - 1 - r) 0 = t.getD (n - 1) 0)
theorem isRun_one {t : List Int} {n r r' : Nat} (h : isRun t n r) (h' : isRun t n r') : r = r' := by
  rcases Nat.lt_trichotomy r r' with hl | he | hg
  · rcases h.2.2.2 with h1 | h1
    · have := h'.2.1; omega
    · exact absurd (h'.2.2.1 r hl) h1
  · exact he
  · rcases h'.2.2.2 with h1 | h1
    · have := h.2.1; omega
    · exact absurd (h.2.2.1 r' hg) h1
theorem topF_run (t : List Int) (ht : t.length = 4) (h0 : 0 < layN t) : ∃ r : Nat, topF t = (t.getD (layN t - 1) 0, (r : Int)) ∧ isRun t (layN t) r := by
  have key : ∀ i, 0 < i → i ≤ 4 → ∃ r n : Nat, (RL t i).length = n * 2 ∧ 0 < n ∧ (RL t i).getD (n * 2 - 2) 0 = t.getD (i - 1) 0 ∧ (RL t i).getD (n * 2 - 1) 0 = r ∧ isRun t i r := by
    intro i
    induction i with
    | zero => intro h; omega
    | succ i ih =>
      intro _ hi
      rw [RL_succ t i (by omega)]
      by_cases hi0 : i = 0
      · subst hi0
        rw [RL_zero]
        exact ⟨1, 1, by simp [stepR], by omega, by simp [stepR], by simp [stepR], by omega, by omega, fun k hk => by rw [show k = 0 by omega], .inl rfl⟩
      · obtain ⟨r, n, h1, h2, h3, h4, h5⟩ := ih (by omega) (by omega)
        by_cases he : (RL t i).getD (n * 2 - 2) 0 = t.getD i 0
        · rw [stepR_eq h1 h2 he]
          refine ⟨r + 1, n, by simpa using h1, h2, ?_, ?_, by omega, by have := h5.2.1; omega, fun k hk => ?_, ?_⟩
          · rw [show i + 1 - 1 = i by omega, ← he]
            simp only [List.getD, List.getElem?_set]
            rw [if_neg (by omega)]
          · rw [getD_set_self _ _ _ (by omega), h4]; omega
          · rcases Nat.eq_zero_or_pos k with hk0 | hk0
            · rw [hk0]; rfl
            · have := h5.2.2.1 (k - 1) (by omega)
              rw [show i + 1 - 1 - k = i - 1 - (k - 1) by omega, this, ← h3, he]; rfl
          · rcases h5.2.2.2 with h6 | h6
            · exact .inl (by omega)
            · refine .inr ?_
              rw [show i + 1 - 1 - (r + 1) = i - 1 - r by omega, show i + 1 - 1 = i by omega, ← he, h3]
              exact h6
        · rw [stepR_ne h1 he]
          refine ⟨1, n + 1, by simp; omega, by omega, ?_, ?_, by omega, by omega, fun k hk => by rw [show k = 0 by omega]; rfl, .inr ?_⟩
          · rw [show (n + 1) * 2 - 2 = (RL t i).length + 0 by omega, getD_app_right]; rfl
          · rw [show (n + 1) * 2 - 1 = (RL t i).length + 1 by omega, getD_app_right]; rfl
          · rw [show i + 1 - 1 - 1 = i - 1 by omega, show i + 1 - 1 = i by omega, ← h3]
            exact he
  obtain ⟨r, n, h1, h2, h3, h4, h5⟩ := key (layN t) h0 (lay_le t ht)
  have hr : runsL t = RL t (layN t) := rfl
  refine ⟨r, ?_, h5⟩
  unfold topF
  rw [hr, if_neg (by intro h; rw [h] at h1; simp at h1; omega), h1, h3, h4]
--@tbl l2Top = spec.l2Top
theorem l2Top_ok (t : List Int) (ht : t.length = 4) (hb : tubeB t = true) : PureH Try.prog 138 [.arr t] [] (.tup [.int (topF t).1, .int (topF t).2]) := by
  have tk : t.take 4 = t := List.take_of_length_le (by omega)
  have hp := posC_lay t ht hb
  have hle := lay_le t ht
  have hz : layN t = 0 → topF t = (0, 0) := fun h => by simp [topF, runsL, h]
  refine pure_of_vc (X := ⟨Try.prog, tys, [(135, l2Many_F)], [], true, true, 0, [], []⟩) fn_138 ⟨tys_ok, (.cons l2Many_T .nil), .nil, mixed⟩ (n0 := 0) (Nat.le_of_ble_eq_true rfl) (by simp [wfL, SV.wf]) (wfH_spec (by simp [wfH, SObj.wf])) (Nat.le_refl _) (fun _ => by simp [SV.wf, wfL]) ?_
  simp -implicitDefEqProofs only [Try.f138, Option.getD_some, argS, l2Many_F, ht, tk, hp, ZB, Int.reduceToNat, Nat.reduceLT, Nat.reduceLeDiff, Int.reduceLE, Int.reduceLT, Nat.reduceEqDiff, Nat.reduceSub, SB, SV.known, packR, ne_eq, reduceCtorEq, Nat.reduceEqDiff, ↓reduceIte, if_true, if_false, eq_self, Nat.reduceAdd, Nat.reduceMul, Nat.reduceSub, forall_const, oneCellS, litOne, flat1, Kd.isSca, flat, TYB]
  refine ⟨fun h => by rw [hz (by omega)]; exact ⟨rfl, rfl⟩, fun h => ?_⟩
  obtain ⟨r0, ht0, hr0⟩ := topF_run t ht (by omega)
  refine loop_intro (fun r : Nat => [(1, .ptr 0 0), (4, .int (layN t)), (5, .int r)]) (fun _ => [(0, .ints t 24)]) 1 (fun r => r ≤ layN t ∧ ∀ k, k < r → t.getD (layN t - 1 - k) 0 = t.getD (layN t - 1) 0) (fun r => layN t - r) ?_ ?_
  · refine ⟨0, ⟨by omega, by omega⟩, Sub.mk_id ?_ ?_ ?_ ?_ ?_⟩
    all_goals simp only [LB, subS, subH, wfS, wfH, SV.ren, renL, SObj.ren, SV.wf, SObj.wf, wfL, SV.known, Nat.reduceEqDiff, ↓reduceIte, if_true, if_false, eq_self, Nat.reduceAdd, Nat.reduceLT, Nat.reduceLeDiff, implies_true, reduceCtorEq, forall_const]
    all_goals simp
  · rintro r ⟨hr1, hr2⟩
    have e1 : ((layN t : Int) - 1).toNat = layN t - 1 := by omega
    have e2 : ((layN t : Int) - 1 - r).toNat = layN t - 1 - r := by omega
    simp -implicitDefEqProofs only [lk_normal, ht, e1, e2, ZB, Int.reduceToNat, Nat.reduceLT, Nat.reduceLeDiff, Int.reduceLE, Int.reduceLT, Nat.reduceEqDiff, Nat.reduceSub, SB, SV.known, packR, ne_eq, reduceCtorEq, Nat.reduceEqDiff, ↓reduceIte, if_true, if_false, eq_self, Nat.reduceAdd, Nat.reduceMul, Nat.reduceSub, forall_const, oneCellS, litOne, flat1, Kd.isSca, flat, TYB]
    (try (and_intros <;> try (first | omega | (unfold In64; omega) | trivial | assumption)))
    all_goals intro h1
    · (try (and_intros <;> try (first | omega | (unfold In64; omega) | trivial | assumption)))
      all_goals intro h2
      · (try (and_intros <;> try (first | omega | (unfold In64; omega) | trivial | assumption)))
        refine ⟨r + 1, ⟨by omega, fun k hk => ?_⟩, by omega, Sub.mk_id ?_ ?_ ?_ ?_ ?_⟩
        · by_cases hkr : k = r
          · rw [hkr]; exact h2
          · exact hr2 k (by omega)
        all_goals simp only [LB, subS, subH, wfS, wfH, SV.ren, renL, SObj.ren, SV.wf, SObj.wf, wfL, SV.known, Nat.reduceEqDiff, ↓reduceIte, if_true, if_false, eq_self, Nat.reduceAdd, Nat.reduceLT, Nat.reduceLeDiff, implies_true, reduceCtorEq, forall_const]
      · have hrun : isRun t (layN t) r := ⟨by
          rcases Nat.eq_zero_or_pos r with h0 | h0
          · subst h0; exact absurd rfl h2
          · exact h0, hr1, hr2, .inr h2⟩
        have e3 : topF t = (t.getD (layN t - 1) 0, (r : Int)) := by rw [ht0, isRun_one hr0 hrun]
        simp only [e3]
        (try (and_intros <;> try (first | omega | (unfold In64; omega) | trivial | assumption)))
    · have hrn : r = layN t := by omega
      have hrun : isRun t (layN t) r := ⟨by omega, hr1, hr2, .inl hrn⟩
      have e3 : topF t = (t.getD (layN t - 1) 0, (r : Int)) := by rw [ht0, isRun_one hr0 hrun]
      simp only [e3]
      (try (and_intros <;> try (first | omega | (unfold In64; omega) | trivial | assumption)))
def l2Top_F : List SV → Heap → Option (Prop × SV)
  | [.arr t], _ => some (t.length = 4 ∧ tubeB t = true, .tup [.int (topF t).1, .int (topF t).2])
  | _, _ => none
theorem l2Top_T : ∀ args H p v, l2Top_F args H = some (p, v) → p → PureH Try.prog 138 args H v := by
  intro args H p v h hp
  unfold l2Top_F at h
  split at h
  · cases h; exact (l2Top_ok _ hp.1 hp.2).any _
  · cases h

theorem top_pos (t : List Int) (ht : t.length = 4) (hb : tubeB t = true) : (0 < (topF t).1 ↔ 0 < layN t) ∧ (0 < (topF t).2 ↔ 0 < layN t) := by
  rcases Nat.eq_zero_or_pos (layN t) with h0 | h0
  · have : topF t = (0, 0) := by simp [topF, runsL, h0]
    simp [this, h0]
  · obtain ⟨r, h1, h2⟩ := topF_run t ht h0
    have hle := lay_le t ht
    have hc : coT (t.getD (layN t - 1) 0) = true := by
      unfold tubeB at hb
      simp only [Bool.and_eq_true] at hb
      refine List.all_eq_true.1 hb.1 _ ?_
      have hlt : layN t - 1 < t.length := by omega
      simp only [List.getD, List.getElem?_eq_getElem hlt, Option.getD_some]
      exact List.mem_take_iff_getElem.2 ⟨layN t - 1, by omega, rfl⟩
    have hc2 : 1 ≤ t.getD (layN t - 1) 0 ∧ t.getD (layN t - 1) 0 ≤ 5 := by simpa [coT] using hc
    have := h2.1
    rw [h1]
    constructor <;> constructor <;> intro _ <;> first | exact h0 | (simp only; omega)

/-! Pours. -/
def canF (R : List Int) (i j : Int) : Bool := !decide (i = j) && decide (0 < (topF (tubeAt R i.toNat)).1) && decide ((layN (tubeAt R j.toNat) : Int) < 4) && (decide ((topF (tubeAt R j.toNat)).1 = 0) || decide ((topF (tubeAt R j.toNat)).1 = (topF (tubeAt R i.toNat)).1))
--@tbl canPour = impl.canPour
theorem l2Can_ok (R : List Int) (i j : Int) (hR : R.length = 24) (hr : rackB R = true) (hi : 0 ≤ i ∧ i ≤ 5) (hj : 0 ≤ j ∧ j ≤ 5) : PureH Try.prog 144 [.arr R, .int i, .int j] [] (.bool (canF R i j)) := by
  have hli := tubeAt_len hR (i := i.toNat) (by omega)
  have hlj := tubeAt_len hR (i := j.toNat) (by omega)
  have ei : List.take 4 (List.drop (i.toNat * 4) R) = tubeAt R i.toNat := rfl
  have ej : List.take 4 (List.drop (j.toNat * 4) R) = tubeAt R j.toNat := rfl
  have bi := tubeAt_ok hr (i := i.toNat) (by omega)
  have bj := tubeAt_ok hr (i := j.toNat) (by omega)
  have pj := posC_lay _ hlj bj
  refine pure_of_vc (X := ⟨Try.prog, tys, [(138, l2Top_F), (135, l2Many_F)], [], true, true, 0, [], []⟩) fn_144 ⟨tys_ok, (.cons l2Top_T (.cons l2Many_T .nil)), .nil, mixed⟩ (n0 := 0) (Nat.le_of_ble_eq_true rfl) (by simp [wfL, SV.wf]) (wfH_spec (by simp [wfH, SObj.wf])) (Nat.le_refl _) (fun _ => by simp [SV.wf, wfL]) ?_
  simp -implicitDefEqProofs only [Try.f144, Option.getD_some, argS, l2Top_F, l2Many_F, hR, ei, ej, hli, hlj, bi, bj, pj, ZB, Int.reduceToNat, Nat.reduceLT, Nat.reduceLeDiff, Int.reduceLE, Int.reduceLT, Nat.reduceEqDiff, Nat.reduceSub, SB, SV.known, packR, ne_eq, reduceCtorEq, Nat.reduceEqDiff, ↓reduceIte, if_true, if_false, eq_self, Nat.reduceAdd, Nat.reduceMul, Nat.reduceSub, forall_const, oneCellS, litOne, flat1, Kd.isSca, flat, TYB]
  have tp := (top_pos _ hli bi).2.trans (top_pos _ hli bi).1.symm
  (try (and_intros <;> try (first | omega | (unfold In64; omega) | trivial | assumption)))
  · intro h; simp [canF, h]
  · intro h
    (try (and_intros <;> try (first | omega | (unfold In64; omega) | trivial | assumption)))
    · intro h1
      rw [tp] at h1
      (try (and_intros <;> try (first | omega | (unfold In64; omega) | trivial | assumption)))
      · intro h2
        (try (and_intros <;> try (first | omega | (unfold In64; omega) | trivial | assumption)))
        · intro h3; simp [canF, h, h1, h2, h3]
        · intro h3; simp [canF, h, h1, h2, h3]
      · intro h2; simp [canF, h, h1, h2]
    · intro h1
      rw [tp] at h1
      simp [canF, h, h1]
def l2Can_F : List SV → Heap → Option (Prop × SV)
  | [.arr R, .int i, .int j], _ => some (R.length = 24 ∧ rackB R = true ∧ (0 ≤ i ∧ i ≤ 5) ∧ (0 ≤ j ∧ j ≤ 5), .bool (canF R i j))
  | _, _ => none
theorem l2Can_T : ∀ args H p v, l2Can_F args H = some (p, v) → p → PureH Try.prog 144 args H v := by
  intro args H p v h hp
  unfold l2Can_F at h
  split at h
  · cases h; exact (l2Can_ok _ _ _ hp.1 hp.2.1 hp.2.2.1 hp.2.2.2).any _
  · cases h
end Go.Proofs.Ytopfnkmlgcjpbaa
set_option maxRecDepth 100000
set_option linter.unusedSimpArgs false
set_option linter.unusedVariables false
namespace Go.Proofs.Ytopfnkmlgcjpbaa
open Go Go.RowKit
def prK (R : List Int) (k : Nat) : List Int := if canF R ((k / 6 : Nat) : Int) ((k % 6 : Nat) : Int) = true then [((k / 6 : Nat) : Int), ((k % 6 : Nat) : Int)] else []
def PL (R : List Int) (m : Nat) : List Int := (List.range m).flatMap (prK R)
theorem PL_zero (R : List Int) : PL R 0 = [] := rfl
theorem PL_succ (R : List Int) (m : Nat) : PL R (m + 1) = PL R m ++ prK R m := by simp [PL, List.range_succ]
theorem PL_at (R : List Int) (i j : Nat) (hj : j < 6) : PL R (i * 6 + j + 1) = PL R (i * 6 + j) ++ if canF R i j = true then [(i : Int), (j : Int)] else [] := by
  rw [PL_succ]
  have e1 : (i * 6 + j) / 6 = i := by omega
  have e2 : (i * 6 + j) % 6 = j := by omega
  simp only [prK, e1, e2]
--@tbl pours = impl.pours
theorem l2Pours_ok (R : List Int) (hR : R.length = 24) (hr : rackB R = true) : FreshP Try.prog 85 [.arr R] [] (PL R 36) ((PL R 36).length / 2) 2 44 false .one := by
  have tkR : R.take 24 = R := List.take_of_length_le (by omega)
  refine fresh_of_vc (X := ⟨Try.prog, tys, [(144, l2Can_F)], [], true, true, 0, [], []⟩) fn_85 ⟨tys_ok, (.cons l2Can_T .nil), .nil, mixed⟩ (n0 := 0) rfl (Nat.le_of_ble_eq_true rfl) (by simp [wfL, SV.wf]) (wfH_spec (by simp [wfH, SObj.wf])) (Nat.le_refl _) ?_
  simp -implicitDefEqProofs only [Try.f85, Option.getD_some, argS, l2Can_F, hR, hr, tkR, ZB, Int.reduceToNat, Nat.reduceLT, Nat.reduceLeDiff, Int.reduceLE, Int.reduceLT, Nat.reduceEqDiff, Nat.reduceSub, SB, SV.known, packR, ne_eq, reduceCtorEq, Nat.reduceEqDiff, ↓reduceIte, if_true, if_false, eq_self, Nat.reduceAdd, Nat.reduceMul, Nat.reduceSub, forall_const, oneCellS, litOne, flat1, Kd.isSca, flat, TYB]
  refine loop_intro (fun s : Nat × Nat × Nat × List Int => [(1, .ptr 0 0), (3, .slice 1 0 s.2.1 s.2.2.1), (4, .int s.1)]) (fun s => [(1, .ints (PL R (s.1 * 6) ++ s.2.2.2) 44), (0, .ints R 27)]) 2
    (fun s => s.1 ≤ 6 ∧ (PL R (s.1 * 6)).length = s.2.1 * 2 ∧ s.2.1 ≤ 37 ∧ s.2.1 ≤ s.1 * 6 ∧ s.2.2.2.length + s.2.1 * 2 = s.2.2.1 * 2) (fun s => 6 - s.1) ?_ ?_
  · refine ⟨(0, 0, 0, []), ⟨by omega, by simp [PL_zero], by simp, by simp, by simp⟩, Sub.mk_id ?_ ?_ ?_ ?_ ?_⟩
    all_goals simp only [Nat.zero_mul, PL_zero, List.append_nil, LB, subS, subH, wfS, wfH, SV.ren, renL, SObj.ren, SV.wf, SObj.wf, wfL, SV.known, Nat.reduceEqDiff, ↓reduceIte, if_true, if_false, eq_self, Nat.reduceAdd, Nat.reduceLT, Nat.reduceLeDiff, implies_true, reduceCtorEq, forall_const]
    all_goals (try simp)
  · rintro ⟨i, n, cap, junk⟩ ⟨hi, hL, hn, hni, hj⟩
    simp only at hi hL hn hni hj
    simp -implicitDefEqProofs only [lk_normal, l2Can_F, hR, hr, ZB, Int.reduceToNat, Nat.reduceLT, Nat.reduceLeDiff, Int.reduceLE, Int.reduceLT, Nat.reduceEqDiff, Nat.reduceSub, SB, SV.known, packR, ne_eq, reduceCtorEq, Nat.reduceEqDiff, ↓reduceIte, if_true, if_false, eq_self, Nat.reduceAdd, Nat.reduceMul, Nat.reduceSub, forall_const, oneCellS, litOne, flat1, Kd.isSca, flat, TYB]
    refine ⟨fun h => ?_, fun h => ?_⟩
    · have hi6 : i < 6 := by omega
      refine loop_intro (fun s : Nat × Nat × Nat × List Int => [(1, .ptr 0 0), (3, .slice 1 0 s.2.1 s.2.2.1), (4, .int i), (5, .int s.1)]) (fun s => [(1, .ints (PL R (i * 6 + s.1) ++ s.2.2.2) 44), (0, .ints R 27)]) 2
        (fun s => s.1 ≤ 6 ∧ (PL R (i * 6 + s.1)).length = s.2.1 * 2 ∧ s.2.1 ≤ 37 ∧ s.2.1 ≤ i * 6 + s.1 ∧ s.2.2.2.length + s.2.1 * 2 = s.2.2.1 * 2) (fun s => 6 - s.1) ?_ ?_
      · refine ⟨(0, n, cap, junk), ⟨by simp, by simpa using hL, by simpa using hn, by simpa using hni, by simpa using hj⟩, Sub.mk_id ?_ ?_ ?_ ?_ ?_⟩
        all_goals simp only [Nat.add_zero, LB, subS, subH, wfS, wfH, SV.ren, renL, SObj.ren, SV.wf, SObj.wf, wfL, SV.known, Nat.reduceEqDiff, ↓reduceIte, if_true, if_false, eq_self, Nat.reduceAdd, Nat.reduceLT, Nat.reduceLeDiff, implies_true, reduceCtorEq, forall_const]
        all_goals (try simp)
      · rintro ⟨j, n, cap, junk⟩ ⟨gj, gL, gn, gni, gk⟩
        simp only at gj gL gn gni gk
        have es := fun hj => PL_at R i j hj
        have e6 : (i + 1) * 6 = i * 6 + 6 := by omega
        have tkL : (PL R (i * 6 + j) ++ junk).take (n * 2) = PL R (i * 6 + j) := List.take_left' gL
        have lenL : (PL R (i * 6 + j) ++ junk).length = cap * 2 := by rw [List.length_append]; omega
        cases hc : canF R (i : Int) (j : Int) with
        | false =>
          simp -implicitDefEqProofs only [lk_normal, l2Can_F, hR, hr, tkR, hc, ZB, Int.reduceToNat, Nat.reduceLT, Nat.reduceLeDiff, Int.reduceLE, Int.reduceLT, Nat.reduceEqDiff, Nat.reduceSub, SB, SV.known, packR, ne_eq, reduceCtorEq, Nat.reduceEqDiff, ↓reduceIte, if_true, if_false, eq_self, Nat.reduceAdd, Nat.reduceMul, Nat.reduceSub, forall_const, oneCellS, litOne, flat1, Kd.isSca, flat, TYB]
          refine ⟨fun hx => ?_, fun hx => ?_⟩
          · have e1 := es (by omega)
            rw [hc] at e1
            simp only [Bool.false_eq_true, if_false, List.append_nil] at e1
            (try (and_intros <;> try (first | omega | (unfold In64; omega) | trivial | assumption)))
            refine ⟨(j + 1, n, cap, junk), ⟨by simp only; omega, by simp only [← Nat.add_assoc]; rw [e1]; exact gL, by simp only; omega, by simp only; omega, by simp only; omega⟩, by simp only; omega, Sub.mk_id ?_ ?_ ?_ ?_ ?_⟩
            all_goals simp only [← Nat.add_assoc, e1, LB, subS, subH, wfS, wfH, SV.ren, renL, SObj.ren, SV.wf, SObj.wf, wfL, SV.known, Nat.reduceEqDiff, ↓reduceIte, if_true, if_false, eq_self, Nat.reduceAdd, Nat.reduceLT, Nat.reduceLeDiff, implies_true, reduceCtorEq, forall_const]
            all_goals (try simp)
          · have hj6 : j = 6 := by omega
            subst hj6
            (try (and_intros <;> try (first | omega | (unfold In64; omega) | trivial | assumption)))
            refine ⟨(i + 1, n, cap, junk), ⟨by simp only; omega, by simp only; rw [e6]; exact gL, by simp only; omega, by simp only; omega, by simp only; omega⟩, by simp only; omega, Sub.mk_id ?_ ?_ ?_ ?_ ?_⟩
            all_goals simp only [e6, LB, subS, subH, wfS, wfH, SV.ren, renL, SObj.ren, SV.wf, SObj.wf, wfL, SV.known, Nat.reduceEqDiff, ↓reduceIte, if_true, if_false, eq_self, Nat.reduceAdd, Nat.reduceLT, Nat.reduceLeDiff, implies_true, reduceCtorEq, forall_const]
            all_goals (try simp)
        | true =>
          simp -implicitDefEqProofs only [lk_normal, l2Can_F, hR, hr, tkR, hc, tkL, lenL, ZB, Int.reduceToNat, Nat.reduceLT, Nat.reduceLeDiff, Int.reduceLE, Int.reduceLT, Nat.reduceEqDiff, Nat.reduceSub, SB, SV.known, packR, ne_eq, reduceCtorEq, Nat.reduceEqDiff, ↓reduceIte, if_true, if_false, eq_self, Nat.reduceAdd, Nat.reduceMul, Nat.reduceSub, forall_const, oneCellS, litOne, flat1, Kd.isSca, flat, TYB]
          refine ⟨fun hx => ?_, fun hx => ?_⟩
          · have e1 := es (by omega)
            rw [hc] at e1
            simp only [if_true] at e1
            (try (and_intros <;> try (first | omega | (unfold In64; omega) | trivial | assumption)))
            intro junk' cap' hj'
            (try (and_intros <;> try (first | omega | (unfold In64; omega) | trivial | assumption)))
            refine ⟨(j + 1, n + 1, cap', junk'), ⟨by simp only; omega, by simp only [← Nat.add_assoc]; rw [e1, List.length_append, gL]; simp; omega, by simp only; omega, by simp only; omega, by simp only; omega⟩, by simp only; omega, Sub.mk_to 1 3 ?_ ?_ ?_ ?_ ?_ ?_ ?_⟩
            all_goals simp only [← Nat.add_assoc, e1, LB, subS, subH, wfS, wfH, SV.ren, renL, SObj.ren, SV.wf, SObj.wf, wfL, SV.known, Nat.reduceEqDiff, ↓reduceIte, if_true, if_false, eq_self, Nat.reduceAdd, Nat.reduceLT, Nat.reduceLeDiff, implies_true, reduceCtorEq, forall_const]
            all_goals (try simp)
          · have hj6 : j = 6 := by omega
            subst hj6
            (try (and_intros <;> try (first | omega | (unfold In64; omega) | trivial | assumption)))
            refine ⟨(i + 1, n, cap, junk), ⟨by simp only; omega, by simp only; rw [e6]; exact gL, by simp only; omega, by simp only; omega, by simp only; omega⟩, by simp only; omega, Sub.mk_id ?_ ?_ ?_ ?_ ?_⟩
            all_goals simp only [e6, LB, subS, subH, wfS, wfH, SV.ren, renL, SObj.ren, SV.wf, SObj.wf, wfL, SV.known, Nat.reduceEqDiff, ↓reduceIte, if_true, if_false, eq_self, Nat.reduceAdd, Nat.reduceLT, Nat.reduceLeDiff, implies_true, reduceCtorEq, forall_const]
            all_goals (try simp)
    · obtain rfl : i = 6 := by omega
      have hL' : (PL R 36).length = n * 2 := hL
      refine .inr ⟨1, cap, junk, ?_, ?_, by omega, ?_, ?_⟩
      · rw [hL']; simp [Wrap.ap]
      · simp [hget_cons]
      · omega
      · intro h0; cases h0
def pmN (R : List Int) (i j : Nat) : Int := min (topF (tubeAt R i)).2 (4 - (layN (tubeAt R j) : Int))
def pmR (R : List Int) (i j : Nat) : Nat → List Int
  | 0 => R
  | k + 1 => ((pmR R i j k).set (i * 4 + (layN (tubeAt R i) - 1 - k)) 0).set (j * 4 + (layN (tubeAt R j) + k)) (topF (tubeAt R i)).1
theorem topF_le (t : List Int) (ht : t.length = 4) : 0 ≤ (topF t).2 ∧ (topF t).2 ≤ layN t := by
  rcases Nat.eq_zero_or_pos (layN t) with h0 | h0
  · have : topF t = (0, 0) := by simp [topF, runsL, h0]
    rw [this]; simp
  · obtain ⟨r, h1, h2⟩ := topF_run t ht h0
    have := h2.2.1
    rw [h1]
    simp only
    omega
def pourF (R : List Int) (i j : Nat) : List Int := pmR R i j (pmN R i j).toNat
--@tbl pour = impl.pour
theorem l1Least_ok (a b : Int) : PureH Try.prog 139 [.int a, .int b] [] (.int (min a b)) := by
  refine pure_of_vc (X := ⟨Try.prog, tys, [], [], true, true, 0, [], []⟩) fn_139 ⟨tys_ok, .nil, .nil, mixed⟩ (n0 := 0) (Nat.le_of_ble_eq_true rfl) (by simp [wfL, SV.wf]) (wfH_spec (by simp [wfH, SObj.wf])) (Nat.le_refl _) (fun _ => by simp [SV.wf, wfL]) ?_
  simp -implicitDefEqProofs only [Try.f139, Option.getD_some, argS, ZB, Int.reduceToNat, Nat.reduceLT, Nat.reduceLeDiff, Int.reduceLE, Int.reduceLT, Nat.reduceEqDiff, Nat.reduceSub, SB, SV.known, packR, ne_eq, reduceCtorEq, Nat.reduceEqDiff, ↓reduceIte, if_true, if_false, eq_self, Nat.reduceAdd, Nat.reduceMul, Nat.reduceSub, forall_const, oneCellS, litOne, flat1, Kd.isSca, flat, TYB]
  constructor <;> intro h <;> omega
def l1Least_F : List SV → Heap → Option (Prop × SV)
  | [.int a, .int b], _ => some (True, .int (min a b))
  | _, _ => none
theorem l1Least_T : ∀ args H p v, l1Least_F args H = some (p, v) → p → PureH Try.prog 139 args H v := by
  intro args H p v h hp
  unfold l1Least_F at h
  split at h
  · cases h; exact (l1Least_ok _ _).any _
  · cases h
end Go.Proofs.Ytopfnkmlgcjpbaa
set_option maxRecDepth 100000
set_option linter.unusedSimpArgs false
set_option linter.unusedVariables false
namespace Go.Proofs.Ytopfnkmlgcjpbaa
open Go Go.RowKit

end Go.Proofs.Ytopfnkmlgcjpbaa
set_option maxRecDepth 100000
set_option linter.unusedSimpArgs false
set_option linter.unusedVariables false
namespace Go.Proofs.Ytopfnkmlgcjpbaa
open Go Go.RowKit
theorem l1Most_ok (a b : Int) : PureH Try.prog 145 [.int a, .int b] [] (.int (max a b)) := by
  refine pure_of_vc (X := ⟨Try.prog, tys, [], [], true, true, 0, [], []⟩) fn_145 ⟨tys_ok, .nil, .nil, mixed⟩ (n0 := 0) (Nat.le_of_ble_eq_true rfl) (by simp [wfL, SV.wf]) (wfH_spec (by simp [wfH, SObj.wf])) (Nat.le_refl _) (fun _ => by simp [SV.wf, wfL]) ?_
  simp -implicitDefEqProofs only [Try.f145, Option.getD_some, argS, ZB, Int.reduceToNat, Nat.reduceLT, Nat.reduceLeDiff, Int.reduceLE, Int.reduceLT, Nat.reduceEqDiff, Nat.reduceSub, SB, SV.known, packR, ne_eq, reduceCtorEq, Nat.reduceEqDiff, ↓reduceIte, if_true, if_false, eq_self, Nat.reduceAdd, Nat.reduceMul, Nat.reduceSub, forall_const, oneCellS, litOne, flat1, Kd.isSca, flat, TYB]
  constructor <;> intro h <;> omega
def l1Most_F : List SV → Heap → Option (Prop × SV)
  | [.int a, .int b], _ => some (True, .int (max a b))
  | _, _ => none
theorem l1Most_T : ∀ args H p v, l1Most_F args H = some (p, v) → p → PureH Try.prog 145 args H v := by
  intro args H p v h hp
  unfold l1Most_F at h
  split at h
  · cases h; exact (l1Most_ok _ _).any _
  · cases h
--@tbl l7Cut = spec.l7Cut
--@tbl isPlace = impl.isPlace
--@tbl l2Place = spec.l2Place
--@tbl isColor = impl.isColor
def plF (i : Int) : Bool := decide (0 ≤ i ∧ i ≤ 5)
theorem isPlace_ok (i : Int) : PureH Try.prog 97 [.int i] [] (.bool (plF i)) := by
  refine pure_of_vc (X := ⟨Try.prog, tys, [(108, within_F)], [], true, true, 0, [], []⟩) fn_97 ⟨tys_ok, (.cons within_T .nil), .nil, mixed⟩ (n0 := 0) (Nat.le_of_ble_eq_true rfl) (by simp [wfL, SV.wf]) (wfH_spec (by simp [wfH, SObj.wf])) (Nat.le_refl _) (fun _ => by simp [SV.wf, wfL]) ?_
  simp -implicitDefEqProofs only [Try.f97, Option.getD_some, argS, within_F, SB, SV.known, packR, ne_eq, reduceCtorEq, Nat.reduceEqDiff, ↓reduceIte, if_true, if_false, eq_self, Nat.reduceAdd, Nat.reduceMul, Nat.reduceSub, forall_const, oneCellS, litOne, flat1, Kd.isSca, flat, TYB]
  trivial
def isPlace_F : List SV → Heap → Option (Prop × SV)
  | [.int i], _ => some (True, .bool (plF i))
  | _, _ => none
theorem isPlace_T : ∀ args H p v, isPlace_F args H = some (p, v) → p → PureH Try.prog 97 args H v := by
  intro args H p v h hp
  unfold isPlace_F at h
  split at h
  · cases h; exact (isPlace_ok _).any _
  · cases h
end Go.Proofs.Ytopfnkmlgcjpbaa
set_option maxRecDepth 100000
set_option linter.unusedSimpArgs false
set_option linter.unusedVariables false
namespace Go.Proofs.Ytopfnkmlgcjpbaa
open Go Go.RowKit
--@tbl isAt = impl.isAt
--@tbl areAll_place = impl.areAll[int]
end Go.Proofs.Ytopfnkmlgcjpbaa
set_option maxRecDepth 100000
set_option linter.unusedSimpArgs false
set_option linter.unusedVariables false
namespace Go.Proofs.Ytopfnkmlgcjpbaa
open Go Go.RowKit
theorem pl_bd {i : Int} (h : plF i = true) : 0 ≤ i ∧ i ≤ 5 := by simpa [plF] using h
end Go.Proofs.Ytopfnkmlgcjpbaa
set_option maxRecDepth 100000
set_option linter.unusedSimpArgs false
set_option linter.unusedVariables false
namespace Go.Proofs.Ytopfnkmlgcjpbaa
open Go Go.RowKit
end Go.Proofs.Ytopfnkmlgcjpbaa
set_option maxRecDepth 100000
set_option linter.unusedSimpArgs false
set_option linter.unusedVariables false
namespace Go.Proofs.Ytopfnkmlgcjpbaa
open Go Go.RowKit
theorem PL_bd (R : List Int) (m : Nat) (hm : m ≤ 36) : ∀ x ∈ PL R m, 0 ≤ x ∧ x ≤ 5 := by
  intro x hx
  unfold PL at hx
  obtain ⟨k, hk, hx⟩ := List.mem_flatMap.1 hx
  have := List.mem_range.1 hk
  unfold prK at hx
  split at hx
  · simp at hx; omega
  · simp at hx
theorem PL_even (R : List Int) : ∀ m, ∃ n, (PL R m).length = n * 2 ∧ n ≤ m
  | 0 => ⟨0, rfl, by omega⟩
  | m + 1 => by
    obtain ⟨n, h1, h2⟩ := PL_even R m
    rw [PL_succ, List.length_append, h1]
    unfold prK
    split
    · exact ⟨n + 1, by simp; omega, by omega⟩
    · exact ⟨n, by simp, by omega⟩
def l2Pours_F : List SV → Heap → Nat → Nat → K1 → Prop
  | [.arr R], H, n, _, κ => (R.length = 24 ∧ rackB R = true) ∧ freshK .one (PL R 36) ((PL R 36).length / 2) 2 44 false H n κ
  | _, _, _, _, _ => False
theorem l2Pours_T : ∀ args H n m κ, l2Pours_F args H n m κ → GenOK Try.prog 85 args H n m κ := by
  intro args H n m κ h
  unfold l2Pours_F at h
  split at h
  · exact gen_of_fresh (l2Pours_ok _ h.1.1 h.1.2) (fun k o hk => by cases hk) h.2
  · exact h.elim
theorem take2_drop (L : List Int) (o : Nat) (h : o + 2 ≤ L.length) : (L.drop o).take 2 = [L.getD o 0, L.getD (o + 1) 0] := by
  rw [List.drop_eq_getElem_cons (show o < L.length by omega), List.drop_eq_getElem_cons (show o + 1 < L.length by omega)]
  simp only [List.getD, List.getElem?_eq_getElem (show o < L.length by omega), List.getElem?_eq_getElem (show o + 1 < L.length by omega), Option.getD_some, List.take_succ_cons, List.take_zero]
--@tbl MostPoured = impl.MostPoured
--@tbl sMostPoured = spec.MostPoured
end Go.Proofs.Ytopfnkmlgcjpbaa
set_option maxRecDepth 100000
set_option linter.unusedSimpArgs false
set_option linter.unusedVariables false
namespace Go.Proofs.Ytopfnkmlgcjpbaa
open Go Go.RowKit
def besF (l : List Int) : Int := (l.map fun n => max (n - 1) 0).sum
end Go.Proofs.Ytopfnkmlgcjpbaa
set_option maxRecDepth 100000
set_option linter.unusedSimpArgs false
set_option linter.unusedVariables false
namespace Go.Proofs.Ytopfnkmlgcjpbaa
open Go Go.RowKit

--@tbl eqIntA3 = laws.eqIntA3
--@tbl eqIntA4 = laws.eqIntA4
--@tbl eqIntA5 = laws.eqIntA5
--@tbl eqIntA6 = laws.eqIntA6
--@tbl eqIntA4A6 = laws.eqIntA4A6
--@tbl eqRack = laws.eqRack
--@tbl eqView = laws.eqView
--@tbl toSource = laws.toSource
end Go.Proofs.Ytopfnkmlgcjpbaa
set_option maxRecDepth 100000
set_option linter.unusedSimpArgs false
set_option linter.unusedVariables false
namespace Go.Proofs.Ytopfnkmlgcjpbaa
open Go Go.RowKit
theorem tube_cells {t : List Int} (ht : t.length = 4) (hb : tubeB t = true) : (∀ b, b < layN t → 1 ≤ t.getD b 0 ∧ t.getD b 0 ≤ 5) ∧ (∀ b, layN t ≤ b → t.getD b 0 = 0) := by
  have hle := lay_le t ht
  unfold tubeB at hb
  simp only [Bool.and_eq_true] at hb
  constructor
  · intro b hbn
    have hlt : b < t.length := by omega
    have := List.all_eq_true.1 hb.1 (t.getD b 0) (by
      simp only [List.getD, List.getElem?_eq_getElem hlt, Option.getD_some]
      exact List.mem_take_iff_getElem.2 ⟨b, by omega, rfl⟩)
    simpa [coT] using this
  · intro b hbn
    rcases Nat.lt_or_ge b 4 with h4 | h4
    · have hlt : b < t.length := by omega
      have := List.all_eq_true.1 hb.2 (t.getD b 0) (by
        simp only [List.getD, List.getElem?_eq_getElem hlt, Option.getD_some]
        exact List.mem_drop_iff_getElem.2 ⟨b - layN t, by omega, by congr 1; omega⟩)
      simpa [is0] using this
    · simp [List.getD, List.getElem?_eq_none (show t.length ≤ b by omega)]
theorem tube_of {t : List Int} (ht : t.length = 4) {n : Nat} (hn : n ≤ 4) (h1 : ∀ b, b < n → 1 ≤ t.getD b 0 ∧ t.getD b 0 ≤ 5) (h2 : ∀ b, n ≤ b → b < 4 → t.getD b 0 = 0) : tubeB t = true ∧ layN t = n := by
  have hl : layN t = n := by
    unfold layN
    rcases Nat.lt_or_ge n 4 with h4 | h4
    · have : t.findIdx? isZ0 = some n := by
        rw [List.findIdx?_eq_some_iff_getElem]
        refine ⟨by omega, ?_, fun j hj => ?_⟩
        · have := h2 n (by omega) h4
          simp only [List.getD, List.getElem?_eq_getElem (show n < t.length by omega), Option.getD_some] at this
          simp [isZ0, this]
        · have := h1 j hj
          simp only [List.getD, List.getElem?_eq_getElem (show j < t.length by omega), Option.getD_some] at this
          simp [isZ0]; omega
      rw [this]; rfl
    · have : t.findIdx? isZ0 = none := by
        rw [List.findIdx?_eq_none_iff]
        intro x hx
        obtain ⟨k, hk, rfl⟩ := List.getElem_of_mem hx
        have := h1 k (by omega)
        simp only [List.getD, List.getElem?_eq_getElem hk, Option.getD_some] at this
        simp [isZ0]; omega
      rw [this]
      simp; omega
  refine ⟨?_, hl⟩
  unfold tubeB
  rw [hl]
  simp only [Bool.and_eq_true]
  constructor
  · rw [List.all_eq_true]
    intro x hx
    obtain ⟨k, hk, rfl⟩ := List.mem_take_iff_getElem.1 hx
    have := h1 k (by omega)
    simp only [List.getD, List.getElem?_eq_getElem (show k < t.length by omega), Option.getD_some] at this
    simpa [coT] using this
  · rw [List.all_eq_true]
    intro x hx
    obtain ⟨k, hk, rfl⟩ := List.mem_drop_iff_getElem.1 hx
    have := h2 (n + k) (by omega) (by omega)
    simp only [List.getD, List.getElem?_eq_getElem (show n + k < t.length by omega), Option.getD_some] at this
    simpa [is0] using this
theorem rack_tubes {R : List Int} : rackB R = true ↔ ∀ i, i < 6 → tubeB (tubeAt R i) = true := by
  unfold rackB tubesOf tubeAt
  simp only [List.all_map, List.all_eq_true, List.mem_range, Function.comp, Nat.zero_add]
theorem tubeAt_getD (R : List Int) (i k : Nat) (h : k < 4) : (tubeAt R i).getD k 0 = R.getD (i * 4 + k) 0 := cut_getD R i k h
theorem tubeAt_ext {R R' : List Int} {i j : Nat} (h1 : (tubeAt R i).length = 4) (h2 : (tubeAt R' j).length = 4) (h : ∀ k, k < 4 → R.getD (i * 4 + k) 0 = R'.getD (j * 4 + k) 0) : tubeAt R i = tubeAt R' j := by
  apply List.ext_getElem (by omega)
  intro k hk1 hk2
  have e1 := tubeAt_getD R i k (by omega)
  have e2 := tubeAt_getD R' j k (by omega)
  have := h k (by omega)
  simp only [List.getD, List.getElem?_eq_getElem hk1, List.getElem?_eq_getElem hk2, Option.getD_some] at e1 e2 this
  rw [e1, e2]; exact this
theorem getD_set' (L : List Int) (a b : Nat) (x : Int) (h : a < L.length) : (L.set a x).getD b 0 = if a = b then x else L.getD b 0 := by
  simp only [List.getD, List.getElem?_set]
  split
  · simp [h]
  · rfl
end Go.Proofs.Ytopfnkmlgcjpbaa
set_option maxRecDepth 100000
set_option linter.unusedSimpArgs false
set_option linter.unusedVariables false
namespace Go.Proofs.Ytopfnkmlgcjpbaa
open Go Go.RowKit
def sumT (f : List Int → Int) (R : List Int) (k : Nat) : Int := ((List.range k).map fun i => f (tubeAt R i)).sum
def crN (t : List Int) : Int := ((runsL t).length / 2 : Nat)
def cbN (t : List Int) : Int := max (crN t - 1) 0
/-! Counts. -/
def incr (L : List Int) (j : Nat) : List Int := L.set j (L.getD j 0 + 1)
def cntL (l : List Int) : List Int := l.foldl (fun c x => incr c x.toNat) (List.replicate 6 0)
def botL (R : List Int) : List Int := (List.range 6).map fun i => R.getD (i * 4) 0
/-! The bound. -/
def bndF (R : List Int) : Int := sumT cbN R 6 + besF ((cntL (botL R)).drop 1)
theorem RL_last (t : List Int) (ht : t.length = 4) : ∀ i, 0 < i → i ≤ 4 → ∃ r n : Nat, (RL t i).length = n * 2 ∧ 0 < n ∧ (RL t i).getD (n * 2 - 2) 0 = t.getD (i - 1) 0 ∧ (RL t i).getD (n * 2 - 1) 0 = r ∧ 0 < r ∧ r ≤ i := by
  intro i
  induction i with
  | zero => intro h; omega
  | succ i ih =>
    intro _ hi
    rw [RL_succ t i (by omega)]
    by_cases hi0 : i = 0
    · subst hi0
      rw [RL_zero]
      exact ⟨1, 1, by simp [stepR], by omega, by simp [stepR], by simp [stepR], by omega, by omega⟩
    · obtain ⟨r, n, h1, h2, h3, h4, h5, h6⟩ := ih (by omega) (by omega)
      by_cases he : (RL t i).getD (n * 2 - 2) 0 = t.getD i 0
      · rw [stepR_eq h1 h2 he]
        refine ⟨r + 1, n, by simpa using h1, h2, ?_, ?_, by omega, by omega⟩
        · rw [show i + 1 - 1 = i by omega, ← he]
          simp only [List.getD, List.getElem?_set]
          rw [if_neg (by omega)]
        · rw [getD_set_self _ _ _ (by omega), h4]; omega
      · rw [stepR_ne h1 he]
        refine ⟨1, n + 1, by simp; omega, by omega, ?_, ?_, by omega, by omega⟩
        · rw [show (n + 1) * 2 - 2 = (RL t i).length + 0 by omega, getD_app_right]; rfl
        · rw [show (n + 1) * 2 - 1 = (RL t i).length + 1 by omega, getD_app_right]; rfl
theorem l2Runs_ok (t : List Int) (ht : t.length = 4) (hb : tubeB t = true) : FreshP Try.prog 154 [.arr t] [] (runsL t) ((runsL t).length / 2) 2 44 false .one := by
  have tk : t.take 4 = t := List.take_of_length_le (by omega)
  have hp := posC_lay t ht hb
  have hle := lay_le t ht
  refine fresh_of_vc (X := ⟨Try.prog, tys, [(135, l2Many_F)], [], true, true, 0, [], []⟩) fn_154 ⟨tys_ok, (.cons l2Many_T .nil), .nil, mixed⟩ (n0 := 0) rfl (Nat.le_of_ble_eq_true rfl) (by simp [wfL, SV.wf]) (wfH_spec (by simp [wfH, SObj.wf])) (Nat.le_refl _) ?_
  simp -implicitDefEqProofs only [Try.f154, Option.getD_some, argS, l2Many_F, ht, tk, hp, ZB, Int.reduceToNat, Nat.reduceLT, Nat.reduceLeDiff, Int.reduceLE, Int.reduceLT, Nat.reduceEqDiff, Nat.reduceSub, SB, SV.known, packR, ne_eq, reduceCtorEq, Nat.reduceEqDiff, ↓reduceIte, if_true, if_false, eq_self, Nat.reduceAdd, Nat.reduceMul, Nat.reduceSub, forall_const, oneCellS, litOne, flat1, Kd.isSca, flat, TYB]
  refine loop_intro (fun s : Nat × Nat × Nat × List Int => [(4, .int s.1), (3, .slice 1 0 s.2.1 s.2.2.1), (1, .ptr 0 0)]) (fun s => [(1, .ints (RL t s.1 ++ s.2.2.2) 44), (0, .ints t 24)]) 2
    (fun s => s.1 ≤ layN t ∧ (RL t s.1).length = s.2.1 * 2 ∧ s.2.1 ≤ s.1 ∧ s.2.2.2.length + s.2.1 * 2 = s.2.2.1 * 2) (fun s => layN t - s.1) ?_ ?_
  · refine ⟨(0, 0, 0, []), ?_, Sub.mk_id ?_ ?_ ?_ ?_ ?_⟩
    all_goals (try (simp only [RL_zero, List.append_nil, LB, subS, subH, wfS, wfH, SV.ren, renL, SObj.ren, SV.wf, SObj.wf, wfL, SV.known, Nat.reduceEqDiff, ↓reduceIte, if_true, if_false, eq_self, Nat.reduceAdd, Nat.reduceLT, Nat.reduceLeDiff, implies_true, reduceCtorEq, forall_const]; done))
    all_goals (try (simp only [RL_zero, List.append_nil, LB, subS, subH, wfS, wfH, SV.ren, renL, SObj.ren, SV.wf, SObj.wf, wfL, SV.known, Nat.reduceEqDiff, ↓reduceIte, if_true, if_false, eq_self, Nat.reduceAdd, Nat.reduceLT, Nat.reduceLeDiff, implies_true, reduceCtorEq, forall_const]; simp; done))
    all_goals (try (simp only [RL_zero, List.append_nil, LB, subS, subH, wfS, wfH, SV.ren, renL, SObj.ren, SV.wf, SObj.wf, wfL, SV.known, Nat.reduceEqDiff, ↓reduceIte, if_true, if_false, eq_self, Nat.reduceAdd, Nat.reduceLT, Nat.reduceLeDiff, implies_true, reduceCtorEq, forall_const]; (and_intros <;> (first | omega | rfl | (simp; done) | (simp; omega))); done))
    all_goals (try dsimp only)
    all_goals (and_intros <;> try (first | omega | (unfold In64; omega) | trivial | assumption))
    all_goals simp [RL_zero]
  · rintro ⟨i, n, cap, junk⟩ ⟨hi, hL, hni, hj⟩
    simp only at hi hL hni hj
    have hlst := RL_last t ht i
    have tkL : (RL t i ++ junk).take (n * 2) = RL t i := List.take_left' hL
    have lenL : (RL t i ++ junk).length = cap * 2 := by rw [List.length_append]; omega
    have ei : ((i : Int) - 1).toNat = i - 1 := by omega
    have e0 : ((n : Int) - 1).toNat * 2 = n * 2 - 2 := by omega
    by_cases hlt : i < layN t
    · have es := RL_succ t i (by omega)
      rcases Nat.eq_zero_or_pos i with h0 | h0
      · subst h0
        have en : n = 0 := by omega
        subst en
        rw [RL_zero] at es
        simp -implicitDefEqProofs only [lk_normal, l2Many_F, ht, tk, hp, tkL, lenL, ei, e0, ZB, Int.reduceToNat, Nat.reduceLT, Nat.reduceLeDiff, Int.reduceLE, Int.reduceLT, Nat.reduceEqDiff, Nat.reduceSub, SB, SV.known, packR, ne_eq, reduceCtorEq, Nat.reduceEqDiff, ↓reduceIte, if_true, if_false, eq_self, Nat.reduceAdd, Nat.reduceMul, Nat.reduceSub, forall_const, oneCellS, litOne, flat1, Kd.isSca, flat, TYB]
        refine ⟨fun _ => ?_, fun hx => absurd (by omega) hx⟩
        (try (and_intros <;> try (first | omega | (unfold In64; omega) | trivial | assumption)))
        intro junk' cap' hj'
        (try (and_intros <;> try (first | omega | (unfold In64; omega) | trivial | assumption)))
        have es1 : RL t 1 = [t.getD 0 0, 1] := RL_one t (by omega)
        refine ⟨(1, 1, cap', junk'), ?_, ?_, Sub.mk_to 1 3 ?_ ?_ ?_ ?_ ?_ ?_ ?_⟩
        all_goals (try (simp only [es1, RL_zero, LB, subS, subH, wfS, wfH, SV.ren, renL, SObj.ren, SV.wf, SObj.wf, wfL, SV.known, Nat.reduceEqDiff, ↓reduceIte, if_true, if_false, eq_self, Nat.reduceAdd, Nat.reduceLT, Nat.reduceLeDiff, implies_true, reduceCtorEq, forall_const]; done))
        all_goals (try (simp only [es1, RL_zero, LB, subS, subH, wfS, wfH, SV.ren, renL, SObj.ren, SV.wf, SObj.wf, wfL, SV.known, Nat.reduceEqDiff, ↓reduceIte, if_true, if_false, eq_self, Nat.reduceAdd, Nat.reduceLT, Nat.reduceLeDiff, implies_true, reduceCtorEq, forall_const]; simp; done))
        all_goals (try (simp only [es1, RL_zero, LB, subS, subH, wfS, wfH, SV.ren, renL, SObj.ren, SV.wf, SObj.wf, wfL, SV.known, Nat.reduceEqDiff, ↓reduceIte, if_true, if_false, eq_self, Nat.reduceAdd, Nat.reduceLT, Nat.reduceLeDiff, implies_true, reduceCtorEq, forall_const]; (and_intros <;> (first | omega | rfl | (simp; done) | (simp; omega))); done))
        all_goals (try dsimp only)
        all_goals (and_intros <;> try (first | omega | (unfold In64; omega) | trivial | assumption))
        all_goals (try (simp [es1, RL_zero]; done))
        all_goals (simp only [es1, RL_zero, LB, subS, subH, wfS, wfH, SV.ren, renL, SObj.ren, SV.wf, SObj.wf, wfL, SV.known, Nat.reduceEqDiff, ↓reduceIte, if_true, if_false, eq_self, Nat.reduceAdd, Nat.reduceLT, Nat.reduceLeDiff, implies_true, reduceCtorEq, forall_const]; simp)
      · obtain ⟨r, n', g1, g2, g3, g4, g5, g6⟩ := hlst h0 (by omega)
        have en : n' = n := by omega
        subst en
        have e1 : n' * 2 - 2 + 1 = n' * 2 - 1 := by omega
        have gd1 := getD_app (RL t i) junk (n' * 2 - 1) (by omega)
        have hs := fun x => set_app (RL t i) junk (n' * 2 - 1) x (by omega)
        simp -implicitDefEqProofs only [lk_normal, l2Many_F, ht, tk, hp, tkL, lenL, ei, e0, e1, gd1, hs, ZB, Int.reduceToNat, Nat.reduceLT, Nat.reduceLeDiff, Int.reduceLE, Int.reduceLT, Nat.reduceEqDiff, Nat.reduceSub, SB, SV.known, packR, ne_eq, reduceCtorEq, Nat.reduceEqDiff, ↓reduceIte, if_true, if_false, eq_self, Nat.reduceAdd, Nat.reduceMul, Nat.reduceSub, forall_const, oneCellS, litOne, flat1, Kd.isSca, flat, TYB]
        refine ⟨fun _ => ⟨fun _ => ?_, fun hx => absurd (by omega) hx⟩, fun hx => absurd (by omega) hx⟩
        (try (and_intros <;> try (first | omega | (unfold In64; omega) | trivial | assumption)))
        · intro he
          rw [stepR_eq g1 g2 (by rw [g3, he])] at es
          (try (and_intros <;> try (first | omega | (unfold In64; omega) | trivial | assumption)))
          refine ⟨(i + 1, n', cap, junk), ?_, ?_, Sub.mk_id ?_ ?_ ?_ ?_ ?_⟩
          all_goals (try (simp only [es, LB, subS, subH, wfS, wfH, SV.ren, renL, SObj.ren, SV.wf, SObj.wf, wfL, SV.known, Nat.reduceEqDiff, ↓reduceIte, if_true, if_false, eq_self, Nat.reduceAdd, Nat.reduceLT, Nat.reduceLeDiff, implies_true, reduceCtorEq, forall_const]; done))
          all_goals (try (simp only [es, LB, subS, subH, wfS, wfH, SV.ren, renL, SObj.ren, SV.wf, SObj.wf, wfL, SV.known, Nat.reduceEqDiff, ↓reduceIte, if_true, if_false, eq_self, Nat.reduceAdd, Nat.reduceLT, Nat.reduceLeDiff, implies_true, reduceCtorEq, forall_const]; simp; done))
          all_goals (try (simp only [es, LB, subS, subH, wfS, wfH, SV.ren, renL, SObj.ren, SV.wf, SObj.wf, wfL, SV.known, Nat.reduceEqDiff, ↓reduceIte, if_true, if_false, eq_self, Nat.reduceAdd, Nat.reduceLT, Nat.reduceLeDiff, implies_true, reduceCtorEq, forall_const]; (and_intros <;> (first | omega | rfl | (simp; done) | (simp; omega))); done))
          all_goals (try dsimp only)
          all_goals (and_intros <;> try (first | omega | (unfold In64; omega) | trivial | assumption))
          all_goals (rw [es]; simp; omega)
        · intro he
          rw [stepR_ne g1 (by rw [g3]; exact fun hx => he hx.symm)] at es
          (try (and_intros <;> try (first | omega | (unfold In64; omega) | trivial | assumption)))
          intro junk' cap' hj'
          (try (and_intros <;> try (first | omega | (unfold In64; omega) | trivial | assumption)))
          refine ⟨(i + 1, n' + 1, cap', junk'), ?_, ?_, Sub.mk_to 1 3 ?_ ?_ ?_ ?_ ?_ ?_ ?_⟩
          all_goals (try (simp only [es, LB, subS, subH, wfS, wfH, SV.ren, renL, SObj.ren, SV.wf, SObj.wf, wfL, SV.known, Nat.reduceEqDiff, ↓reduceIte, if_true, if_false, eq_self, Nat.reduceAdd, Nat.reduceLT, Nat.reduceLeDiff, implies_true, reduceCtorEq, forall_const]; done))
          all_goals (try (simp only [es, LB, subS, subH, wfS, wfH, SV.ren, renL, SObj.ren, SV.wf, SObj.wf, wfL, SV.known, Nat.reduceEqDiff, ↓reduceIte, if_true, if_false, eq_self, Nat.reduceAdd, Nat.reduceLT, Nat.reduceLeDiff, implies_true, reduceCtorEq, forall_const]; simp; done))
          all_goals (try (simp only [es, LB, subS, subH, wfS, wfH, SV.ren, renL, SObj.ren, SV.wf, SObj.wf, wfL, SV.known, Nat.reduceEqDiff, ↓reduceIte, if_true, if_false, eq_self, Nat.reduceAdd, Nat.reduceLT, Nat.reduceLeDiff, implies_true, reduceCtorEq, forall_const]; (and_intros <;> (first | omega | rfl | (simp; done) | (simp; omega))); done))
          all_goals (try dsimp only)
          all_goals (and_intros <;> try (first | omega | (unfold In64; omega) | trivial | assumption))
          all_goals (rw [es, List.length_append, g1]; simp; omega)
    · have hii : i = layN t := by omega
      have hr : runsL t = RL t i := by rw [hii]; rfl
      simp -implicitDefEqProofs only [lk_normal, l2Many_F, ht, tk, hp, tkL, lenL, ei, e0, ZB, Int.reduceToNat, Nat.reduceLT, Nat.reduceLeDiff, Int.reduceLE, Int.reduceLT, Nat.reduceEqDiff, Nat.reduceSub, SB, SV.known, packR, ne_eq, reduceCtorEq, Nat.reduceEqDiff, ↓reduceIte, if_true, if_false, eq_self, Nat.reduceAdd, Nat.reduceMul, Nat.reduceSub, forall_const, oneCellS, litOne, flat1, Kd.isSca, flat, TYB]
      refine ⟨fun hx => absurd hx (by omega), fun _ => ?_⟩
      refine .inr ⟨1, cap, junk, ?_, ?_, by omega, ?_, by simp⟩
      · rw [hr, hL]; simp [Wrap.ap]
      · rw [hr]; simp [hget_cons]
      · rw [hr]; omega
--@tbl l2Runs = spec.l2Runs
def l2Runs_F : List SV → Heap → Nat → Nat → K1 → Prop
  | [.arr t], H, n, _, κ => (t.length = 4 ∧ tubeB t = true) ∧ freshK .one (runsL t) ((runsL t).length / 2) 2 44 false H n κ
  | _, _, _, _, _ => False
theorem l2Runs_T : ∀ args H n m κ, l2Runs_F args H n m κ → GenOK Try.prog 154 args H n m κ := by
  intro args H n m κ h
  unfold l2Runs_F at h
  split at h
  · exact gen_of_fresh (l2Runs_ok _ h.1.1 h.1.2) (fun k o hk => by cases hk) h.2
  · exact h.elim
/-! The model's boundaries. -/
theorem runs_bottom (t : List Int) (ht : t.length = 4) (hb : tubeB t = true) : (0 < layN t ↔ 0 < crN t) ∧ (t.getD 0 0 = 0 ↔ layN t = 0) := by
  have hle := lay_le t ht
  constructor
  · constructor
    · intro h
      obtain ⟨n, h1, h2, h3⟩ := runsL_even t ht
      have := h3 h
      unfold crN
      omega
    · intro h
      rcases Nat.eq_zero_or_pos (layN t) with h0 | h0
      · have : crN t = 0 := by simp [crN, runsL, h0]
        omega
      · exact h0
  · obtain ⟨a, b, c, d, rfl⟩ : ∃ a b c d, t = [a, b, c, d] := by
      match t, ht with
      | [a, b, c, d], _ => exact ⟨a, b, c, d, rfl⟩
    by_cases ha : a = 0
    · subst ha; simp [layN, isZ0, List.findIdx?_cons]
    · simp [layN, isZ0, List.findIdx?_cons, ha, Ne.symm ha]
end Go.Proofs.Ytopfnkmlgcjpbaa
set_option maxRecDepth 100000
set_option linter.unusedSimpArgs false
set_option linter.unusedVariables false
namespace Go.Proofs.Ytopfnkmlgcjpbaa
open Go Go.RowKit

structure UpdP (P : Program) (f : FuncId) (args : List SV) (b : Nat) (H0 : Heap) (o o' : SObj) (r : SV) : Prop where
  ent : Entd P f
  lo : o.live = true
  wo : ∀ n, o'.wf n
  call : ∀ B w, HR B ((b, o) :: H0) w → Calls P f (denL B args).toArray w fun e w' => e = .returned (r.den B) ∧ Kept (fun i => i = B b ∨ w.heap.size ≤ i) w w' ∧ w'.heap[B b]? = some (o'.den B)

/-- A heap that holds another one. -/
def Ext (Hc H : Heap) : Prop := ∀ k o, hget Hc k = some o → hget H k = some o
theorem Ext.refl (H : Heap) : Ext H H := fun _ _ h => h
theorem Ext.cons {Hc H : Heap} {b : Nat} {o : SObj} {n : Nat} (hw : hwf n Hc) (hb : n ≤ b) (h : Ext Hc H) : Ext Hc ((b, o) :: H) := fun k o1 hk => by
  have := (hw k o1 hk).1
  rw [hget_cons, if_neg (by omega)]
  exact h k o1 hk
theorem hget_app (l Hc : Heap) (k : Nat) : hget (l ++ Hc) k = (hget l k).or (hget Hc k) := by
  induction l with
  | nil => simp [hget]
  | cons q l ih =>
    obtain ⟨b, o⟩ := q
    rw [List.cons_append, hget_cons, hget_cons, ih]
    split <;> rfl
end Go.Proofs.Ytopfnkmlgcjpbaa
set_option maxRecDepth 100000
set_option linter.unusedSimpArgs false
set_option linter.unusedVariables false
namespace Go.Proofs.Ytopfnkmlgcjpbaa
open Go Go.RowKit
def chk (L : List Int) (off len : Nat) : List (List Int) := (List.range len).map fun i => (L.drop (off + i * 2)).take 2
/-- What is kept. -/
def kept (np : List Int → Bool) (L : List Int) (k : Nat) : List Int := ((chk L 0 k).filter np).flatten
end Go.Proofs.Ytopfnkmlgcjpbaa
set_option maxRecDepth 100000
set_option linter.unusedSimpArgs false
set_option linter.unusedVariables false
namespace Go.Proofs.Ytopfnkmlgcjpbaa
open Go Go.RowKit
/-! DeleteFunc with a closure over one rack. -/
--@tbl delR = slices.DeleteFunc[[][2]int,[2]int]
/-! The model's. -/
--@tbl l2Idle = spec.l2Idle
--@tbl l2Useful = spec.l2Useful
end Go.Proofs.Ytopfnkmlgcjpbaa
set_option maxRecDepth 100000
set_option linter.unusedSimpArgs false
set_option linter.unusedVariables false
namespace Go.Proofs.Ytopfnkmlgcjpbaa
open Go Go.RowKit
def prG (c : Nat → Nat → Bool) (k : Nat) : List Int := if c (k / 6) (k % 6) = true then [((k / 6 : Nat) : Int), ((k % 6 : Nat) : Int)] else []
def GL (c : Nat → Nat → Bool) (m : Nat) : List Int := (List.range m).flatMap (prG c)
theorem GL_zero (c : Nat → Nat → Bool) : GL c 0 = [] := rfl
theorem GL_succ (c : Nat → Nat → Bool) (m : Nat) : GL c (m + 1) = GL c m ++ prG c m := by simp [GL, List.range_succ]
theorem GL_at (c : Nat → Nat → Bool) (i j : Nat) (hj : j < 6) : GL c (i * 6 + j + 1) = GL c (i * 6 + j) ++ if c i j = true then [(i : Int), (j : Int)] else [] := by
  rw [GL_succ]
  have e1 : (i * 6 + j) / 6 = i := by omega
  have e2 : (i * 6 + j) % 6 = j := by omega
  simp only [prG, e1, e2]
theorem GL_mem {c : Nat → Nat → Bool} {m : Nat} (hm : m ≤ 36) : ∀ x ∈ GL c m, 0 ≤ x ∧ x ≤ 5 := by
  intro x hx
  unfold GL at hx
  obtain ⟨k, hk, hx⟩ := List.mem_flatMap.1 hx
  have := List.mem_range.1 hk
  unfold prG at hx
  split at hx
  · simp at hx; omega
  · simp at hx
theorem GL_even (c : Nat → Nat → Bool) : ∀ m, ∃ n, (GL c m).length = n * 2 ∧ n ≤ m
  | 0 => ⟨0, rfl, by omega⟩
  | m + 1 => by
    obtain ⟨n, h1, h2⟩ := GL_even c m
    rw [GL_succ, List.length_append, h1]
    unfold prG
    split
    · exact ⟨n + 1, by simp; omega, by omega⟩
    · exact ⟨n, by simp, by omega⟩
/-- A slice that grows: nothing yet, or block b. -/
def outVn (b i len cap : Nat) : SV := match i with
  | 0 => .nils
  | _ + 1 => .slice b 0 len cap
def outHn (b i : Nat) (L : List Int) (e : Nat) (base : Heap) : Heap := match i with
  | 0 => base
  | _ + 1 => (b, .ints L e) :: base
theorem outVn_zero (b len cap : Nat) : outVn b 0 len cap = .nils := rfl
theorem outVn_succ (b i len cap : Nat) : outVn b (i + 1) len cap = .slice b 0 len cap := rfl
theorem outHn_zero (b : Nat) (L : List Int) (e : Nat) (base : Heap) : outHn b 0 L e base = base := rfl
theorem outHn_succ (b i : Nat) (L : List Int) (e : Nat) (base : Heap) : outHn b (i + 1) L e base = (b, .ints L e) :: base := rfl
theorem hget_outHn (b n : Nat) (L : List Int) (e : Nat) (base : Heap) (k : Nat) : hget (outHn b n L e base) k = if k = b then (if n = 0 then hget base k else some (.ints L e)) else hget base k := by
  cases n with
  | zero => rw [outHn_zero]; simp
  | succ n => rw [outHn_succ, hget_cons]; simp
theorem known_outVn (b n l c : Nat) : (outVn b n l c).known = true := by cases n <;> rfl
end Go.Proofs.Ytopfnkmlgcjpbaa
