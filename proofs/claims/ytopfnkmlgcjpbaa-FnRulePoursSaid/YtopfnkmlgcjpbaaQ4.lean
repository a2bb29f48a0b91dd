/- Texts of this claim, joined (R, C, S, K, M, N, D, E, P, G, Pour, O, H, Q, Val, Bnd, Upd, Del, Use, GL). -/
import Derived.Test.YtopfnkmlgcjpbaaQ1
import Derived.Test.YtopfnkmlgcjpbaaQ2
import Derived.Test.YtopfnkmlgcjpbaaQ3
set_option maxRecDepth 100000
set_option linter.unusedSimpArgs false
set_option linter.unusedVariables false
namespace Go.Proofs.Ytopfnkmlgcjpbaa
open Go Go.RowKit
/-! Tubes. -/
def isZ0 (x : Int) : Bool := decide (0 = x)
def coT (i : Int) : Bool := decide (1 ≤ i ∧ i ≤ 5)
def layN (t : List Int) : Nat := (t.findIdx? isZ0).getD 4
theorem index_ok (v : Int) (L : List Int) (e off len cap : Nat) (hl : off + len ≤ L.length) (hm : len ≤ 9223372036854775806) :
    PureH Try.prog 155 [.slice 0 off len cap, .int v] [(0, .ints L e)] (.int (idxI (fun x => decide (v = x)) ((L.drop off).take len))) := by
  have hE : ((L.drop off).take len).length = len := by simp; omega
  refine pure_of_vc (X := ⟨Try.prog, tys, [], [], true, true, 1, [], []⟩) fn_155 ⟨tys_ok, .nil, .nil, mixed⟩ (n0 := 1) (Nat.le_of_ble_eq_true rfl) (by simp [wfL, SV.wf]) (wfH_spec (by simp [wfH, SObj.wf])) (Nat.le_refl _) (fun _ => by simp [SV.wf, wfL]) ?_
  simp -implicitDefEqProofs only [Try.f155, Option.getD_some, argS, ZB, Int.reduceToNat, Nat.reduceLT, Nat.reduceLeDiff, Int.reduceLE, Int.reduceLT, Nat.reduceEqDiff, Nat.reduceSub, SB, SV.known, packR, ne_eq, reduceCtorEq, Nat.reduceEqDiff, ↓reduceIte, if_true, if_false, eq_self, Nat.reduceAdd, Nat.reduceMul, Nat.reduceSub, forall_const, oneCellS, litOne, flat1, Kd.isSca, flat, TYB]
  refine loop_intro (fun i : Nat => [(0, .slice 0 off len cap), (1, .int v), (7, .int len), (8, .int i)]) (fun _ => [(0, .ints L e)]) 1 (fun i => i ≤ len ∧ ∀ k, k < i → (fun x => decide (v = x)) (((L.drop off).take len).getD k 0) = false) (fun i => len - i) ?_ ?_
  · refine ⟨0, ⟨by omega, by simp⟩, Sub.mk_id ?_ ?_ ?_ ?_ ?_⟩
    all_goals simp only [LB, subS, subH, wfS, wfH, SV.ren, renL, SObj.ren, SV.wf, SObj.wf, wfL, SV.known, Nat.reduceEqDiff, ↓reduceIte, if_true, if_false, eq_self, Nat.reduceAdd, Nat.reduceLT, Nat.reduceLeDiff, implies_true, reduceCtorEq, forall_const]
    all_goals simp
  · intro i hi
    obtain ⟨hi1, hi2⟩ := hi
    simp -implicitDefEqProofs only [lk_normal, ZB, Int.reduceToNat, Nat.reduceLT, Nat.reduceLeDiff, Int.reduceLE, Int.reduceLT, Nat.reduceEqDiff, Nat.reduceSub, SB, SV.known, packR, ne_eq, reduceCtorEq, Nat.reduceEqDiff, ↓reduceIte, if_true, if_false, eq_self, Nat.reduceAdd, Nat.reduceMul, Nat.reduceSub, forall_const, oneCellS, litOne, flat1, Kd.isSca, flat, TYB]
    refine ⟨fun h => ?_, fun h => ?_⟩
    · have hlt : i < len := by omega
      rw [← getD_cut L off len i hlt]
      (try (and_intros <;> try (first | omega | (unfold In64; omega) | trivial | assumption)))
      all_goals intro hv
      · rw [idxI_hit (i := i) (by omega) (by simpa using hv) hi2]
      · (try (and_intros <;> try (first | omega | (unfold In64; omega) | trivial | assumption)))
        refine ⟨i + 1, ⟨by omega, fun k hk => ?_⟩, by omega, Sub.mk_id ?_ ?_ ?_ ?_ ?_⟩
        · by_cases hki : k = i
          · subst hki; simpa using hv
          · exact hi2 k (by omega)
        all_goals simp only [LB, subS, subH, wfS, wfH, SV.ren, renL, SObj.ren, SV.wf, SObj.wf, wfL, SV.known, Nat.reduceEqDiff, ↓reduceIte, if_true, if_false, eq_self, Nat.reduceAdd, Nat.reduceLT, Nat.reduceLeDiff, implies_true, reduceCtorEq, forall_const]
    · obtain rfl : i = len := by omega
      rw [idxI_none (by rw [hE]; exact hi2)]
--@tbl index = slices.Index[[]int,int]
def index_F : List SV → Heap → Option (Prop × SV)
  | [.slice b off len _, .int v], H => match hget H b with
    | some (.ints L _) => some (off + len ≤ L.length ∧ len ≤ 9223372036854775806, .int (idxI (fun x => decide (v = x)) ((L.drop off).take len)))
    | _ => none
  | _, _ => none
theorem index_T : ∀ args H p v, index_F args H = some (p, v) → p → PureH Try.prog 155 args H v := by
  intro args H p v h hp
  unfold index_F at h
  split at h
  · rename_i b off len cap v
    split at h
    · rename_i L e hb
      cases h
      exact (index_ok v L e off len cap hp.1 hp.2).sub (H := H) (fun _ => b) (fun j o hj => by
        rw [hget_cons] at hj
        split at hj
        · cases hj; exact ⟨hb, fun _ => by omega, by simp [*]⟩
        · cases hj) (fun a ha c hc _ => by simp at ha hc; omega) (fun _ => trivial)
    · cases h
  · cases h
theorem lay_idx (t : List Int) : (idxI (fun x => decide (0 = x)) t < 0 → layN t = 4) ∧ (¬ idxI (fun x => decide (0 = x)) t < 0 → idxI (fun x => decide (0 = x)) t = layN t) := by
  unfold idxI layN
  have e : (fun x : Int => decide (0 = x)) = isZ0 := rfl
  rw [e]
  cases t.findIdx? isZ0 with
  | none => exact ⟨fun _ => rfl, fun h => (h (by simp)).elim⟩
  | some k => exact ⟨fun h => by simp at h; omega, fun _ => rfl⟩
theorem lay_le (t : List Int) (h : t.length = 4) : layN t ≤ 4 := by
  unfold layN
  cases hf : t.findIdx? isZ0 with
  | none => simp
  | some k =>
    obtain ⟨hk, _⟩ := List.findIdx?_eq_some_iff_getElem.1 hf
    simp; omega
--@tbl layers = impl.layers
theorem layers_ok (t : List Int) (ht : t.length = 4) : PureH Try.prog 133 [.arr t] [] (.int (layN t)) := by
  have tk : t.take 4 = t := List.take_of_length_le (by omega)
  obtain ⟨l1, l2⟩ := lay_idx t
  refine pure_of_vc (X := ⟨Try.prog, tys, [(155, index_F)], [], true, true, 0, [], []⟩) fn_133 ⟨tys_ok, (.cons index_T .nil), .nil, mixed⟩ (n0 := 0) (Nat.le_of_ble_eq_true rfl) (by simp [wfL, SV.wf]) (wfH_spec (by simp [wfH, SObj.wf])) (Nat.le_refl _) (fun _ => by simp [SV.wf, wfL]) ?_
  simp -implicitDefEqProofs only [Try.f133, Option.getD_some, argS, index_F, tk, ht, ZB, Int.reduceToNat, Nat.reduceLT, Nat.reduceLeDiff, Int.reduceLE, Int.reduceLT, Nat.reduceEqDiff, Nat.reduceSub, SB, SV.known, packR, ne_eq, reduceCtorEq, Nat.reduceEqDiff, ↓reduceIte, if_true, if_false, eq_self, Nat.reduceAdd, Nat.reduceMul, Nat.reduceSub, forall_const, oneCellS, litOne, flat1, Kd.isSca, flat, TYB]
  exact ⟨fun h => by rw [l1 h]; rfl, fun h => by rw [l2 h]⟩
def layers_F : List SV → Heap → Option (Prop × SV)
  | [.arr t], _ => some (t.length = 4, .int (layN t))
  | _, _ => none
theorem layers_T : ∀ args H p v, layers_F args H = some (p, v) → p → PureH Try.prog 133 args H v := by
  intro args H p v h hp
  unfold layers_F at h
  split at h
  · cases h; exact (layers_ok _ hp).any _
  · cases h
def is0 (c : Int) : Bool := decide (c = 0)
def tubeB (t : List Int) : Bool := (t.take (layN t)).all coT && (t.drop (layN t)).all is0
theorem isTube1_ok (n : Int) : PureH Try.prog 143 [.int n] [] (.bool (is0 n)) := by
  refine pure_of_vc (X := ⟨Try.prog, tys, [], [], true, true, 0, [], []⟩) fn_143 ⟨tys_ok, .nil, .nil, mixed⟩ (n0 := 0) (Nat.le_of_ble_eq_true rfl) (by simp [wfL, SV.wf]) (wfH_spec (by simp [wfH, SObj.wf])) (Nat.le_refl _) (fun _ => by simp [SV.wf, wfL]) ?_
  simp -implicitDefEqProofs only [Try.f143, Option.getD_some, argS, SB, SV.known, packR, ne_eq, reduceCtorEq, Nat.reduceEqDiff, ↓reduceIte, if_true, if_false, eq_self, Nat.reduceAdd, Nat.reduceMul, Nat.reduceSub, forall_const, oneCellS, litOne, flat1, Kd.isSca, flat, TYB]
  trivial
theorem isColor_ok' (i : Int) : PureH Try.prog 142 [.int i] [] (.bool (coT i)) := by
  refine pure_of_vc (X := ⟨Try.prog, tys, [(108, within_F)], [], true, true, 0, [], []⟩) fn_142 ⟨tys_ok, (.cons within_T .nil), .nil, mixed⟩ (n0 := 0) (Nat.le_of_ble_eq_true rfl) (by simp [wfL, SV.wf]) (wfH_spec (by simp [wfH, SObj.wf])) (Nat.le_refl _) (fun _ => by simp [SV.wf, wfL]) ?_
  simp -implicitDefEqProofs only [Try.f142, Option.getD_some, argS, within_F, SB, SV.known, packR, ne_eq, reduceCtorEq, Nat.reduceEqDiff, ↓reduceIte, if_true, if_false, eq_self, Nat.reduceAdd, Nat.reduceMul, Nat.reduceSub, forall_const, oneCellS, litOne, flat1, Kd.isSca, flat, TYB]
  trivial
--@tbl areAll_tube = impl.areAll[int]
def areAll_tube_F := areAllI_F [(142, coT), (143, is0)]
theorem areAll_tube_T : ∀ args H p v, areAll_tube_F args H = some (p, v) → p → PureH Try.prog 106 args H v :=
  areAllI_T (by intro q hq; simp at hq; rcases hq with rfl | rfl; exact isColor_ok'; exact isTube1_ok)
theorem cut_take (t : List Int) (m l : Nat) : (t.drop (cutOff m l 0 1)).take (m - l) = (t.drop l).take (m - l) := by
  unfold cutOff
  split
  · rename_i h; subst h; simp
  · simp
--@tbl isTube = impl.isTube
theorem isTube_ok (t : List Int) (ht : t.length = 4) : PureH Try.prog 76 [.arr t] [] (.bool (tubeB t)) := by
  have tk : t.take 4 = t := List.take_of_length_le (by omega)
  have hle := lay_le t ht
  unfold tubeB
  cases h : (t.take (layN t)).all coT
  · refine pure_of_vc (X := ⟨Try.prog, tys, [(133, layers_F), (106, areAll_tube_F)], [], true, true, 0, [], []⟩) fn_76 ⟨tys_ok, (.cons layers_T (.cons areAll_tube_T .nil)), .nil, mixed⟩ (n0 := 0) (Nat.le_of_ble_eq_true rfl) (by simp [wfL, SV.wf]) (wfH_spec (by simp [wfH, SObj.wf])) (Nat.le_refl _) (fun _ => by simp [SV.wf, wfL]) ?_
    simp -implicitDefEqProofs only [Try.f76, Option.getD_some, argS, layers_F, areAll_tube_F, areAllI_F, tk, ht, h, ZB, Int.reduceToNat, Nat.reduceLT, Nat.reduceLeDiff, Int.reduceLE, Int.reduceLT, Nat.reduceEqDiff, Nat.reduceSub, SB, SV.known, packR, ne_eq, reduceCtorEq, Nat.reduceEqDiff, ↓reduceIte, if_true, if_false, eq_self, Nat.reduceAdd, Nat.reduceMul, Nat.reduceSub, forall_const, oneCellS, litOne, flat1, Kd.isSca, flat, TYB]
    (try (and_intros <;> try (first | omega | (unfold In64; omega) | trivial | assumption)))
  · refine pure_of_vc (X := ⟨Try.prog, tys, [(133, layers_F), (106, areAll_tube_F)], [], true, true, 0, [], []⟩) fn_76 ⟨tys_ok, (.cons layers_T (.cons areAll_tube_T .nil)), .nil, mixed⟩ (n0 := 0) (Nat.le_of_ble_eq_true rfl) (by simp [wfL, SV.wf]) (wfH_spec (by simp [wfH, SObj.wf])) (Nat.le_refl _) (fun _ => by simp [SV.wf, wfL]) ?_
    simp -implicitDefEqProofs only [Try.f76, Option.getD_some, argS, layers_F, areAll_tube_F, areAllI_F, tk, ht, h, cut_take, ZB, Int.reduceToNat, Nat.reduceLT, Nat.reduceLeDiff, Int.reduceLE, Int.reduceLT, Nat.reduceEqDiff, Nat.reduceSub, SB, SV.known, packR, ne_eq, reduceCtorEq, Nat.reduceEqDiff, ↓reduceIte, if_true, if_false, eq_self, Nat.reduceAdd, Nat.reduceMul, Nat.reduceSub, forall_const, oneCellS, litOne, flat1, Kd.isSca, flat, TYB]
    have e : (t.drop (layN t)).take (4 - layN t) = t.drop (layN t) := List.take_of_length_le (by simp; omega)
    rw [e]
    have hc : cutOff 4 (layN t) 0 1 + (4 - layN t) ≤ 4 := by unfold cutOff; split <;> omega
    (try (and_intros <;> try (first | omega | (unfold In64; omega) | trivial | assumption)))
/-! The same for tubes as elements. -/
def tubesOf (L : List Int) (off len : Nat) : List (List Int) := (List.range len).map fun i => (L.drop (off + i * 4)).take 4
theorem tubesOf_len (L : List Int) (off len : Nat) : (tubesOf L off len).length = len := by simp [tubesOf]
theorem tubesOf_getD (L : List Int) (off len k : Nat) (h : k < len) : (tubesOf L off len).getD k [] = (L.drop (off + k * 4)).take 4 := by simp [tubesOf, List.getD, h]
def idxG {α : Type} (pr : α → Bool) (l : List α) : Int := match l.findIdx? pr with
  | some k => k
  | none => -1
theorem idxG_hit {α : Type} {d : α} {pr : α → Bool} {l : List α} {i : Nat} (hi : i < l.length) (hp : pr (l.getD i d) = true) (hn : ∀ k, k < i → pr (l.getD k d) = false) : idxG pr l = i := by
  have : l.findIdx? pr = some i := by
    rw [List.findIdx?_eq_some_iff_getElem]
    refine ⟨hi, by simpa [List.getD, List.getElem?_eq_getElem hi] using hp, fun j hj => ?_⟩
    have := hn j hj
    simpa [List.getD, List.getElem?_eq_getElem (show j < l.length by omega)] using this
  simp [idxG, this]
theorem idxG_none {α : Type} {d : α} {pr : α → Bool} {l : List α} (hn : ∀ k, k < l.length → pr (l.getD k d) = false) : idxG pr l = -1 := by
  have : l.findIdx? pr = none := by
    rw [List.findIdx?_eq_none_iff]
    intro x hx
    obtain ⟨k, hk, rfl⟩ := List.getElem_of_mem hx
    have := hn k hk
    simpa [List.getD, List.getElem?_eq_getElem hk] using this
  simp [idxG, this]
theorem idxG_any {α : Type} (pr : α → Bool) (l : List α) : decide (0 ≤ idxG pr l) = l.any pr := by
  unfold idxG
  cases h : l.findIdx? pr with
  | none =>
    have := (List.findIdx?_eq_none_iff).1 h
    have e : l.any pr = false := by rw [List.any_eq_false]; intro x hx; simp [this x hx]
    rw [e]; decide
  | some k =>
    obtain ⟨hk, hp, _⟩ := List.findIdx?_eq_some_iff_getElem.1 h
    have e : l.any pr = true := List.any_eq_true.2 ⟨l[k], List.getElem_mem _, hp⟩
    rw [e]; simp
theorem indexFuncT_ok (g : Nat) (caps : List SV) (Hc : Heap) (pr : List Int → Bool) (n0 : Nat) (L : List Int) (e off len cap : Nat) (hl : off + len * 4 ≤ L.length) (hm : len ≤ 9223372036854775806)
    (hc : ∀ x ∈ tubesOf L off len, PureH Try.prog g (.arr x :: caps) ((0, .ints L e) :: Hc) (.bool (pr x))) (hw : wfL n0 caps) (hwH : hwf n0 ((0, .ints L e) :: Hc)) :
    PureH Try.prog 158 [.slice 0 off len cap, .fn g caps] ((0, .ints L e) :: Hc) (.int (idxG pr (tubesOf L off len))) := by
  have hE := tubesOf_len L off len
  have h00 : 0 < n0 := (hwH 0 _ (by rw [hget_cons, if_pos rfl])).1
  refine pure_of_vc (X := ⟨Try.prog, tys, [(g, fun args H => match args with | .arr x :: r => some (r = caps ∧ H = ((0, .ints L e) :: Hc) ∧ x ∈ tubesOf L off len, .bool (pr x)) | _ => none)], [], true, true, n0, [], []⟩) fn_158
    ⟨tys_ok, .cons (fun args H p v h hp => ?_) .nil, .nil, mixed⟩ (n0 := n0) (Nat.le_of_ble_eq_true rfl) ⟨by have := (hwH 0 _ (by rw [hget_cons, if_pos rfl])).1; simpa [SV.wf] using this, by simpa [SV.wf] using hw, trivial⟩ hwH (Nat.le_refl _) (fun _ => trivial) ?_
  · split at h
    · cases h
      obtain ⟨rfl, rfl, hx⟩ := hp
      exact hc _ hx
    · cases h
  simp -implicitDefEqProofs only [Try.f158, Option.getD_some, argS, SB, SV.known, packR, ne_eq, reduceCtorEq, Nat.reduceEqDiff, ↓reduceIte, if_true, if_false, eq_self, Nat.reduceAdd, Nat.reduceMul, Nat.reduceSub, forall_const, oneCellS, litOne, flat1, Kd.isSca, flat, TYB]
  refine loop_intro (fun i : Nat => [(0, .slice 0 off len cap), (1, .fn g caps), (7, .int len), (8, .int i)]) (fun i => (0, .ints L e) :: Hc) n0 (fun i => i ≤ len ∧ ∀ k, k < i → pr ((tubesOf L off len).getD k []) = false) (fun i => len - i) ?_ ?_
  · refine ⟨0, ⟨by omega, by simp⟩, Sub.same ?_ ?_ hwH (Nat.le_refl _)⟩
    · simp [subS, subH, wfS, wfH, SV.ren, renL, SObj.ren, SV.wf, SObj.wf, wfL, sget_cons, hget_cons, SV.known, renL_id]
    · simp [subS, subH, wfS, wfH, SV.ren, renL, SObj.ren, SV.wf, SObj.wf, wfL, sget_cons, hget_cons, hw, h00]
  · intro i hi
    obtain ⟨hi1, hi2⟩ := hi
    simp -implicitDefEqProofs only [lk_normal, SB, SV.known, packR, ne_eq, reduceCtorEq, Nat.reduceEqDiff, ↓reduceIte, if_true, if_false, eq_self, Nat.reduceAdd, Nat.reduceMul, Nat.reduceSub, forall_const, oneCellS, litOne, flat1, Kd.isSca, flat, TYB]
    refine ⟨fun h => ?_, fun h => ?_⟩
    · have hlt : i < len := by omega
      have e1 : off + (i : Int).toNat * 4 = off + i * 4 := by simp
      have e2 : (L.drop (off + i * 4)).take 4 = (tubesOf L off len).getD i [] := (tubesOf_getD L off len i hlt).symm
      simp only [e1, e2]
      refine ⟨by omega, by omega, by omega, ?_, ?_⟩
      · simp only [List.getD, List.getElem?_eq_getElem (show i < (tubesOf L off len).length by omega), Option.getD_some]
        exact List.getElem_mem _
      · cases hp : pr ((tubesOf L off len).getD i []) with
        | true =>
          simp -implicitDefEqProofs only [SB, SV.known, packR, ne_eq, reduceCtorEq, Nat.reduceEqDiff, ↓reduceIte, if_true, if_false, eq_self, Nat.reduceAdd, Nat.reduceMul, Nat.reduceSub, forall_const, oneCellS, litOne, flat1, Kd.isSca, flat, TYB]
          rw [idxG_hit (by omega) hp hi2]
        | false =>
          simp -implicitDefEqProofs only [lk_normal, SB, SV.known, packR, ne_eq, reduceCtorEq, Nat.reduceEqDiff, ↓reduceIte, if_true, if_false, eq_self, Nat.reduceAdd, Nat.reduceMul, Nat.reduceSub, forall_const, oneCellS, litOne, flat1, Kd.isSca, flat, TYB]
          refine ⟨by unfold In64; omega, i + 1, ⟨by omega, fun k hk => ?_⟩, by omega, Sub.same ?_ ?_ hwH (Nat.le_refl _)⟩
          · by_cases hki : k = i
            · subst hki; exact hp
            · exact hi2 k (by omega)
          · simp [subS, subH, wfS, wfH, SV.ren, renL, SObj.ren, SV.wf, SObj.wf, wfL, sget_cons, hget_cons, SV.known, renL_id]
          · simp [subS, subH, wfS, wfH, SV.ren, renL, SObj.ren, SV.wf, SObj.wf, wfL, sget_cons, hget_cons, hw, h00]
    · obtain rfl : i = len := by omega
      rw [idxG_none (by rw [hE]; exact hi2)]

theorem containsFuncT_ok (g : Nat) (caps : List SV) (Hc : Heap) (pr : List Int → Bool) (n0 : Nat) (L : List Int) (e off len cap : Nat) (hl : off + len * 4 ≤ L.length) (hm : len ≤ 9223372036854775806)
    (hc : ∀ x ∈ tubesOf L off len, PureH Try.prog g (.arr x :: caps) ((0, .ints L e) :: Hc) (.bool (pr x))) (hw : wfL n0 caps) (hwH : hwf n0 ((0, .ints L e) :: Hc)) :
    PureH Try.prog 140 [.slice 0 off len cap, .fn g caps] ((0, .ints L e) :: Hc) (.bool ((tubesOf L off len).any pr)) := by
  have h00 : 0 < n0 := (hwH 0 _ (by rw [hget_cons, if_pos rfl])).1
  refine pure_of_vc (X := ⟨Try.prog, tys, [(158, fun args H => some (args = [.slice 0 off len cap, .fn g caps] ∧ H = ((0, .ints L e) :: Hc), .int (idxG pr (tubesOf L off len))))], [], true, true, n0, [], []⟩) fn_140
    ⟨tys_ok, .cons (fun args H p v h hp => ?_) .nil, .nil, mixed⟩ (n0 := n0) (Nat.le_of_ble_eq_true rfl) ⟨by simpa [SV.wf] using h00, by simpa [SV.wf] using hw, trivial⟩ hwH (Nat.le_refl _) (fun _ => trivial) ?_
  · cases h
    obtain ⟨rfl, rfl⟩ := hp
    exact indexFuncT_ok g caps Hc pr n0 L e off len cap hl hm hc hw hwH
  simp -implicitDefEqProofs only [Try.f140, Option.getD_some, argS, SB, SV.known, packR, ne_eq, reduceCtorEq, Nat.reduceEqDiff, ↓reduceIte, if_true, if_false, eq_self, Nat.reduceAdd, Nat.reduceMul, Nat.reduceSub, forall_const, oneCellS, litOne, flat1, Kd.isSca, flat, TYB, idxG_any]

/-- areAll's own closure. -/
theorem tubesOf_mem {L : List Int} {off len : Nat} (h : off + len * 4 ≤ L.length) {x : List Int} (hx : x ∈ tubesOf L off len) : x.length = 4 := by
  obtain ⟨i, hi, rfl⟩ := List.mem_map.1 hx
  have := List.mem_range.1 hi
  rw [List.length_take, List.length_drop]; omega
theorem areAllT1_ok (x : List Int) (hx4 : x.length = 4) (g : Nat) (pr : List Int → Bool) (k et : Nat) (H : Heap) (hk : hget H k = some (.cells [.fn g []] et)) (hg : PureH Try.prog g [.arr x] [] (.bool (pr x))) :
    PureH Try.prog 141 [.arr x, .ptr k 0] H (.bool (!pr x)) := by
  have h0 : PureH Try.prog 141 [.arr x, .ptr 0 0] [(0, .cells [.fn g []] et)] (.bool (!pr x)) := by
    refine pure_of_vc (X := ⟨Try.prog, tys, [(g, fun args _ => some (args = [.arr x], .bool (pr x)))], [], true, true, 1, [], []⟩) fn_141
      ⟨tys_ok, .cons (fun args H p v h hp => ?_) .nil, .nil, mixed⟩ (n0 := 1) (Nat.le_of_ble_eq_true rfl) (by simp [wfL, SV.wf]) (wfH_spec (by simp [wfH, SObj.wf, wfL, SV.wf])) (Nat.le_refl _) (fun _ => trivial) ?_
    · cases h; subst hp; exact hg.any H
    have tkx : x.take 4 = x := List.take_of_length_le (by omega)
    simp -implicitDefEqProofs only [Try.f141, hx4, tkx, Option.getD_some, argS, SB, SV.known, packR, ne_eq, reduceCtorEq, Nat.reduceEqDiff, ↓reduceIte, if_true, if_false, eq_self, Nat.reduceAdd, Nat.reduceMul, Nat.reduceSub, forall_const, oneCellS, litOne, flat1, Kd.isSca, flat, TYB]
  exact h0.sub (H := H) (fun _ => k) (fun j o hj => by
    rw [hget_cons] at hj
    split at hj
    · cases hj; exact ⟨hk, fun _ => by omega, by simp [*]⟩
    · cases hj) (fun a ha b hb _ => by simp at ha hb; omega) (fun _ => trivial)

theorem all_anyT (pr : List Int → Bool) (l : List (List Int)) : (!l.any fun x => !pr x) = l.all pr := by simp [List.all_eq_not_any_not]

theorem areAllT_ok (g : Nat) (pr : List Int → Bool) (L : List Int) (e off len cap : Nat) (hl : off + len * 4 ≤ L.length) (hm : len ≤ 9223372036854775806) (hg : ∀ x ∈ tubesOf L off len, PureH Try.prog g [.arr x] [] (.bool (pr x))) :
    PureH Try.prog 75 [.slice 0 off len cap, .fn g []] [(0, .ints L e)] (.bool ((tubesOf L off len).all pr)) := by
  refine pure_of_vc (X := ⟨Try.prog, tys, [(140, fun args H => some (args = [.slice 0 off len cap, .fn 141 [.ptr 1 0]] ∧ hget H 0 = some (.ints L e) ∧ ∃ et, hget H 1 = some (.cells [.fn g []] et), .bool ((tubesOf L off len).any fun x => !pr x)))], [], true, true, 1, [], []⟩) fn_75
    ⟨tys_ok, .cons (fun args H p v h hp => ?_) .nil, .nil, mixed⟩ (n0 := 1) (Nat.le_of_ble_eq_true rfl) (by simp [wfL, SV.wf]) (wfH_spec (by simp [wfH, SObj.wf])) (Nat.le_refl _) (fun _ => trivial) ?_
  · cases h
    obtain ⟨rfl, h0, et, h1⟩ := hp
    have := containsFuncT_ok 141 [.ptr 1 0] [(1, .cells [.fn g []] et)] (fun x => !pr x) 2 L e off len cap hl hm (fun x hx => areAllT1_ok x (tubesOf_mem hl hx) g pr 1 et _ (by simp [hget_cons]) (hg x hx)) (by simp [wfL, SV.wf]) (wfH_spec (by simp [wfH, SObj.wf, wfL, SV.wf]))
    refine this.weaken (fun k o hk => ?_) (fun _ => trivial)
    simp only [hget_cons, hget_nil] at hk
    split at hk
    · rename_i h; cases hk; rw [h]; exact h0
    · split at hk
      · rename_i h; cases hk; rw [h]; exact h1
      · cases hk
  simp -implicitDefEqProofs only [Try.f75, Option.getD_some, argS, SB, SV.known, packR, ne_eq, reduceCtorEq, Nat.reduceEqDiff, ↓reduceIte, if_true, if_false, eq_self, Nat.reduceAdd, Nat.reduceMul, Nat.reduceSub, forall_const, oneCellS, litOne, flat1, Kd.isSca, flat, TYB, all_anyT]
  exact ⟨_, rfl⟩

end Go.Proofs.Ytopfnkmlgcjpbaa
set_option maxRecDepth 100000
set_option linter.unusedSimpArgs false
set_option linter.unusedVariables false
namespace Go.Proofs.Ytopfnkmlgcjpbaa
open Go Go.RowKit

/-! Sums. -/
def Bd (a b : Int) (l : List Int) : Prop := ∀ x ∈ l, a ≤ x ∧ x ≤ b
theorem Bd.getD {a b : Int} {l : List Int} (h : Bd a b l) {k : Nat} (hk : k < l.length) : a ≤ l.getD k 0 ∧ l.getD k 0 ≤ b := by
  simp only [List.getD, List.getElem?_eq_getElem hk, Option.getD_some]
  exact h _ (List.getElem_mem _)
theorem Bd.take {a b : Int} {l : List Int} (h : Bd a b l) (k : Nat) : Bd a b (l.take k) := fun x hx => h x (List.mem_of_mem_take hx)
theorem Bd.drop {a b : Int} {l : List Int} (h : Bd a b l) (k : Nat) : Bd a b (l.drop k) := fun x hx => h x (List.mem_of_mem_drop hx)
theorem sum_bd {a b : Int} : ∀ (l : List Int), Bd a b l → a * l.length ≤ l.sum ∧ l.sum ≤ b * l.length
  | [], _ => by simp
  | x :: r, h => by
    have h1 := h x (by simp)
    have h2 := sum_bd r fun y hy => h y (by simp [hy])
    simp only [List.sum_cons, List.length_cons]
    have e1 : a * ((r.length + 1 : Nat) : Int) = a * r.length + a := by rw [Int.natCast_add, Int.mul_add]; simp
    have e2 : b * ((r.length + 1 : Nat) : Int) = b * r.length + b := by rw [Int.natCast_add, Int.mul_add]; simp
    omega
theorem sum_take_succ (l : List Int) (k : Nat) (h : k < l.length) : (l.take (k + 1)).sum = (l.take k).sum + l.getD k 0 := by
  rw [List.take_succ_eq_append_getElem h, List.sum_append]
  simp [List.getD, List.getElem?_eq_getElem h]

--@tbl sum = impl.sum
theorem one_block {P : Program} {f : FuncId} {args : List SV} {o : SObj} {r : SV} {H : Heap} {b : Nat} (h : PureH P f args [(0, o)] r) (hb : hget H b = some o) (ho : o.ren (fun _ => b) = o) (hr : ∀ n, r.wf n) : PureH P f (renL (fun _ => b) args) H r :=
  h.sub (fun _ => b) (fun j o' hj => by
    rw [hget_cons] at hj
    split at hj
    · cases hj; exact ⟨by rw [ho]; exact hb, fun _ => by omega, by simp [*]⟩
    · cases hj) (fun a ha c hc _ => by simp at ha hc; omega) hr
/-! Arrangements. -/
end Go.Proofs.Ytopfnkmlgcjpbaa
set_option maxRecDepth 100000
set_option linter.unusedSimpArgs false
set_option linter.unusedVariables false
namespace Go.Proofs.Ytopfnkmlgcjpbaa
open Go Go.RowKit
def rackB (R : List Int) : Bool := (tubesOf R 0 6).all tubeB
--@tbl areAll_rack = impl.areAll[[4]int]
def areAll_rack_F : List SV → Heap → Option (Prop × SV)
  | [.slice b off len _, .fn g []], H => match hget H b with
    | some (.ints L _) => some (g = 76 ∧ off + len * 4 ≤ L.length ∧ len ≤ 9223372036854775806, .bool ((tubesOf L off len).all tubeB))
    | _ => none
  | _, _ => none
theorem areAll_rack_T : ∀ args H p v, areAll_rack_F args H = some (p, v) → p → PureH Try.prog 75 args H v := by
  intro args H p v h hp
  unfold areAll_rack_F at h
  split at h
  · rename_i b off len cap g
    split at h
    · rename_i L e hb
      cases h
      obtain ⟨rfl, hl, hm⟩ := hp
      exact one_block (areAllT_ok _ tubeB L e off len cap hl hm fun x hx => isTube_ok x (tubesOf_mem hl hx)) hb rfl (fun _ => trivial)
    · cases h
  · cases h
--@tbl IsRack = impl.IsRack
theorem IsRack_ok (R : List Int) (hR : R.length = 24) : PureH Try.prog 11 [.arr R] [] (.bool (rackB R)) := by
  refine pure_of_vc (X := ⟨Try.prog, tys, [(75, areAll_rack_F)], [], true, true, 0, [], []⟩) fn_11 ⟨tys_ok, (.cons areAll_rack_T .nil), .nil, mixed⟩ (n0 := 0) (Nat.le_of_ble_eq_true rfl) (by simp [wfL, SV.wf]) (wfH_spec (by simp [wfH, SObj.wf])) (Nat.le_refl _) (fun _ => by simp [SV.wf, wfL]) ?_
  simp -implicitDefEqProofs only [Try.f11, Option.getD_some, argS, areAll_rack_F, hR, ZB, Int.reduceToNat, Nat.reduceLT, Nat.reduceLeDiff, Int.reduceLE, Int.reduceLT, Nat.reduceEqDiff, Nat.reduceSub, SB, SV.known, packR, ne_eq, reduceCtorEq, Nat.reduceEqDiff, ↓reduceIte, if_true, if_false, eq_self, Nat.reduceAdd, Nat.reduceMul, Nat.reduceSub, forall_const, oneCellS, litOne, flat1, Kd.isSca, flat, TYB]
  rfl
def IsRack_F : List SV → Heap → Option (Prop × SV)
  | [.arr R], _ => some (R.length = 24, .bool (rackB R))
  | _, _ => none
theorem IsRack_T : ∀ args H p v, IsRack_F args H = some (p, v) → p → PureH Try.prog 11 args H v := by
  intro args H p v h hp
  unfold IsRack_F at h
  split at h
  · cases h; exact (IsRack_ok _ hp).any _
  · cases h

def cB (R : List Int) (a b : Nat) : Prop := (0 ≤ R.getD (a * 4 + b) 0 ∧ R.getD (a * 4 + b) 0 ≤ 5) ∧ ¬ (0 < b ∧ 0 < R.getD (a * 4 + b) 0 ∧ R.getD (a * 4 + (b - 1)) 0 = 0)
theorem tubeB_iff (t : List Int) (h : t.length = 4) : tubeB t = true ↔ ∀ b, b < 4 → cB t 0 b := by
  obtain ⟨a, b, c, d, rfl⟩ : ∃ a b c d, t = [a, b, c, d] := by
    match t, h with
    | [a, b, c, d], _ => exact ⟨a, b, c, d, rfl⟩
  have e : (∀ k, k < 4 → cB [a, b, c, d] 0 k) ↔ cB [a, b, c, d] 0 0 ∧ cB [a, b, c, d] 0 1 ∧ cB [a, b, c, d] 0 2 ∧ cB [a, b, c, d] 0 3 :=
    ⟨fun h => ⟨h 0 (by omega), h 1 (by omega), h 2 (by omega), h 3 (by omega)⟩, fun h k hk => by
      match k, hk with
      | 0, _ => exact h.1
      | 1, _ => exact h.2.1
      | 2, _ => exact h.2.2.1
      | 3, _ => exact h.2.2.2⟩
  rw [e]
  by_cases ha : a = 0
  · subst ha
    simp [tubeB, layN, isZ0, cB, coT, is0, List.findIdx?_cons]; omega
  · by_cases hb : b = 0
    · subst hb
      simp [tubeB, layN, isZ0, cB, coT, is0, List.findIdx?_cons, ha, Ne.symm ha]; omega
    · by_cases hc : c = 0
      · subst hc
        simp [tubeB, layN, isZ0, cB, coT, is0, List.findIdx?_cons, ha, hb, Ne.symm ha, Ne.symm hb]; omega
      · by_cases hd : d = 0
        · subst hd
          simp [tubeB, layN, isZ0, cB, coT, is0, List.findIdx?_cons, ha, hb, hc, Ne.symm ha, Ne.symm hb, Ne.symm hc]; omega
        · simp [tubeB, layN, isZ0, cB, coT, is0, List.findIdx?_cons, ha, hb, hc, hd, Ne.symm ha, Ne.symm hb, Ne.symm hc, Ne.symm hd]; omega
theorem cut_getD (R : List Int) (i k : Nat) (h : k < 4) : ((R.drop (i * 4)).take 4).getD k 0 = R.getD (i * 4 + k) 0 := by
  simp [List.getD, List.getElem?_take, h, List.getElem?_drop]
theorem rackB_iff (R : List Int) (h : R.length = 24) : rackB R = true ↔ ∀ a b, a < 6 → b < 4 → cB R a b := by
  unfold rackB tubesOf
  simp only [List.all_map, List.all_eq_true, List.mem_range, Function.comp, Nat.zero_add]
  constructor
  · intro hh a b ha hb
    have h1 := (tubeB_iff _ (by rw [List.length_take, List.length_drop]; omega)).1 (hh a ha) b hb
    unfold cB at h1 ⊢
    rw [Nat.zero_mul, Nat.zero_add, Nat.zero_add, cut_getD _ _ _ hb, cut_getD _ _ _ (by omega)] at h1
    exact h1
  · intro hh a ha
    refine (tubeB_iff _ (by rw [List.length_take, List.length_drop]; omega)).2 fun b hb => ?_
    have h1 := hh a b ha hb
    unfold cB at h1 ⊢
    rw [Nat.zero_mul, Nat.zero_add, Nat.zero_add, cut_getD _ _ _ hb, cut_getD _ _ _ (by omega)]
    exact h1
--@tbl l2Rack = spec.l2Rack
theorem l2Rack_ok (R : List Int) (hR : R.length = 24) : PureH Try.prog 72 [.arr R] [] (.bool (rackB R)) := by
  refine pure_of_vc (X := ⟨Try.prog, tys, [(120, l1In_F)], [], true, true, 0, [], []⟩) fn_72 ⟨tys_ok, (.cons l1In_T .nil), .nil, mixed⟩ (n0 := 0) (Nat.le_of_ble_eq_true rfl) (by simp [wfL, SV.wf]) (wfH_spec (by simp [wfH, SObj.wf])) (Nat.le_refl _) (fun _ => by simp [SV.wf, wfL]) ?_
  simp -implicitDefEqProofs only [Try.f72, Option.getD_some, argS, l1In_F, hR, ZB, Int.reduceToNat, Nat.reduceLT, Nat.reduceLeDiff, Int.reduceLE, Int.reduceLT, Nat.reduceEqDiff, Nat.reduceSub, SB, SV.known, packR, ne_eq, reduceCtorEq, Nat.reduceEqDiff, ↓reduceIte, if_true, if_false, eq_self, Nat.reduceAdd, Nat.reduceMul, Nat.reduceSub, forall_const, oneCellS, litOne, flat1, Kd.isSca, flat, TYB]
  refine loop_intro (fun i : Nat => [(1, .ptr 0 0), (3, .int i)]) (fun _ => [(0, .ints R 27)]) 1 (fun i => i ≤ 6 ∧ ∀ a b, a < i → b < 4 → cB R a b) (fun i => 6 - i) ?_ ?_
  · refine ⟨0, ⟨by omega, by omega⟩, Sub.mk_id ?_ ?_ ?_ ?_ ?_⟩
    all_goals simp only [LB, subS, subH, wfS, wfH, SV.ren, renL, SObj.ren, SV.wf, SObj.wf, wfL, SV.known, Nat.reduceEqDiff, ↓reduceIte, if_true, if_false, eq_self, Nat.reduceAdd, Nat.reduceLT, Nat.reduceLeDiff, implies_true, reduceCtorEq, forall_const]
    all_goals simp
  · intro i hi
    obtain ⟨hi1, hi2⟩ := hi
    simp -implicitDefEqProofs only [lk_normal, l1In_F, hR, ZB, Int.reduceToNat, Nat.reduceLT, Nat.reduceLeDiff, Int.reduceLE, Int.reduceLT, Nat.reduceEqDiff, Nat.reduceSub, SB, SV.known, packR, ne_eq, reduceCtorEq, Nat.reduceEqDiff, ↓reduceIte, if_true, if_false, eq_self, Nat.reduceAdd, Nat.reduceMul, Nat.reduceSub, forall_const, oneCellS, litOne, flat1, Kd.isSca, flat, TYB]
    refine ⟨fun h => ?_, fun h => ?_⟩
    · have hlt : i < 6 := by omega
      refine loop_intro (fun k : Nat => [(1, .ptr 0 0), (3, .int i), (4, .int k)]) (fun _ => [(0, .ints R 27)]) 1 (fun k => k ≤ 4 ∧ ∀ b, b < k → cB R i b) (fun k => 4 - k) ?_ ?_
      · refine ⟨0, ⟨by omega, by omega⟩, Sub.mk_id ?_ ?_ ?_ ?_ ?_⟩
        all_goals simp only [LB, subS, subH, wfS, wfH, SV.ren, renL, SObj.ren, SV.wf, SObj.wf, wfL, SV.known, Nat.reduceEqDiff, ↓reduceIte, if_true, if_false, eq_self, Nat.reduceAdd, Nat.reduceLT, Nat.reduceLeDiff, implies_true, reduceCtorEq, forall_const]
        all_goals simp
      · intro k hk
        obtain ⟨hk1, hk2⟩ := hk
        simp -implicitDefEqProofs only [lk_normal, l1In_F, hR, ZB, Int.reduceToNat, Nat.reduceLT, Nat.reduceLeDiff, Int.reduceLE, Int.reduceLT, Nat.reduceEqDiff, Nat.reduceSub, SB, SV.known, packR, ne_eq, reduceCtorEq, Nat.reduceEqDiff, ↓reduceIte, if_true, if_false, eq_self, Nat.reduceAdd, Nat.reduceMul, Nat.reduceSub, forall_const, oneCellS, litOne, flat1, Kd.isSca, flat, TYB]
        refine ⟨fun h => ?_, fun h => ?_⟩
        · have e0 : ((k : Int) - 1).toNat = k - 1 := by omega
          simp only [e0]
          have no : ¬ cB R i k → false = rackB R := fun hn => by
            cases hr : rackB R with
            | false => rfl
            | true => exact absurd ((rackB_iff R hR).1 hr i k hlt (by omega)) hn
          have inv : cB R i k → ∀ b, b < k + 1 → cB R i b := fun hc b hb => by
            by_cases hbk : b = k
            · subst hbk; exact hc
            · exact hk2 b (by omega)
          (try (and_intros <;> try (first | omega | (unfold In64; omega) | trivial | assumption)))
          all_goals intro h1
          · (try (and_intros <;> try (first | omega | (unfold In64; omega) | trivial | assumption)))
            all_goals intro h2
            · (try (and_intros <;> try (first | omega | (unfold In64; omega) | trivial | assumption)))
              all_goals intro h3
              · (try (and_intros <;> try (first | omega | (unfold In64; omega) | trivial | assumption)))
                all_goals intro h4
                · exact no fun hc => hc.2 ⟨by omega, h3, h4⟩
                · (try (and_intros <;> try (first | omega | (unfold In64; omega) | trivial | assumption)))
                  refine ⟨k + 1, ⟨by omega, inv ⟨h1, fun hn => h4 hn.2.2⟩⟩, by omega, Sub.mk_id ?_ ?_ ?_ ?_ ?_⟩
                  all_goals simp only [LB, subS, subH, wfS, wfH, SV.ren, renL, SObj.ren, SV.wf, SObj.wf, wfL, SV.known, Nat.reduceEqDiff, ↓reduceIte, if_true, if_false, eq_self, Nat.reduceAdd, Nat.reduceLT, Nat.reduceLeDiff, implies_true, reduceCtorEq, forall_const]
              · (try (and_intros <;> try (first | omega | (unfold In64; omega) | trivial | assumption)))
                refine ⟨k + 1, ⟨by omega, inv ⟨h1, fun hn => h3 hn.2.1⟩⟩, by omega, Sub.mk_id ?_ ?_ ?_ ?_ ?_⟩
                all_goals simp only [LB, subS, subH, wfS, wfH, SV.ren, renL, SObj.ren, SV.wf, SObj.wf, wfL, SV.known, Nat.reduceEqDiff, ↓reduceIte, if_true, if_false, eq_self, Nat.reduceAdd, Nat.reduceLT, Nat.reduceLeDiff, implies_true, reduceCtorEq, forall_const]
            · (try (and_intros <;> try (first | omega | (unfold In64; omega) | trivial | assumption)))
              refine ⟨k + 1, ⟨by omega, inv ⟨h1, fun hn => h2 (by omega)⟩⟩, by omega, Sub.mk_id ?_ ?_ ?_ ?_ ?_⟩
              all_goals simp only [LB, subS, subH, wfS, wfH, SV.ren, renL, SObj.ren, SV.wf, SObj.wf, wfL, SV.known, Nat.reduceEqDiff, ↓reduceIte, if_true, if_false, eq_self, Nat.reduceAdd, Nat.reduceLT, Nat.reduceLeDiff, implies_true, reduceCtorEq, forall_const]
          · exact no fun hc => h1 hc.1
        · obtain rfl : k = 4 := by omega
          (try (and_intros <;> try (first | omega | (unfold In64; omega) | trivial | assumption)))
          refine ⟨i + 1, ⟨by omega, fun a b ha hb => ?_⟩, by omega, Sub.mk_id ?_ ?_ ?_ ?_ ?_⟩
          · by_cases hai : a = i
            · subst hai; exact hk2 b hb
            · exact hi2 a b (by omega) hb
          all_goals simp only [LB, subS, subH, wfS, wfH, SV.ren, renL, SObj.ren, SV.wf, SObj.wf, wfL, SV.known, Nat.reduceEqDiff, ↓reduceIte, if_true, if_false, eq_self, Nat.reduceAdd, Nat.reduceLT, Nat.reduceLeDiff, implies_true, reduceCtorEq, forall_const]
    · obtain rfl : i = 6 := by omega
      rw [(rackB_iff R hR).2 fun a b ha hb => hi2 a b ha hb]
def l2Rack_F : List SV → Heap → Option (Prop × SV)
  | [.arr R], _ => some (R.length = 24, .bool (rackB R))
  | _, _ => none
theorem l2Rack_T : ∀ args H p v, l2Rack_F args H = some (p, v) → p → PureH Try.prog 72 args H v := by
  intro args H p v h hp
  unfold l2Rack_F at h
  split at h
  · cases h; exact (l2Rack_ok _ hp).any _
  · cases h

/-! Layers, as the model counts them. -/
def posC (t : List Int) : Int := ((t.map fun x => if 0 < x then (1 : Int) else 0)).sum
theorem posC_take_succ (l : List Int) (k : Nat) (h : k < l.length) : posC (l.take (k + 1)) = posC (l.take k) + if 0 < l.getD k 0 then 1 else 0 := by
  unfold posC
  rw [List.map_take, List.map_take, sum_take_succ _ k (by simpa using h)]
  simp [List.getD, List.getElem?_eq_getElem h]
theorem posC_bd (l : List Int) : 0 ≤ posC l ∧ posC l ≤ l.length := by
  have : Bd 0 1 (l.map fun x => if 0 < x then (1 : Int) else 0) := by
    intro x hx
    obtain ⟨c, _, rfl⟩ := List.mem_map.1 hx
    split <;> omega
  have := sum_bd _ this
  simp only [List.length_map] at this
  unfold posC; omega
theorem posC_lay (t : List Int) (h : t.length = 4) (ht : tubeB t = true) : posC t = layN t := by
  rw [tubeB_iff t h] at ht
  obtain ⟨a, b, c, d, rfl⟩ : ∃ a b c d, t = [a, b, c, d] := by
    match t, h with
    | [a, b, c, d], _ => exact ⟨a, b, c, d, rfl⟩
  have h0 := ht 0 (by omega)
  have h1 := ht 1 (by omega)
  have h2 := ht 2 (by omega)
  have h3 := ht 3 (by omega)
  simp [cB] at h0 h1 h2 h3
  by_cases ha : a = 0
  · subst ha
    simp [posC, layN, isZ0, List.findIdx?_cons]
    repeat' (split)
    all_goals omega
  · by_cases hb : b = 0
    · subst hb
      simp [posC, layN, isZ0, List.findIdx?_cons, Ne.symm ha]
      repeat' (split)
      all_goals omega
    · by_cases hc : c = 0
      · subst hc
        simp [posC, layN, isZ0, List.findIdx?_cons, Ne.symm ha, Ne.symm hb]
        repeat' (split)
        all_goals omega
      · by_cases hd : d = 0
        · subst hd
          simp [posC, layN, isZ0, List.findIdx?_cons, Ne.symm ha, Ne.symm hb, Ne.symm hc]
          repeat' (split)
          all_goals omega
        · simp [posC, layN, isZ0, List.findIdx?_cons, Ne.symm ha, Ne.symm hb, Ne.symm hc, Ne.symm hd]
          repeat' (split)
          all_goals omega
--@tbl l2Many = spec.l2Many
theorem l2Many_ok (t : List Int) (h : t.length = 4) : PureH Try.prog 135 [.arr t] [] (.int (posC t)) := by
  refine pure_of_vc (X := ⟨Try.prog, tys, [], [], true, true, 0, [], []⟩) fn_135 ⟨tys_ok, .nil, .nil, mixed⟩ (n0 := 0) (Nat.le_of_ble_eq_true rfl) (by simp [wfL, SV.wf]) (wfH_spec (by simp [wfH, SObj.wf])) (Nat.le_refl _) (fun _ => by simp [SV.wf, wfL]) ?_
  simp -implicitDefEqProofs only [Try.f135, Option.getD_some, argS, h, ZB, Int.reduceToNat, Nat.reduceLT, Nat.reduceLeDiff, Int.reduceLE, Int.reduceLT, Nat.reduceEqDiff, Nat.reduceSub, SB, SV.known, packR, ne_eq, reduceCtorEq, Nat.reduceEqDiff, ↓reduceIte, if_true, if_false, eq_self, Nat.reduceAdd, Nat.reduceMul, Nat.reduceSub, forall_const, oneCellS, litOne, flat1, Kd.isSca, flat, TYB]
  refine loop_intro (fun i : Nat => [(1, .ptr 0 0), (4, .int i), (3, .int (posC (t.take i)))]) (fun _ => [(0, .ints t 24)]) 1 (fun i => i ≤ 4) (fun i => 4 - i) ?_ ?_
  · refine ⟨0, by omega, Sub.mk_id ?_ ?_ ?_ ?_ ?_⟩
    all_goals simp only [LB, subS, subH, wfS, wfH, SV.ren, renL, SObj.ren, SV.wf, SObj.wf, wfL, SV.known, Nat.reduceEqDiff, ↓reduceIte, if_true, if_false, eq_self, Nat.reduceAdd, Nat.reduceLT, Nat.reduceLeDiff, implies_true, reduceCtorEq, forall_const]
    all_goals simp [posC]
  · intro i hi
    simp -implicitDefEqProofs only [lk_normal, h, ZB, Int.reduceToNat, Nat.reduceLT, Nat.reduceLeDiff, Int.reduceLE, Int.reduceLT, Nat.reduceEqDiff, Nat.reduceSub, SB, SV.known, packR, ne_eq, reduceCtorEq, Nat.reduceEqDiff, ↓reduceIte, if_true, if_false, eq_self, Nat.reduceAdd, Nat.reduceMul, Nat.reduceSub, forall_const, oneCellS, litOne, flat1, Kd.isSca, flat, TYB]
    have hb := posC_bd (t.take i)
    have hl1 : (t.take i).length = i := by rw [List.length_take]; omega
    rw [hl1] at hb
    refine ⟨fun hx => ?_, fun hx => ?_⟩
    · have es := posC_take_succ t i (by omega)
      (try (and_intros <;> try (first | omega | (unfold In64; omega) | trivial | assumption)))
      all_goals intro hp
      · (try (and_intros <;> try (first | omega | (unfold In64; omega) | trivial | assumption)))
        refine ⟨i + 1, by omega, by omega, Sub.mk_id ?_ ?_ ?_ ?_ ?_⟩
        any_goals (simp only [LB, subS, subH, wfS, wfH, SV.ren, renL, SObj.ren, SV.wf, SObj.wf, wfL, SV.known, Nat.reduceEqDiff, ↓reduceIte, if_true, if_false, eq_self, Nat.reduceAdd, Nat.reduceLT, Nat.reduceLeDiff, implies_true, reduceCtorEq, forall_const]; done)
        simp only [LB, subS, subH, wfS, wfH, SV.ren, renL, SObj.ren, SV.wf, SObj.wf, wfL, SV.known, Nat.reduceEqDiff, ↓reduceIte, if_true, if_false, eq_self, Nat.reduceAdd, Nat.reduceLT, Nat.reduceLeDiff, implies_true, reduceCtorEq, forall_const]
        rw [es, if_pos hp]
      · (try (and_intros <;> try (first | omega | (unfold In64; omega) | trivial | assumption)))
        refine ⟨i + 1, by omega, by omega, Sub.mk_id ?_ ?_ ?_ ?_ ?_⟩
        any_goals (simp only [LB, subS, subH, wfS, wfH, SV.ren, renL, SObj.ren, SV.wf, SObj.wf, wfL, SV.known, Nat.reduceEqDiff, ↓reduceIte, if_true, if_false, eq_self, Nat.reduceAdd, Nat.reduceLT, Nat.reduceLeDiff, implies_true, reduceCtorEq, forall_const]; done)
        simp only [LB, subS, subH, wfS, wfH, SV.ren, renL, SObj.ren, SV.wf, SObj.wf, wfL, SV.known, Nat.reduceEqDiff, ↓reduceIte, if_true, if_false, eq_self, Nat.reduceAdd, Nat.reduceLT, Nat.reduceLeDiff, implies_true, reduceCtorEq, forall_const]
        rw [es, if_neg hp, Int.add_zero]
    · obtain rfl : i = 4 := by omega
      rw [List.take_of_length_le (by omega)]
def l2Many_F : List SV → Heap → Option (Prop × SV)
  | [.arr t], _ => some (t.length = 4, .int (posC t))
  | _, _ => none
theorem l2Many_T : ∀ args H p v, l2Many_F args H = some (p, v) → p → PureH Try.prog 135 args H v := by
  intro args H p v h hp
  unfold l2Many_F at h
  split at h
  · cases h; exact (l2Many_ok _ hp).any _
  · cases h

/-! Fitting depths. -/
def tubeAt (R : List Int) (i : Nat) : List Int := (R.drop (i * 4)).take 4
theorem tubeAt_len {R : List Int} (h : R.length = 24) {i : Nat} (hi : i < 6) : (tubeAt R i).length = 4 := by unfold tubeAt; rw [List.length_take, List.length_drop]; omega
theorem tubeAt_ok {R : List Int} (hr : rackB R = true) {i : Nat} (hi : i < 6) : tubeB (tubeAt R i) = true := by
  unfold rackB at hr
  refine List.all_eq_true.1 hr _ (List.mem_map.2 ⟨i, List.mem_range.2 hi, ?_⟩)
  rw [Nat.zero_add]; rfl
def fitF (R D : List Int) : Bool := (List.range 6).all fun i => decide ((layN (tubeAt R i) : Int) ≤ D.getD i 0)
theorem fit_hit {R D : List Int} {i : Nat} (hi : i < 6) (h : ¬ (layN (tubeAt R i) : Int) ≤ D.getD i 0) : fitF R D = false := by
  unfold fitF
  rw [List.all_eq_false]
  exact ⟨i, List.mem_range.2 hi, by simpa using h⟩
theorem fit_none {R D : List Int} (h : ∀ i, i < 6 → (layN (tubeAt R i) : Int) ≤ D.getD i 0) : fitF R D = true := by
  unfold fitF
  rw [List.all_eq_true]
  intro i hi
  simpa using h i (List.mem_range.1 hi)
--@tbl fits = impl.fits
theorem fits_ok (R D : List Int) (hR : R.length = 24) (hD : D.length = 6) : PureH Try.prog 104 [.arr R, .arr D] [] (.bool (fitF R D)) := by
  have tk1 : R.take 24 = R := List.take_of_length_le (by omega)
  refine pure_of_vc (X := ⟨Try.prog, tys, [(133, layers_F)], [], true, true, 0, [], []⟩) fn_104 ⟨tys_ok, (.cons layers_T .nil), .nil, mixed⟩ (n0 := 0) (Nat.le_of_ble_eq_true rfl) (by simp [wfL, SV.wf]) (wfH_spec (by simp [wfH, SObj.wf])) (Nat.le_refl _) (fun _ => by simp [SV.wf, wfL]) ?_
  simp -implicitDefEqProofs only [Try.f104, Option.getD_some, argS, layers_F, hR, hD, tk1, ZB, Int.reduceToNat, Nat.reduceLT, Nat.reduceLeDiff, Int.reduceLE, Int.reduceLT, Nat.reduceEqDiff, Nat.reduceSub, SB, SV.known, packR, ne_eq, reduceCtorEq, Nat.reduceEqDiff, ↓reduceIte, if_true, if_false, eq_self, Nat.reduceAdd, Nat.reduceMul, Nat.reduceSub, forall_const, oneCellS, litOne, flat1, Kd.isSca, flat, TYB]
  refine loop_intro (fun i : Nat => [(2, .ptr 0 0), (3, .ptr 1 0), (8, .arr R), (9, .int i)]) (fun _ => [(0, .ints R 27), (1, .ints D 51)]) 2 (fun i => i ≤ 6 ∧ ∀ k, k < i → (layN (tubeAt R k) : Int) ≤ D.getD k 0) (fun i => 6 - i) ?_ ?_
  · refine ⟨0, ⟨by omega, by omega⟩, Sub.mk_id ?_ ?_ ?_ ?_ ?_⟩
    all_goals simp only [LB, subS, subH, wfS, wfH, SV.ren, renL, SObj.ren, SV.wf, SObj.wf, wfL, SV.known, Nat.reduceEqDiff, ↓reduceIte, if_true, if_false, eq_self, Nat.reduceAdd, Nat.reduceLT, Nat.reduceLeDiff, implies_true, reduceCtorEq, forall_const]
    all_goals simp
  · intro i hi
    obtain ⟨hi1, hi2⟩ := hi
    have eT : List.take 4 (List.drop (i * 4) R) = tubeAt R i := rfl
    simp -implicitDefEqProofs only [lk_normal, layers_F, hR, hD, eT, ZB, Int.reduceToNat, Nat.reduceLT, Nat.reduceLeDiff, Int.reduceLE, Int.reduceLT, Nat.reduceEqDiff, Nat.reduceSub, SB, SV.known, packR, ne_eq, reduceCtorEq, Nat.reduceEqDiff, ↓reduceIte, if_true, if_false, eq_self, Nat.reduceAdd, Nat.reduceMul, Nat.reduceSub, forall_const, oneCellS, litOne, flat1, Kd.isSca, flat, TYB]
    refine ⟨fun hx => ?_, fun hx => ?_⟩
    · have hlt : i < 6 := by omega
      have hl := tubeAt_len hR hlt
      have tk3 : (tubeAt R i).take 4 = tubeAt R i := List.take_of_length_le (by omega)
      simp only [hl, tk3, List.append_nil, List.replicate_zero, Nat.le_refl, true_and, ZB, Int.reduceToNat, Nat.reduceLT, Nat.reduceLeDiff, Int.reduceLE, Int.reduceLT, Nat.reduceEqDiff, Nat.reduceSub]
      (try (and_intros <;> try (first | omega | (unfold In64; omega) | trivial | assumption)))
      all_goals intro hp
      · rw [fit_hit hlt (by omega)]
      · (try (and_intros <;> try (first | omega | (unfold In64; omega) | trivial | assumption)))
        refine ⟨i + 1, ⟨by omega, fun k hk => ?_⟩, by omega, Sub.mk_id ?_ ?_ ?_ ?_ ?_⟩
        · by_cases hki : k = i
          · subst hki; omega
          · exact hi2 k (by omega)
        all_goals simp only [LB, subS, subH, wfS, wfH, SV.ren, renL, SObj.ren, SV.wf, SObj.wf, wfL, SV.known, Nat.reduceEqDiff, ↓reduceIte, if_true, if_false, eq_self, Nat.reduceAdd, Nat.reduceLT, Nat.reduceLeDiff, implies_true, reduceCtorEq, forall_const]
    · obtain rfl : i = 6 := by omega
      rw [fit_none hi2]
def fits_F : List SV → Heap → Option (Prop × SV)
  | [.arr R, .arr D], _ => some (R.length = 24 ∧ D.length = 6, .bool (fitF R D))
  | _, _ => none
theorem fits_T : ∀ args H p v, fits_F args H = some (p, v) → p → PureH Try.prog 104 args H v := by
  intro args H p v h hp
  unfold fits_F at h
  split at h
  · cases h; exact (fits_ok _ _ hp.1 hp.2).any _
  · cases h
--@tbl l8Fits = spec.l8Fits
theorem l8Fits_ok (R D : List Int) (hR : R.length = 24) (hD : D.length = 6) (hr : rackB R = true) (hd : D.all isDep = true) : PureH Try.prog 91 [.arr R, .arr D] [] (.bool (fitF R D)) := by
  have tk1 : R.take 24 = R := List.take_of_length_le (by omega)
  have tk2 : D.take 6 = D := List.take_of_length_le (by omega)
  refine pure_of_vc (X := ⟨Try.prog, tys, [(135, l2Many_F), (72, l2Rack_F), (105, l8Depths_F)], [], true, true, 0, [], []⟩) fn_91 ⟨tys_ok, (.cons l2Many_T (.cons l2Rack_T (.cons l8Depths_T .nil))), .nil, mixed⟩ (n0 := 0) (Nat.le_of_ble_eq_true rfl) (by simp [wfL, SV.wf]) (wfH_spec (by simp [wfH, SObj.wf])) (Nat.le_refl _) (fun _ => by simp [SV.wf, wfL]) ?_
  simp -implicitDefEqProofs only [Try.f91, Option.getD_some, argS, l2Many_F, l2Rack_F, l8Depths_F, hR, hD, hr, hd, tk1, tk2, ZB, Int.reduceToNat, Nat.reduceLT, Nat.reduceLeDiff, Int.reduceLE, Int.reduceLT, Nat.reduceEqDiff, Nat.reduceSub, SB, SV.known, packR, ne_eq, reduceCtorEq, Nat.reduceEqDiff, ↓reduceIte, if_true, if_false, eq_self, Nat.reduceAdd, Nat.reduceMul, Nat.reduceSub, forall_const, oneCellS, litOne, flat1, Kd.isSca, flat, TYB]
  refine loop_intro (fun i : Nat => [(2, .ptr 0 0), (3, .ptr 1 0), (5, .int i)]) (fun _ => [(0, .ints R 27), (1, .ints D 51)]) 2 (fun i => i ≤ 6 ∧ ∀ k, k < i → (layN (tubeAt R k) : Int) ≤ D.getD k 0) (fun i => 6 - i) ?_ ?_
  · refine ⟨0, ⟨by omega, by omega⟩, Sub.mk_id ?_ ?_ ?_ ?_ ?_⟩
    all_goals simp only [LB, subS, subH, wfS, wfH, SV.ren, renL, SObj.ren, SV.wf, SObj.wf, wfL, SV.known, Nat.reduceEqDiff, ↓reduceIte, if_true, if_false, eq_self, Nat.reduceAdd, Nat.reduceLT, Nat.reduceLeDiff, implies_true, reduceCtorEq, forall_const]
    all_goals simp
  · intro i hi
    obtain ⟨hi1, hi2⟩ := hi
    have eT : List.take 4 (List.drop (i * 4) R) = tubeAt R i := rfl
    simp -implicitDefEqProofs only [lk_normal, l2Many_F, l2Rack_F, l8Depths_F, hR, hD, hr, hd, tk1, tk2, eT, ZB, Int.reduceToNat, Nat.reduceLT, Nat.reduceLeDiff, Int.reduceLE, Int.reduceLT, Nat.reduceEqDiff, Nat.reduceSub, SB, SV.known, packR, ne_eq, reduceCtorEq, Nat.reduceEqDiff, ↓reduceIte, if_true, if_false, eq_self, Nat.reduceAdd, Nat.reduceMul, Nat.reduceSub, forall_const, oneCellS, litOne, flat1, Kd.isSca, flat, TYB]
    refine ⟨fun hx => ?_, fun hx => ?_⟩
    · have hlt : i < 6 := by omega
      have hl := tubeAt_len hR hlt
      have ep := posC_lay _ hl (tubeAt_ok hr hlt)
      simp only [hl, ep]
      (try (and_intros <;> try (first | omega | (unfold In64; omega) | trivial | assumption)))
      all_goals intro hp
      · rw [fit_hit hlt (by omega)]
      · (try (and_intros <;> try (first | omega | (unfold In64; omega) | trivial | assumption)))
        refine ⟨i + 1, ⟨by omega, fun k hk => ?_⟩, by omega, Sub.mk_id ?_ ?_ ?_ ?_ ?_⟩
        · by_cases hki : k = i
          · subst hki; omega
          · exact hi2 k (by omega)
        all_goals simp only [LB, subS, subH, wfS, wfH, SV.ren, renL, SObj.ren, SV.wf, SObj.wf, wfL, SV.known, Nat.reduceEqDiff, ↓reduceIte, if_true, if_false, eq_self, Nat.reduceAdd, Nat.reduceLT, Nat.reduceLeDiff, implies_true, reduceCtorEq, forall_const]
    · obtain rfl : i = 6 := by omega
      rw [fit_none hi2]
def l8Fits_F : List SV → Heap → Option (Prop × SV)
  | [.arr R, .arr D], _ => some (R.length = 24 ∧ D.length = 6 ∧ rackB R = true ∧ D.all isDep = true, .bool (fitF R D))
  | _, _ => none
theorem l8Fits_T : ∀ args H p v, l8Fits_F args H = some (p, v) → p → PureH Try.prog 91 args H v := by
  intro args H p v h hp
  unfold l8Fits_F at h
  split at h
  · cases h; exact (l8Fits_ok _ _ hp.1 hp.2.1 hp.2.2.1 hp.2.2.2).any _
  · cases h
--@tbl FitsDepths = impl.FitsDepths
--@tbl sFitsDepths = spec.FitsDepths
def fdB (R D : List Int) : Bool := rackB R && D.all isDep
def fdF (R D : List Int) : Bool := rackB R && D.all isDep && fitF R D
theorem FitsDepths_ok (R D : List Int) (hR : R.length = 24) (hD : D.length = 6) : PureH Try.prog 28 [.arr R, .arr D] [] (.tup [.bool (fdF R D), .bool (fdB R D)]) := by
  have tk1 : R.take 24 = R := List.take_of_length_le (by omega)
  have tk2 : D.take 6 = D := List.take_of_length_le (by omega)
  unfold fdF fdB
  cases h1 : rackB R <;> cases h2 : D.all isDep
  all_goals
    refine pure_of_vc (X := ⟨Try.prog, tys, [(11, IsRack_F), (30, isDepths_F), (104, fits_F)], [], true, true, 0, [], []⟩) fn_28 ⟨tys_ok, (.cons IsRack_T (.cons isDepths_T (.cons fits_T .nil))), .nil, mixed⟩ (n0 := 0) (Nat.le_of_ble_eq_true rfl) (by simp [wfL, SV.wf]) (wfH_spec (by simp [wfH, SObj.wf])) (Nat.le_refl _) (fun _ => by simp [SV.wf, wfL]) ?_
    simp -implicitDefEqProofs only [Try.f28, Option.getD_some, argS, IsRack_F, isDepths_F, fits_F, hR, hD, h1, h2, tk1, tk2, ZB, Int.reduceToNat, Nat.reduceLT, Nat.reduceLeDiff, Int.reduceLE, Int.reduceLT, Nat.reduceEqDiff, Nat.reduceSub, SB, SV.known, packR, ne_eq, reduceCtorEq, Nat.reduceEqDiff, ↓reduceIte, if_true, if_false, eq_self, Nat.reduceAdd, Nat.reduceMul, Nat.reduceSub, forall_const, oneCellS, litOne, flat1, Kd.isSca, flat, TYB]
theorem sFitsDepths_ok (R D : List Int) (hR : R.length = 24) (hD : D.length = 6) : PureH Try.prog 29 [.arr R, .arr D] [] (.tup [.bool (fdF R D), .bool (fdB R D)]) := by
  have tk1 : R.take 24 = R := List.take_of_length_le (by omega)
  have tk2 : D.take 6 = D := List.take_of_length_le (by omega)
  unfold fdF fdB
  cases h1 : rackB R <;> cases h2 : D.all isDep
  all_goals
    refine pure_of_vc (X := ⟨Try.prog, tys, [(72, l2Rack_F), (105, l8Depths_F), (91, l8Fits_F)], [], true, true, 0, [], []⟩) fn_29 ⟨tys_ok, (.cons l2Rack_T (.cons l8Depths_T (.cons l8Fits_T .nil))), .nil, mixed⟩ (n0 := 0) (Nat.le_of_ble_eq_true rfl) (by simp [wfL, SV.wf]) (wfH_spec (by simp [wfH, SObj.wf])) (Nat.le_refl _) (fun _ => by simp [SV.wf, wfL]) ?_
    simp -implicitDefEqProofs only [Try.f29, Option.getD_some, argS, l2Rack_F, l8Depths_F, l8Fits_F, hR, hD, h1, h2, tk1, tk2, ZB, Int.reduceToNat, Nat.reduceLT, Nat.reduceLeDiff, Int.reduceLE, Int.reduceLT, Nat.reduceEqDiff, Nat.reduceSub, SB, SV.known, packR, ne_eq, reduceCtorEq, Nat.reduceEqDiff, ↓reduceIte, if_true, if_false, eq_self, Nat.reduceAdd, Nat.reduceMul, Nat.reduceSub, forall_const, oneCellS, litOne, flat1, Kd.isSca, flat, TYB]
def FitsDepths_F : List SV → Heap → Option (Prop × SV)
  | [.arr R, .arr D], _ => some (R.length = 24 ∧ D.length = 6, .tup [.bool (fdF R D), .bool (fdB R D)])
  | _, _ => none
theorem FitsDepths_T : ∀ args H p v, FitsDepths_F args H = some (p, v) → p → PureH Try.prog 28 args H v := by
  intro args H p v h hp
  unfold FitsDepths_F at h
  split at h
  · cases h; exact (FitsDepths_ok _ _ hp.1 hp.2).any _
  · cases h
def sFitsDepths_F : List SV → Heap → Option (Prop × SV)
  | [.arr R, .arr D], _ => some (R.length = 24 ∧ D.length = 6, .tup [.bool (fdF R D), .bool (fdB R D)])
  | _, _ => none
theorem sFitsDepths_T : ∀ args H p v, sFitsDepths_F args H = some (p, v) → p → PureH Try.prog 29 args H v := by
  intro args H p v h hp
  unfold sFitsDepths_F at h
  split at h
  · cases h; exact (sFitsDepths_ok _ _ hp.1 hp.2).any _
  · cases h
end Go.Proofs.Ytopfnkmlgcjpbaa
set_option maxRecDepth 100000
set_option linter.unusedSimpArgs false
set_option linter.unusedVariables false
namespace Go.Proofs.Ytopfnkmlgcjpbaa
open Go Go.RowKit

/-- How a slice comes back: by itself, or ahead of other values. -/
inductive Wrap
  | one
  | more (l : List SV)
  | mid (a : SV) (l : List SV)
def Wrap.ap : Wrap → SV → SV
  | .one, v => v
  | .more l, v => .tup (v :: l)
  | .mid a l, v => .tup (a :: v :: l)
def flatL : List SV → Bool
  | [] => true
  | v :: r => flat v && flatL r
def Wrap.ok : Wrap → Bool
  | .one => true
  | .more l => flatL l
  | .mid a l => flat a && flatL l
theorem flatL_den : ∀ {l : List SV}, flatL l = true → ∀ B B' : Nat → Nat, denL B l = denL B' l
  | [], _, _, _ => rfl
  | v :: r, h, B, B' => by
    simp only [flatL, Bool.and_eq_true] at h
    simp only [denL]
    rw [den_flat h.1 B B', flatL_den h.2 B B']
theorem flatL_wf : ∀ {l : List SV}, flatL l = true → ∀ n, wfL n l
  | [], _, _ => trivial
  | v :: r, h, n => by
    simp only [flatL, Bool.and_eq_true] at h
    exact ⟨wf_flat h.1 n, flatL_wf h.2 n⟩
theorem Wrap.den_eq {wr : Wrap} (h : wr.ok = true) {B B' : Nat → Nat} {v v' : SV} (hv : v.den B = v'.den B') : (wr.ap v).den B = (wr.ap v').den B' := by
  cases wr with
  | one => exact hv
  | more l => simp only [Wrap.ap, SV.den, denL, hv, flatL_den h B B']
  | mid a l =>
    simp only [Wrap.ok, Bool.and_eq_true] at h
    simp only [Wrap.ap, SV.den, denL, hv, den_flat h.1 B B', flatL_den h.2 B B']
theorem Wrap.wf_ap {wr : Wrap} (h : wr.ok = true) {v : SV} {n : Nat} (hv : v.wf n) : (wr.ap v).wf n := by
  cases wr with
  | one => exact hv
  | more l => exact ⟨hv, flatL_wf h n⟩
  | mid a l =>
    simp only [Wrap.ok, Bool.and_eq_true] at h
    exact ⟨wf_flat h.1 n, hv, flatL_wf h.2 n⟩

structure FreshP (P : Program) (f : FuncId) (args : List SV) (H0 : Heap) (L : List Int) (len es e : Nat) (nl : Bool) (wr : Wrap) : Prop where
  ent : Entd P f
  ok : wr.ok = true
  call : ∀ B w, HR B H0 w → Calls P f (denL B args).toArray w fun r w' => Bel w.heap.size w w' ∧ ((nl = true ∧ L = [] ∧ r = .returned ((wr.ap .nils).den B)) ∨
    ∃ id cap junk, w.heap.size ≤ id ∧ r = .returned ((wr.ap (.slice 0 0 len cap)).den fun _ => id) ∧ w'.heap[id]? = some ((SObj.ints (L ++ junk) e).den B) ∧ junk.length + L.length = cap * es ∧ (nl = true → L ≠ []))

def freshPost (m : Nat) (L : List Int) (len es e : Nat) (nl : Bool) (wr : Wrap) (v : SV) (H' : Heap) : Prop :=
  (nl = true ∧ L = [] ∧ v = wr.ap .nils) ∨ ∃ b cap junk, v = wr.ap (.slice b 0 len cap) ∧ hget H' b = some (.ints (L ++ junk) e) ∧ m ≤ b ∧ junk.length + L.length = cap * es ∧ (nl = true → L ≠ [])
theorem fresh_of_vc {X : Cx} {f : FuncId} {fn : Func} {c : Code} (hf : FnOK X.P f fn c X.sx X.hr) (hX : CxOK X) {n0 : Nat} {args : List SV} {H0 : Heap} {L : List Int} {len es e : Nat} {nl : Bool} {wr : Wrap} (hw : wr.ok = true) (hN : args.length ≤ fn.ntmps) (hwa : wfL n0 args) (hwH : hwf n0 H0) (hm : n0 ≤ X.m)
    (h : codeVC X n0 c (argS 0 args) H0 n0 (retK X.τ fn.results.toList fun v H' _ => freshPost X.m L len es e nl wr v H')) : FreshP X.P f args H0 L len es e nl wr := by
  refine ⟨hf.ent, hw, fun B w hH => ?_⟩
  refine (run_of_vc hf hX hN hwa hwH (Nat.le_refl _) h B (fun i => w.heap.size ≤ i) w hH (own_ge hwH hm) (fun _ h => h)).mono fun r w' hh => ?_
  obtain ⟨v, H', n', B', rfl, hk, g1, g2, g3, g4, g5, g6, g7⟩ := hh
  refine ⟨g5.below fun i hi hge => by omega, ?_⟩
  rcases hk with ⟨h1, h2, rfl⟩ | ⟨b, cap, junk, rfl, h2, h3, h4, h5⟩
  · exact .inl ⟨h1, h2, congrArg Ending.returned (Wrap.den_eq hw rfl)⟩
  · exact .inr ⟨B' b, cap, junk, g4 b _ h2 rfl h3, congrArg Ending.returned (Wrap.den_eq hw rfl), g3.at_ b _ h2 rfl, h4, h5⟩

def freshK (wr : Wrap) (L : List Int) (len es e : Nat) (nl : Bool) (H : Heap) (n : Nat) (κ : K1) : Prop :=
  (nl = true → L = [] → κ (wr.ap .nils) H n) ∧ ((nl = true → L ≠ []) → ∀ (cap : Nat) (junk : List Int), junk.length + L.length = cap * es → κ (wr.ap (.slice n 0 len cap)) ((n, .ints (L ++ junk) e) :: H) (n + 1))

theorem HR.cons_fresh {B : Nat → Nat} {H : Heap} {n id : Nat} {w w' : World} {o : SObj} (h : HR B H w) (hw : hwf n H) (hb : Bel w.heap.size w w') (hid : w.heap.size ≤ id) (hwo : o.wf n) (hfl : o.full = true) (ho : w'.heap[id]? = some (o.den B)) : HR (upd B n id) ((n, o) :: H) w' := by
  have hag := upd_lt B n id
  have h' := h.of_below hb
  refine ⟨fun k o' hl hk => ?_, fun k j o1 o2 h1 h2 h3 h4 he => ?_⟩
  · rw [hget_cons] at hl
    split at hl
    · rename_i hkn
      subst hkn
      cases hl
      rw [upd_self]
      exact SObj.sat_of_den hfl (by rw [SObj.den_congr hag o hwo]; exact ho)
    · have hkn := (hw k o' hl).1
      rw [hag k hkn]
      exact SObj.sat_congr hag o' (hw k o' hl).2 (h'.at_ k o' hl hk)
  · rw [hget_cons] at h1 h3
    split at h1
    · rename_i hk
      split at h3
      · rename_i hj; omega
      · subst hk
        rw [upd_self, hag j (hw j o2 h3).1] at he
        have := h.lt h3 h4
        omega
    · split at h3
      · rename_i hj
        subst hj
        rw [upd_self, hag k (hw k o1 h1).1] at he
        have := h.lt h1 h2
        omega
      · rw [hag k (hw k o1 h1).1, hag j (hw j o2 h3).1] at he
        exact h.inj k j o1 o2 h1 h2 h3 h4 he

theorem gen_of_fresh {P : Program} {f : FuncId} {args : List SV} {H0 H : Heap} {L : List Int} {len es e n m : Nat} {nl : Bool} {wr : Wrap} {κ : K1} (h : FreshP P f args H0 L len es e nl wr) (hs : ∀ k o, hget H0 k = some o → hget H k = some o) (hk : freshK wr L len es e nl H n κ) : GenOK P f args H n m κ := by
  refine ⟨h.ent, fun B M w hH hwH hwa hown hM => ?_⟩
  have hH0 : HR B H0 w := ⟨fun k o hk hl => hH.at_ k o (hs k o hk) hl, fun k j o o' hk hl hj hl' he => hH.inj k j o o' (hs k o hk) hl (hs j o' hj) hl' he⟩
  refine (h.call B w hH0).mono fun r w' hh => ?_
  obtain ⟨hb, hh⟩ := hh
  rcases hh with ⟨h1, h2, rfl⟩ | ⟨id, cap, junk, h1, rfl, h3, h4, h5⟩
  · exact ⟨_, H, n, B, rfl, hk.1 h1 h2, Nat.le_refl _, Wrap.wf_ap h.ok trivial, hwH, fun _ _ => rfl, hH.of_below hb, hown, Kept.of_below hb⟩
  · refine ⟨_, _, n + 1, upd B n id, ?_, hk.2 h5 cap junk h4, by omega, Wrap.wf_ap h.ok (by simp [SV.wf]), ?_, upd_lt B n id, HR.cons_fresh hH hwH hb h1 trivial rfl h3, ?_, Kept.of_below hb⟩
    · exact congrArg Ending.returned (Wrap.den_eq h.ok (by simp [SV.den, upd_self]))
    · intro k o hl
      rw [hget_cons] at hl
      split at hl
      · cases hl; exact ⟨by omega, trivial⟩
      · have := hwH k o hl
        exact ⟨by omega, SObj.wf_mono (by omega) _ this.2⟩
    · intro k o hl hlive hmk
      rw [hget_cons] at hl
      split at hl
      · rename_i hkn
        subst hkn
        rw [upd_self]
        exact hM id h1
      · rw [upd_lt B n id k (hwH k o hl).1]
        exact hown k o hl hlive hmk

/-- A block under another name. -/
theorem Sub.mk_to (b b' : Nat) {p m : Nat} {S S' : Env} {H H' : Heap} {n' : Nat} (h1 : subS (fun k => if k = b then b' else k) S S') (h2 : subH (fun k => if k = b then b' else k) m H H') (h3 : wfS n' S') (h4 : wfH n' H') (h5 : p ≤ n') (h6 : p ≤ b)
    (h7 : ∀ k ∈ H'.map (·.1), k ≠ b → k ≠ b') : Sub p m S H S' H' n' := by
  refine ⟨fun k => if k = b then b' else k, h1, subH_spec h2, h3, wfH_spec h4, fun x hx y hy he => ?_, fun k hk => if_neg (by omega), h5⟩
  simp only at he
  by_cases hxb : x = b
  · by_cases hyb : y = b
    · rw [hxb, hyb]
    · rw [if_pos hxb, if_neg hyb] at he
      exact absurd he.symm (h7 y hy hyb)
  · by_cases hyb : y = b
    · rw [if_neg hxb, if_pos hyb] at he
      exact absurd he (h7 x hx hxb)
    · rw [if_neg hxb, if_neg hyb] at he
      exact he
/-- A slice that grows: nothing yet, or block 1. -/
def outV (i len cap : Nat) : SV := match i with
  | 0 => .nils
  | _ + 1 => .slice 1 0 len cap
def outH (i : Nat) (L : List Int) (e : Nat) (base : Heap) : Heap := match i with
  | 0 => base
  | _ + 1 => (1, .ints L e) :: base
theorem outV_zero (len cap : Nat) : outV 0 len cap = .nils := rfl
theorem outV_succ (i len cap : Nat) : outV (i + 1) len cap = .slice 1 0 len cap := rfl
theorem outH_zero (L : List Int) (e : Nat) (base : Heap) : outH 0 L e base = base := rfl
theorem outH_succ (i : Nat) (L : List Int) (e : Nat) (base : Heap) : outH (i + 1) L e base = (1, .ints L e) :: base := rfl
end Go.Proofs.Ytopfnkmlgcjpbaa
set_option maxRecDepth 100000
set_option linter.unusedSimpArgs false
set_option linter.unusedVariables false
namespace Go.Proofs.Ytopfnkmlgcjpbaa
open Go Go.RowKit
def stepR (L : List Int) (c : Int) : List Int := if 0 < L.length ∧ L.getD (L.length - 2) 0 = c then L.set (L.length - 1) (L.getD (L.length - 1) 0 + 1) else L ++ [c, 1]
def RL (t : List Int) (i : Nat) : List Int := (t.take i).foldl stepR []
def runsL (t : List Int) : List Int := (t.take (layN t)).foldl stepR []
theorem RL_zero (t : List Int) : RL t 0 = [] := by simp [RL]
theorem RL_succ (t : List Int) (i : Nat) (h : i < t.length) : RL t (i + 1) = stepR (RL t i) (t.getD i 0) := by
  unfold RL
  rw [List.take_succ_eq_append_getElem h, List.foldl_append]
  simp [List.getD, List.getElem?_eq_getElem h]
theorem stepR_eq {L : List Int} {n : Nat} {c : Int} (hL : L.length = n * 2) (hn : 0 < n) (h : L.getD (n * 2 - 2) 0 = c) : stepR L c = L.set (n * 2 - 1) (L.getD (n * 2 - 1) 0 + 1) := by
  unfold stepR
  rw [hL, if_pos ⟨by omega, h⟩]
theorem stepR_ne {L : List Int} {n : Nat} {c : Int} (hL : L.length = n * 2) (h : ¬ L.getD (n * 2 - 2) 0 = c) : stepR L c = L ++ [c, 1] := by
  unfold stepR
  rw [hL, if_neg fun hh => h hh.2]
theorem RL_one (t : List Int) (h : 0 < t.length) : RL t 1 = [t.getD 0 0, 1] := by
  rw [RL_succ t 0 h, RL_zero]; simp [stepR]
theorem getD_app (L M : List Int) (k : Nat) (h : k < L.length) : (L ++ M).getD k 0 = L.getD k 0 := by
  simp [List.getD, List.getElem?_append_left h]
theorem set_app (L M : List Int) (k : Nat) (x : Int) (h : k < L.length) : (L ++ M).set k x = L.set k x ++ M := List.set_append_left _ _ h
theorem getD_set_self (L : List Int) (k : Nat) (x : Int) (h : k < L.length) : (L.set k x).getD k 0 = x := by
  simp [List.getD, h]
theorem getD_app_right (L M : List Int) (k : Nat) : (L ++ M).getD (L.length + k) 0 = M.getD k 0 := by
  simp [List.getD, List.getElem?_append_right]
--@tbl runs = impl.runs
theorem runs_ok (t : List Int) (ht : t.length = 4) : FreshP Try.prog 152 [.arr t] [] (runsL t) ((runsL t).length / 2) 2 44 true .one := by
  have tk : t.take 4 = t := List.take_of_length_le (by omega)
  have hle := lay_le t ht
  refine fresh_of_vc (X := ⟨Try.prog, tys, [(133, layers_F)], [], true, true, 0, [], []⟩) fn_152 ⟨tys_ok, (.cons layers_T .nil), .nil, mixed⟩ (n0 := 0) rfl (Nat.le_of_ble_eq_true rfl) (by simp [wfL, SV.wf]) (wfH_spec (by simp [wfH, SObj.wf])) (Nat.le_refl _) ?_
  simp -implicitDefEqProofs only [Try.f152, Option.getD_some, argS, layers_F, ht, tk, ZB, Int.reduceToNat, Nat.reduceLT, Nat.reduceLeDiff, Int.reduceLE, Int.reduceLT, Nat.reduceEqDiff, Nat.reduceSub, SB, SV.known, packR, ne_eq, reduceCtorEq, Nat.reduceEqDiff, ↓reduceIte, if_true, if_false, eq_self, Nat.reduceAdd, Nat.reduceMul, Nat.reduceSub, forall_const, oneCellS, litOne, flat1, Kd.isSca, flat, TYB]
  refine ⟨by omega, by omega, ?_⟩
  refine loop_intro (fun s : Nat × Nat × Nat × List Int => [(9, .slice 0 0 (layN t) 4), (10, .int (layN t)), (11, .int s.1), (3, outV s.1 s.2.1 s.2.2.1)]) (fun s => outH s.1 (RL t s.1 ++ s.2.2.2) 44 [(0, .ints t 24)]) 2
    (fun s => s.1 ≤ layN t ∧ (s.1 ≠ 0 → (RL t s.1).length = s.2.1 * 2 ∧ 0 < s.2.1 ∧ s.2.1 ≤ s.1 ∧ (0 ≤ (RL t s.1).getD (s.2.1 * 2 - 1) 0 ∧ (RL t s.1).getD (s.2.1 * 2 - 1) 0 ≤ s.1) ∧ s.2.2.2.length + s.2.1 * 2 = s.2.2.1 * 2)) (fun s => layN t - s.1) ?_ ?_
  · refine ⟨(0, 0, 0, []), ⟨by omega, fun h => absurd rfl h⟩, Sub.mk_id ?_ ?_ ?_ ?_ ?_⟩
    all_goals simp only [outV_zero, outH_zero, LB, subS, subH, wfS, wfH, SV.ren, renL, SObj.ren, SV.wf, SObj.wf, wfL, SV.known, Nat.reduceEqDiff, ↓reduceIte, if_true, if_false, eq_self, Nat.reduceAdd, Nat.reduceLT, Nat.reduceLeDiff, implies_true, reduceCtorEq, forall_const]
    all_goals simp
  · rintro ⟨i, n, cap, junk⟩ ⟨hi1, hi2⟩
    simp only at hi1 hi2
    cases i with
    | zero =>
      simp -implicitDefEqProofs only [lk_normal, outV_zero, outH_zero, ht, ZB, Int.reduceToNat, Nat.reduceLT, Nat.reduceLeDiff, Int.reduceLE, Int.reduceLT, Nat.reduceEqDiff, Nat.reduceSub, SB, SV.known, packR, ne_eq, reduceCtorEq, Nat.reduceEqDiff, ↓reduceIte, if_true, if_false, eq_self, Nat.reduceAdd, Nat.reduceMul, Nat.reduceSub, forall_const, oneCellS, litOne, flat1, Kd.isSca, flat, TYB]
      refine ⟨fun h => ⟨h, fun junk' cap' hj => ⟨by unfold In64; omega, (1, 1, cap', junk'), ⟨by omega, fun _ => ?_⟩, by omega, Sub.mk_to 1 3 ?_ ?_ ?_ ?_ ?_ ?_ ?_⟩⟩, fun h => ?_⟩
      · rw [RL_one t (by omega)]
        simp; omega
      any_goals (simp only [outV_succ, outH_succ, RL_one t (show 0 < t.length by omega), LB, subS, subH, wfS, wfH, SV.ren, renL, SObj.ren, SV.wf, SObj.wf, wfL, SV.known, Nat.reduceEqDiff, ↓reduceIte, if_true, if_false, eq_self, Nat.reduceAdd, Nat.reduceLT, Nat.reduceLeDiff, implies_true, reduceCtorEq, forall_const]; try simp; done)
      have h0 : layN t = 0 := by omega
      exact .inl ⟨rfl, by simp [runsL, h0], rfl⟩
    | succ i =>
      obtain ⟨hL, hn, hni, hlast, hj⟩ := hi2 (by omega)
      have e0 : ((n : Int) - 1).toNat * 2 = n * 2 - 2 := by omega
      have e1 : n * 2 - 2 + 1 = n * 2 - 1 := by omega
      have g0 := getD_app (RL t (i + 1)) junk (n * 2 - 2) (by omega)
      have g1 := getD_app (RL t (i + 1)) junk (n * 2 - 1) (by omega)
      have tkL : (RL t (i + 1) ++ junk).take (n * 2) = RL t (i + 1) := List.take_left' hL
      have lenL : (RL t (i + 1) ++ junk).length = cap * 2 := by rw [List.length_append]; omega
      have hs := fun x => set_app (RL t (i + 1)) junk (n * 2 - 1) x (by omega)
      simp -implicitDefEqProofs only [lk_normal, outV_succ, outH_succ, ht, e0, e1, g0, g1, tkL, lenL, hs, ZB, Int.reduceToNat, Nat.reduceLT, Nat.reduceLeDiff, Int.reduceLE, Int.reduceLT, Nat.reduceEqDiff, Nat.reduceSub, SB, SV.known, packR, ne_eq, reduceCtorEq, Nat.reduceEqDiff, ↓reduceIte, if_true, if_false, eq_self, Nat.reduceAdd, Nat.reduceMul, Nat.reduceSub, forall_const, oneCellS, litOne, flat1, Kd.isSca, flat, TYB]
      refine ⟨fun h => ?_, fun h => ?_⟩
      · have es := RL_succ t (i + 1) (by omega)
        (try (and_intros <;> try (first | omega | (unfold In64; omega) | trivial | assumption)))
        · intro hp
          (try (and_intros <;> try (first | omega | (unfold In64; omega) | trivial | assumption)))
          · intro he
            (try (and_intros <;> try (first | omega | (unfold In64; omega) | trivial | assumption)))
            refine ⟨(i + 1 + 1, n, cap, junk), ⟨by omega, fun _ => ?_⟩, by simp only; omega, Sub.mk_id ?_ ?_ ?_ ?_ ?_⟩
            · simp only
              rw [es, stepR_eq hL hn he]
              refine ⟨by simp [hL], hn, by omega, ?_, hj⟩
              rw [getD_set_self _ _ _ (by omega)]
              omega
            all_goals simp only [outV_succ, outH_succ, es, stepR_eq hL hn he, LB, subS, subH, wfS, wfH, SV.ren, renL, SObj.ren, SV.wf, SObj.wf, wfL, SV.known, Nat.reduceEqDiff, ↓reduceIte, if_true, if_false, eq_self, Nat.reduceAdd, Nat.reduceLT, Nat.reduceLeDiff, implies_true, reduceCtorEq, forall_const]
            all_goals (try simp)
          · intro he
            (try (and_intros <;> try (first | omega | (unfold In64; omega) | trivial | assumption)))
            intro junk' cap' hj'
            (try (and_intros <;> try (first | omega | (unfold In64; omega) | trivial | assumption)))
            refine ⟨(i + 1 + 1, n + 1, cap', junk'), ⟨by omega, fun _ => ?_⟩, by simp only; omega, Sub.mk_to 1 3 ?_ ?_ ?_ ?_ ?_ ?_ ?_⟩
            · simp only
              rw [es, stepR_ne hL he]
              refine ⟨by simp [hL]; omega, by omega, by omega, ?_, by omega⟩
              have : (n + 1) * 2 - 1 = (RL t (i + 1)).length + 1 := by omega
              rw [this, getD_app_right]
              simp; omega
            all_goals simp only [outV_succ, outH_succ, es, stepR_ne hL he, LB, subS, subH, wfS, wfH, SV.ren, renL, SObj.ren, SV.wf, SObj.wf, wfL, SV.known, Nat.reduceEqDiff, ↓reduceIte, if_true, if_false, eq_self, Nat.reduceAdd, Nat.reduceLT, Nat.reduceLeDiff, implies_true, reduceCtorEq, forall_const]
            all_goals (try simp)
      · have hii : i + 1 = layN t := by omega
        have hr : runsL t = RL t (i + 1) := by rw [hii]; rfl
        refine .inr ⟨1, cap, junk, ?_, ?_, by omega, ?_, ?_⟩
        · rw [hr, hL]; simp [Wrap.ap]
        · rw [hr]; simp [hget_cons]
        · rw [hr]; omega
        · intro _ h0
          rw [hr] at h0
          rw [h0] at hL
          simp at hL; omega
def runs_F : List SV → Heap → Nat → Nat → K1 → Prop
  | [.arr t], H, n, _, κ => t.length = 4 ∧ freshK .one (runsL t) ((runsL t).length / 2) 2 44 true H n κ
  | _, _, _, _, _ => False
theorem runs_T : ∀ args H n m κ, runs_F args H n m κ → GenOK Try.prog 152 args H n m κ := by
  intro args H n m κ h
  unfold runs_F at h
  split at h
  · exact gen_of_fresh (runs_ok _ h.1) (fun k o hk => by cases hk) h.2
  · exact h.elim
theorem RL_even (t : List Int) (ht : t.length = 4) : ∀ i, i ≤ 4 → ∃ n, (RL t i).length = n * 2 ∧ n ≤ i ∧ (0 < i → 0 < n)
  | 0, _ => ⟨0, by rw [RL_zero]; rfl, by omega, by omega⟩
  | i + 1, hi => by
    obtain ⟨n, h1, h2, h3⟩ := RL_even t ht i (by omega)
    rw [RL_succ t i (by omega)]
    by_cases hn : 0 < n
    · by_cases he : (RL t i).getD (n * 2 - 2) 0 = t.getD i 0
      · rw [stepR_eq h1 hn he]; exact ⟨n, by simpa using h1, by omega, fun _ => hn⟩
      · rw [stepR_ne h1 he]; exact ⟨n + 1, by simp; omega, by omega, fun _ => by omega⟩
    · have h0 : n = 0 := by omega
      subst h0
      have : RL t i = [] := List.length_eq_zero_iff.1 (by simpa using h1)
      rw [this]
      exact ⟨1, by simp [stepR], by omega, fun _ => by omega⟩
theorem runsL_even (t : List Int) (ht : t.length = 4) : ∃ n, (runsL t).length = n * 2 ∧ n ≤ 4 ∧ (0 < layN t → 0 < n) := by
  obtain ⟨n, h1, h2, h3⟩ := RL_even t ht (layN t) (lay_le t ht)
  have := lay_le t ht
  exact ⟨n, h1, by omega, h3⟩
def topF (t : List Int) : Int × Int := if runsL t = [] then (0, 0) else ((runsL t).getD ((runsL t).length - 2) 0, (runsL t).getD ((runsL t).length - 1) 0)
--@tbl top = impl.top
theorem top_ok (t : List Int) (ht : t.length = 4) : PureH Try.prog 137 [.arr t] [] (.tup [.int (topF t).1, .int (topF t).2]) := by
  have tk : t.take 4 = t := List.take_of_length_le (by omega)
  obtain ⟨n, hn, hn4, _⟩ := runsL_even t ht
  refine pure_of_vc (X := ⟨Try.prog, tys, [], [(152, runs_F)], true, true, 0, [], []⟩) fn_137 ⟨tys_ok, .nil, (.cons runs_T .nil), mixed⟩ (n0 := 0) (Nat.le_of_ble_eq_true rfl) (by simp [wfL, SV.wf]) (wfH_spec (by simp [wfH, SObj.wf])) (Nat.le_refl _) (fun _ => by simp [SV.wf, wfL]) ?_
  simp -implicitDefEqProofs only [Try.f137, Option.getD_some, argS, runs_F, ht, tk, hn, freshK, Wrap.ap, ZB, Int.reduceToNat, Nat.reduceLT, Nat.reduceLeDiff, Int.reduceLE, Int.reduceLT, Nat.reduceEqDiff, Nat.reduceSub, SB, SV.known, packR, ne_eq, reduceCtorEq, Nat.reduceEqDiff, ↓reduceIte, if_true, if_false, eq_self, Nat.reduceAdd, Nat.reduceMul, Nat.reduceSub, forall_const, oneCellS, litOne, flat1, Kd.isSca, flat, TYB]
  refine ⟨fun h => by simp [topF, h], fun h cap junk hj => ?_⟩
  have hn0 : 0 < n := by
    rcases Nat.eq_zero_or_pos n with h0 | h0
    · exact absurd (List.length_eq_zero_iff.1 (by rw [hn, h0])) h
    · exact h0
  have e2 : n * 2 / 2 = n := by omega
  have e0 : ((n : Int) - 1).toNat * 2 = n * 2 - 2 := by omega
  simp only [e2, e0]
  have hM : ((runsL t ++ junk).drop (n * 2 - 2) |>.take 2).length = 2 := by rw [List.length_take, List.length_drop, List.length_append]; omega
  have m0 : ((runsL t ++ junk).drop (n * 2 - 2) |>.take 2).getD 0 0 = (topF t).1 := by
    rw [getD_cut _ _ _ _ (by omega), getD_app _ _ _ (by omega)]
    simp [topF, h, hn]
  have m1 : ((runsL t ++ junk).drop (n * 2 - 2) |>.take 2).getD 1 0 = (topF t).2 := by
    rw [getD_cut _ _ _ _ (by omega), getD_app _ _ _ (by omega), show n * 2 - 2 + 1 = n * 2 - 1 by omega]
    simp [topF, h, hn]
  simp only [hM, Nat.sub_self, List.replicate_zero, List.append_nil, m0, m1]
  refine ⟨fun h0 => by omega, fun _ => ?_⟩
  have : (runsL t ++ junk).length = cap * 2 := by rw [List.length_append]; omega
  (try (and_intros <;> try (first | omega | (unfold In64; omega) | trivial | assumption)))
def top_F : List SV → Heap → Option (Prop × SV)
  | [.arr t], _ => some (t.length = 4, .tup [.int (topF t).1, .int (topF t).2])
  | _, _ => none
theorem top_T : ∀ args H p v, top_F args H = some (p, v) → p → PureH Try.prog 137 args H v := by
  intro args H p v h hp
  unfold top_F at h
  split at h
  · cases h; exact (top_ok _ hp).any _
  · cases h

/-! The model's top. -/
def isRun (t : List Int) (n r : Nat) : Prop := 0 < r ∧ r ≤ n ∧ (∀ k, k < r → t.getD (n - 1 - k) 0 = t.getD (n - 1) 0) ∧ (r = n ∨ ¬ t.getD (n - 1 - r) 0 = t.getD (n - 1) 0)
theorem isRun_one {t : List Int} {n r r' : Nat} (h : isRun t n r) (h' : isRun t n r') : r = r' := by
  rcases Nat.lt_trichotomy r r' with hl | he | hg
  · rcases h.2.2.2 with h1 | h1
    · have := h'.2.1; omega
    · exact absurd (h'.2.2.1 r hl) h1
  · exact he
  · rcases h'.2.2.2 with h1 | h1
    · have := h.2.1; omega
    · exact absurd (h.2.2.1 r' hg) h1
theorem topF_run (t : List Int) (ht : t.length = 4) (h0 : 0 < layN t) : ∃ r : Nat, topF t = (t.getD (layN t - 1) 0, (r : Int)) ∧ isRun t (layN t) r := by
  have key : ∀ i, 0 < i → i ≤ 4 → ∃ r n : Nat, (RL t i).length = n * 2 ∧ 0 < n ∧ (RL t i).getD (n * 2 - 2) 0 = t.getD (i - 1) 0 ∧ (RL t i).getD (n * 2 - 1) 0 = r ∧ isRun t i r := by
    intro i
    induction i with
    | zero => intro h; omega
    | succ i ih =>
      intro _ hi
      rw [RL_succ t i (by omega)]
      by_cases hi0 : i = 0
      · subst hi0
        rw [RL_zero]
        exact ⟨1, 1, by simp [stepR], by omega, by simp [stepR], by simp [stepR], by omega, by omega, fun k hk => by rw [show k = 0 by omega], .inl rfl⟩
      · obtain ⟨r, n, h1, h2, h3, h4, h5⟩ := ih (by omega) (by omega)
        by_cases he : (RL t i).getD (n * 2 - 2) 0 = t.getD i 0
        · rw [stepR_eq h1 h2 he]
          refine ⟨r + 1, n, by simpa using h1, h2, ?_, ?_, by omega, by have := h5.2.1; omega, fun k hk => ?_, ?_⟩
          · rw [show i + 1 - 1 = i by omega, ← he]
            simp only [List.getD, List.getElem?_set]
            rw [if_neg (by omega)]
          · rw [getD_set_self _ _ _ (by omega), h4]; omega
          · rcases Nat.eq_zero_or_pos k with hk0 | hk0
            · rw [hk0]; rfl
            · have := h5.2.2.1 (k - 1) (by omega)
              rw [show i + 1 - 1 - k = i - 1 - (k - 1) by omega, this, ← h3, he]; rfl
          · rcases h5.2.2.2 with h6 | h6
            · exact .inl (by omega)
            · refine .inr ?_
              rw [show i + 1 - 1 - (r + 1) = i - 1 - r by omega, show i + 1 - 1 = i by omega, ← he, h3]
              exact h6
        · rw [stepR_ne h1 he]
          refine ⟨1, n + 1, by simp; omega, by omega, ?_, ?_, by omega, by omega, fun k hk => by rw [show k = 0 by omega]; rfl, .inr ?_⟩
          · rw [show (n + 1) * 2 - 2 = (RL t i).length + 0 by omega, getD_app_right]; rfl
          · rw [show (n + 1) * 2 - 1 = (RL t i).length + 1 by omega, getD_app_right]; rfl
          · rw [show i + 1 - 1 - 1 = i - 1 by omega, show i + 1 - 1 = i by omega, ← h3]
            exact he
  obtain ⟨r, n, h1, h2, h3, h4, h5⟩ := key (layN t) h0 (lay_le t ht)
  have hr : runsL t = RL t (layN t) := rfl
  refine ⟨r, ?_, h5⟩
  unfold topF
  rw [hr, if_neg (by intro h; rw [h] at h1; simp at h1; omega), h1, h3, h4]
--@tbl l2Top = spec.l2Top
theorem l2Top_ok (t : List Int) (ht : t.length = 4) (hb : tubeB t = true) : PureH Try.prog 138 [.arr t] [] (.tup [.int (topF t).1, .int (topF t).2]) := by
  have tk : t.take 4 = t := List.take_of_length_le (by omega)
  have hp := posC_lay t ht hb
  have hle := lay_le t ht
  have hz : layN t = 0 → topF t = (0, 0) := fun h => by simp [topF, runsL, h]
  refine pure_of_vc (X := ⟨Try.prog, tys, [(135, l2Many_F)], [], true, true, 0, [], []⟩) fn_138 ⟨tys_ok, (.cons l2Many_T .nil), .nil, mixed⟩ (n0 := 0) (Nat.le_of_ble_eq_true rfl) (by simp [wfL, SV.wf]) (wfH_spec (by simp [wfH, SObj.wf])) (Nat.le_refl _) (fun _ => by simp [SV.wf, wfL]) ?_
  simp -implicitDefEqProofs only [Try.f138, Option.getD_some, argS, l2Many_F, ht, tk, hp, ZB, Int.reduceToNat, Nat.reduceLT, Nat.reduceLeDiff, Int.reduceLE, Int.reduceLT, Nat.reduceEqDiff, Nat.reduceSub, SB, SV.known, packR, ne_eq, reduceCtorEq, Nat.reduceEqDiff, ↓reduceIte, if_true, if_false, eq_self, Nat.reduceAdd, Nat.reduceMul, Nat.reduceSub, forall_const, oneCellS, litOne, flat1, Kd.isSca, flat, TYB]
  refine ⟨fun h => by rw [hz (by omega)]; exact ⟨rfl, rfl⟩, fun h => ?_⟩
  obtain ⟨r0, ht0, hr0⟩ := topF_run t ht (by omega)
  refine loop_intro (fun r : Nat => [(1, .ptr 0 0), (4, .int (layN t)), (5, .int r)]) (fun _ => [(0, .ints t 24)]) 1 (fun r => r ≤ layN t ∧ ∀ k, k < r → t.getD (layN t - 1 - k) 0 = t.getD (layN t - 1) 0) (fun r => layN t - r) ?_ ?_
  · refine ⟨0, ⟨by omega, by omega⟩, Sub.mk_id ?_ ?_ ?_ ?_ ?_⟩
    all_goals simp only [LB, subS, subH, wfS, wfH, SV.ren, renL, SObj.ren, SV.wf, SObj.wf, wfL, SV.known, Nat.reduceEqDiff, ↓reduceIte, if_true, if_false, eq_self, Nat.reduceAdd, Nat.reduceLT, Nat.reduceLeDiff, implies_true, reduceCtorEq, forall_const]
    all_goals simp
  · rintro r ⟨hr1, hr2⟩
    have e1 : ((layN t : Int) - 1).toNat = layN t - 1 := by omega
    have e2 : ((layN t : Int) - 1 - r).toNat = layN t - 1 - r := by omega
    simp -implicitDefEqProofs only [lk_normal, ht, e1, e2, ZB, Int.reduceToNat, Nat.reduceLT, Nat.reduceLeDiff, Int.reduceLE, Int.reduceLT, Nat.reduceEqDiff, Nat.reduceSub, SB, SV.known, packR, ne_eq, reduceCtorEq, Nat.reduceEqDiff, ↓reduceIte, if_true, if_false, eq_self, Nat.reduceAdd, Nat.reduceMul, Nat.reduceSub, forall_const, oneCellS, litOne, flat1, Kd.isSca, flat, TYB]
    (try (and_intros <;> try (first | omega | (unfold In64; omega) | trivial | assumption)))
    all_goals intro h1
    · (try (and_intros <;> try (first | omega | (unfold In64; omega) | trivial | assumption)))
      all_goals intro h2
      · (try (and_intros <;> try (first | omega | (unfold In64; omega) | trivial | assumption)))
        refine ⟨r + 1, ⟨by omega, fun k hk => ?_⟩, by omega, Sub.mk_id ?_ ?_ ?_ ?_ ?_⟩
        · by_cases hkr : k = r
          · rw [hkr]; exact h2
          · exact hr2 k (by omega)
        all_goals simp only [LB, subS, subH, wfS, wfH, SV.ren, renL, SObj.ren, SV.wf, SObj.wf, wfL, SV.known, Nat.reduceEqDiff, ↓reduceIte, if_true, if_false, eq_self, Nat.reduceAdd, Nat.reduceLT, Nat.reduceLeDiff, implies_true, reduceCtorEq, forall_const]
      · have hrun : isRun t (layN t) r := ⟨by
          rcases Nat.eq_zero_or_pos r with h0 | h0
          · subst h0; exact absurd rfl h2
          · exact h0, hr1, hr2, .inr h2⟩
        have e3 : topF t = (t.getD (layN t - 1) 0, (r : Int)) := by rw [ht0, isRun_one hr0 hrun]
        simp only [e3]
        (try (and_intros <;> try (first | omega | (unfold In64; omega) | trivial | assumption)))
    · have hrn : r = layN t := by omega
      have hrun : isRun t (layN t) r := ⟨by omega, hr1, hr2, .inl hrn⟩
      have e3 : topF t = (t.getD (layN t - 1) 0, (r : Int)) := by rw [ht0, isRun_one hr0 hrun]
      simp only [e3]
      (try (and_intros <;> try (first | omega | (unfold In64; omega) | trivial | assumption)))
def l2Top_F : List SV → Heap → Option (Prop × SV)
  | [.arr t], _ => some (t.length = 4 ∧ tubeB t = true, .tup [.int (topF t).1, .int (topF t).2])
  | _, _ => none
theorem l2Top_T : ∀ args H p v, l2Top_F args H = some (p, v) → p → PureH Try.prog 138 args H v := by
  intro args H p v h hp
  unfold l2Top_F at h
  split at h
  · cases h; exact (l2Top_ok _ hp.1 hp.2).any _
  · cases h

theorem top_pos (t : List Int) (ht : t.length = 4) (hb : tubeB t = true) : (0 < (topF t).1 ↔ 0 < layN t) ∧ (0 < (topF t).2 ↔ 0 < layN t) := by
  rcases Nat.eq_zero_or_pos (layN t) with h0 | h0
  · have : topF t = (0, 0) := by simp [topF, runsL, h0]
    simp [this, h0]
  · obtain ⟨r, h1, h2⟩ := topF_run t ht h0
    have hle := lay_le t ht
    have hc : coT (t.getD (layN t - 1) 0) = true := by
      unfold tubeB at hb
      simp only [Bool.and_eq_true] at hb
      refine List.all_eq_true.1 hb.1 _ ?_
      have hlt : layN t - 1 < t.length := by omega
      simp only [List.getD, List.getElem?_eq_getElem hlt, Option.getD_some]
      exact List.mem_take_iff_getElem.2 ⟨layN t - 1, by omega, rfl⟩
    have hc2 : 1 ≤ t.getD (layN t - 1) 0 ∧ t.getD (layN t - 1) 0 ≤ 5 := by simpa [coT] using hc
    have := h2.1
    rw [h1]
    constructor <;> constructor <;> intro _ <;> first | exact h0 | (simp only; omega)

/-! Pours. -/
def canF (R : List Int) (i j : Int) : Bool := !decide (i = j) && decide (0 < (topF (tubeAt R i.toNat)).1) && decide ((layN (tubeAt R j.toNat) : Int) < 4) && (decide ((topF (tubeAt R j.toNat)).1 = 0) || decide ((topF (tubeAt R j.toNat)).1 = (topF (tubeAt R i.toNat)).1))
--@tbl canPour = impl.canPour
theorem canPour_ok (R : List Int) (i j : Int) (hR : R.length = 24) (hi : 0 ≤ i ∧ i ≤ 5) (hj : 0 ≤ j ∧ j ≤ 5) : PureH Try.prog 87 [.arr R, .int i, .int j] [] (.bool (canF R i j)) := by
  have hli := tubeAt_len hR (i := i.toNat) (by omega)
  have hlj := tubeAt_len hR (i := j.toNat) (by omega)
  have ei : List.take 4 (List.drop (i.toNat * 4) R) = tubeAt R i.toNat := rfl
  have ej : List.take 4 (List.drop (j.toNat * 4) R) = tubeAt R j.toNat := rfl
  refine pure_of_vc (X := ⟨Try.prog, tys, [(137, top_F), (133, layers_F)], [], true, true, 0, [], []⟩) fn_87 ⟨tys_ok, (.cons top_T (.cons layers_T .nil)), .nil, mixed⟩ (n0 := 0) (Nat.le_of_ble_eq_true rfl) (by simp [wfL, SV.wf]) (wfH_spec (by simp [wfH, SObj.wf])) (Nat.le_refl _) (fun _ => by simp [SV.wf, wfL]) ?_
  simp -implicitDefEqProofs only [Try.f87, Option.getD_some, argS, top_F, layers_F, hR, ei, ej, hli, hlj, ZB, Int.reduceToNat, Nat.reduceLT, Nat.reduceLeDiff, Int.reduceLE, Int.reduceLT, Nat.reduceEqDiff, Nat.reduceSub, SB, SV.known, packR, ne_eq, reduceCtorEq, Nat.reduceEqDiff, ↓reduceIte, if_true, if_false, eq_self, Nat.reduceAdd, Nat.reduceMul, Nat.reduceSub, forall_const, oneCellS, litOne, flat1, Kd.isSca, flat, TYB]
  (try (and_intros <;> try (first | omega | (unfold In64; omega) | trivial | assumption)))
  · intro h; simp [canF, h]
  · intro h
    (try (and_intros <;> try (first | omega | (unfold In64; omega) | trivial | assumption)))
    · intro h1
      (try (and_intros <;> try (first | omega | (unfold In64; omega) | trivial | assumption)))
      · intro h2
        (try (and_intros <;> try (first | omega | (unfold In64; omega) | trivial | assumption)))
        · intro h3; simp [canF, h, h1, h2, h3]
        · intro h3; simp [canF, h, h1, h2, h3]
      · intro h2; simp [canF, h, h1, h2]
    · intro h1
      simp [canF, h, h1]
def canPour_F : List SV → Heap → Option (Prop × SV)
  | [.arr R, .int i, .int j], _ => some (R.length = 24 ∧ (0 ≤ i ∧ i ≤ 5) ∧ (0 ≤ j ∧ j ≤ 5), .bool (canF R i j))
  | _, _ => none
theorem canPour_T : ∀ args H p v, canPour_F args H = some (p, v) → p → PureH Try.prog 87 args H v := by
  intro args H p v h hp
  unfold canPour_F at h
  split at h
  · cases h; exact (canPour_ok _ _ _ hp.1 hp.2.1 hp.2.2).any _
  · cases h
--@tbl l2Can = spec.l2Can
theorem l2Can_ok (R : List Int) (i j : Int) (hR : R.length = 24) (hr : rackB R = true) (hi : 0 ≤ i ∧ i ≤ 5) (hj : 0 ≤ j ∧ j ≤ 5) : PureH Try.prog 144 [.arr R, .int i, .int j] [] (.bool (canF R i j)) := by
  have hli := tubeAt_len hR (i := i.toNat) (by omega)
  have hlj := tubeAt_len hR (i := j.toNat) (by omega)
  have ei : List.take 4 (List.drop (i.toNat * 4) R) = tubeAt R i.toNat := rfl
  have ej : List.take 4 (List.drop (j.toNat * 4) R) = tubeAt R j.toNat := rfl
  have bi := tubeAt_ok hr (i := i.toNat) (by omega)
  have bj := tubeAt_ok hr (i := j.toNat) (by omega)
  have pj := posC_lay _ hlj bj
  refine pure_of_vc (X := ⟨Try.prog, tys, [(138, l2Top_F), (135, l2Many_F)], [], true, true, 0, [], []⟩) fn_144 ⟨tys_ok, (.cons l2Top_T (.cons l2Many_T .nil)), .nil, mixed⟩ (n0 := 0) (Nat.le_of_ble_eq_true rfl) (by simp [wfL, SV.wf]) (wfH_spec (by simp [wfH, SObj.wf])) (Nat.le_refl _) (fun _ => by simp [SV.wf, wfL]) ?_
  simp -implicitDefEqProofs only [Try.f144, Option.getD_some, argS, l2Top_F, l2Many_F, hR, ei, ej, hli, hlj, bi, bj, pj, ZB, Int.reduceToNat, Nat.reduceLT, Nat.reduceLeDiff, Int.reduceLE, Int.reduceLT, Nat.reduceEqDiff, Nat.reduceSub, SB, SV.known, packR, ne_eq, reduceCtorEq, Nat.reduceEqDiff, ↓reduceIte, if_true, if_false, eq_self, Nat.reduceAdd, Nat.reduceMul, Nat.reduceSub, forall_const, oneCellS, litOne, flat1, Kd.isSca, flat, TYB]
  have tp := (top_pos _ hli bi).2.trans (top_pos _ hli bi).1.symm
  (try (and_intros <;> try (first | omega | (unfold In64; omega) | trivial | assumption)))
  · intro h; simp [canF, h]
  · intro h
    (try (and_intros <;> try (first | omega | (unfold In64; omega) | trivial | assumption)))
    · intro h1
      rw [tp] at h1
      (try (and_intros <;> try (first | omega | (unfold In64; omega) | trivial | assumption)))
      · intro h2
        (try (and_intros <;> try (first | omega | (unfold In64; omega) | trivial | assumption)))
        · intro h3; simp [canF, h, h1, h2, h3]
        · intro h3; simp [canF, h, h1, h2, h3]
      · intro h2; simp [canF, h, h1, h2]
    · intro h1
      rw [tp] at h1
      simp [canF, h, h1]
def l2Can_F : List SV → Heap → Option (Prop × SV)
  | [.arr R, .int i, .int j], _ => some (R.length = 24 ∧ rackB R = true ∧ (0 ≤ i ∧ i ≤ 5) ∧ (0 ≤ j ∧ j ≤ 5), .bool (canF R i j))
  | _, _ => none
theorem l2Can_T : ∀ args H p v, l2Can_F args H = some (p, v) → p → PureH Try.prog 144 args H v := by
  intro args H p v h hp
  unfold l2Can_F at h
  split at h
  · cases h; exact (l2Can_ok _ _ _ hp.1 hp.2.1 hp.2.2.1 hp.2.2.2).any _
  · cases h
end Go.Proofs.Ytopfnkmlgcjpbaa
set_option maxRecDepth 100000
set_option linter.unusedSimpArgs false
set_option linter.unusedVariables false
namespace Go.Proofs.Ytopfnkmlgcjpbaa
open Go Go.RowKit
def prK (R : List Int) (k : Nat) : List Int := if canF R ((k / 6 : Nat) : Int) ((k % 6 : Nat) : Int) = true then [((k / 6 : Nat) : Int), ((k % 6 : Nat) : Int)] else []
def PL (R : List Int) (m : Nat) : List Int := (List.range m).flatMap (prK R)
theorem PL_zero (R : List Int) : PL R 0 = [] := rfl
theorem PL_succ (R : List Int) (m : Nat) : PL R (m + 1) = PL R m ++ prK R m := by simp [PL, List.range_succ]
theorem PL_at (R : List Int) (i j : Nat) (hj : j < 6) : PL R (i * 6 + j + 1) = PL R (i * 6 + j) ++ if canF R i j = true then [(i : Int), (j : Int)] else [] := by
  rw [PL_succ]
  have e1 : (i * 6 + j) / 6 = i := by omega
  have e2 : (i * 6 + j) % 6 = j := by omega
  simp only [prK, e1, e2]
--@tbl pours = impl.pours
theorem l2Pours_ok (R : List Int) (hR : R.length = 24) (hr : rackB R = true) : FreshP Try.prog 85 [.arr R] [] (PL R 36) ((PL R 36).length / 2) 2 44 false .one := by
  have tkR : R.take 24 = R := List.take_of_length_le (by omega)
  refine fresh_of_vc (X := ⟨Try.prog, tys, [(144, l2Can_F)], [], true, true, 0, [], []⟩) fn_85 ⟨tys_ok, (.cons l2Can_T .nil), .nil, mixed⟩ (n0 := 0) rfl (Nat.le_of_ble_eq_true rfl) (by simp [wfL, SV.wf]) (wfH_spec (by simp [wfH, SObj.wf])) (Nat.le_refl _) ?_
  simp -implicitDefEqProofs only [Try.f85, Option.getD_some, argS, l2Can_F, hR, hr, tkR, ZB, Int.reduceToNat, Nat.reduceLT, Nat.reduceLeDiff, Int.reduceLE, Int.reduceLT, Nat.reduceEqDiff, Nat.reduceSub, SB, SV.known, packR, ne_eq, reduceCtorEq, Nat.reduceEqDiff, ↓reduceIte, if_true, if_false, eq_self, Nat.reduceAdd, Nat.reduceMul, Nat.reduceSub, forall_const, oneCellS, litOne, flat1, Kd.isSca, flat, TYB]
  refine loop_intro (fun s : Nat × Nat × Nat × List Int => [(1, .ptr 0 0), (3, .slice 1 0 s.2.1 s.2.2.1), (4, .int s.1)]) (fun s => [(1, .ints (PL R (s.1 * 6) ++ s.2.2.2) 44), (0, .ints R 27)]) 2
    (fun s => s.1 ≤ 6 ∧ (PL R (s.1 * 6)).length = s.2.1 * 2 ∧ s.2.1 ≤ 37 ∧ s.2.1 ≤ s.1 * 6 ∧ s.2.2.2.length + s.2.1 * 2 = s.2.2.1 * 2) (fun s => 6 - s.1) ?_ ?_
  · refine ⟨(0, 0, 0, []), ⟨by omega, by simp [PL_zero], by simp, by simp, by simp⟩, Sub.mk_id ?_ ?_ ?_ ?_ ?_⟩
    all_goals simp only [Nat.zero_mul, PL_zero, List.append_nil, LB, subS, subH, wfS, wfH, SV.ren, renL, SObj.ren, SV.wf, SObj.wf, wfL, SV.known, Nat.reduceEqDiff, ↓reduceIte, if_true, if_false, eq_self, Nat.reduceAdd, Nat.reduceLT, Nat.reduceLeDiff, implies_true, reduceCtorEq, forall_const]
    all_goals (try simp)
  · rintro ⟨i, n, cap, junk⟩ ⟨hi, hL, hn, hni, hj⟩
    simp only at hi hL hn hni hj
    simp -implicitDefEqProofs only [lk_normal, l2Can_F, hR, hr, ZB, Int.reduceToNat, Nat.reduceLT, Nat.reduceLeDiff, Int.reduceLE, Int.reduceLT, Nat.reduceEqDiff, Nat.reduceSub, SB, SV.known, packR, ne_eq, reduceCtorEq, Nat.reduceEqDiff, ↓reduceIte, if_true, if_false, eq_self, Nat.reduceAdd, Nat.reduceMul, Nat.reduceSub, forall_const, oneCellS, litOne, flat1, Kd.isSca, flat, TYB]
    refine ⟨fun h => ?_, fun h => ?_⟩
    · have hi6 : i < 6 := by omega
      refine loop_intro (fun s : Nat × Nat × Nat × List Int => [(1, .ptr 0 0), (3, .slice 1 0 s.2.1 s.2.2.1), (4, .int i), (5, .int s.1)]) (fun s => [(1, .ints (PL R (i * 6 + s.1) ++ s.2.2.2) 44), (0, .ints R 27)]) 2
        (fun s => s.1 ≤ 6 ∧ (PL R (i * 6 + s.1)).length = s.2.1 * 2 ∧ s.2.1 ≤ 37 ∧ s.2.1 ≤ i * 6 + s.1 ∧ s.2.2.2.length + s.2.1 * 2 = s.2.2.1 * 2) (fun s => 6 - s.1) ?_ ?_
      · refine ⟨(0, n, cap, junk), ⟨by simp, by simpa using hL, by simpa using hn, by simpa using hni, by simpa using hj⟩, Sub.mk_id ?_ ?_ ?_ ?_ ?_⟩
        all_goals simp only [Nat.add_zero, LB, subS, subH, wfS, wfH, SV.ren, renL, SObj.ren, SV.wf, SObj.wf, wfL, SV.known, Nat.reduceEqDiff, ↓reduceIte, if_true, if_false, eq_self, Nat.reduceAdd, Nat.reduceLT, Nat.reduceLeDiff, implies_true, reduceCtorEq, forall_const]
        all_goals (try simp)
      · rintro ⟨j, n, cap, junk⟩ ⟨gj, gL, gn, gni, gk⟩
        simp only at gj gL gn gni gk
        have es := fun hj => PL_at R i j hj
        have e6 : (i + 1) * 6 = i * 6 + 6 := by omega
        have tkL : (PL R (i * 6 + j) ++ junk).take (n * 2) = PL R (i * 6 + j) := List.take_left' gL
        have lenL : (PL R (i * 6 + j) ++ junk).length = cap * 2 := by rw [List.length_append]; omega
        cases hc : canF R (i : Int) (j : Int) with
        | false =>
          simp -implicitDefEqProofs only [lk_normal, l2Can_F, hR, hr, tkR, hc, ZB, Int.reduceToNat, Nat.reduceLT, Nat.reduceLeDiff, Int.reduceLE, Int.reduceLT, Nat.reduceEqDiff, Nat.reduceSub, SB, SV.known, packR, ne_eq, reduceCtorEq, Nat.reduceEqDiff, ↓reduceIte, if_true, if_false, eq_self, Nat.reduceAdd, Nat.reduceMul, Nat.reduceSub, forall_const, oneCellS, litOne, flat1, Kd.isSca, flat, TYB]
          refine ⟨fun hx => ?_, fun hx => ?_⟩
          · have e1 := es (by omega)
            rw [hc] at e1
            simp only [Bool.false_eq_true, if_false, List.append_nil] at e1
            (try (and_intros <;> try (first | omega | (unfold In64; omega) | trivial | assumption)))
            refine ⟨(j + 1, n, cap, junk), ⟨by simp only; omega, by simp only [← Nat.add_assoc]; rw [e1]; exact gL, by simp only; omega, by simp only; omega, by simp only; omega⟩, by simp only; omega, Sub.mk_id ?_ ?_ ?_ ?_ ?_⟩
            all_goals simp only [← Nat.add_assoc, e1, LB, subS, subH, wfS, wfH, SV.ren, renL, SObj.ren, SV.wf, SObj.wf, wfL, SV.known, Nat.reduceEqDiff, ↓reduceIte, if_true, if_false, eq_self, Nat.reduceAdd, Nat.reduceLT, Nat.reduceLeDiff, implies_true, reduceCtorEq, forall_const]
            all_goals (try simp)
          · have hj6 : j = 6 := by omega
            subst hj6
            (try (and_intros <;> try (first | omega | (unfold In64; omega) | trivial | assumption)))
            refine ⟨(i + 1, n, cap, junk), ⟨by simp only; omega, by simp only; rw [e6]; exact gL, by simp only; omega, by simp only; omega, by simp only; omega⟩, by simp only; omega, Sub.mk_id ?_ ?_ ?_ ?_ ?_⟩
            all_goals simp only [e6, LB, subS, subH, wfS, wfH, SV.ren, renL, SObj.ren, SV.wf, SObj.wf, wfL, SV.known, Nat.reduceEqDiff, ↓reduceIte, if_true, if_false, eq_self, Nat.reduceAdd, Nat.reduceLT, Nat.reduceLeDiff, implies_true, reduceCtorEq, forall_const]
            all_goals (try simp)
        | true =>
          simp -implicitDefEqProofs only [lk_normal, l2Can_F, hR, hr, tkR, hc, tkL, lenL, ZB, Int.reduceToNat, Nat.reduceLT, Nat.reduceLeDiff, Int.reduceLE, Int.reduceLT, Nat.reduceEqDiff, Nat.reduceSub, SB, SV.known, packR, ne_eq, reduceCtorEq, Nat.reduceEqDiff, ↓reduceIte, if_true, if_false, eq_self, Nat.reduceAdd, Nat.reduceMul, Nat.reduceSub, forall_const, oneCellS, litOne, flat1, Kd.isSca, flat, TYB]
          refine ⟨fun hx => ?_, fun hx => ?_⟩
          · have e1 := es (by omega)
            rw [hc] at e1
            simp only [if_true] at e1
            (try (and_intros <;> try (first | omega | (unfold In64; omega) | trivial | assumption)))
            intro junk' cap' hj'
            (try (and_intros <;> try (first | omega | (unfold In64; omega) | trivial | assumption)))
            refine ⟨(j + 1, n + 1, cap', junk'), ⟨by simp only; omega, by simp only [← Nat.add_assoc]; rw [e1, List.length_append, gL]; simp; omega, by simp only; omega, by simp only; omega, by simp only; omega⟩, by simp only; omega, Sub.mk_to 1 3 ?_ ?_ ?_ ?_ ?_ ?_ ?_⟩
            all_goals simp only [← Nat.add_assoc, e1, LB, subS, subH, wfS, wfH, SV.ren, renL, SObj.ren, SV.wf, SObj.wf, wfL, SV.known, Nat.reduceEqDiff, ↓reduceIte, if_true, if_false, eq_self, Nat.reduceAdd, Nat.reduceLT, Nat.reduceLeDiff, implies_true, reduceCtorEq, forall_const]
            all_goals (try simp)
          · have hj6 : j = 6 := by omega
            subst hj6
            (try (and_intros <;> try (first | omega | (unfold In64; omega) | trivial | assumption)))
            refine ⟨(i + 1, n, cap, junk), ⟨by simp only; omega, by simp only; rw [e6]; exact gL, by simp only; omega, by simp only; omega, by simp only; omega⟩, by simp only; omega, Sub.mk_id ?_ ?_ ?_ ?_ ?_⟩
            all_goals simp only [e6, LB, subS, subH, wfS, wfH, SV.ren, renL, SObj.ren, SV.wf, SObj.wf, wfL, SV.known, Nat.reduceEqDiff, ↓reduceIte, if_true, if_false, eq_self, Nat.reduceAdd, Nat.reduceLT, Nat.reduceLeDiff, implies_true, reduceCtorEq, forall_const]
            all_goals (try simp)
    · obtain rfl : i = 6 := by omega
      have hL' : (PL R 36).length = n * 2 := hL
      refine .inr ⟨1, cap, junk, ?_, ?_, by omega, ?_, ?_⟩
      · rw [hL']; simp [Wrap.ap]
      · simp [hget_cons]
      · omega
      · intro h0; cases h0
def pmN (R : List Int) (i j : Nat) : Int := min (topF (tubeAt R i)).2 (4 - (layN (tubeAt R j) : Int))
def pmR (R : List Int) (i j : Nat) : Nat → List Int
  | 0 => R
  | k + 1 => ((pmR R i j k).set (i * 4 + (layN (tubeAt R i) - 1 - k)) 0).set (j * 4 + (layN (tubeAt R j) + k)) (topF (tubeAt R i)).1
theorem pmR_len (R : List Int) (i j : Nat) : ∀ k, (pmR R i j k).length = R.length
  | 0 => rfl
  | k + 1 => by simp [pmR, pmR_len R i j k]
theorem topF_le (t : List Int) (ht : t.length = 4) : 0 ≤ (topF t).2 ∧ (topF t).2 ≤ layN t := by
  rcases Nat.eq_zero_or_pos (layN t) with h0 | h0
  · have : topF t = (0, 0) := by simp [topF, runsL, h0]
    rw [this]; simp
  · obtain ⟨r, h1, h2⟩ := topF_run t ht h0
    have := h2.2.1
    rw [h1]
    simp only
    omega
def pourF (R : List Int) (i j : Nat) : List Int := pmR R i j (pmN R i j).toNat
--@tbl pour = impl.pour
theorem pour_ok (R : List Int) (i j : Int) (hR : R.length = 24) (hi : 0 ≤ i ∧ i ≤ 5) (hj : 0 ≤ j ∧ j ≤ 5) : PureH Try.prog 71 [.arr R, .int i, .int j] [] (.tup [.arr (pourF R i.toNat j.toNat), .int (pmN R i.toNat j.toNat)]) := by
  obtain ⟨a, rfl⟩ := Int.eq_ofNat_of_zero_le hi.1
  obtain ⟨b, rfl⟩ := Int.eq_ofNat_of_zero_le hj.1
  have hli := tubeAt_len hR (i := a) (by omega)
  have hlj := tubeAt_len hR (i := b) (by omega)
  have ei : List.take 4 (List.drop (a * 4) R) = tubeAt R a := rfl
  have ej : List.take 4 (List.drop (b * 4) R) = tubeAt R b := rfl
  have en : min (topF (tubeAt R a)).2 (4 - (layN (tubeAt R b) : Int)) = pmN R a b := rfl
  have tle := topF_le _ hli
  have l1 := lay_le _ hli
  have l2 := lay_le _ hlj
  refine pure_of_vc (X := ⟨Try.prog, tys, [(137, top_F), (133, layers_F)], [], true, true, 0, [], []⟩) fn_71 ⟨tys_ok, (.cons top_T (.cons layers_T .nil)), .nil, mixed⟩ (n0 := 0) (Nat.le_of_ble_eq_true rfl) (by simp [wfL, SV.wf]) (wfH_spec (by simp [wfH, SObj.wf])) (Nat.le_refl _) (fun _ => by simp [SV.wf, wfL]) ?_
  simp -implicitDefEqProofs only [Try.f71, Option.getD_some, argS, top_F, layers_F, hR, ei, ej, hli, hlj, en, ZB, Int.reduceToNat, Nat.reduceLT, Nat.reduceLeDiff, Int.reduceLE, Int.reduceLT, Nat.reduceEqDiff, Nat.reduceSub, SB, SV.known, packR, ne_eq, reduceCtorEq, Nat.reduceEqDiff, ↓reduceIte, if_true, if_false, eq_self, Nat.reduceAdd, Nat.reduceMul, Nat.reduceSub, forall_const, oneCellS, litOne, flat1, Kd.isSca, flat, TYB]
  (try (and_intros <;> try (first | omega | (unfold In64; omega) | trivial | assumption)))
  have hmn : pmN R a b ≤ (topF (tubeAt R a)).2 ∧ pmN R a b ≤ 4 - (layN (tubeAt R b) : Int) ∧ 0 ≤ pmN R a b := by unfold pmN; omega
  have tkP : ∀ k, (pmR R a b k).take 24 = pmR R a b k := fun k => List.take_of_length_le (by rw [pmR_len]; omega)
  have lenP : ∀ k, (pmR R a b k).length = 24 := fun k => by rw [pmR_len, hR]
  refine loop_intro (fun k : Nat => [(1, .int a), (2, .int b), (3, .ptr 0 0), (6, .ptr 1 0), (8, .int (topF (tubeAt R a)).1), (10, .int (layN (tubeAt R a))), (11, .int (layN (tubeAt R b))), (9, .int (pmN R a b)), (35, .int (pmN R a b)), (36, .int k)]) (fun k => [(0, .ints (pmR R a b k) 27), (1, .ints (List.replicate 24 0) 27)]) 2 (fun k => (k : Int) ≤ pmN R a b) (fun k => (pmN R a b).toNat - k) ?_ ?_
  · refine ⟨0, by simpa using hmn.2.2, Sub.mk_id ?_ ?_ ?_ ?_ ?_⟩
    all_goals simp only [pmR, LB, subS, subH, wfS, wfH, SV.ren, renL, SObj.ren, SV.wf, SObj.wf, wfL, SV.known, Nat.reduceEqDiff, ↓reduceIte, if_true, if_false, eq_self, Nat.reduceAdd, Nat.reduceLT, Nat.reduceLeDiff, implies_true, reduceCtorEq, forall_const]
    all_goals (try simp)
  · intro k hk
    by_cases hkn : (k : Int) < pmN R a b
    · have e1 : ((layN (tubeAt R a) : Int) - 1 - k).toNat = layN (tubeAt R a) - 1 - k := by omega
      have e2 : ((layN (tubeAt R b) : Int) + k).toNat = layN (tubeAt R b) + k := by omega
      simp -implicitDefEqProofs only [lk_normal, top_F, layers_F, hR, lenP, e1, e2, ZB, Int.reduceToNat, Nat.reduceLT, Nat.reduceLeDiff, Int.reduceLE, Int.reduceLT, Nat.reduceEqDiff, Nat.reduceSub, SB, SV.known, packR, ne_eq, reduceCtorEq, Nat.reduceEqDiff, ↓reduceIte, if_true, if_false, eq_self, Nat.reduceAdd, Nat.reduceMul, Nat.reduceSub, forall_const, oneCellS, litOne, flat1, Kd.isSca, flat, TYB]
      refine ⟨fun _ => ?_, fun hx => absurd hkn hx⟩
      (try (and_intros <;> try (first | omega | (unfold In64; omega) | trivial | assumption)))
      refine ⟨k + 1, by omega, by omega, Sub.mk_id ?_ ?_ ?_ ?_ ?_⟩
      all_goals simp only [pmR, LB, subS, subH, wfS, wfH, SV.ren, renL, SObj.ren, SV.wf, SObj.wf, wfL, SV.known, Nat.reduceEqDiff, ↓reduceIte, if_true, if_false, eq_self, Nat.reduceAdd, Nat.reduceLT, Nat.reduceLeDiff, implies_true, reduceCtorEq, forall_const]
      all_goals (try simp)
    · have hke : (k : Int) = pmN R a b := by omega
      simp -implicitDefEqProofs only [lk_normal, top_F, layers_F, hR, lenP, tkP, ZB, Int.reduceToNat, Nat.reduceLT, Nat.reduceLeDiff, Int.reduceLE, Int.reduceLT, Nat.reduceEqDiff, Nat.reduceSub, SB, SV.known, packR, ne_eq, reduceCtorEq, Nat.reduceEqDiff, ↓reduceIte, if_true, if_false, eq_self, Nat.reduceAdd, Nat.reduceMul, Nat.reduceSub, forall_const, oneCellS, litOne, flat1, Kd.isSca, flat, TYB]
      refine ⟨fun hx => absurd hx hkn, fun _ => ?_⟩
      have hkk : (pmN R a b).toNat = k := by omega
      unfold pourF
      rw [hkk]
def pour_F : List SV → Heap → Option (Prop × SV)
  | [.arr R, .int i, .int j], _ => some (R.length = 24 ∧ (0 ≤ i ∧ i ≤ 5) ∧ (0 ≤ j ∧ j ≤ 5), .tup [.arr (pourF R i.toNat j.toNat), .int (pmN R i.toNat j.toNat)])
  | _, _ => none
theorem pour_T : ∀ args H p v, pour_F args H = some (p, v) → p → PureH Try.prog 71 args H v := by
  intro args H p v h hp
  unfold pour_F at h
  split at h
  · cases h; exact (pour_ok _ _ _ hp.1 hp.2.1 hp.2.2).any _
  · cases h
--@tbl l2Pour = spec.l2Pour
--@tbl l1Least = spec.l1Least
theorem l1Least_ok (a b : Int) : PureH Try.prog 139 [.int a, .int b] [] (.int (min a b)) := by
  refine pure_of_vc (X := ⟨Try.prog, tys, [], [], true, true, 0, [], []⟩) fn_139 ⟨tys_ok, .nil, .nil, mixed⟩ (n0 := 0) (Nat.le_of_ble_eq_true rfl) (by simp [wfL, SV.wf]) (wfH_spec (by simp [wfH, SObj.wf])) (Nat.le_refl _) (fun _ => by simp [SV.wf, wfL]) ?_
  simp -implicitDefEqProofs only [Try.f139, Option.getD_some, argS, ZB, Int.reduceToNat, Nat.reduceLT, Nat.reduceLeDiff, Int.reduceLE, Int.reduceLT, Nat.reduceEqDiff, Nat.reduceSub, SB, SV.known, packR, ne_eq, reduceCtorEq, Nat.reduceEqDiff, ↓reduceIte, if_true, if_false, eq_self, Nat.reduceAdd, Nat.reduceMul, Nat.reduceSub, forall_const, oneCellS, litOne, flat1, Kd.isSca, flat, TYB]
  constructor <;> intro h <;> omega
def l1Least_F : List SV → Heap → Option (Prop × SV)
  | [.int a, .int b], _ => some (True, .int (min a b))
  | _, _ => none
theorem l1Least_T : ∀ args H p v, l1Least_F args H = some (p, v) → p → PureH Try.prog 139 args H v := by
  intro args H p v h hp
  unfold l1Least_F at h
  split at h
  · cases h; exact (l1Least_ok _ _).any _
  · cases h
end Go.Proofs.Ytopfnkmlgcjpbaa
set_option maxRecDepth 100000
set_option linter.unusedSimpArgs false
set_option linter.unusedVariables false
namespace Go.Proofs.Ytopfnkmlgcjpbaa
open Go Go.RowKit

end Go.Proofs.Ytopfnkmlgcjpbaa
set_option maxRecDepth 100000
set_option linter.unusedSimpArgs false
set_option linter.unusedVariables false
namespace Go.Proofs.Ytopfnkmlgcjpbaa
open Go Go.RowKit
theorem l1Most_ok (a b : Int) : PureH Try.prog 145 [.int a, .int b] [] (.int (max a b)) := by
  refine pure_of_vc (X := ⟨Try.prog, tys, [], [], true, true, 0, [], []⟩) fn_145 ⟨tys_ok, .nil, .nil, mixed⟩ (n0 := 0) (Nat.le_of_ble_eq_true rfl) (by simp [wfL, SV.wf]) (wfH_spec (by simp [wfH, SObj.wf])) (Nat.le_refl _) (fun _ => by simp [SV.wf, wfL]) ?_
  simp -implicitDefEqProofs only [Try.f145, Option.getD_some, argS, ZB, Int.reduceToNat, Nat.reduceLT, Nat.reduceLeDiff, Int.reduceLE, Int.reduceLT, Nat.reduceEqDiff, Nat.reduceSub, SB, SV.known, packR, ne_eq, reduceCtorEq, Nat.reduceEqDiff, ↓reduceIte, if_true, if_false, eq_self, Nat.reduceAdd, Nat.reduceMul, Nat.reduceSub, forall_const, oneCellS, litOne, flat1, Kd.isSca, flat, TYB]
  constructor <;> intro h <;> omega
def l1Most_F : List SV → Heap → Option (Prop × SV)
  | [.int a, .int b], _ => some (True, .int (max a b))
  | _, _ => none
theorem l1Most_T : ∀ args H p v, l1Most_F args H = some (p, v) → p → PureH Try.prog 145 args H v := by
  intro args H p v h hp
  unfold l1Most_F at h
  split at h
  · cases h; exact (l1Most_ok _ _).any _
  · cases h
--@tbl l7Cut = spec.l7Cut
--@tbl isPlace = impl.isPlace
--@tbl l2Place = spec.l2Place
--@tbl isColor = impl.isColor
def plF (i : Int) : Bool := decide (0 ≤ i ∧ i ≤ 5)
theorem isPlace_ok (i : Int) : PureH Try.prog 97 [.int i] [] (.bool (plF i)) := by
  refine pure_of_vc (X := ⟨Try.prog, tys, [(108, within_F)], [], true, true, 0, [], []⟩) fn_97 ⟨tys_ok, (.cons within_T .nil), .nil, mixed⟩ (n0 := 0) (Nat.le_of_ble_eq_true rfl) (by simp [wfL, SV.wf]) (wfH_spec (by simp [wfH, SObj.wf])) (Nat.le_refl _) (fun _ => by simp [SV.wf, wfL]) ?_
  simp -implicitDefEqProofs only [Try.f97, Option.getD_some, argS, within_F, SB, SV.known, packR, ne_eq, reduceCtorEq, Nat.reduceEqDiff, ↓reduceIte, if_true, if_false, eq_self, Nat.reduceAdd, Nat.reduceMul, Nat.reduceSub, forall_const, oneCellS, litOne, flat1, Kd.isSca, flat, TYB]
  trivial
def isPlace_F : List SV → Heap → Option (Prop × SV)
  | [.int i], _ => some (True, .bool (plF i))
  | _, _ => none
theorem isPlace_T : ∀ args H p v, isPlace_F args H = some (p, v) → p → PureH Try.prog 97 args H v := by
  intro args H p v h hp
  unfold isPlace_F at h
  split at h
  · cases h; exact (isPlace_ok _).any _
  · cases h
theorem l2Place_ok (i : Int) : PureH Try.prog 101 [.int i] [] (.bool (plF i)) := by
  refine pure_of_vc (X := ⟨Try.prog, tys, [(120, l1In_F)], [], true, true, 0, [], []⟩) fn_101 ⟨tys_ok, (.cons l1In_T .nil), .nil, mixed⟩ (n0 := 0) (Nat.le_of_ble_eq_true rfl) (by simp [wfL, SV.wf]) (wfH_spec (by simp [wfH, SObj.wf])) (Nat.le_refl _) (fun _ => by simp [SV.wf, wfL]) ?_
  simp -implicitDefEqProofs only [Try.f101, Option.getD_some, argS, l1In_F, SB, SV.known, packR, ne_eq, reduceCtorEq, Nat.reduceEqDiff, ↓reduceIte, if_true, if_false, eq_self, Nat.reduceAdd, Nat.reduceMul, Nat.reduceSub, forall_const, oneCellS, litOne, flat1, Kd.isSca, flat, TYB]
  trivial
def l2Place_F : List SV → Heap → Option (Prop × SV)
  | [.int i], _ => some (True, .bool (plF i))
  | _, _ => none
theorem l2Place_T : ∀ args H p v, l2Place_F args H = some (p, v) → p → PureH Try.prog 101 args H v := by
  intro args H p v h hp
  unfold l2Place_F at h
  split at h
  · cases h; exact (l2Place_ok _).any _
  · cases h
end Go.Proofs.Ytopfnkmlgcjpbaa
set_option maxRecDepth 100000
set_option linter.unusedSimpArgs false
set_option linter.unusedVariables false
namespace Go.Proofs.Ytopfnkmlgcjpbaa
open Go Go.RowKit
--@tbl isAt = impl.isAt
--@tbl areAll_place = impl.areAll[int]
def areAll_place_F := areAllI_F [(97, plF)]
theorem areAll_place_T : ∀ args H p v, areAll_place_F args H = some (p, v) → p → PureH Try.prog 106 args H v :=
  areAllI_T (by intro q hq; simp at hq; rcases hq with rfl; exact isPlace_ok)
/-- isAt looks at the places behind a slice. -/
theorem isAt_ok (R L : List Int) (e off len cap : Nat) (hR : R.length = 24) (hl : off + len ≤ L.length) (hm : len ≤ 9223372036854775806) : PureH Try.prog 86 [.arr R, .slice 0 off len cap] [(0, .ints L e)] (.bool (rackB R && ((L.drop off).take len).all plF)) := by
  have tkR : R.take 24 = R := List.take_of_length_le (by omega)
  cases hr : rackB R
  · refine pure_of_vc (X := ⟨Try.prog, tys, [(11, IsRack_F), (106, areAll_place_F)], [], true, true, 1, [], []⟩) fn_86 ⟨tys_ok, (.cons IsRack_T (.cons areAll_place_T .nil)), .nil, mixed⟩ (n0 := 1) (Nat.le_of_ble_eq_true rfl) (by simp [wfL, SV.wf]) (wfH_spec (by simp [wfH, SObj.wf])) (Nat.le_refl _) (fun _ => by simp [SV.wf, wfL]) ?_
    simp -implicitDefEqProofs only [Try.f86, Option.getD_some, argS, IsRack_F, areAll_place_F, hR, tkR, hr, areAllI_F, ZB, Int.reduceToNat, Nat.reduceLT, Nat.reduceLeDiff, Int.reduceLE, Int.reduceLT, Nat.reduceEqDiff, Nat.reduceSub, SB, SV.known, packR, ne_eq, reduceCtorEq, Nat.reduceEqDiff, ↓reduceIte, if_true, if_false, eq_self, Nat.reduceAdd, Nat.reduceMul, Nat.reduceSub, forall_const, oneCellS, litOne, flat1, Kd.isSca, flat, TYB]
  · refine pure_of_vc (X := ⟨Try.prog, tys, [(11, IsRack_F), (106, areAll_place_F)], [], true, true, 1, [], []⟩) fn_86 ⟨tys_ok, (.cons IsRack_T (.cons areAll_place_T .nil)), .nil, mixed⟩ (n0 := 1) (Nat.le_of_ble_eq_true rfl) (by simp [wfL, SV.wf]) (wfH_spec (by simp [wfH, SObj.wf])) (Nat.le_refl _) (fun _ => by simp [SV.wf, wfL]) ?_
    simp -implicitDefEqProofs only [Try.f86, Option.getD_some, argS, IsRack_F, areAll_place_F, hR, tkR, hr, areAllI_F, ZB, Int.reduceToNat, Nat.reduceLT, Nat.reduceLeDiff, Int.reduceLE, Int.reduceLT, Nat.reduceEqDiff, Nat.reduceSub, SB, SV.known, packR, ne_eq, reduceCtorEq, Nat.reduceEqDiff, ↓reduceIte, if_true, if_false, eq_self, Nat.reduceAdd, Nat.reduceMul, Nat.reduceSub, forall_const, oneCellS, litOne, flat1, Kd.isSca, flat, TYB]
    exact ⟨hl, hm⟩
def isAt_F : List SV → Heap → Option (Prop × SV)
  | [.arr R, .slice b off len _], H => match hget H b with
    | some (.ints L _) => some (R.length = 24 ∧ off + len ≤ L.length ∧ len ≤ 9223372036854775806, .bool (rackB R && ((L.drop off).take len).all plF))
    | _ => none
  | _, _ => none
theorem isAt_T : ∀ args H p v, isAt_F args H = some (p, v) → p → PureH Try.prog 86 args H v := by
  intro args H p v h hp
  unfold isAt_F at h
  split at h
  · rename_i R b off len cap
    split at h
    · rename_i L e hb
      cases h
      exact one_block (isAt_ok R L e off len cap hp.1 hp.2.1 hp.2.2) hb rfl (fun _ => trivial)
    · cases h
  · cases h
end Go.Proofs.Ytopfnkmlgcjpbaa
set_option maxRecDepth 100000
set_option linter.unusedSimpArgs false
set_option linter.unusedVariables false
namespace Go.Proofs.Ytopfnkmlgcjpbaa
open Go Go.RowKit
theorem pl_bd {i : Int} (h : plF i = true) : 0 ≤ i ∧ i ≤ 5 := by simpa [plF] using h
end Go.Proofs.Ytopfnkmlgcjpbaa
set_option maxRecDepth 100000
set_option linter.unusedSimpArgs false
set_option linter.unusedVariables false
namespace Go.Proofs.Ytopfnkmlgcjpbaa
open Go Go.RowKit
def pourB (R : List Int) (i j : Int) : Bool := rackB R && plF i && plF j && canF R i j
def pourT (R : List Int) (i j : Int) : List Int := if pourB R i j = true then pourF R i.toNat j.toNat else List.replicate 24 0
def pourM (R : List Int) (i j : Int) : Int := if pourB R i j = true then pmN R i.toNat j.toNat else 0
theorem pourF_len {R : List Int} (hR : R.length = 24) (a b : Nat) : (pourF R a b).length = 24 := by unfold pourF; rw [pmR_len, hR]
theorem Pour_ok (R : List Int) (i j : Int) (hR : R.length = 24) : PureH Try.prog 23 [.arr R, .int i, .int j] [] (.tup [.arr (pourT R i j), .int (pourM R i j), .bool (pourB R i j)]) := by
  have tkR : R.take 24 = R := List.take_of_length_le (by omega)
  have r2 : List.replicate 2 (0 : Int) = [0, 0] := rfl
  have r24 : List.take 24 (List.replicate 24 (0 : Int)) = List.replicate 24 0 := rfl
  unfold pourT pourM pourB
  cases hr : rackB R <;> cases hi : plF i <;> cases hj : plF j
  case true.true.true =>
    have bi := pl_bd hi
    have bj := pl_bd hj
    have pl := pourF_len hR i.toNat j.toNat
    have tkP : (pourF R i.toNat j.toNat).take 24 = pourF R i.toNat j.toNat := List.take_of_length_le (by omega)
    cases hc : canF R i j
    all_goals
      refine pure_of_vc (X := ⟨Try.prog, tys, [(86, isAt_F), (87, canPour_F), (71, pour_F)], [], true, true, 0, [], []⟩) fn_23 ⟨tys_ok, (.cons isAt_T (.cons canPour_T (.cons pour_T .nil))), .nil, mixed⟩ (n0 := 0) (Nat.le_of_ble_eq_true rfl) (by simp [wfL, SV.wf]) (wfH_spec (by simp [wfH, SObj.wf])) (Nat.le_refl _) (fun _ => by simp [SV.wf, wfL]) ?_
      simp -implicitDefEqProofs only [Try.f23, Option.getD_some, argS, isAt_F, canPour_F, pour_F, hR, tkR, hr, hi, hj, hc, pl, tkP, r24, r2, List.set_cons_zero, List.set_cons_succ, List.drop_zero, List.all_cons, List.all_nil, ZB, Int.reduceToNat, Nat.reduceLT, Nat.reduceLeDiff, Int.reduceLE, Int.reduceLT, Nat.reduceEqDiff, Nat.reduceSub, SB, SV.known, packR, ne_eq, reduceCtorEq, Nat.reduceEqDiff, ↓reduceIte, if_true, if_false, eq_self, Nat.reduceAdd, Nat.reduceMul, Nat.reduceSub, forall_const, oneCellS, litOne, flat1, Kd.isSca, flat, TYB]
    all_goals
      (try (and_intros <;> try (first | omega | (unfold In64; omega) | trivial | assumption)))
  all_goals
    refine pure_of_vc (X := ⟨Try.prog, tys, [(86, isAt_F), (87, canPour_F), (71, pour_F)], [], true, true, 0, [], []⟩) fn_23 ⟨tys_ok, (.cons isAt_T (.cons canPour_T (.cons pour_T .nil))), .nil, mixed⟩ (n0 := 0) (Nat.le_of_ble_eq_true rfl) (by simp [wfL, SV.wf]) (wfH_spec (by simp [wfH, SObj.wf])) (Nat.le_refl _) (fun _ => by simp [SV.wf, wfL]) ?_
    simp -implicitDefEqProofs only [Try.f23, Option.getD_some, argS, isAt_F, canPour_F, pour_F, hR, tkR, hr, hi, hj, r24, r2, List.set_cons_zero, List.set_cons_succ, List.drop_zero, List.all_cons, List.all_nil, ZB, Int.reduceToNat, Nat.reduceLT, Nat.reduceLeDiff, Int.reduceLE, Int.reduceLT, Nat.reduceEqDiff, Nat.reduceSub, SB, SV.known, packR, ne_eq, reduceCtorEq, Nat.reduceEqDiff, ↓reduceIte, if_true, if_false, eq_self, Nat.reduceAdd, Nat.reduceMul, Nat.reduceSub, forall_const, oneCellS, litOne, flat1, Kd.isSca, flat, TYB]
def Pour_F : List SV → Heap → Option (Prop × SV)
  | [.arr R, .int i, .int j], _ => some (R.length = 24, .tup [.arr (pourT R i j), .int (pourM R i j), .bool (pourB R i j)])
  | _, _ => none
theorem Pour_T : ∀ args H p v, Pour_F args H = some (p, v) → p → PureH Try.prog 23 args H v := by
  intro args H p v h hp
  unfold Pour_F at h
  split at h
  · cases h; exact (Pour_ok _ _ _ hp).any _
  · cases h
end Go.Proofs.Ytopfnkmlgcjpbaa
set_option maxRecDepth 100000
set_option linter.unusedSimpArgs false
set_option linter.unusedVariables false
namespace Go.Proofs.Ytopfnkmlgcjpbaa
open Go Go.RowKit
theorem PL_bd (R : List Int) (m : Nat) (hm : m ≤ 36) : ∀ x ∈ PL R m, 0 ≤ x ∧ x ≤ 5 := by
  intro x hx
  unfold PL at hx
  obtain ⟨k, hk, hx⟩ := List.mem_flatMap.1 hx
  have := List.mem_range.1 hk
  unfold prK at hx
  split at hx
  · simp at hx; omega
  · simp at hx
theorem PL_even (R : List Int) : ∀ m, ∃ n, (PL R m).length = n * 2 ∧ n ≤ m
  | 0 => ⟨0, rfl, by omega⟩
  | m + 1 => by
    obtain ⟨n, h1, h2⟩ := PL_even R m
    rw [PL_succ, List.length_append, h1]
    unfold prK
    split
    · exact ⟨n + 1, by simp; omega, by omega⟩
    · exact ⟨n, by simp, by omega⟩
def l2Pours_F : List SV → Heap → Nat → Nat → K1 → Prop
  | [.arr R], H, n, _, κ => (R.length = 24 ∧ rackB R = true) ∧ freshK .one (PL R 36) ((PL R 36).length / 2) 2 44 false H n κ
  | _, _, _, _, _ => False
theorem l2Pours_T : ∀ args H n m κ, l2Pours_F args H n m κ → GenOK Try.prog 85 args H n m κ := by
  intro args H n m κ h
  unfold l2Pours_F at h
  split at h
  · exact gen_of_fresh (l2Pours_ok _ h.1.1 h.1.2) (fun k o hk => by cases hk) h.2
  · exact h.elim
theorem take2_drop (L : List Int) (o : Nat) (h : o + 2 ≤ L.length) : (L.drop o).take 2 = [L.getD o 0, L.getD (o + 1) 0] := by
  rw [List.drop_eq_getElem_cons (show o < L.length by omega), List.drop_eq_getElem_cons (show o + 1 < L.length by omega)]
  simp only [List.getD, List.getElem?_eq_getElem (show o < L.length by omega), List.getElem?_eq_getElem (show o + 1 < L.length by omega), Option.getD_some, List.take_succ_cons, List.take_zero]
--@tbl MostPoured = impl.MostPoured
--@tbl sMostPoured = spec.MostPoured
end Go.Proofs.Ytopfnkmlgcjpbaa
set_option maxRecDepth 100000
set_option linter.unusedSimpArgs false
set_option linter.unusedVariables false
namespace Go.Proofs.Ytopfnkmlgcjpbaa
open Go Go.RowKit
def besF (l : List Int) : Int := (l.map fun n => max (n - 1) 0).sum
end Go.Proofs.Ytopfnkmlgcjpbaa
set_option maxRecDepth 100000
set_option linter.unusedSimpArgs false
set_option linter.unusedVariables false
namespace Go.Proofs.Ytopfnkmlgcjpbaa
open Go Go.RowKit

--@tbl eqIntA3 = laws.eqIntA3
--@tbl eqIntA4 = laws.eqIntA4
--@tbl eqIntA5 = laws.eqIntA5
--@tbl eqIntA6 = laws.eqIntA6
--@tbl eqIntA4A6 = laws.eqIntA4A6
--@tbl eqRack = laws.eqRack
--@tbl eqView = laws.eqView
--@tbl toSource = laws.toSource
end Go.Proofs.Ytopfnkmlgcjpbaa
set_option maxRecDepth 100000
set_option linter.unusedSimpArgs false
set_option linter.unusedVariables false
namespace Go.Proofs.Ytopfnkmlgcjpbaa
open Go Go.RowKit
theorem tube_cells {t : List Int} (ht : t.length = 4) (hb : tubeB t = true) : (∀ b, b < layN t → 1 ≤ t.getD b 0 ∧ t.getD b 0 ≤ 5) ∧ (∀ b, layN t ≤ b → t.getD b 0 = 0) := by
  have hle := lay_le t ht
  unfold tubeB at hb
  simp only [Bool.and_eq_true] at hb
  constructor
  · intro b hbn
    have hlt : b < t.length := by omega
    have := List.all_eq_true.1 hb.1 (t.getD b 0) (by
      simp only [List.getD, List.getElem?_eq_getElem hlt, Option.getD_some]
      exact List.mem_take_iff_getElem.2 ⟨b, by omega, rfl⟩)
    simpa [coT] using this
  · intro b hbn
    rcases Nat.lt_or_ge b 4 with h4 | h4
    · have hlt : b < t.length := by omega
      have := List.all_eq_true.1 hb.2 (t.getD b 0) (by
        simp only [List.getD, List.getElem?_eq_getElem hlt, Option.getD_some]
        exact List.mem_drop_iff_getElem.2 ⟨b - layN t, by omega, by congr 1; omega⟩)
      simpa [is0] using this
    · simp [List.getD, List.getElem?_eq_none (show t.length ≤ b by omega)]
theorem tube_of {t : List Int} (ht : t.length = 4) {n : Nat} (hn : n ≤ 4) (h1 : ∀ b, b < n → 1 ≤ t.getD b 0 ∧ t.getD b 0 ≤ 5) (h2 : ∀ b, n ≤ b → b < 4 → t.getD b 0 = 0) : tubeB t = true ∧ layN t = n := by
  have hl : layN t = n := by
    unfold layN
    rcases Nat.lt_or_ge n 4 with h4 | h4
    · have : t.findIdx? isZ0 = some n := by
        rw [List.findIdx?_eq_some_iff_getElem]
        refine ⟨by omega, ?_, fun j hj => ?_⟩
        · have := h2 n (by omega) h4
          simp only [List.getD, List.getElem?_eq_getElem (show n < t.length by omega), Option.getD_some] at this
          simp [isZ0, this]
        · have := h1 j hj
          simp only [List.getD, List.getElem?_eq_getElem (show j < t.length by omega), Option.getD_some] at this
          simp [isZ0]; omega
      rw [this]; rfl
    · have : t.findIdx? isZ0 = none := by
        rw [List.findIdx?_eq_none_iff]
        intro x hx
        obtain ⟨k, hk, rfl⟩ := List.getElem_of_mem hx
        have := h1 k (by omega)
        simp only [List.getD, List.getElem?_eq_getElem hk, Option.getD_some] at this
        simp [isZ0]; omega
      rw [this]
      simp; omega
  refine ⟨?_, hl⟩
  unfold tubeB
  rw [hl]
  simp only [Bool.and_eq_true]
  constructor
  · rw [List.all_eq_true]
    intro x hx
    obtain ⟨k, hk, rfl⟩ := List.mem_take_iff_getElem.1 hx
    have := h1 k (by omega)
    simp only [List.getD, List.getElem?_eq_getElem (show k < t.length by omega), Option.getD_some] at this
    simpa [coT] using this
  · rw [List.all_eq_true]
    intro x hx
    obtain ⟨k, hk, rfl⟩ := List.mem_drop_iff_getElem.1 hx
    have := h2 (n + k) (by omega) (by omega)
    simp only [List.getD, List.getElem?_eq_getElem (show n + k < t.length by omega), Option.getD_some] at this
    simpa [is0] using this
theorem rack_tubes {R : List Int} : rackB R = true ↔ ∀ i, i < 6 → tubeB (tubeAt R i) = true := by
  unfold rackB tubesOf tubeAt
  simp only [List.all_map, List.all_eq_true, List.mem_range, Function.comp, Nat.zero_add]
theorem tubeAt_getD (R : List Int) (i k : Nat) (h : k < 4) : (tubeAt R i).getD k 0 = R.getD (i * 4 + k) 0 := cut_getD R i k h
theorem tubeAt_ext {R R' : List Int} {i j : Nat} (h1 : (tubeAt R i).length = 4) (h2 : (tubeAt R' j).length = 4) (h : ∀ k, k < 4 → R.getD (i * 4 + k) 0 = R'.getD (j * 4 + k) 0) : tubeAt R i = tubeAt R' j := by
  apply List.ext_getElem (by omega)
  intro k hk1 hk2
  have e1 := tubeAt_getD R i k (by omega)
  have e2 := tubeAt_getD R' j k (by omega)
  have := h k (by omega)
  simp only [List.getD, List.getElem?_eq_getElem hk1, List.getElem?_eq_getElem hk2, Option.getD_some] at e1 e2 this
  rw [e1, e2]; exact this
theorem getD_set' (L : List Int) (a b : Nat) (x : Int) (h : a < L.length) : (L.set a x).getD b 0 = if a = b then x else L.getD b 0 := by
  simp only [List.getD, List.getElem?_set]
  split
  · simp [h]
  · rfl
/-- The cells of a rack behind some moved layers. -/
theorem pmR_cell {R : List Int} (hR : R.length = 24) {i j : Nat} (hi : i < 6) (hj : j < 6) (hij : i ≠ j) : ∀ m, m ≤ layN (tubeAt R i) → m + layN (tubeAt R j) ≤ 4 → ∀ a b, a < 6 → b < 4 →
    (pmR R i j m).getD (a * 4 + b) 0 = if a = i ∧ layN (tubeAt R i) - m ≤ b ∧ b < layN (tubeAt R i) then 0 else if a = j ∧ layN (tubeAt R j) ≤ b ∧ b < layN (tubeAt R j) + m then (topF (tubeAt R i)).1 else R.getD (a * 4 + b) 0
  | 0, _, _, a, b, _, _ => by
    simp only [pmR]
    rw [if_neg (by omega), if_neg (by omega)]
  | m + 1, hm, hm2, a, b, ha, hb => by
    have hli := lay_le _ (tubeAt_len hR hi)
    have hlj := lay_le _ (tubeAt_len hR hj)
    have ih := pmR_cell hR hi hj hij m (by omega) (by omega) a b ha hb
    simp only [pmR]
    rw [getD_set' _ _ _ _ (by rw [List.length_set, pmR_len]; omega), getD_set' _ _ _ _ (by rw [pmR_len]; omega), ih]
    by_cases h1 : j * 4 + (layN (tubeAt R j) + m) = a * 4 + b
    · have haj : a = j := by omega
      subst haj
      rw [if_pos h1, if_neg (by omega), if_pos (by omega)]
    · rw [if_neg h1]
      by_cases h2 : i * 4 + (layN (tubeAt R i) - 1 - m) = a * 4 + b
      · have hai : a = i := by omega
        subst hai
        rw [if_pos h2, if_pos (by omega)]
      · rw [if_neg h2]
        by_cases h3 : a = i ∧ layN (tubeAt R i) - m ≤ b ∧ b < layN (tubeAt R i)
        · rw [if_pos h3, if_pos (by omega)]
        · rw [if_neg h3]
          by_cases h4 : a = i ∧ layN (tubeAt R i) - (m + 1) ≤ b ∧ b < layN (tubeAt R i)
          · omega
          · rw [if_neg h4]
            by_cases h5 : a = j ∧ layN (tubeAt R j) ≤ b ∧ b < layN (tubeAt R j) + m
            · rw [if_pos h5, if_pos (by omega)]
            · rw [if_neg h5, if_neg (by omega)]
end Go.Proofs.Ytopfnkmlgcjpbaa
set_option maxRecDepth 100000
set_option linter.unusedSimpArgs false
set_option linter.unusedVariables false
namespace Go.Proofs.Ytopfnkmlgcjpbaa
open Go Go.RowKit
def sumT (f : List Int → Int) (R : List Int) (k : Nat) : Int := ((List.range k).map fun i => f (tubeAt R i)).sum
def crN (t : List Int) : Int := ((runsL t).length / 2 : Nat)
def cbN (t : List Int) : Int := max (crN t - 1) 0
/-! Counts. -/
def incr (L : List Int) (j : Nat) : List Int := L.set j (L.getD j 0 + 1)
def cntL (l : List Int) : List Int := l.foldl (fun c x => incr c x.toNat) (List.replicate 6 0)
def botL (R : List Int) : List Int := (List.range 6).map fun i => R.getD (i * 4) 0
/-! The bound. -/
def bndF (R : List Int) : Int := sumT cbN R 6 + besF ((cntL (botL R)).drop 1)
/-! The model's boundaries. -/
end Go.Proofs.Ytopfnkmlgcjpbaa
set_option maxRecDepth 100000
set_option linter.unusedSimpArgs false
set_option linter.unusedVariables false
namespace Go.Proofs.Ytopfnkmlgcjpbaa
open Go Go.RowKit

structure UpdP (P : Program) (f : FuncId) (args : List SV) (b : Nat) (H0 : Heap) (o o' : SObj) (r : SV) : Prop where
  ent : Entd P f
  lo : o.live = true
  wo : ∀ n, o'.wf n
  call : ∀ B w, HR B ((b, o) :: H0) w → Calls P f (denL B args).toArray w fun e w' => e = .returned (r.den B) ∧ Kept (fun i => i = B b ∨ w.heap.size ≤ i) w w' ∧ w'.heap[B b]? = some (o'.den B)

theorem upd_of_vc {X : Cx} {f : FuncId} {fn : Func} {c : Code} (hf : FnOK X.P f fn c X.sx X.hr) (hX : CxOK X) {n0 b : Nat} {args : List SV} {H0 : Heap} {o o' : SObj} {r : SV} (hb : b < n0) (hN : args.length ≤ fn.ntmps) (hwa : wfL n0 args) (hwH : hwf n0 ((b, o) :: H0)) (hm : ∀ k o1, hget H0 k = some o1 → k < X.m) (hlo : o.live = true) (hlo' : o'.live = true) (hwo : ∀ n, o'.wf n) (hwr : r.wf n0)
    (h : codeVC X n0 c (argS 0 args) ((b, o) :: H0) n0 (retK X.τ fn.results.toList fun v H' _ => v = r ∧ hget H' b = some o')) (hfo' : o'.full = true := by rfl) : UpdP X.P f args b H0 o o' r := by
  refine ⟨hf.ent, hlo, hwo, fun B w hH => ?_⟩
  have hown : Own (fun i => i = B b ∨ w.heap.size ≤ i) X.m B ((b, o) :: H0) := by
    intro k o1 hl _ hmk
    rw [hget_cons] at hl
    split at hl
    · rename_i hkb; subst hkb; exact .inl rfl
    · have := hm k o1 hl; omega
  refine (run_of_vc hf hX hN hwa hwH (Nat.le_refl _) h B (fun i => i = B b ∨ w.heap.size ≤ i) w hH hown (fun _ h => .inr h)).mono fun e w' hh => ?_
  obtain ⟨v, H', n', B', rfl, ⟨rfl, h2⟩, g1, g2, g3, g4, g5, g6, g7⟩ := hh
  refine ⟨?_, g5, ?_⟩
  · rw [SV.den_congr (n := n0) g6 v hwr]
  · have := SObj.den_of_sat hfo' (g3.at_ b o' h2 hlo')
    rw [g6 b hb] at this
    rw [this, SObj.den_congr (n := 0) (fun k hk => by omega) o' (hwo 0)]

theorem gen_of_upd {P : Program} {f : FuncId} {args : List SV} {b : Nat} {H0 H : Heap} {o o' : SObj} {r : SV} {n m : Nat} {κ : K1} (h : UpdP P f args b H0 o o' r) (ρ : Nat → Nat) (hs : ∀ k o1, hget ((b, o) :: H0) k = some o1 → hget H (ρ k) = some (o1.ren ρ))
    (hi : ∀ k o1 j o2, hget ((b, o) :: H0) k = some o1 → hget ((b, o) :: H0) j = some o2 → ρ k = ρ j → k = j) (hm : m ≤ ρ b) (hlo' : o'.live = true) (hwr : ∀ n, ρ b < n → (r.ren ρ).wf n) (hk : κ (r.ren ρ) ((ρ b, o') :: H) n) (hfo' : o'.full = true := by rfl) : GenOK P f (renL ρ args) H n m κ := by
  refine ⟨h.ent, fun B M w hH hwH hwa hown hM => ?_⟩
  have hb0 : hget H (ρ b) = some (o.ren ρ) := hs b o (by rw [hget_cons, if_pos rfl])
  have hlive : (o.ren ρ).live = true := by rw [SObj.live_ren]; exact h.lo
  have hR : HR (fun k => B (ρ k)) ((b, o) :: H0) w := ⟨fun k o1 hl hk1 => by
    have := hH.at_ _ _ (hs k o1 hl) (by rw [SObj.live_ren]; exact hk1)
    rw [SObj.sat_ren] at this
    exact this, fun k j o1 o2 h1 h2 h3 h4 he => hi k o1 j o2 h1 h3 (hH.inj _ _ _ _ (hs k o1 h1) (by rw [SObj.live_ren]; exact h2) (hs j o2 h3) (by rw [SObj.live_ren]; exact h4) he)⟩
  rw [denL_ren]
  refine (h.call _ w hR).mono fun e w' hh => ?_
  obtain ⟨rfl, hkept, hblk⟩ := hh
  have hbn := (hwH (ρ b) _ hb0).1
  have hden : o'.den (fun k => B (ρ k)) = o'.den B := by
    rw [SObj.den_congr (n := 0) (B := B) (B' := fun k => B (ρ k)) (fun k hk => by omega) o' (h.wo 0)]
  have off : ∀ k o1, hget H k = some o1 → o1.live = true → k ≠ ρ b → o1.sat B w' (B k) := fun k o1 hl hk1 hne => by
    have hlt := hH.lt hl hk1
    exact SObj.sat_heap (hkept.block (B k) hlt (fun hc => by
      rcases hc with hc | hc
      · exact hne (hH.inj k (ρ b) _ _ hl hk1 hb0 hlive hc)
      · omega)) (hH.at_ k o1 hl hk1)
  refine ⟨r.ren ρ, (ρ b, o') :: H, n, B, by rw [SV.den_ren], hk, Nat.le_refl _, hwr n hbn, hwf_cons hwH hbn (h.wo n), fun _ _ => rfl, ⟨fun k o1 hl hk1 => ?_, fun k j o1 o2 h1 h2 h3 h4 he => ?_⟩, ?_, ?_⟩
  · rw [hget_cons] at hl
    split at hl
    · rename_i hkb
      subst hkb
      cases hl
      exact SObj.sat_of_den hfo' (by rw [hblk, hden])
    · rename_i hkb
      exact off k o1 hl hk1 hkb
  · rw [hget_cons] at h1 h3
    have up : ∀ k o1, (if k = ρ b then some o' else hget H k) = some o1 → o1.live = true → ∃ o2, hget H k = some o2 ∧ o2.live = true := fun k o1 hl hk1 => by
      split at hl
      · rename_i hkb; rw [hkb]; exact ⟨_, hb0, hlive⟩
      · exact ⟨o1, hl, hk1⟩
    obtain ⟨p1, q1, r1⟩ := up k o1 h1 h2
    obtain ⟨p2, q2, r2⟩ := up j o2 h3 h4
    exact hH.inj k j p1 p2 q1 r1 q2 r2 he
  · intro k o1 hl hk1 hmk
    rw [hget_cons] at hl
    split at hl
    · rename_i hkb; rw [hkb]; exact hown (ρ b) _ hb0 hlive hm
    · exact hown k o1 hl hk1 hmk
  · refine ⟨hkept.os, hkept.tape, hkept.output, hkept.size, fun i hi1 hi2 => hkept.block i hi1 fun hc => ?_, hkept.drawn⟩
    rcases hc with hc | hc
    · rw [hc] at hi2; exact hi2 (hown (ρ b) _ hb0 hlive hm)
    · omega

/-- A heap that holds another one. -/
def Ext (Hc H : Heap) : Prop := ∀ k o, hget Hc k = some o → hget H k = some o
theorem Ext.refl (H : Heap) : Ext H H := fun _ _ h => h
theorem Ext.cons {Hc H : Heap} {b : Nat} {o : SObj} {n : Nat} (hw : hwf n Hc) (hb : n ≤ b) (h : Ext Hc H) : Ext Hc ((b, o) :: H) := fun k o1 hk => by
  have := (hw k o1 hk).1
  rw [hget_cons, if_neg (by omega)]
  exact h k o1 hk
theorem hget_app (l Hc : Heap) (k : Nat) : hget (l ++ Hc) k = (hget l k).or (hget Hc k) := by
  induction l with
  | nil => simp [hget]
  | cons q l ih =>
    obtain ⟨b, o⟩ := q
    rw [List.cons_append, hget_cons, hget_cons, ih]
    split <;> rfl
theorem Sub.mk_ext {p m : Nat} {S S' : Env} {H l Hc : Heap} {n' : Nat} (h1 : subS (fun k => k) S S') (h2 : subH (fun k => k) m H l) (h3 : wfS n' S') (h4 : wfH n' l) (h5 : p ≤ n') (hE : Ext Hc H) (hw : hwf n' Hc) : Sub p m S H S' (l ++ Hc) n' := by
  refine ⟨fun k => k, h1, fun k o hk => ?_, h3, fun k o hk => ?_, fun _ _ _ _ h => h, fun _ _ => rfl, h5⟩
  · rw [hget_app] at hk
    cases hl : hget l k with
    | none =>
      rw [hl] at hk
      simp at hk
      exact ⟨by rw [SObj.ren_id]; exact hE k o hk, fun h => h, by
        have := mem_keys hk
        simp only [List.map_append, List.mem_append]
        exact .inr this⟩
    | some o1 =>
      rw [hl] at hk
      simp at hk
      subst hk
      obtain ⟨g1, g2, g3⟩ := subH_spec h2 k o1 hl
      exact ⟨g1, g2, by simp only [List.map_append, List.mem_append]; exact .inl g3⟩
  · rw [hget_app] at hk
    cases hl : hget l k with
    | none => rw [hl] at hk; simp at hk; exact hw k o hk
    | some o1 => rw [hl] at hk; simp at hk; subst hk; exact wfH_spec h4 k o1 hl
end Go.Proofs.Ytopfnkmlgcjpbaa
set_option maxRecDepth 100000
set_option linter.unusedSimpArgs false
set_option linter.unusedVariables false
namespace Go.Proofs.Ytopfnkmlgcjpbaa
open Go Go.RowKit
def chk (L : List Int) (off len : Nat) : List (List Int) := (List.range len).map fun i => (L.drop (off + i * 2)).take 2
theorem chk_len (L : List Int) (off len : Nat) : (chk L off len).length = len := by simp [chk]
theorem chk_getD (L : List Int) (off len k : Nat) (h : k < len) : (chk L off len).getD k [] = (L.drop (off + k * 2)).take 2 := by simp [chk, List.getD, h]
theorem chk_succ (L : List Int) (off k : Nat) : chk L off (k + 1) = chk L off k ++ [(L.drop (off + k * 2)).take 2] := by
  unfold chk
  rw [List.range_succ, List.map_append]; rfl
/-- What is kept. -/
def kept (np : List Int → Bool) (L : List Int) (k : Nat) : List Int := ((chk L 0 k).filter np).flatten
theorem kept_zero (np : List Int → Bool) (L : List Int) : kept np L 0 = [] := rfl
theorem kept_succ (np : List Int → Bool) (L : List Int) (k : Nat) : kept np L (k + 1) = kept np L k ++ if np ((L.drop (k * 2)).take 2) = true then (L.drop (k * 2)).take 2 else [] := by
  unfold kept
  rw [chk_succ, List.filter_append, List.flatten_append, Nat.zero_add]
  congr 1
  simp only [List.filter_cons, List.filter_nil]
  split <;> simp
theorem kept_even (np : List Int → Bool) (L : List Int) : ∀ k, k * 2 ≤ L.length → ∃ i, (kept np L k).length = i * 2 ∧ i ≤ k
  | 0, _ => ⟨0, rfl, by omega⟩
  | k + 1, h => by
    obtain ⟨i, h1, h2⟩ := kept_even np L k (by omega)
    rw [kept_succ, List.length_append, h1]
    split
    · exact ⟨i + 1, by rw [List.length_take, List.length_drop]; omega, by omega⟩
    · exact ⟨i, by simp, by omega⟩
theorem kept_all {np : List Int → Bool} {L : List Int} : ∀ k, k * 2 ≤ L.length → (∀ i, i < k → np ((L.drop (i * 2)).take 2) = true) → kept np L k = L.take (k * 2)
  | 0, _, _ => by simp [kept_zero]
  | k + 1, h, hn => by
    rw [kept_succ, if_pos (hn k (by omega)), kept_all k (by omega) fun i hi => hn i (by omega), show (k + 1) * 2 = k * 2 + 2 by omega, List.take_add]
theorem kept_app (np : List Int → Bool) (L M : List Int) : ∀ k, k * 2 ≤ L.length → kept np (L ++ M) k = kept np L k
  | 0, _ => rfl
  | k + 1, h => by
    have e : ((L ++ M).drop (k * 2)).take 2 = (L.drop (k * 2)).take 2 := by
      rw [List.drop_append_of_le_length (by omega), List.take_append_of_le_length (by rw [List.length_drop]; omega)]
    rw [kept_succ, kept_succ, kept_app np L M k (by omega), e]

theorem indexFuncP_ok (g : Nat) (caps : List SV) (H Hc : Heap) (pr : List Int → Bool) (n0 b : Nat) (L : List Int) (e len cap : Nat) (hb : hget H b = some (.ints L e)) (hl : len * 2 ≤ L.length) (hm : len ≤ 9223372036854775806)
    (Q : List Int → Prop) (hQ : ∀ i, i < len → Q ((L.drop (i * 2)).take 2)) (hc : ∀ x : List Int, Q x → PureH Try.prog g (.arr x :: caps) Hc (.bool (pr x))) (hE : Ext Hc H) (hw : wfL n0 caps) (hwH : hwf n0 H) :
    PureH Try.prog 150 [.slice b 0 len cap, .fn g caps] H (.int (idxG pr (chk L 0 len))) := by
  have hE2 := chk_len L 0 len
  have h00 : b < n0 := (hwH b _ hb).1
  refine pure_of_vc (X := ⟨Try.prog, tys, [(g, fun args H' => match args with | .arr x :: r => some (r = caps ∧ Ext Hc H' ∧ Q x, .bool (pr x)) | _ => none)], [], true, true, n0, [], []⟩) fn_150
    ⟨tys_ok, .cons (fun args H' p v h hp => ?_) .nil, .nil, mixed⟩ (n0 := n0) (Nat.le_of_ble_eq_true rfl) ⟨by simpa [SV.wf] using h00, by simpa [SV.wf] using hw, trivial⟩ hwH (Nat.le_refl _) (fun _ => trivial) ?_
  · split at h
    · cases h
      obtain ⟨rfl, hx1, hx⟩ := hp
      exact (hc _ hx).weaken hx1 (fun _ => trivial)
    · cases h
  simp -implicitDefEqProofs only [Try.f150, Option.getD_some, argS, hb, SB, SV.known, packR, ne_eq, reduceCtorEq, Nat.reduceEqDiff, ↓reduceIte, if_true, if_false, eq_self, Nat.reduceAdd, Nat.reduceMul, Nat.reduceSub, forall_const, oneCellS, litOne, flat1, Kd.isSca, flat, TYB]
  refine loop_intro (fun i : Nat => [(0, .slice b 0 len cap), (1, .fn g caps), (7, .int len), (8, .int i)]) (fun i => H) n0 (fun i => i ≤ len ∧ ∀ k, k < i → pr ((chk L 0 len).getD k []) = false) (fun i => len - i) ?_ ?_
  · refine ⟨0, ⟨by omega, by simp⟩, Sub.same ?_ ?_ hwH (Nat.le_refl _)⟩
    · simp [subS, subH, wfS, wfH, SV.ren, renL, SObj.ren, SV.wf, SObj.wf, wfL, sget_cons, hget_cons, SV.known, renL_id]
    · simp [subS, subH, wfS, wfH, SV.ren, renL, SObj.ren, SV.wf, SObj.wf, wfL, sget_cons, hget_cons, hw, h00]
  · intro i hi
    obtain ⟨hi1, hi2⟩ := hi
    simp -implicitDefEqProofs only [lk_normal, hb, SB, SV.known, packR, ne_eq, reduceCtorEq, Nat.reduceEqDiff, ↓reduceIte, if_true, if_false, eq_self, Nat.reduceAdd, Nat.reduceMul, Nat.reduceSub, forall_const, oneCellS, litOne, flat1, Kd.isSca, flat, TYB]
    refine ⟨fun h => ?_, fun h => ?_⟩
    · have hlt : i < len := by omega
      have e1 : 0 + (i : Int).toNat * 2 = i * 2 := by simp
      have e2 : (L.drop (i * 2)).take 2 = (chk L 0 len).getD i [] := by rw [chk_getD L 0 len i hlt, Nat.zero_add]
      have e3 : Q ((chk L 0 len).getD i []) := by rw [← e2]; exact hQ i hlt
      simp only [Int.toNat_natCast, Nat.zero_add, e2]
      refine ⟨by omega, by omega, by omega, ⟨hE, e3⟩, ?_⟩
      cases hp : pr ((chk L 0 len).getD i []) with
      | true =>
        simp -implicitDefEqProofs only [SB, SV.known, packR, ne_eq, reduceCtorEq, Nat.reduceEqDiff, ↓reduceIte, if_true, if_false, eq_self, Nat.reduceAdd, Nat.reduceMul, Nat.reduceSub, forall_const, oneCellS, litOne, flat1, Kd.isSca, flat, TYB]
        rw [idxG_hit (by omega) hp hi2]
      | false =>
        simp -implicitDefEqProofs only [lk_normal, SB, SV.known, packR, ne_eq, reduceCtorEq, Nat.reduceEqDiff, ↓reduceIte, if_true, if_false, eq_self, Nat.reduceAdd, Nat.reduceMul, Nat.reduceSub, forall_const, oneCellS, litOne, flat1, Kd.isSca, flat, TYB]
        refine ⟨by unfold In64; omega, i + 1, ⟨by omega, fun k hk => ?_⟩, by omega, Sub.same ?_ ?_ hwH (Nat.le_refl _)⟩
        · by_cases hki : k = i
          · subst hki; exact hp
          · exact hi2 k (by omega)
        · simp [subS, subH, wfS, wfH, SV.ren, renL, SObj.ren, SV.wf, SObj.wf, wfL, sget_cons, hget_cons, SV.known, renL_id]
        · simp [subS, subH, wfS, wfH, SV.ren, renL, SObj.ren, SV.wf, SObj.wf, wfL, sget_cons, hget_cons, hw, h00]
    · obtain rfl : i = len := by omega
      rw [idxG_none (by rw [hE2]; exact hi2)]
theorem idxG_none' {α : Type} {pr : α → Bool} {l : List α} (d : α) (h : idxG pr l < 0) : idxG pr l = -1 ∧ ∀ k, k < l.length → pr (l.getD k d) = false := by
  unfold idxG at h ⊢
  cases hf : l.findIdx? pr with
  | none =>
    refine ⟨rfl, fun k hk => ?_⟩
    have := (List.findIdx?_eq_none_iff).1 hf l[k] (List.getElem_mem hk)
    simpa [List.getD, List.getElem?_eq_getElem hk] using this
  | some k => rw [hf] at h; simp at h; omega
theorem idxG_some' {α : Type} {pr : α → Bool} {l : List α} (d : α) (h : ¬ idxG pr l < 0) : ∃ i : Nat, idxG pr l = (i : Int) ∧ i < l.length ∧ pr (l.getD i d) = true ∧ ∀ k : Nat, k < i → pr (l.getD k d) = false := by
  unfold idxG at h ⊢
  cases hf : l.findIdx? pr with
  | none => rw [hf] at h; simp at h
  | some k =>
    obtain ⟨hk, hp, hn⟩ := List.findIdx?_eq_some_iff_getElem.1 hf
    refine ⟨k, rfl, hk, by simpa [List.getD, List.getElem?_eq_getElem hk] using hp, fun j hj => ?_⟩
    have := hn j hj
    simpa [List.getD, List.getElem?_eq_getElem (show j < l.length by omega)] using this
theorem deleteFunc_ok (g : Nat) (hg : g ≠ 150) (caps : List SV) (Hc : Heap) (pr : List Int → Bool) (b : Nat) (L : List Int) (e len cap : Nat) (hlen : L.length = cap * 2) (hlc : len ≤ cap) (hm : len ≤ 4611686018427387903)
    (Q : List Int → Prop) (hQ : ∀ i, i < len → Q ((L.drop (i * 2)).take 2)) (hc : ∀ x : List Int, Q x → PureH Try.prog g (.arr x :: caps) Hc (.bool (pr x))) (hw : wfL b caps) (hwH : hwf b Hc) :
    UpdP Try.prog 110 [.slice b 0 len cap, .fn g caps] b Hc (.ints L e)
      (.ints (kept (fun x => !pr x) L len ++ List.replicate (len * 2 - (kept (fun x => !pr x) L len).length) 0 ++ L.drop (len * 2)) e) (.slice b 0 ((kept (fun x => !pr x) L len).length / 2) cap) := by
  have hl2 : len * 2 ≤ L.length := by omega
  have hb0 : hget ((b, SObj.ints L e) :: Hc) b = some (.ints L e) := by rw [hget_cons, if_pos rfl]
  have hwf1 : ∀ o : SObj, (∀ n, o.wf n) → hwf (b + 1) ((b, o) :: Hc) := fun o ho => hwf_cons (hwf_mono (by omega) hwH) (by omega) (ho _)
  have hw1 : wfL (b + 1) caps := wfL_mono (by omega) caps hw
  have hE : ∀ o : SObj, Ext Hc ((b, o) :: Hc) := fun o => Ext.cons hwH (Nat.le_refl _) (Ext.refl Hc)
  refine upd_of_vc (X := ⟨Try.prog, tys, [(150, fun args H' => some (args = [.slice b 0 len cap, .fn g caps] ∧ H' = (b, .ints L e) :: Hc, .int (idxG pr (chk L 0 len)))),
      (g, fun args H' => match args with | .arr x :: r => some (r = caps ∧ Ext Hc H' ∧ Q x, .bool (pr x)) | _ => none)], [], true, true, b, [], []⟩) fn_110
    ⟨tys_ok, .cons (fun args H' p v h hp => ?_) (.cons (fun args H' p v h hp => ?_) .nil), .nil, mixed⟩ (n0 := b + 1) (by omega) (Nat.le_of_ble_eq_true rfl) ⟨by simp [SV.wf], by simpa [SV.wf] using hw1, trivial⟩ (hwf1 _ fun _ => trivial) (fun k o1 hk => (hwH k o1 hk).1) rfl rfl (fun _ => trivial) (by simp [SV.wf]) ?_
  · cases h
    obtain ⟨rfl, rfl⟩ := hp
    exact indexFuncP_ok g caps _ Hc pr (b + 1) b L e len cap hb0 hl2 (by omega) Q hQ hc (hE _) hw1 (hwf1 _ fun _ => trivial)
  · split at h
    · cases h
      obtain ⟨rfl, hx1, hx⟩ := hp
      exact (hc _ hx).weaken hx1 (fun _ => trivial)
    · cases h
  simp -implicitDefEqProofs only [Try.f110, Option.getD_some, argS, hb0, hg, SB, SV.known, packR, ne_eq, reduceCtorEq, Nat.reduceEqDiff, ↓reduceIte, if_true, if_false, eq_self, Nat.reduceAdd, Nat.reduceMul, Nat.reduceSub, forall_const, oneCellS, litOne, flat1, Kd.isSca, flat, TYB]
  have hkl := kept_even (fun x => !pr x) L len hl2
  have hwc : hwf (b + 1) Hc := hwf_mono (by omega) hwH
  by_cases hneg : idxG pr (chk L 0 len) < 0
  · obtain ⟨h1, h2⟩ := idxG_none' [] hneg
    have hk : kept (fun x => !pr x) L len = L.take (len * 2) := kept_all len hl2 fun i hi => by
      have := h2 i (by rw [chk_len]; exact hi)
      rw [chk_getD L 0 len i hi, Nat.zero_add] at this
      simp [this]
    have hkl : (L.take (len * 2)).length = len * 2 := by rw [List.length_take]; omega
    rw [h1, hk, hkl]
    refine ⟨fun _ => ⟨?_, ?_⟩, fun hx => absurd rfl hx⟩
    · rw [show len * 2 / 2 = len by omega]
    · simp
  · obtain ⟨i0, h1, h2, h3, h4⟩ := idxG_some' [] hneg
    rw [chk_len] at h2
    rw [chk_getD L 0 len i0 h2, Nat.zero_add] at h3
    have hk0 : kept (fun x => !pr x) L i0 = L.take (i0 * 2) := kept_all i0 (by omega) fun i hi => by
      have := h4 i hi
      rw [chk_getD L 0 len i (by omega), Nat.zero_add] at this
      simp [this]
    have hk1 : kept (fun x => !pr x) L (i0 + 1) = L.take (i0 * 2) := by
      rw [kept_succ, hk0, h3]; simp
    rw [h1]
    refine ⟨fun hx => absurd hx (by omega), fun _ => ?_⟩
    (try (and_intros <;> try (first | omega | (unfold In64; omega) | trivial | assumption)))
    refine loop_intro (fun s : Nat × Nat × List Int => [(6, .int s.1), (5, .int s.2.1), (0, .slice b 0 len cap), (1, .fn g caps)]) (fun s => [(b, .ints (kept (fun x => !pr x) L s.1 ++ s.2.2 ++ L.drop (s.1 * 2)) e)] ++ Hc) (b + 1)
      (fun s => s.1 ≤ len ∧ (kept (fun x => !pr x) L s.1).length = s.2.1 * 2 ∧ s.2.1 < s.1 ∧ s.2.2.length + s.2.1 * 2 = s.1 * 2) (fun s => len - s.1) ?_ ?_
    · have e1 : (L.drop (i0 * 2)).take 2 ++ L.drop ((i0 + 1) * 2) = L.drop (i0 * 2) := by
        rw [show (i0 + 1) * 2 = i0 * 2 + 2 by omega, ← List.drop_drop]; exact List.take_append_drop 2 _
      refine ⟨(i0 + 1, i0, (L.drop (i0 * 2)).take 2), ⟨by simp only; omega, by simp only; rw [hk1, List.length_take]; omega, by simp only; omega, by simp only; rw [List.length_take, List.length_drop]; omega⟩, Sub.mk_ext ?_ ?_ ?_ ?_ (Nat.le_refl _) (hE _) hwc⟩
      · simp [subS, subH, wfS, wfH, SV.ren, renL, SObj.ren, SV.wf, SObj.wf, wfL, sget_cons, hget_cons, SV.known, renL_id]
      · rw [hk1, List.append_assoc, e1, List.take_append_drop]
        simp [subS, subH, wfS, wfH, SV.ren, renL, SObj.ren, SV.wf, SObj.wf, wfL, sget_cons, hget_cons]
      · simp [subS, subH, wfS, wfH, SV.ren, renL, SObj.ren, SV.wf, SObj.wf, wfL, sget_cons, hget_cons, hw1]
      · simp [subS, subH, wfS, wfH, SV.ren, renL, SObj.ren, SV.wf, SObj.wf, wfL, sget_cons, hget_cons]
    · rintro ⟨j, i, mid⟩ ⟨g1, g2, g3, g4⟩
      simp only at g1 g2 g3 g4
      have lenL : (kept (fun x => !pr x) L j ++ mid ++ L.drop (j * 2)).length = cap * 2 := by
        rw [List.length_append, List.length_append, List.length_drop]; omega
      by_cases hlt : j < len
      · have ex : ((kept (fun x => !pr x) L j ++ mid ++ L.drop (j * 2)).drop (j * 2)).take 2 = (L.drop (j * 2)).take 2 := by
          rw [List.drop_left' (by rw [List.length_append]; omega)]
        have l2 : ((L.drop (j * 2)).take 2).length = 2 := by rw [List.length_take, List.length_drop]; omega
        have es := kept_succ (fun x => !pr x) L j
        have tt : List.take 2 ((L.drop (j * 2)).take 2) = (L.drop (j * 2)).take 2 := by simp [List.take_take]
        have hjl : (j : Int) < len := by omega
        have hQj := hQ j hlt
        have dl : (L.drop (j * 2)).take 2 ++ L.drop ((j + 1) * 2) = L.drop (j * 2) := by
          rw [show (j + 1) * 2 = j * 2 + 2 by omega, ← List.drop_drop]; exact List.take_append_drop 2 _
        have hE2 : ∀ o1 o2 o3 : SObj, Ext Hc ((b + 1, o1) :: (b + 1, o2) :: (b, o3) :: Hc) := fun o1 o2 o3 => Ext.cons hwH (by omega) (Ext.cons hwH (by omega) (hE _))
        cases hp : pr ((L.drop (j * 2)).take 2) with
        | true =>
          rw [hp] at es
          simp only [Bool.not_true, Bool.false_eq_true, if_false, List.append_nil] at es
          simp -implicitDefEqProofs only [lk_normal, hget_cons, List.cons_append, List.nil_append, hg, lenL, ex, l2, tt, hp, hjl, hE2, hQj, ZB, Int.reduceToNat, Nat.reduceLT, Nat.reduceLeDiff, Int.reduceLE, Int.reduceLT, Nat.reduceEqDiff, Nat.reduceSub, SB, SV.known, packR, ne_eq, reduceCtorEq, Nat.reduceEqDiff, ↓reduceIte, if_true, if_false, eq_self, Nat.reduceAdd, Nat.reduceMul, Nat.reduceSub, forall_const, oneCellS, litOne, flat1, Kd.isSca, flat, TYB]
          (try (and_intros <;> try (first | omega | (unfold In64; omega) | trivial | assumption)))
          refine ⟨(j + 1, i, mid ++ (L.drop (j * 2)).take 2), ⟨by simp only; omega, by simp only; rw [es]; exact g2, by simp only; omega, by simp only; rw [List.length_append, l2]; omega⟩, by simp only; omega, Sub.mk_ext (l := [(b, _)]) ?_ ?_ ?_ ?_ (Nat.le_refl _) (hE2 _ _ _) hwc⟩
          · simp [subS, subH, wfS, wfH, SV.ren, renL, SObj.ren, SV.wf, SObj.wf, wfL, sget_cons, hget_cons, SV.known, renL_id]
          · rw [es]
            simp only [List.append_assoc, dl]
            simp [subS, subH, wfS, wfH, SV.ren, renL, SObj.ren, SV.wf, SObj.wf, wfL, sget_cons, hget_cons]
          · simp [subS, subH, wfS, wfH, SV.ren, renL, SObj.ren, SV.wf, SObj.wf, wfL, sget_cons, hget_cons, hw1]
          · simp [subS, subH, wfS, wfH, SV.ren, renL, SObj.ren, SV.wf, SObj.wf, wfL, sget_cons, hget_cons]
        | false =>
          rw [hp] at es
          simp only [Bool.not_false, if_true] at es
          have hbb : ¬ b = b + 1 := by omega
          have st : List.take (i * 2) (kept (fun x => !pr x) L j ++ mid ++ L.drop (j * 2)) ++ (L.drop (j * 2)).take 2 ++ List.drop (i * 2 + 2) (kept (fun x => !pr x) L j ++ mid ++ L.drop (j * 2)) = kept (fun x => !pr x) L (j + 1) ++ (mid.drop 2 ++ (L.drop (j * 2)).take 2) ++ L.drop ((j + 1) * 2) := by
            rw [es, ← List.drop_drop, List.append_assoc (kept (fun x => !pr x) L j), List.take_left' g2, List.drop_left' g2, List.drop_append_of_le_length (by omega)]
            simp only [List.append_assoc, dl]
          simp -implicitDefEqProofs only [lk_normal, hget_cons, List.cons_append, List.nil_append, hg, lenL, ex, l2, tt, hp, hjl, hE2, hQj, hbb, st, ZB, Int.reduceToNat, Nat.reduceLT, Nat.reduceLeDiff, Int.reduceLE, Int.reduceLT, Nat.reduceEqDiff, Nat.reduceSub, SB, SV.known, packR, ne_eq, reduceCtorEq, Nat.reduceEqDiff, ↓reduceIte, if_true, if_false, eq_self, Nat.reduceAdd, Nat.reduceMul, Nat.reduceSub, forall_const, oneCellS, litOne, flat1, Kd.isSca, flat, TYB]
          (try (and_intros <;> try (first | omega | (unfold In64; omega) | trivial | assumption)))
          refine ⟨(j + 1, i + 1, mid.drop 2 ++ (L.drop (j * 2)).take 2), ⟨by simp only; omega, by simp only; rw [es, List.length_append, g2, l2]; omega, by simp only; omega, by simp only; rw [List.length_append, l2, List.length_drop]; omega⟩, by simp only; omega, Sub.mk_ext (l := [(b, _)]) ?_ ?_ ?_ ?_ (Nat.le_refl _) (Ext.cons hwH (Nat.le_refl _) (hE2 _ _ _)) hwc⟩
          · simp [subS, subH, wfS, wfH, SV.ren, renL, SObj.ren, SV.wf, SObj.wf, wfL, sget_cons, hget_cons, SV.known, renL_id]
          · simp [subS, subH, wfS, wfH, SV.ren, renL, SObj.ren, SV.wf, SObj.wf, wfL, sget_cons, hget_cons]
          · simp [subS, subH, wfS, wfH, SV.ren, renL, SObj.ren, SV.wf, SObj.wf, wfL, sget_cons, hget_cons, hw1]
          · simp [subS, subH, wfS, wfH, SV.ren, renL, SObj.ren, SV.wf, SObj.wf, wfL, sget_cons, hget_cons]
      · have hjl : ¬ (j : Int) < len := by omega
        obtain rfl : j = len := by omega
        simp -implicitDefEqProofs only [lk_normal, hget_cons, List.cons_append, List.nil_append, hg, lenL, hjl, ZB, Int.reduceToNat, Nat.reduceLT, Nat.reduceLeDiff, Int.reduceLE, Int.reduceLT, Nat.reduceEqDiff, Nat.reduceSub, SB, SV.known, packR, ne_eq, reduceCtorEq, Nat.reduceEqDiff, ↓reduceIte, if_true, if_false, eq_self, Nat.reduceAdd, Nat.reduceMul, Nat.reduceSub, forall_const, oneCellS, litOne, flat1, Kd.isSca, flat, TYB]
        have c1 : cutOff cap i 0 2 = i * 2 := by unfold cutOff; rw [if_neg (by omega)]; omega
        have c2 : i * 2 + (j - i) * 2 = j * 2 := by omega
        rw [c1, c2, g2]
        refine ⟨by omega, by omega, by omega, by omega, by omega, by omega, ?_, ?_⟩
        · rw [show i * 2 / 2 = i by omega]
        · rw [List.append_assoc (kept (fun x => !pr x) L j), List.take_left' g2, ← List.append_assoc, List.drop_left' (by rw [List.length_append]; omega), show (j - i) * 2 = j * 2 - i * 2 by omega]
/-- On a slice that is nil. -/
theorem deleteFunc_nil (g : Nat) (caps : List SV) (H : Heap) (n0 : Nat) (hw : wfL n0 caps) (hwH : hwf n0 H) : PureH Try.prog 110 [.nils, .fn g caps] H .nils := by
  have h1 : PureH Try.prog 150 [.nils, .fn g caps] H (.int (-1)) := by
    refine pure_of_vc (X := ⟨Try.prog, tys, [], [], true, true, n0, [], []⟩) fn_150 ⟨tys_ok, .nil, .nil, mixed⟩ (n0 := n0) (Nat.le_of_ble_eq_true rfl) ⟨trivial, by simpa [SV.wf] using hw, trivial⟩ hwH (Nat.le_refl _) (fun _ => trivial) ?_
    simp -implicitDefEqProofs only [Try.f150, Option.getD_some, argS, SB, SV.known, packR, ne_eq, reduceCtorEq, Nat.reduceEqDiff, ↓reduceIte, if_true, if_false, eq_self, Nat.reduceAdd, Nat.reduceMul, Nat.reduceSub, forall_const, oneCellS, litOne, flat1, Kd.isSca, flat, TYB]
    refine loop_intro (fun i : Unit => [(0, .nils), (1, .fn g caps), (7, .int 0), (8, .int 0)]) (fun i => H) n0 (fun i => True) (fun i => 0) ?_ ?_
    · refine ⟨(), trivial, Sub.same ?_ ?_ hwH (Nat.le_refl _)⟩
      · simp [subS, subH, wfS, wfH, SV.ren, renL, SObj.ren, SV.wf, SObj.wf, wfL, sget_cons, hget_cons, SV.known, renL_id]
      · simp [subS, subH, wfS, wfH, SV.ren, renL, SObj.ren, SV.wf, SObj.wf, wfL, sget_cons, hget_cons, hw]
    · intro _ _
      simp -implicitDefEqProofs only [lk_normal, SB, SV.known, packR, ne_eq, reduceCtorEq, Nat.reduceEqDiff, ↓reduceIte, if_true, if_false, eq_self, Nat.reduceAdd, Nat.reduceMul, Nat.reduceSub, forall_const, oneCellS, litOne, flat1, Kd.isSca, flat, TYB]
      simp
  refine pure_of_vc (X := ⟨Try.prog, tys, [(150, fun args H' => some (args = [.nils, .fn g caps] ∧ H' = H, .int (-1)))], [], true, true, n0, [], []⟩) fn_110 ⟨tys_ok, .cons (fun args H' p v h hp => ?_) .nil, .nil, mixed⟩ (n0 := n0) (Nat.le_of_ble_eq_true rfl) ⟨trivial, by simpa [SV.wf] using hw, trivial⟩ hwH (Nat.le_refl _) (fun _ => trivial) ?_
  · cases h
    obtain ⟨rfl, rfl⟩ := hp
    exact h1
  simp -implicitDefEqProofs only [Try.f110, Option.getD_some, argS, SB, SV.known, packR, ne_eq, reduceCtorEq, Nat.reduceEqDiff, ↓reduceIte, if_true, if_false, eq_self, Nat.reduceAdd, Nat.reduceMul, Nat.reduceSub, forall_const, oneCellS, litOne, flat1, Kd.isSca, flat, TYB]
end Go.Proofs.Ytopfnkmlgcjpbaa
set_option maxRecDepth 100000
set_option linter.unusedSimpArgs false
set_option linter.unusedVariables false
namespace Go.Proofs.Ytopfnkmlgcjpbaa
open Go Go.RowKit
def okP (p : List Int) : Prop := p.length = 2 ∧ (0 ≤ p.getD 0 0 ∧ p.getD 0 0 ≤ 5) ∧ (0 ≤ p.getD 1 0 ∧ p.getD 1 0 ≤ 5)
theorem okP_take {p : List Int} (h : okP p) : p.take 2 = p := List.take_of_length_le (by have := h.1; omega)
--@tbl isIdle = impl.isIdle
/-! DeleteFunc with a closure over one rack. -/
--@tbl delR = slices.DeleteFunc[[][2]int,[2]int]
/-! The model's. -/
--@tbl l2Idle = spec.l2Idle
--@tbl l2Useful = spec.l2Useful
end Go.Proofs.Ytopfnkmlgcjpbaa
set_option maxRecDepth 100000
set_option linter.unusedSimpArgs false
set_option linter.unusedVariables false
namespace Go.Proofs.Ytopfnkmlgcjpbaa
open Go Go.RowKit
def prG (c : Nat → Nat → Bool) (k : Nat) : List Int := if c (k / 6) (k % 6) = true then [((k / 6 : Nat) : Int), ((k % 6 : Nat) : Int)] else []
def GL (c : Nat → Nat → Bool) (m : Nat) : List Int := (List.range m).flatMap (prG c)
theorem GL_zero (c : Nat → Nat → Bool) : GL c 0 = [] := rfl
theorem GL_succ (c : Nat → Nat → Bool) (m : Nat) : GL c (m + 1) = GL c m ++ prG c m := by simp [GL, List.range_succ]
theorem GL_at (c : Nat → Nat → Bool) (i j : Nat) (hj : j < 6) : GL c (i * 6 + j + 1) = GL c (i * 6 + j) ++ if c i j = true then [(i : Int), (j : Int)] else [] := by
  rw [GL_succ]
  have e1 : (i * 6 + j) / 6 = i := by omega
  have e2 : (i * 6 + j) % 6 = j := by omega
  simp only [prG, e1, e2]
theorem GL_mem {c : Nat → Nat → Bool} {m : Nat} (hm : m ≤ 36) : ∀ x ∈ GL c m, 0 ≤ x ∧ x ≤ 5 := by
  intro x hx
  unfold GL at hx
  obtain ⟨k, hk, hx⟩ := List.mem_flatMap.1 hx
  have := List.mem_range.1 hk
  unfold prG at hx
  split at hx
  · simp at hx; omega
  · simp at hx
theorem GL_even (c : Nat → Nat → Bool) : ∀ m, ∃ n, (GL c m).length = n * 2 ∧ n ≤ m
  | 0 => ⟨0, rfl, by omega⟩
  | m + 1 => by
    obtain ⟨n, h1, h2⟩ := GL_even c m
    rw [GL_succ, List.length_append, h1]
    unfold prG
    split
    · exact ⟨n + 1, by simp; omega, by omega⟩
    · exact ⟨n, by simp, by omega⟩
theorem GL_okP (c : Nat → Nat → Bool) (i : Nat) (junk : List Int) (h : i * 2 + 2 ≤ (GL c 36).length) : okP (List.take 2 (List.drop (i * 2) (GL c 36 ++ junk))) := by
  have hbd : Bd 0 5 (GL c 36) := GL_mem (by omega)
  rw [take2_drop _ _ (by rw [List.length_append]; omega), getD_app _ _ _ (by omega), getD_app _ _ _ (by omega)]
  exact ⟨rfl, hbd.getD (by omega), hbd.getD (by omega)⟩
/-- Pairs that are kept out of pairs by a condition: pairs by both. -/
theorem kept_GL (c d : Nat → Nat → Bool) (np : List Int → Bool) (h : ∀ i j, i < 6 → j < 6 → c i j = true → np [(i : Int), (j : Int)] = d i j) (hd : ∀ i j, i < 6 → j < 6 → d i j = true → c i j = true) :
    ∀ m, m ≤ 36 → ∃ n, (GL c m).length = n * 2 ∧ kept np (GL c m) n = GL d m
  | 0, _ => ⟨0, rfl, rfl⟩
  | m + 1, hm => by
    obtain ⟨n, h1, h2⟩ := kept_GL c d np h hd m (by omega)
    have a1 : m / 6 < 6 := by omega
    have a2 : m % 6 < 6 := by omega
    rw [GL_succ c, GL_succ d]
    unfold prG
    cases hc : c (m / 6) (m % 6) with
    | false =>
      have : d (m / 6) (m % 6) = false := by
        cases hdd : d (m / 6) (m % 6) with
        | false => rfl
        | true => rw [hd _ _ a1 a2 hdd] at hc; cases hc
      rw [this]
      exact ⟨n, by simpa using h1, by simpa using h2⟩
    | true =>
      refine ⟨n + 1, by simp [h1]; omega, ?_⟩
      have e0 : (((GL c m ++ [((m / 6 : Nat) : Int), ((m % 6 : Nat) : Int)]).drop (n * 2)).take 2) = [((m / 6 : Nat) : Int), ((m % 6 : Nat) : Int)] := by rw [List.drop_left' h1]; rfl
      simp only [if_true]
      rw [kept_succ, kept_app _ _ _ _ (by omega), h2, e0, h _ _ a1 a2 hc]
/-- A slice that grows: nothing yet, or block b. -/
def outVn (b i len cap : Nat) : SV := match i with
  | 0 => .nils
  | _ + 1 => .slice b 0 len cap
def outHn (b i : Nat) (L : List Int) (e : Nat) (base : Heap) : Heap := match i with
  | 0 => base
  | _ + 1 => (b, .ints L e) :: base
theorem outVn_zero (b len cap : Nat) : outVn b 0 len cap = .nils := rfl
theorem outVn_succ (b i len cap : Nat) : outVn b (i + 1) len cap = .slice b 0 len cap := rfl
theorem outHn_zero (b : Nat) (L : List Int) (e : Nat) (base : Heap) : outHn b 0 L e base = base := rfl
theorem outHn_succ (b i : Nat) (L : List Int) (e : Nat) (base : Heap) : outHn b (i + 1) L e base = (b, .ints L e) :: base := rfl
theorem GL_pair (c : Nat → Nat → Bool) : ∀ m, m ≤ 36 → ∀ i, i * 2 + 2 ≤ (GL c m).length → ∃ a b : Nat, a < 6 ∧ b < 6 ∧ c a b = true ∧ ((GL c m).drop (i * 2)).take 2 = [(a : Int), (b : Int)]
  | 0, _, i, h => by simp [GL_zero] at h
  | m + 1, hm, i, h => by
    obtain ⟨n, hn, _⟩ := GL_even c m
    rw [GL_succ, List.length_append, hn] at h
    by_cases hi : i * 2 + 2 ≤ n * 2
    · obtain ⟨a, b, h1, h2, h3, h4⟩ := GL_pair c m (by omega) i (by omega)
      refine ⟨a, b, h1, h2, h3, ?_⟩
      rw [GL_succ, List.drop_append_of_le_length (by omega), List.take_append_of_le_length (by rw [List.length_drop]; omega)]
      exact h4
    · unfold prG at h
      split at h
      · rename_i hc
        simp at h
        have : i = n := by omega
        subst this
        refine ⟨m / 6, m % 6, by omega, by omega, hc, ?_⟩
        rw [GL_succ, List.drop_left' hn]
        unfold prG
        rw [if_pos hc]; rfl
      · simp at h; omega
end Go.Proofs.Ytopfnkmlgcjpbaa
