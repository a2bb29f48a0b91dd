/- Walks: racks. -/
import Derived.Test.YtnlbljikbonioaaB
set_option maxRecDepth 100000
set_option linter.unusedSimpArgs false
set_option linter.unusedVariables false
namespace Go.Proofs.Ytnlbljikbonioaa
open Go Go.RowKit
theorem fill_blk (R : List Int) (n i s : Nat) (h : (i + 1) * s ≤ n) (hR : R.length = n) :
    (R.take (i * s) ++ List.replicate (n - i * s) 0).take (i * s) ++ (R.drop (i * s)).take s ++ (R.take (i * s) ++ List.replicate (n - i * s) 0).drop (i * s + s) = R.take ((i + 1) * s) ++ List.replicate (n - (i + 1) * s) 0 := by
  have e1 : (i + 1) * s = i * s + s := by rw [Nat.add_mul, Nat.one_mul]
  rw [e1] at h ⊢
  have hl : (R.take (i * s)).length = i * s := by rw [List.length_take]; omega
  have t1 : (R.take (i * s) ++ List.replicate (n - i * s) (0 : Int)).take (i * s) = R.take (i * s) := by
    rw [List.take_append_of_le_length (by omega), List.take_of_length_le (by omega)]
  have t3 : (R.take (i * s) ++ List.replicate (n - i * s) (0 : Int)).drop (i * s + s) = List.replicate (n - (i * s + s)) 0 := by
    rw [List.drop_append, List.drop_of_length_le (by omega), hl, List.nil_append, List.drop_replicate]
    congr 1; omega
  rw [t1, t3, List.take_add]
--@tbl toIntA4 = laws.toIntA4
--@tbl toIntA4A6 = laws.toIntA4A6
--@tbl toRack = laws.toRack
/-! Tubes. -/
def isZ0 (x : Int) : Bool := decide (0 = x)
def coT (i : Int) : Bool := decide (1 ≤ i ∧ i ≤ 5)
def layN (t : List Int) : Nat := (t.findIdx? isZ0).getD 4
theorem index_ok (v : Int) (L : List Int) (e off len cap : Nat) (hl : off + len ≤ L.length) (hm : len ≤ 9223372036854775806) :
    PureH Try.prog 124 [.slice 0 off len cap, .int v] [(0, .ints L e)] (.int (idxI (fun x => decide (v = x)) ((L.drop off).take len))) := by
  have hE : ((L.drop off).take len).length = len := by simp; omega
  refine pure_of_vc (X := ⟨Try.prog, tys, [], [], true, true, 1, [], []⟩) fn_124 ⟨tys_ok, .nil, .nil, mixed⟩ (n0 := 1) (Nat.le_of_ble_eq_true rfl) (by simp [wfL, SV.wf]) (wfH_spec (by simp [wfH, SObj.wf])) (Nat.le_refl _) (fun _ => by simp [SV.wf, wfL]) ?_
  simp -implicitDefEqProofs only [Try.f124, Option.getD_some, argS, ZB, Int.reduceToNat, Nat.reduceLT, Nat.reduceLeDiff, Int.reduceLE, Int.reduceLT, Nat.reduceEqDiff, Nat.reduceSub, SB, SV.known, packR, ne_eq, reduceCtorEq, Nat.reduceEqDiff, ↓reduceIte, if_true, if_false, eq_self, Nat.reduceAdd, Nat.reduceMul, Nat.reduceSub, forall_const, oneCellS, litOne, flat1, Kd.isSca, flat, TYB]
  refine loop_intro (fun i : Nat => [(0, .slice 0 off len cap), (1, .int v), (7, .int len), (8, .int i)]) (fun _ => [(0, .ints L e)]) 1 (fun i => i ≤ len ∧ ∀ k, k < i → (fun x => decide (v = x)) (((L.drop off).take len).getD k 0) = false) (fun i => len - i) ?_ ?_
  · refine ⟨0, ⟨by omega, by simp⟩, Sub.mk_id ?_ ?_ ?_ ?_ ?_⟩
    all_goals simp only [LB, subS, subH, wfS, wfH, SV.ren, renL, SObj.ren, SV.wf, SObj.wf, wfL, SV.known, Nat.reduceEqDiff, ↓reduceIte, if_true, if_false, eq_self, Nat.reduceAdd, Nat.reduceLT, Nat.reduceLeDiff, implies_true, reduceCtorEq, forall_const]
    all_goals simp
  · intro i hi
    obtain ⟨hi1, hi2⟩ := hi
    simp -implicitDefEqProofs only [lk_normal, ZB, Int.reduceToNat, Nat.reduceLT, Nat.reduceLeDiff, Int.reduceLE, Int.reduceLT, Nat.reduceEqDiff, Nat.reduceSub, SB, SV.known, packR, ne_eq, reduceCtorEq, Nat.reduceEqDiff, ↓reduceIte, if_true, if_false, eq_self, Nat.reduceAdd, Nat.reduceMul, Nat.reduceSub, forall_const, oneCellS, litOne, flat1, Kd.isSca, flat, TYB]
    refine ⟨fun h => ?_, fun h => ?_⟩
    · have hlt : i < len := by omega
      rw [← getD_cut L off len i hlt]
      (try (and_intros <;> try (first | omega | (unfold In64; omega) | trivial | assumption)))
      all_goals intro hv
      · rw [idxI_hit (i := i) (by omega) (by simpa using hv) hi2]
      · (try (and_intros <;> try (first | omega | (unfold In64; omega) | trivial | assumption)))
        refine ⟨i + 1, ⟨by omega, fun k hk => ?_⟩, by omega, Sub.mk_id ?_ ?_ ?_ ?_ ?_⟩
        · by_cases hki : k = i
          · subst hki; simpa using hv
          · exact hi2 k (by omega)
        all_goals simp only [LB, subS, subH, wfS, wfH, SV.ren, renL, SObj.ren, SV.wf, SObj.wf, wfL, SV.known, Nat.reduceEqDiff, ↓reduceIte, if_true, if_false, eq_self, Nat.reduceAdd, Nat.reduceLT, Nat.reduceLeDiff, implies_true, reduceCtorEq, forall_const]
    · obtain rfl : i = len := by omega
      rw [idxI_none (by rw [hE]; exact hi2)]
--@tbl index = slices.Index[[]int,int]
def index_F : List SV → Heap → Option (Prop × SV)
  | [.slice b off len _, .int v], H => match hget H b with
    | some (.ints L _) => some (off + len ≤ L.length ∧ len ≤ 9223372036854775806, .int (idxI (fun x => decide (v = x)) ((L.drop off).take len)))
    | _ => none
  | _, _ => none
theorem index_T : ∀ args H p v, index_F args H = some (p, v) → p → PureH Try.prog 124 args H v := by
  intro args H p v h hp
  unfold index_F at h
  split at h
  · rename_i b off len cap v
    split at h
    · rename_i L e hb
      cases h
      exact (index_ok v L e off len cap hp.1 hp.2).sub (H := H) (fun _ => b) (fun j o hj => by
        rw [hget_cons] at hj
        split at hj
        · cases hj; exact ⟨hb, fun _ => by omega, by simp [*]⟩
        · cases hj) (fun a ha c hc _ => by simp at ha hc; omega) (fun _ => trivial)
    · cases h
  · cases h
theorem lay_idx (t : List Int) : (idxI (fun x => decide (0 = x)) t < 0 → layN t = 4) ∧ (¬ idxI (fun x => decide (0 = x)) t < 0 → idxI (fun x => decide (0 = x)) t = layN t) := by
  unfold idxI layN
  have e : (fun x : Int => decide (0 = x)) = isZ0 := rfl
  rw [e]
  cases t.findIdx? isZ0 with
  | none => exact ⟨fun _ => rfl, fun h => (h (by simp)).elim⟩
  | some k => exact ⟨fun h => by simp at h; omega, fun _ => rfl⟩
theorem lay_le (t : List Int) (h : t.length = 4) : layN t ≤ 4 := by
  unfold layN
  cases hf : t.findIdx? isZ0 with
  | none => simp
  | some k =>
    obtain ⟨hk, _⟩ := List.findIdx?_eq_some_iff_getElem.1 hf
    simp; omega
--@tbl layers = impl.layers
theorem layers_ok (t : List Int) (ht : t.length = 4) : PureH Try.prog 73 [.arr t] [] (.int (layN t)) := by
  have tk : t.take 4 = t := List.take_of_length_le (by omega)
  obtain ⟨l1, l2⟩ := lay_idx t
  refine pure_of_vc (X := ⟨Try.prog, tys, [(124, index_F)], [], true, true, 0, [], []⟩) fn_73 ⟨tys_ok, (.cons index_T .nil), .nil, mixed⟩ (n0 := 0) (Nat.le_of_ble_eq_true rfl) (by simp [wfL, SV.wf]) (wfH_spec (by simp [wfH, SObj.wf])) (Nat.le_refl _) (fun _ => by simp [SV.wf, wfL]) ?_
  simp -implicitDefEqProofs only [Try.f73, Option.getD_some, argS, index_F, tk, ht, ZB, Int.reduceToNat, Nat.reduceLT, Nat.reduceLeDiff, Int.reduceLE, Int.reduceLT, Nat.reduceEqDiff, Nat.reduceSub, SB, SV.known, packR, ne_eq, reduceCtorEq, Nat.reduceEqDiff, ↓reduceIte, if_true, if_false, eq_self, Nat.reduceAdd, Nat.reduceMul, Nat.reduceSub, forall_const, oneCellS, litOne, flat1, Kd.isSca, flat, TYB]
  exact ⟨fun h => by rw [l1 h]; rfl, fun h => by rw [l2 h]⟩
def layers_F : List SV → Heap → Option (Prop × SV)
  | [.arr t], _ => some (t.length = 4, .int (layN t))
  | _, _ => none
theorem layers_T : ∀ args H p v, layers_F args H = some (p, v) → p → PureH Try.prog 73 args H v := by
  intro args H p v h hp
  unfold layers_F at h
  split at h
  · cases h; exact (layers_ok _ hp).any _
  · cases h
def is0 (c : Int) : Bool := decide (c = 0)
def tubeB (t : List Int) : Bool := (t.take (layN t)).all coT && (t.drop (layN t)).all is0
theorem isTube1_ok (n : Int) : PureH Try.prog 116 [.int n] [] (.bool (is0 n)) := by
  refine pure_of_vc (X := ⟨Try.prog, tys, [], [], true, true, 0, [], []⟩) fn_116 ⟨tys_ok, .nil, .nil, mixed⟩ (n0 := 0) (Nat.le_of_ble_eq_true rfl) (by simp [wfL, SV.wf]) (wfH_spec (by simp [wfH, SObj.wf])) (Nat.le_refl _) (fun _ => by simp [SV.wf, wfL]) ?_
  simp -implicitDefEqProofs only [Try.f116, Option.getD_some, argS, SB, SV.known, packR, ne_eq, reduceCtorEq, Nat.reduceEqDiff, ↓reduceIte, if_true, if_false, eq_self, Nat.reduceAdd, Nat.reduceMul, Nat.reduceSub, forall_const, oneCellS, litOne, flat1, Kd.isSca, flat, TYB]
  trivial
theorem isColor_ok' (i : Int) : PureH Try.prog 115 [.int i] [] (.bool (coT i)) := by
  refine pure_of_vc (X := ⟨Try.prog, tys, [(100, within_F)], [], true, true, 0, [], []⟩) fn_115 ⟨tys_ok, (.cons within_T .nil), .nil, mixed⟩ (n0 := 0) (Nat.le_of_ble_eq_true rfl) (by simp [wfL, SV.wf]) (wfH_spec (by simp [wfH, SObj.wf])) (Nat.le_refl _) (fun _ => by simp [SV.wf, wfL]) ?_
  simp -implicitDefEqProofs only [Try.f115, Option.getD_some, argS, within_F, SB, SV.known, packR, ne_eq, reduceCtorEq, Nat.reduceEqDiff, ↓reduceIte, if_true, if_false, eq_self, Nat.reduceAdd, Nat.reduceMul, Nat.reduceSub, forall_const, oneCellS, litOne, flat1, Kd.isSca, flat, TYB]
  trivial
--@tbl areAll_tube = impl.areAll[int]
def areAll_tube_F := areAllI_F [(115, coT), (116, is0)]
theorem areAll_tube_T : ∀ args H p v, areAll_tube_F args H = some (p, v) → p → PureH Try.prog 110 args H v :=
  areAllI_T (by intro q hq; simp at hq; rcases hq with rfl | rfl; exact isColor_ok'; exact isTube1_ok)
theorem cut_take (t : List Int) (m l : Nat) : (t.drop (cutOff m l 0 1)).take (m - l) = (t.drop l).take (m - l) := by
  unfold cutOff
  split
  · rename_i h; subst h; simp
  · simp
--@tbl isTube = impl.isTube
theorem isTube_ok (t : List Int) (ht : t.length = 4) : PureH Try.prog 66 [.arr t] [] (.bool (tubeB t)) := by
  have tk : t.take 4 = t := List.take_of_length_le (by omega)
  have hle := lay_le t ht
  unfold tubeB
  cases h : (t.take (layN t)).all coT
  · refine pure_of_vc (X := ⟨Try.prog, tys, [(73, layers_F), (110, areAll_tube_F)], [], true, true, 0, [], []⟩) fn_66 ⟨tys_ok, (.cons layers_T (.cons areAll_tube_T .nil)), .nil, mixed⟩ (n0 := 0) (Nat.le_of_ble_eq_true rfl) (by simp [wfL, SV.wf]) (wfH_spec (by simp [wfH, SObj.wf])) (Nat.le_refl _) (fun _ => by simp [SV.wf, wfL]) ?_
    simp -implicitDefEqProofs only [Try.f66, Option.getD_some, argS, layers_F, areAll_tube_F, areAllI_F, tk, ht, h, ZB, Int.reduceToNat, Nat.reduceLT, Nat.reduceLeDiff, Int.reduceLE, Int.reduceLT, Nat.reduceEqDiff, Nat.reduceSub, SB, SV.known, packR, ne_eq, reduceCtorEq, Nat.reduceEqDiff, ↓reduceIte, if_true, if_false, eq_self, Nat.reduceAdd, Nat.reduceMul, Nat.reduceSub, forall_const, oneCellS, litOne, flat1, Kd.isSca, flat, TYB]
    (try (and_intros <;> try (first | omega | (unfold In64; omega) | trivial | assumption)))
  · refine pure_of_vc (X := ⟨Try.prog, tys, [(73, layers_F), (110, areAll_tube_F)], [], true, true, 0, [], []⟩) fn_66 ⟨tys_ok, (.cons layers_T (.cons areAll_tube_T .nil)), .nil, mixed⟩ (n0 := 0) (Nat.le_of_ble_eq_true rfl) (by simp [wfL, SV.wf]) (wfH_spec (by simp [wfH, SObj.wf])) (Nat.le_refl _) (fun _ => by simp [SV.wf, wfL]) ?_
    simp -implicitDefEqProofs only [Try.f66, Option.getD_some, argS, layers_F, areAll_tube_F, areAllI_F, tk, ht, h, cut_take, ZB, Int.reduceToNat, Nat.reduceLT, Nat.reduceLeDiff, Int.reduceLE, Int.reduceLT, Nat.reduceEqDiff, Nat.reduceSub, SB, SV.known, packR, ne_eq, reduceCtorEq, Nat.reduceEqDiff, ↓reduceIte, if_true, if_false, eq_self, Nat.reduceAdd, Nat.reduceMul, Nat.reduceSub, forall_const, oneCellS, litOne, flat1, Kd.isSca, flat, TYB]
    have e : (t.drop (layN t)).take (4 - layN t) = t.drop (layN t) := List.take_of_length_le (by simp; omega)
    rw [e]
    have hc : cutOff 4 (layN t) 0 1 + (4 - layN t) ≤ 4 := by unfold cutOff; split <;> omega
    (try (and_intros <;> try (first | omega | (unfold In64; omega) | trivial | assumption)))
def isTube_F : List SV → Heap → Option (Prop × SV)
  | [.arr t], _ => some (t.length = 4, .bool (tubeB t))
  | _, _ => none
theorem isTube_T : ∀ args H p v, isTube_F args H = some (p, v) → p → PureH Try.prog 66 args H v := by
  intro args H p v h hp
  unfold isTube_F at h
  split at h
  · cases h; exact (isTube_ok _ hp).any _
  · cases h

/-! The same for tubes as elements. -/
def tubesOf (L : List Int) (off len : Nat) : List (List Int) := (List.range len).map fun i => (L.drop (off + i * 4)).take 4
theorem tubesOf_len (L : List Int) (off len : Nat) : (tubesOf L off len).length = len := by simp [tubesOf]
theorem tubesOf_getD (L : List Int) (off len k : Nat) (h : k < len) : (tubesOf L off len).getD k [] = (L.drop (off + k * 4)).take 4 := by simp [tubesOf, List.getD, h]
def idxG {α : Type} (pr : α → Bool) (l : List α) : Int := match l.findIdx? pr with
  | some k => k
  | none => -1
theorem idxG_hit {α : Type} {d : α} {pr : α → Bool} {l : List α} {i : Nat} (hi : i < l.length) (hp : pr (l.getD i d) = true) (hn : ∀ k, k < i → pr (l.getD k d) = false) : idxG pr l = i := by
  have : l.findIdx? pr = some i := by
    rw [List.findIdx?_eq_some_iff_getElem]
    refine ⟨hi, by simpa [List.getD, List.getElem?_eq_getElem hi] using hp, fun j hj => ?_⟩
    have := hn j hj
    simpa [List.getD, List.getElem?_eq_getElem (show j < l.length by omega)] using this
  simp [idxG, this]
theorem idxG_none {α : Type} {d : α} {pr : α → Bool} {l : List α} (hn : ∀ k, k < l.length → pr (l.getD k d) = false) : idxG pr l = -1 := by
  have : l.findIdx? pr = none := by
    rw [List.findIdx?_eq_none_iff]
    intro x hx
    obtain ⟨k, hk, rfl⟩ := List.getElem_of_mem hx
    have := hn k hk
    simpa [List.getD, List.getElem?_eq_getElem hk] using this
  simp [idxG, this]
theorem idxG_any {α : Type} (pr : α → Bool) (l : List α) : decide (0 ≤ idxG pr l) = l.any pr := by
  unfold idxG
  cases h : l.findIdx? pr with
  | none =>
    have := (List.findIdx?_eq_none_iff).1 h
    have e : l.any pr = false := by rw [List.any_eq_false]; intro x hx; simp [this x hx]
    rw [e]; decide
  | some k =>
    obtain ⟨hk, hp, _⟩ := List.findIdx?_eq_some_iff_getElem.1 h
    have e : l.any pr = true := List.any_eq_true.2 ⟨l[k], List.getElem_mem _, hp⟩
    rw [e]; simp
theorem indexFuncT_ok (g : Nat) (caps : List SV) (Hc : Heap) (pr : List Int → Bool) (n0 : Nat) (L : List Int) (e off len cap : Nat) (hl : off + len * 4 ≤ L.length) (hm : len ≤ 9223372036854775806)
    (hc : ∀ x ∈ tubesOf L off len, PureH Try.prog g (.arr x :: caps) ((0, .ints L e) :: Hc) (.bool (pr x))) (hw : wfL n0 caps) (hwH : hwf n0 ((0, .ints L e) :: Hc)) :
    PureH Try.prog 138 [.slice 0 off len cap, .fn g caps] ((0, .ints L e) :: Hc) (.int (idxG pr (tubesOf L off len))) := by
  have hE := tubesOf_len L off len
  have h00 : 0 < n0 := (hwH 0 _ (by rw [hget_cons, if_pos rfl])).1
  refine pure_of_vc (X := ⟨Try.prog, tys, [(g, fun args H => match args with | .arr x :: r => some (r = caps ∧ H = ((0, .ints L e) :: Hc) ∧ x ∈ tubesOf L off len, .bool (pr x)) | _ => none)], [], true, true, n0, [], []⟩) fn_138
    ⟨tys_ok, .cons (fun args H p v h hp => ?_) .nil, .nil, mixed⟩ (n0 := n0) (Nat.le_of_ble_eq_true rfl) ⟨by have := (hwH 0 _ (by rw [hget_cons, if_pos rfl])).1; simpa [SV.wf] using this, by simpa [SV.wf] using hw, trivial⟩ hwH (Nat.le_refl _) (fun _ => trivial) ?_
  · split at h
    · cases h
      obtain ⟨rfl, rfl, hx⟩ := hp
      exact hc _ hx
    · cases h
  simp -implicitDefEqProofs only [Try.f138, Option.getD_some, argS, SB, SV.known, packR, ne_eq, reduceCtorEq, Nat.reduceEqDiff, ↓reduceIte, if_true, if_false, eq_self, Nat.reduceAdd, Nat.reduceMul, Nat.reduceSub, forall_const, oneCellS, litOne, flat1, Kd.isSca, flat, TYB]
  refine loop_intro (fun i : Nat => [(0, .slice 0 off len cap), (1, .fn g caps), (7, .int len), (8, .int i)]) (fun i => (0, .ints L e) :: Hc) n0 (fun i => i ≤ len ∧ ∀ k, k < i → pr ((tubesOf L off len).getD k []) = false) (fun i => len - i) ?_ ?_
  · refine ⟨0, ⟨by omega, by simp⟩, Sub.same ?_ ?_ hwH (Nat.le_refl _)⟩
    · simp [subS, subH, wfS, wfH, SV.ren, renL, SObj.ren, SV.wf, SObj.wf, wfL, sget_cons, hget_cons, SV.known, renL_id]
    · simp [subS, subH, wfS, wfH, SV.ren, renL, SObj.ren, SV.wf, SObj.wf, wfL, sget_cons, hget_cons, hw, h00]
  · intro i hi
    obtain ⟨hi1, hi2⟩ := hi
    simp -implicitDefEqProofs only [lk_normal, SB, SV.known, packR, ne_eq, reduceCtorEq, Nat.reduceEqDiff, ↓reduceIte, if_true, if_false, eq_self, Nat.reduceAdd, Nat.reduceMul, Nat.reduceSub, forall_const, oneCellS, litOne, flat1, Kd.isSca, flat, TYB]
    refine ⟨fun h => ?_, fun h => ?_⟩
    · have hlt : i < len := by omega
      have e1 : off + (i : Int).toNat * 4 = off + i * 4 := by simp
      have e2 : (L.drop (off + i * 4)).take 4 = (tubesOf L off len).getD i [] := (tubesOf_getD L off len i hlt).symm
      simp only [e1, e2]
      refine ⟨by omega, by omega, by omega, ?_, ?_⟩
      · simp only [List.getD, List.getElem?_eq_getElem (show i < (tubesOf L off len).length by omega), Option.getD_some]
        exact List.getElem_mem _
      · cases hp : pr ((tubesOf L off len).getD i []) with
        | true =>
          simp -implicitDefEqProofs only [SB, SV.known, packR, ne_eq, reduceCtorEq, Nat.reduceEqDiff, ↓reduceIte, if_true, if_false, eq_self, Nat.reduceAdd, Nat.reduceMul, Nat.reduceSub, forall_const, oneCellS, litOne, flat1, Kd.isSca, flat, TYB]
          rw [idxG_hit (by omega) hp hi2]
        | false =>
          simp -implicitDefEqProofs only [lk_normal, SB, SV.known, packR, ne_eq, reduceCtorEq, Nat.reduceEqDiff, ↓reduceIte, if_true, if_false, eq_self, Nat.reduceAdd, Nat.reduceMul, Nat.reduceSub, forall_const, oneCellS, litOne, flat1, Kd.isSca, flat, TYB]
          refine ⟨by unfold In64; omega, i + 1, ⟨by omega, fun k hk => ?_⟩, by omega, Sub.same ?_ ?_ hwH (Nat.le_refl _)⟩
          · by_cases hki : k = i
            · subst hki; exact hp
            · exact hi2 k (by omega)
          · simp [subS, subH, wfS, wfH, SV.ren, renL, SObj.ren, SV.wf, SObj.wf, wfL, sget_cons, hget_cons, SV.known, renL_id]
          · simp [subS, subH, wfS, wfH, SV.ren, renL, SObj.ren, SV.wf, SObj.wf, wfL, sget_cons, hget_cons, hw, h00]
    · obtain rfl : i = len := by omega
      rw [idxG_none (by rw [hE]; exact hi2)]

theorem containsFuncT_ok (g : Nat) (caps : List SV) (Hc : Heap) (pr : List Int → Bool) (n0 : Nat) (L : List Int) (e off len cap : Nat) (hl : off + len * 4 ≤ L.length) (hm : len ≤ 9223372036854775806)
    (hc : ∀ x ∈ tubesOf L off len, PureH Try.prog g (.arr x :: caps) ((0, .ints L e) :: Hc) (.bool (pr x))) (hw : wfL n0 caps) (hwH : hwf n0 ((0, .ints L e) :: Hc)) :
    PureH Try.prog 113 [.slice 0 off len cap, .fn g caps] ((0, .ints L e) :: Hc) (.bool ((tubesOf L off len).any pr)) := by
  have h00 : 0 < n0 := (hwH 0 _ (by rw [hget_cons, if_pos rfl])).1
  refine pure_of_vc (X := ⟨Try.prog, tys, [(138, fun args H => some (args = [.slice 0 off len cap, .fn g caps] ∧ H = ((0, .ints L e) :: Hc), .int (idxG pr (tubesOf L off len))))], [], true, true, n0, [], []⟩) fn_113
    ⟨tys_ok, .cons (fun args H p v h hp => ?_) .nil, .nil, mixed⟩ (n0 := n0) (Nat.le_of_ble_eq_true rfl) ⟨by simpa [SV.wf] using h00, by simpa [SV.wf] using hw, trivial⟩ hwH (Nat.le_refl _) (fun _ => trivial) ?_
  · cases h
    obtain ⟨rfl, rfl⟩ := hp
    exact indexFuncT_ok g caps Hc pr n0 L e off len cap hl hm hc hw hwH
  simp -implicitDefEqProofs only [Try.f113, Option.getD_some, argS, SB, SV.known, packR, ne_eq, reduceCtorEq, Nat.reduceEqDiff, ↓reduceIte, if_true, if_false, eq_self, Nat.reduceAdd, Nat.reduceMul, Nat.reduceSub, forall_const, oneCellS, litOne, flat1, Kd.isSca, flat, TYB, idxG_any]

/-- areAll's own closure. -/
theorem tubesOf_mem {L : List Int} {off len : Nat} (h : off + len * 4 ≤ L.length) {x : List Int} (hx : x ∈ tubesOf L off len) : x.length = 4 := by
  obtain ⟨i, hi, rfl⟩ := List.mem_map.1 hx
  have := List.mem_range.1 hi
  rw [List.length_take, List.length_drop]; omega
theorem areAllT1_ok (x : List Int) (hx4 : x.length = 4) (g : Nat) (pr : List Int → Bool) (k et : Nat) (H : Heap) (hk : hget H k = some (.cells [.fn g []] et)) (hg : PureH Try.prog g [.arr x] [] (.bool (pr x))) :
    PureH Try.prog 114 [.arr x, .ptr k 0] H (.bool (!pr x)) := by
  have h0 : PureH Try.prog 114 [.arr x, .ptr 0 0] [(0, .cells [.fn g []] et)] (.bool (!pr x)) := by
    refine pure_of_vc (X := ⟨Try.prog, tys, [(g, fun args _ => some (args = [.arr x], .bool (pr x)))], [], true, true, 1, [], []⟩) fn_114
      ⟨tys_ok, .cons (fun args H p v h hp => ?_) .nil, .nil, mixed⟩ (n0 := 1) (Nat.le_of_ble_eq_true rfl) (by simp [wfL, SV.wf]) (wfH_spec (by simp [wfH, SObj.wf, wfL, SV.wf])) (Nat.le_refl _) (fun _ => trivial) ?_
    · cases h; subst hp; exact hg.any H
    have tkx : x.take 4 = x := List.take_of_length_le (by omega)
    simp -implicitDefEqProofs only [Try.f114, hx4, tkx, Option.getD_some, argS, SB, SV.known, packR, ne_eq, reduceCtorEq, Nat.reduceEqDiff, ↓reduceIte, if_true, if_false, eq_self, Nat.reduceAdd, Nat.reduceMul, Nat.reduceSub, forall_const, oneCellS, litOne, flat1, Kd.isSca, flat, TYB]
  exact h0.sub (H := H) (fun _ => k) (fun j o hj => by
    rw [hget_cons] at hj
    split at hj
    · cases hj; exact ⟨hk, fun _ => by omega, by simp [*]⟩
    · cases hj) (fun a ha b hb _ => by simp at ha hb; omega) (fun _ => trivial)

theorem all_anyT (pr : List Int → Bool) (l : List (List Int)) : (!l.any fun x => !pr x) = l.all pr := by simp [List.all_eq_not_any_not]

theorem areAllT_ok (g : Nat) (pr : List Int → Bool) (L : List Int) (e off len cap : Nat) (hl : off + len * 4 ≤ L.length) (hm : len ≤ 9223372036854775806) (hg : ∀ x ∈ tubesOf L off len, PureH Try.prog g [.arr x] [] (.bool (pr x))) :
    PureH Try.prog 65 [.slice 0 off len cap, .fn g []] [(0, .ints L e)] (.bool ((tubesOf L off len).all pr)) := by
  refine pure_of_vc (X := ⟨Try.prog, tys, [(113, fun args H => some (args = [.slice 0 off len cap, .fn 114 [.ptr 1 0]] ∧ hget H 0 = some (.ints L e) ∧ ∃ et, hget H 1 = some (.cells [.fn g []] et), .bool ((tubesOf L off len).any fun x => !pr x)))], [], true, true, 1, [], []⟩) fn_65
    ⟨tys_ok, .cons (fun args H p v h hp => ?_) .nil, .nil, mixed⟩ (n0 := 1) (Nat.le_of_ble_eq_true rfl) (by simp [wfL, SV.wf]) (wfH_spec (by simp [wfH, SObj.wf])) (Nat.le_refl _) (fun _ => trivial) ?_
  · cases h
    obtain ⟨rfl, h0, et, h1⟩ := hp
    have := containsFuncT_ok 114 [.ptr 1 0] [(1, .cells [.fn g []] et)] (fun x => !pr x) 2 L e off len cap hl hm (fun x hx => areAllT1_ok x (tubesOf_mem hl hx) g pr 1 et _ (by simp [hget_cons]) (hg x hx)) (by simp [wfL, SV.wf]) (wfH_spec (by simp [wfH, SObj.wf, wfL, SV.wf]))
    refine this.weaken (fun k o hk => ?_) (fun _ => trivial)
    simp only [hget_cons, hget_nil] at hk
    split at hk
    · rename_i h; cases hk; rw [h]; exact h0
    · split at hk
      · rename_i h; cases hk; rw [h]; exact h1
      · cases hk
  simp -implicitDefEqProofs only [Try.f65, Option.getD_some, argS, SB, SV.known, packR, ne_eq, reduceCtorEq, Nat.reduceEqDiff, ↓reduceIte, if_true, if_false, eq_self, Nat.reduceAdd, Nat.reduceMul, Nat.reduceSub, forall_const, oneCellS, litOne, flat1, Kd.isSca, flat, TYB, all_anyT]
  exact ⟨_, rfl⟩

end Go.Proofs.Ytnlbljikbonioaa
