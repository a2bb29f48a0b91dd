/- Texts of this claim, joined (A, B, R, C, S, D, PR, Lay, EqR, Cmp, K, M). -/
import Derived.Test.YtmccafjblhbmkaaGreatQ1
import Derived.Test.YtmccafjblhbmkaaGreatQ2
import Derived.Test.YtmccafjblhbmkaaGreatQ3
import Derived.Shelf.SlSortCmp.WholeK
import Derived.Shelf.SlGeneric
import Derived.Test.YtmccafjblhbmkaaGreatProg
import Derived.ChangeKeysEq
import Derived.Laws.StructEq
set_option maxRecDepth 100000
set_option linter.unusedSimpArgs false
set_option linter.unusedVariables false
namespace Go.Proofs.YtmccafjblhbmkaaGreat
open Go Go.RowKit
--@tbl within = impl.within
theorem within_ok (n lo hi : Int) : PureH Tryz.prog 69 [.int n, .int lo, .int hi] [] (.bool (decide (lo ≤ n ∧ n ≤ hi))) := by
  refine pure_of_vc (X := ⟨Tryz.prog, tys, [], [], true, true, 0, [], []⟩) fn_69 ⟨tys_ok, .nil, .nil, mixed⟩ (n0 := 0) (Nat.le_of_ble_eq_true rfl) (by simp [wfL, SV.wf]) (wfH_spec (by simp [wfH, SObj.wf])) (Nat.le_refl _) (fun _ => by simp [SV.wf, wfL]) ?_
  simp -implicitDefEqProofs only [Tryz.f69, Option.getD_some, argS, SB, SV.known, packR, ne_eq, reduceCtorEq, Nat.reduceEqDiff, ↓reduceIte, if_true, if_false, eq_self, Nat.reduceAdd, Nat.reduceMul, Nat.reduceSub, forall_const, oneCellS, litOne, flat1, Kd.isSca, flat, TYB]
  constructor <;> intro h <;> simp [h]
def within_F : List SV → Heap → Option (Prop × SV)
  | [.int n, .int lo, .int hi], _ => some (True, .bool (decide (lo ≤ n ∧ n ≤ hi)))
  | _, _ => none
theorem within_T : ∀ args H p v, within_F args H = some (p, v) → p → PureH Tryz.prog 69 args H v := by
  intro args H p v h hp
  unfold within_F at h
  split at h
  · cases h; exact (within_ok _ _ _).any _
  · cases h

theorem l1In_ok (n lo hi : Int) : PureH Tryz.prog 72 [.int n, .int lo, .int hi] [] (.bool (decide (lo ≤ n ∧ n ≤ hi))) := by
  refine pure_of_vc (X := ⟨Tryz.prog, tys, [], [], true, true, 0, [], []⟩) fn_72 ⟨tys_ok, .nil, .nil, mixed⟩ (n0 := 0) (Nat.le_of_ble_eq_true rfl) (by simp [wfL, SV.wf]) (wfH_spec (by simp [wfH, SObj.wf])) (Nat.le_refl _) (fun _ => by simp [SV.wf, wfL]) ?_
  simp -implicitDefEqProofs only [Tryz.f72, Option.getD_some, argS, SB, SV.known, packR, ne_eq, reduceCtorEq, Nat.reduceEqDiff, ↓reduceIte, if_true, if_false, eq_self, Nat.reduceAdd, Nat.reduceMul, Nat.reduceSub, forall_const, oneCellS, litOne, flat1, Kd.isSca, flat, TYB]
  constructor <;> intro h <;> simp [h]
def l1In_F : List SV → Heap → Option (Prop × SV)
  | [.int n, .int lo, .int hi], _ => some (True, .bool (decide (lo ≤ n ∧ n ≤ hi)))
  | _, _ => none
theorem l1In_T : ∀ args H p v, l1In_F args H = some (p, v) → p → PureH Tryz.prog 72 args H v := by
  intro args H p v h hp
  unfold l1In_F at h
  split at h
  · cases h; exact (l1In_ok _ _ _).any _
  · cases h

def idxI (pr : Int → Bool) (l : List Int) : Int := match l.findIdx? pr with
  | some k => k
  | none => -1

theorem idxI_hit {pr : Int → Bool} {l : List Int} {i : Nat} (hi : i < l.length) (hp : pr (l.getD i 0) = true) (hn : ∀ k, k < i → pr (l.getD k 0) = false) : idxI pr l = i := by
  have : l.findIdx? pr = some i := by
    rw [List.findIdx?_eq_some_iff_getElem]
    refine ⟨hi, by simpa [List.getD, List.getElem?_eq_getElem hi] using hp, fun j hj => ?_⟩
    have := hn j hj
    simpa [List.getD, List.getElem?_eq_getElem (show j < l.length by omega)] using this
  simp [idxI, this]
theorem idxI_none {pr : Int → Bool} {l : List Int} (hn : ∀ k, k < l.length → pr (l.getD k 0) = false) : idxI pr l = -1 := by
  have : l.findIdx? pr = none := by
    rw [List.findIdx?_eq_none_iff]
    intro x hx
    obtain ⟨k, hk, rfl⟩ := List.getElem_of_mem hx
    have := hn k hk
    simpa [List.getD, List.getElem?_eq_getElem hk] using this
  simp [idxI, this]
theorem getD_cut (L : List Int) (off len k : Nat) (h : k < len) : ((L.drop off).take len).getD k 0 = L.getD (off + k) 0 := by
  simp [List.getD, List.getElem?_take, h, List.getElem?_drop]

theorem indexFuncI_ok (g : Nat) (caps : List SV) (Hc : Heap) (pr : Int → Bool) (n0 : Nat) (L : List Int) (e off len cap : Nat) (hl : off + len ≤ L.length) (hm : len ≤ 9223372036854775806)
    (hc : ∀ x ∈ (L.drop off).take len, PureH Tryz.prog g (.int x :: caps) ((0, .ints L e) :: Hc) (.bool (pr x))) (hw : wfL n0 caps) (hwH : hwf n0 ((0, .ints L e) :: Hc)) :
    PureH Tryz.prog 161 [.slice 0 off len cap, .fn g caps] ((0, .ints L e) :: Hc) (.int (idxI pr ((L.drop off).take len))) := by
  have hE : ((L.drop off).take len).length = len := by simp; omega
  have h00 : 0 < n0 := (hwH 0 _ (by rw [hget_cons, if_pos rfl])).1
  refine pure_of_vc (X := ⟨Tryz.prog, tys, [(g, fun args H => match args with | .int x :: r => some (r = caps ∧ H = ((0, .ints L e) :: Hc) ∧ x ∈ (L.drop off).take len, .bool (pr x)) | _ => none)], [], true, true, n0, [], []⟩) fn_161
    ⟨tys_ok, .cons (fun args H p v h hp => ?_) .nil, .nil, mixed⟩ (n0 := n0) (Nat.le_of_ble_eq_true rfl) ⟨by have := (hwH 0 _ (by rw [hget_cons, if_pos rfl])).1; simpa [SV.wf] using this, by simpa [SV.wf] using hw, trivial⟩ hwH (Nat.le_refl _) (fun _ => trivial) ?_
  · split at h
    · cases h
      obtain ⟨rfl, rfl, hx⟩ := hp
      exact hc _ hx
    · cases h
  simp -implicitDefEqProofs only [Tryz.f161, Option.getD_some, argS, SB, SV.known, packR, ne_eq, reduceCtorEq, Nat.reduceEqDiff, ↓reduceIte, if_true, if_false, eq_self, Nat.reduceAdd, Nat.reduceMul, Nat.reduceSub, forall_const, oneCellS, litOne, flat1, Kd.isSca, flat, TYB]
  refine loop_intro (fun i : Nat => [(0, .slice 0 off len cap), (1, .fn g caps), (7, .int len), (8, .int i)]) (fun i => (0, .ints L e) :: Hc) n0 (fun i => i ≤ len ∧ ∀ k, k < i → pr (((L.drop off).take len).getD k 0) = false) (fun i => len - i) ?_ ?_
  · refine ⟨0, ⟨by omega, by simp⟩, Sub.same ?_ ?_ hwH (Nat.le_refl _)⟩
    · simp [subS, subH, wfS, wfH, SV.ren, renL, SObj.ren, SV.wf, SObj.wf, wfL, sget_cons, hget_cons, SV.known, renL_id]
    · simp [subS, subH, wfS, wfH, SV.ren, renL, SObj.ren, SV.wf, SObj.wf, wfL, sget_cons, hget_cons, hw, h00]
  · intro i hi
    obtain ⟨hi1, hi2⟩ := hi
    simp -implicitDefEqProofs only [lk_normal, SB, SV.known, packR, ne_eq, reduceCtorEq, Nat.reduceEqDiff, ↓reduceIte, if_true, if_false, eq_self, Nat.reduceAdd, Nat.reduceMul, Nat.reduceSub, forall_const, oneCellS, litOne, flat1, Kd.isSca, flat, TYB]
    refine ⟨fun h => ?_, fun h => ?_⟩
    · have hlt : i < len := by omega
      have e1 : off + (i : Int).toNat * 1 = off + i := by simp
      have e2 : L.getD (off + i) 0 = ((L.drop off).take len).getD i 0 := (getD_cut L off len i hlt).symm
      simp only [e1, e2]
      refine ⟨by omega, by omega, by omega, ?_, ?_⟩
      · simp only [List.getD, List.getElem?_eq_getElem (show i < ((L.drop off).take len).length by omega), Option.getD_some]
        exact List.getElem_mem _
      · cases hp : pr (((L.drop off).take len).getD i 0) with
        | true =>
          simp -implicitDefEqProofs only [SB, SV.known, packR, ne_eq, reduceCtorEq, Nat.reduceEqDiff, ↓reduceIte, if_true, if_false, eq_self, Nat.reduceAdd, Nat.reduceMul, Nat.reduceSub, forall_const, oneCellS, litOne, flat1, Kd.isSca, flat, TYB]
          rw [idxI_hit (by omega) hp hi2]
        | false =>
          simp -implicitDefEqProofs only [lk_normal, SB, SV.known, packR, ne_eq, reduceCtorEq, Nat.reduceEqDiff, ↓reduceIte, if_true, if_false, eq_self, Nat.reduceAdd, Nat.reduceMul, Nat.reduceSub, forall_const, oneCellS, litOne, flat1, Kd.isSca, flat, TYB]
          refine ⟨by unfold In64; omega, i + 1, ⟨by omega, fun k hk => ?_⟩, by omega, Sub.same ?_ ?_ hwH (Nat.le_refl _)⟩
          · by_cases hki : k = i
            · subst hki; exact hp
            · exact hi2 k (by omega)
          · simp [subS, subH, wfS, wfH, SV.ren, renL, SObj.ren, SV.wf, SObj.wf, wfL, sget_cons, hget_cons, SV.known, renL_id]
          · simp [subS, subH, wfS, wfH, SV.ren, renL, SObj.ren, SV.wf, SObj.wf, wfL, sget_cons, hget_cons, hw, h00]
    · obtain rfl : i = len := by omega
      rw [idxI_none (by rw [hE]; exact hi2)]

theorem hget_nil (k : Nat) : hget [] k = none := rfl
theorem idxI_any (pr : Int → Bool) (l : List Int) : decide (0 ≤ idxI pr l) = l.any pr := by
  unfold idxI
  cases h : l.findIdx? pr with
  | none =>
    have := (List.findIdx?_eq_none_iff).1 h
    have e : l.any pr = false := by rw [List.any_eq_false]; intro x hx; simp [this x hx]
    rw [e]; decide
  | some k =>
    obtain ⟨hk, hp, _⟩ := List.findIdx?_eq_some_iff_getElem.1 h
    have e : l.any pr = true := List.any_eq_true.2 ⟨l[k], List.getElem_mem _, hp⟩
    rw [e]; simp

theorem containsFuncI_ok (g : Nat) (caps : List SV) (Hc : Heap) (pr : Int → Bool) (n0 : Nat) (L : List Int) (e off len cap : Nat) (hl : off + len ≤ L.length) (hm : len ≤ 9223372036854775806)
    (hc : ∀ x ∈ (L.drop off).take len, PureH Tryz.prog g (.int x :: caps) ((0, .ints L e) :: Hc) (.bool (pr x))) (hw : wfL n0 caps) (hwH : hwf n0 ((0, .ints L e) :: Hc)) :
    PureH Tryz.prog 144 [.slice 0 off len cap, .fn g caps] ((0, .ints L e) :: Hc) (.bool (((L.drop off).take len).any pr)) := by
  have h00 : 0 < n0 := (hwH 0 _ (by rw [hget_cons, if_pos rfl])).1
  refine pure_of_vc (X := ⟨Tryz.prog, tys, [(161, fun args H => some (args = [.slice 0 off len cap, .fn g caps] ∧ H = ((0, .ints L e) :: Hc), .int (idxI pr ((L.drop off).take len))))], [], true, true, n0, [], []⟩) fn_144
    ⟨tys_ok, .cons (fun args H p v h hp => ?_) .nil, .nil, mixed⟩ (n0 := n0) (Nat.le_of_ble_eq_true rfl) ⟨by simpa [SV.wf] using h00, by simpa [SV.wf] using hw, trivial⟩ hwH (Nat.le_refl _) (fun _ => trivial) ?_
  · cases h
    obtain ⟨rfl, rfl⟩ := hp
    exact indexFuncI_ok g caps Hc pr n0 L e off len cap hl hm hc hw hwH
  simp -implicitDefEqProofs only [Tryz.f144, Option.getD_some, argS, SB, SV.known, packR, ne_eq, reduceCtorEq, Nat.reduceEqDiff, ↓reduceIte, if_true, if_false, eq_self, Nat.reduceAdd, Nat.reduceMul, Nat.reduceSub, forall_const, oneCellS, litOne, flat1, Kd.isSca, flat, TYB, idxI_any]

/-- areAll's own closure. -/
theorem areAllI1_ok (x : Int) (g : Nat) (pr : Int → Bool) (k et : Nat) (H : Heap) (hk : hget H k = some (.cells [.fn g []] et)) (hg : PureH Tryz.prog g [.int x] [] (.bool (pr x))) :
    PureH Tryz.prog 145 [.int x, .ptr k 0] H (.bool (!pr x)) := by
  have h0 : PureH Tryz.prog 145 [.int x, .ptr 0 0] [(0, .cells [.fn g []] et)] (.bool (!pr x)) := by
    refine pure_of_vc (X := ⟨Tryz.prog, tys, [(g, fun args _ => some (args = [.int x], .bool (pr x)))], [], true, true, 1, [], []⟩) fn_145
      ⟨tys_ok, .cons (fun args H p v h hp => ?_) .nil, .nil, mixed⟩ (n0 := 1) (Nat.le_of_ble_eq_true rfl) (by simp [wfL, SV.wf]) (wfH_spec (by simp [wfH, SObj.wf, wfL, SV.wf])) (Nat.le_refl _) (fun _ => trivial) ?_
    · cases h; subst hp; exact hg.any H
    simp -implicitDefEqProofs only [Tryz.f145, Option.getD_some, argS, SB, SV.known, packR, ne_eq, reduceCtorEq, Nat.reduceEqDiff, ↓reduceIte, if_true, if_false, eq_self, Nat.reduceAdd, Nat.reduceMul, Nat.reduceSub, forall_const, oneCellS, litOne, flat1, Kd.isSca, flat, TYB]
  exact h0.sub (H := H) (fun _ => k) (fun j o hj => by
    rw [hget_cons] at hj
    split at hj
    · cases hj; exact ⟨hk, fun _ => by omega, by simp [*]⟩
    · cases hj) (fun a ha b hb _ => by simp at ha hb; omega) (fun _ => trivial)

theorem all_any (pr : Int → Bool) (l : List Int) : (!l.any fun x => !pr x) = l.all pr := by simp [List.all_eq_not_any_not]

theorem areAllI_ok (g : Nat) (pr : Int → Bool) (L : List Int) (e off len cap : Nat) (hl : off + len ≤ L.length) (hm : len ≤ 9223372036854775806) (hg : ∀ x, PureH Tryz.prog g [.int x] [] (.bool (pr x))) :
    PureH Tryz.prog 103 [.slice 0 off len cap, .fn g []] [(0, .ints L e)] (.bool (((L.drop off).take len).all pr)) := by
  refine pure_of_vc (X := ⟨Tryz.prog, tys, [(144, fun args H => some (args = [.slice 0 off len cap, .fn 145 [.ptr 1 0]] ∧ hget H 0 = some (.ints L e) ∧ ∃ et, hget H 1 = some (.cells [.fn g []] et), .bool (((L.drop off).take len).any fun x => !pr x)))], [], true, true, 1, [], []⟩) fn_103
    ⟨tys_ok, .cons (fun args H p v h hp => ?_) .nil, .nil, mixed⟩ (n0 := 1) (Nat.le_of_ble_eq_true rfl) (by simp [wfL, SV.wf]) (wfH_spec (by simp [wfH, SObj.wf])) (Nat.le_refl _) (fun _ => trivial) ?_
  · cases h
    obtain ⟨rfl, h0, et, h1⟩ := hp
    have := containsFuncI_ok 145 [.ptr 1 0] [(1, .cells [.fn g []] et)] (fun x => !pr x) 2 L e off len cap hl hm (fun x _ => areAllI1_ok x g pr 1 et _ (by simp [hget_cons]) (hg x)) (by simp [wfL, SV.wf]) (wfH_spec (by simp [wfH, SObj.wf, wfL, SV.wf]))
    refine this.weaken (fun k o hk => ?_) (fun _ => trivial)
    simp only [hget_cons, hget_nil] at hk
    split at hk
    · rename_i h; cases hk; rw [h]; exact h0
    · split at hk
      · rename_i h; cases hk; rw [h]; exact h1
      · cases hk
  simp -implicitDefEqProofs only [Tryz.f103, Option.getD_some, argS, SB, SV.known, packR, ne_eq, reduceCtorEq, Nat.reduceEqDiff, ↓reduceIte, if_true, if_false, eq_self, Nat.reduceAdd, Nat.reduceMul, Nat.reduceSub, forall_const, oneCellS, litOne, flat1, Kd.isSca, flat, TYB, all_any]
  exact ⟨_, rfl⟩

/-- areAll at a list of predicates. -/
def areAllI_F (prs : List (Nat × (Int → Bool))) : List SV → Heap → Option (Prop × SV)
  | [.slice b off len _, .fn g []], H => match hget H b, prs.lookup g with
    | some (.ints L _), some pr => some (off + len ≤ L.length ∧ len ≤ 9223372036854775806, .bool (((L.drop off).take len).all pr))
    | _, _ => none
  | _, _ => none
theorem areAllI_T {prs : List (Nat × (Int → Bool))} (hp : ∀ q ∈ prs, ∀ x, PureH Tryz.prog q.1 [.int x] [] (.bool (q.2 x))) : ∀ args H p v, areAllI_F prs args H = some (p, v) → p → PureH Tryz.prog 103 args H v := by
  intro args H p v h hpp
  unfold areAllI_F at h
  split at h
  · rename_i b off len cap g
    split at h
    · rename_i L e pr hb hg
      cases h
      have := areAllI_ok g pr L e off len cap hpp.1 hpp.2 (hp _ (lookup_mem hg))
      exact this.sub (H := H) (fun _ => b) (fun j o hj => by
        rw [hget_cons] at hj
        split at hj
        · cases hj; exact ⟨hb, fun _ => by omega, by simp [*]⟩
        · cases hj) (fun a ha c hc _ => by simp at ha hc; omega) (fun _ => trivial)
    · cases h
  · cases h

/-! Walks in the caller's own heap, at any names. -/
theorem gen_direct {X : Cx} {f : FuncId} {fn : Func} {c : Code} (hf : FnOK X.P f fn c X.sx X.hr) (hX : CxOK X) {args : List SV} {H : Heap} {n m : Nat} {ψ κ : K1} (hm : X.m = m) (hN : args.length ≤ fn.ntmps)
    (h : hwf n H → wfL n args → codeVC X n c (argS 0 args) H n (retK X.τ fn.results.toList ψ)) (hk : hwf n H → ∀ v H' n', ψ v H' n' → n ≤ n' → hwf n' H' → v.wf n' → κ v H' n') : GenOK X.P f args H n m κ := by
  subst hm
  refine ⟨hf.ent, fun B M w hH hwH hwa hown hM => ?_⟩
  refine (run_of_vc hf hX hN hwa hwH (Nat.le_refl _) (h hwH hwa) B M w hH hown hM).mono fun e w' hh => ?_
  obtain ⟨v, H', n', B', g0, g1, g2, g3, g4, g5, g6, g7, g8⟩ := hh
  exact ⟨v, H', n', B', g0, hk hwH v H' n' g1 g8 g3 g2, g8, g2, g3, g7, g4, g5, g6⟩
theorem ne_add' {k n : Nat} (h : k < n) : (k = n) = False := by simp; omega
theorem add_self (n i : Nat) : (n = n + (i + 1)) = False := by simp
theorem self_add (n i : Nat) : (n + (i + 1) = n) = False := by simp
theorem add_add (n i j : Nat) : (n + i = n + j) = (i = j) := by simp
end Go.Proofs.YtmccafjblhbmkaaGreat
set_option maxRecDepth 100000
set_option linter.unusedSimpArgs false
set_option linter.unusedVariables false
namespace Go.Proofs.YtmccafjblhbmkaaGreat
open Go Go.RowKit
--@tbl toIntA6 = laws.toIntA6
/-! IsDepths. -/
def isDep (n : Int) : Bool := decide (1 ≤ n ∧ n ≤ 4)
--@tbl areAll_dep = impl.areAll[int]
--@tbl isDepths = impl.IsDepths
--@tbl l8Depths = spec.l8Depths
end Go.Proofs.YtmccafjblhbmkaaGreat
set_option maxRecDepth 100000
set_option linter.unusedSimpArgs false
set_option linter.unusedVariables false
namespace Go.Proofs.YtmccafjblhbmkaaGreat
open Go Go.RowKit
/-! Tubes. -/
def isZ0 (x : Int) : Bool := decide (0 = x)
def coT (i : Int) : Bool := decide (1 ≤ i ∧ i ≤ 5)
def layN (t : List Int) : Nat := (t.findIdx? isZ0).getD 4
theorem index_ok (v : Int) (L : List Int) (e off len cap : Nat) (hl : off + len ≤ L.length) (hm : len ≤ 9223372036854775806) :
    PureH Tryz.prog 158 [.slice 0 off len cap, .int v] [(0, .ints L e)] (.int (idxI (fun x => decide (v = x)) ((L.drop off).take len))) := by
  have hE : ((L.drop off).take len).length = len := by simp; omega
  refine pure_of_vc (X := ⟨Tryz.prog, tys, [], [], true, true, 1, [], []⟩) fn_158 ⟨tys_ok, .nil, .nil, mixed⟩ (n0 := 1) (Nat.le_of_ble_eq_true rfl) (by simp [wfL, SV.wf]) (wfH_spec (by simp [wfH, SObj.wf])) (Nat.le_refl _) (fun _ => by simp [SV.wf, wfL]) ?_
  simp -implicitDefEqProofs only [Tryz.f158, Option.getD_some, argS, ZB, Int.reduceToNat, Nat.reduceLT, Nat.reduceLeDiff, Int.reduceLE, Int.reduceLT, Nat.reduceEqDiff, Nat.reduceSub, SB, SV.known, packR, ne_eq, reduceCtorEq, Nat.reduceEqDiff, ↓reduceIte, if_true, if_false, eq_self, Nat.reduceAdd, Nat.reduceMul, Nat.reduceSub, forall_const, oneCellS, litOne, flat1, Kd.isSca, flat, TYB]
  refine loop_intro (fun i : Nat => [(0, .slice 0 off len cap), (1, .int v), (7, .int len), (8, .int i)]) (fun _ => [(0, .ints L e)]) 1 (fun i => i ≤ len ∧ ∀ k, k < i → (fun x => decide (v = x)) (((L.drop off).take len).getD k 0) = false) (fun i => len - i) ?_ ?_
  · refine ⟨0, ⟨by omega, by simp⟩, Sub.mk_id ?_ ?_ ?_ ?_ ?_⟩
    all_goals simp only [LB, subS, subH, wfS, wfH, SV.ren, renL, SObj.ren, SV.wf, SObj.wf, wfL, SV.known, Nat.reduceEqDiff, ↓reduceIte, if_true, if_false, eq_self, Nat.reduceAdd, Nat.reduceLT, Nat.reduceLeDiff, implies_true, reduceCtorEq, forall_const]
    all_goals simp
  · intro i hi
    obtain ⟨hi1, hi2⟩ := hi
    simp -implicitDefEqProofs only [lk_normal, ZB, Int.reduceToNat, Nat.reduceLT, Nat.reduceLeDiff, Int.reduceLE, Int.reduceLT, Nat.reduceEqDiff, Nat.reduceSub, SB, SV.known, packR, ne_eq, reduceCtorEq, Nat.reduceEqDiff, ↓reduceIte, if_true, if_false, eq_self, Nat.reduceAdd, Nat.reduceMul, Nat.reduceSub, forall_const, oneCellS, litOne, flat1, Kd.isSca, flat, TYB]
    refine ⟨fun h => ?_, fun h => ?_⟩
    · have hlt : i < len := by omega
      rw [← getD_cut L off len i hlt]
      (try (and_intros <;> try (first | omega | (unfold In64; omega) | trivial | assumption)))
      all_goals intro hv
      · rw [idxI_hit (i := i) (by omega) (by simpa using hv) hi2]
      · (try (and_intros <;> try (first | omega | (unfold In64; omega) | trivial | assumption)))
        refine ⟨i + 1, ⟨by omega, fun k hk => ?_⟩, by omega, Sub.mk_id ?_ ?_ ?_ ?_ ?_⟩
        · by_cases hki : k = i
          · subst hki; simpa using hv
          · exact hi2 k (by omega)
        all_goals simp only [LB, subS, subH, wfS, wfH, SV.ren, renL, SObj.ren, SV.wf, SObj.wf, wfL, SV.known, Nat.reduceEqDiff, ↓reduceIte, if_true, if_false, eq_self, Nat.reduceAdd, Nat.reduceLT, Nat.reduceLeDiff, implies_true, reduceCtorEq, forall_const]
    · obtain rfl : i = len := by omega
      rw [idxI_none (by rw [hE]; exact hi2)]
--@tbl index = slices.Index[[]int,int]
def index_F : List SV → Heap → Option (Prop × SV)
  | [.slice b off len _, .int v], H => match hget H b with
    | some (.ints L _) => some (off + len ≤ L.length ∧ len ≤ 9223372036854775806, .int (idxI (fun x => decide (v = x)) ((L.drop off).take len)))
    | _ => none
  | _, _ => none
theorem index_T : ∀ args H p v, index_F args H = some (p, v) → p → PureH Tryz.prog 158 args H v := by
  intro args H p v h hp
  unfold index_F at h
  split at h
  · rename_i b off len cap v
    split at h
    · rename_i L e hb
      cases h
      exact (index_ok v L e off len cap hp.1 hp.2).sub (H := H) (fun _ => b) (fun j o hj => by
        rw [hget_cons] at hj
        split at hj
        · cases hj; exact ⟨hb, fun _ => by omega, by simp [*]⟩
        · cases hj) (fun a ha c hc _ => by simp at ha hc; omega) (fun _ => trivial)
    · cases h
  · cases h
theorem lay_idx (t : List Int) : (idxI (fun x => decide (0 = x)) t < 0 → layN t = 4) ∧ (¬ idxI (fun x => decide (0 = x)) t < 0 → idxI (fun x => decide (0 = x)) t = layN t) := by
  unfold idxI layN
  have e : (fun x : Int => decide (0 = x)) = isZ0 := rfl
  rw [e]
  cases t.findIdx? isZ0 with
  | none => exact ⟨fun _ => rfl, fun h => (h (by simp)).elim⟩
  | some k => exact ⟨fun h => by simp at h; omega, fun _ => rfl⟩
theorem lay_le (t : List Int) (h : t.length = 4) : layN t ≤ 4 := by
  unfold layN
  cases hf : t.findIdx? isZ0 with
  | none => simp
  | some k =>
    obtain ⟨hk, _⟩ := List.findIdx?_eq_some_iff_getElem.1 hf
    simp; omega
--@tbl layers = impl.layers
theorem layers_ok (t : List Int) (ht : t.length = 4) : PureH Tryz.prog 135 [.arr t] [] (.int (layN t)) := by
  have tk : t.take 4 = t := List.take_of_length_le (by omega)
  obtain ⟨l1, l2⟩ := lay_idx t
  refine pure_of_vc (X := ⟨Tryz.prog, tys, [(158, index_F)], [], true, true, 0, [], []⟩) fn_135 ⟨tys_ok, (.cons index_T .nil), .nil, mixed⟩ (n0 := 0) (Nat.le_of_ble_eq_true rfl) (by simp [wfL, SV.wf]) (wfH_spec (by simp [wfH, SObj.wf])) (Nat.le_refl _) (fun _ => by simp [SV.wf, wfL]) ?_
  simp -implicitDefEqProofs only [Tryz.f135, Option.getD_some, argS, index_F, tk, ht, ZB, Int.reduceToNat, Nat.reduceLT, Nat.reduceLeDiff, Int.reduceLE, Int.reduceLT, Nat.reduceEqDiff, Nat.reduceSub, SB, SV.known, packR, ne_eq, reduceCtorEq, Nat.reduceEqDiff, ↓reduceIte, if_true, if_false, eq_self, Nat.reduceAdd, Nat.reduceMul, Nat.reduceSub, forall_const, oneCellS, litOne, flat1, Kd.isSca, flat, TYB]
  exact ⟨fun h => by rw [l1 h]; rfl, fun h => by rw [l2 h]⟩
def layers_F : List SV → Heap → Option (Prop × SV)
  | [.arr t], _ => some (t.length = 4, .int (layN t))
  | _, _ => none
theorem layers_T : ∀ args H p v, layers_F args H = some (p, v) → p → PureH Tryz.prog 135 args H v := by
  intro args H p v h hp
  unfold layers_F at h
  split at h
  · cases h; exact (layers_ok _ hp).any _
  · cases h
def is0 (c : Int) : Bool := decide (c = 0)
def tubeB (t : List Int) : Bool := (t.take (layN t)).all coT && (t.drop (layN t)).all is0
theorem isTube1_ok (n : Int) : PureH Tryz.prog 151 [.int n] [] (.bool (is0 n)) := by
  refine pure_of_vc (X := ⟨Tryz.prog, tys, [], [], true, true, 0, [], []⟩) fn_151 ⟨tys_ok, .nil, .nil, mixed⟩ (n0 := 0) (Nat.le_of_ble_eq_true rfl) (by simp [wfL, SV.wf]) (wfH_spec (by simp [wfH, SObj.wf])) (Nat.le_refl _) (fun _ => by simp [SV.wf, wfL]) ?_
  simp -implicitDefEqProofs only [Tryz.f151, Option.getD_some, argS, SB, SV.known, packR, ne_eq, reduceCtorEq, Nat.reduceEqDiff, ↓reduceIte, if_true, if_false, eq_self, Nat.reduceAdd, Nat.reduceMul, Nat.reduceSub, forall_const, oneCellS, litOne, flat1, Kd.isSca, flat, TYB]
  trivial
theorem isColor_ok' (i : Int) : PureH Tryz.prog 150 [.int i] [] (.bool (coT i)) := by
  refine pure_of_vc (X := ⟨Tryz.prog, tys, [(69, within_F)], [], true, true, 0, [], []⟩) fn_150 ⟨tys_ok, (.cons within_T .nil), .nil, mixed⟩ (n0 := 0) (Nat.le_of_ble_eq_true rfl) (by simp [wfL, SV.wf]) (wfH_spec (by simp [wfH, SObj.wf])) (Nat.le_refl _) (fun _ => by simp [SV.wf, wfL]) ?_
  simp -implicitDefEqProofs only [Tryz.f150, Option.getD_some, argS, within_F, SB, SV.known, packR, ne_eq, reduceCtorEq, Nat.reduceEqDiff, ↓reduceIte, if_true, if_false, eq_self, Nat.reduceAdd, Nat.reduceMul, Nat.reduceSub, forall_const, oneCellS, litOne, flat1, Kd.isSca, flat, TYB]
  trivial
--@tbl areAll_tube = impl.areAll[int]
def areAll_tube_F := areAllI_F [(150, coT), (151, is0)]
theorem areAll_tube_T : ∀ args H p v, areAll_tube_F args H = some (p, v) → p → PureH Tryz.prog 103 args H v :=
  areAllI_T (by intro q hq; simp at hq; rcases hq with rfl | rfl; exact isColor_ok'; exact isTube1_ok)
theorem cut_take (t : List Int) (m l : Nat) : (t.drop (cutOff m l 0 1)).take (m - l) = (t.drop l).take (m - l) := by
  unfold cutOff
  split
  · rename_i h; subst h; simp
  · simp
--@tbl isTube = impl.isTube
theorem isTube_ok (t : List Int) (ht : t.length = 4) : PureH Tryz.prog 118 [.arr t] [] (.bool (tubeB t)) := by
  have tk : t.take 4 = t := List.take_of_length_le (by omega)
  have hle := lay_le t ht
  unfold tubeB
  cases h : (t.take (layN t)).all coT
  · refine pure_of_vc (X := ⟨Tryz.prog, tys, [(135, layers_F), (103, areAll_tube_F)], [], true, true, 0, [], []⟩) fn_118 ⟨tys_ok, (.cons layers_T (.cons areAll_tube_T .nil)), .nil, mixed⟩ (n0 := 0) (Nat.le_of_ble_eq_true rfl) (by simp [wfL, SV.wf]) (wfH_spec (by simp [wfH, SObj.wf])) (Nat.le_refl _) (fun _ => by simp [SV.wf, wfL]) ?_
    simp -implicitDefEqProofs only [Tryz.f118, Option.getD_some, argS, layers_F, areAll_tube_F, areAllI_F, tk, ht, h, ZB, Int.reduceToNat, Nat.reduceLT, Nat.reduceLeDiff, Int.reduceLE, Int.reduceLT, Nat.reduceEqDiff, Nat.reduceSub, SB, SV.known, packR, ne_eq, reduceCtorEq, Nat.reduceEqDiff, ↓reduceIte, if_true, if_false, eq_self, Nat.reduceAdd, Nat.reduceMul, Nat.reduceSub, forall_const, oneCellS, litOne, flat1, Kd.isSca, flat, TYB]
    (try (and_intros <;> try (first | omega | (unfold In64; omega) | trivial | assumption)))
  · refine pure_of_vc (X := ⟨Tryz.prog, tys, [(135, layers_F), (103, areAll_tube_F)], [], true, true, 0, [], []⟩) fn_118 ⟨tys_ok, (.cons layers_T (.cons areAll_tube_T .nil)), .nil, mixed⟩ (n0 := 0) (Nat.le_of_ble_eq_true rfl) (by simp [wfL, SV.wf]) (wfH_spec (by simp [wfH, SObj.wf])) (Nat.le_refl _) (fun _ => by simp [SV.wf, wfL]) ?_
    simp -implicitDefEqProofs only [Tryz.f118, Option.getD_some, argS, layers_F, areAll_tube_F, areAllI_F, tk, ht, h, cut_take, ZB, Int.reduceToNat, Nat.reduceLT, Nat.reduceLeDiff, Int.reduceLE, Int.reduceLT, Nat.reduceEqDiff, Nat.reduceSub, SB, SV.known, packR, ne_eq, reduceCtorEq, Nat.reduceEqDiff, ↓reduceIte, if_true, if_false, eq_self, Nat.reduceAdd, Nat.reduceMul, Nat.reduceSub, forall_const, oneCellS, litOne, flat1, Kd.isSca, flat, TYB]
    have e : (t.drop (layN t)).take (4 - layN t) = t.drop (layN t) := List.take_of_length_le (by simp; omega)
    rw [e]
    have hc : cutOff 4 (layN t) 0 1 + (4 - layN t) ≤ 4 := by unfold cutOff; split <;> omega
    (try (and_intros <;> try (first | omega | (unfold In64; omega) | trivial | assumption)))
/-! The same for tubes as elements. -/
def tubesOf (L : List Int) (off len : Nat) : List (List Int) := (List.range len).map fun i => (L.drop (off + i * 4)).take 4
theorem tubesOf_len (L : List Int) (off len : Nat) : (tubesOf L off len).length = len := by simp [tubesOf]
theorem tubesOf_getD (L : List Int) (off len k : Nat) (h : k < len) : (tubesOf L off len).getD k [] = (L.drop (off + k * 4)).take 4 := by simp [tubesOf, List.getD, h]
def idxG {α : Type} (pr : α → Bool) (l : List α) : Int := match l.findIdx? pr with
  | some k => k
  | none => -1
theorem idxG_hit {α : Type} {d : α} {pr : α → Bool} {l : List α} {i : Nat} (hi : i < l.length) (hp : pr (l.getD i d) = true) (hn : ∀ k, k < i → pr (l.getD k d) = false) : idxG pr l = i := by
  have : l.findIdx? pr = some i := by
    rw [List.findIdx?_eq_some_iff_getElem]
    refine ⟨hi, by simpa [List.getD, List.getElem?_eq_getElem hi] using hp, fun j hj => ?_⟩
    have := hn j hj
    simpa [List.getD, List.getElem?_eq_getElem (show j < l.length by omega)] using this
  simp [idxG, this]
theorem idxG_none {α : Type} {d : α} {pr : α → Bool} {l : List α} (hn : ∀ k, k < l.length → pr (l.getD k d) = false) : idxG pr l = -1 := by
  have : l.findIdx? pr = none := by
    rw [List.findIdx?_eq_none_iff]
    intro x hx
    obtain ⟨k, hk, rfl⟩ := List.getElem_of_mem hx
    have := hn k hk
    simpa [List.getD, List.getElem?_eq_getElem hk] using this
  simp [idxG, this]
theorem idxG_any {α : Type} (pr : α → Bool) (l : List α) : decide (0 ≤ idxG pr l) = l.any pr := by
  unfold idxG
  cases h : l.findIdx? pr with
  | none =>
    have := (List.findIdx?_eq_none_iff).1 h
    have e : l.any pr = false := by rw [List.any_eq_false]; intro x hx; simp [this x hx]
    rw [e]; decide
  | some k =>
    obtain ⟨hk, hp, _⟩ := List.findIdx?_eq_some_iff_getElem.1 h
    have e : l.any pr = true := List.any_eq_true.2 ⟨l[k], List.getElem_mem _, hp⟩
    rw [e]; simp
theorem indexFuncT_ok (g : Nat) (caps : List SV) (Hc : Heap) (pr : List Int → Bool) (n0 : Nat) (L : List Int) (e off len cap : Nat) (hl : off + len * 4 ≤ L.length) (hm : len ≤ 9223372036854775806)
    (hc : ∀ x ∈ tubesOf L off len, PureH Tryz.prog g (.arr x :: caps) ((0, .ints L e) :: Hc) (.bool (pr x))) (hw : wfL n0 caps) (hwH : hwf n0 ((0, .ints L e) :: Hc)) :
    PureH Tryz.prog 162 [.slice 0 off len cap, .fn g caps] ((0, .ints L e) :: Hc) (.int (idxG pr (tubesOf L off len))) := by
  have hE := tubesOf_len L off len
  have h00 : 0 < n0 := (hwH 0 _ (by rw [hget_cons, if_pos rfl])).1
  refine pure_of_vc (X := ⟨Tryz.prog, tys, [(g, fun args H => match args with | .arr x :: r => some (r = caps ∧ H = ((0, .ints L e) :: Hc) ∧ x ∈ tubesOf L off len, .bool (pr x)) | _ => none)], [], true, true, n0, [], []⟩) fn_162
    ⟨tys_ok, .cons (fun args H p v h hp => ?_) .nil, .nil, mixed⟩ (n0 := n0) (Nat.le_of_ble_eq_true rfl) ⟨by have := (hwH 0 _ (by rw [hget_cons, if_pos rfl])).1; simpa [SV.wf] using this, by simpa [SV.wf] using hw, trivial⟩ hwH (Nat.le_refl _) (fun _ => trivial) ?_
  · split at h
    · cases h
      obtain ⟨rfl, rfl, hx⟩ := hp
      exact hc _ hx
    · cases h
  simp -implicitDefEqProofs only [Tryz.f162, Option.getD_some, argS, SB, SV.known, packR, ne_eq, reduceCtorEq, Nat.reduceEqDiff, ↓reduceIte, if_true, if_false, eq_self, Nat.reduceAdd, Nat.reduceMul, Nat.reduceSub, forall_const, oneCellS, litOne, flat1, Kd.isSca, flat, TYB]
  refine loop_intro (fun i : Nat => [(0, .slice 0 off len cap), (1, .fn g caps), (7, .int len), (8, .int i)]) (fun i => (0, .ints L e) :: Hc) n0 (fun i => i ≤ len ∧ ∀ k, k < i → pr ((tubesOf L off len).getD k []) = false) (fun i => len - i) ?_ ?_
  · refine ⟨0, ⟨by omega, by simp⟩, Sub.same ?_ ?_ hwH (Nat.le_refl _)⟩
    · simp [subS, subH, wfS, wfH, SV.ren, renL, SObj.ren, SV.wf, SObj.wf, wfL, sget_cons, hget_cons, SV.known, renL_id]
    · simp [subS, subH, wfS, wfH, SV.ren, renL, SObj.ren, SV.wf, SObj.wf, wfL, sget_cons, hget_cons, hw, h00]
  · intro i hi
    obtain ⟨hi1, hi2⟩ := hi
    simp -implicitDefEqProofs only [lk_normal, SB, SV.known, packR, ne_eq, reduceCtorEq, Nat.reduceEqDiff, ↓reduceIte, if_true, if_false, eq_self, Nat.reduceAdd, Nat.reduceMul, Nat.reduceSub, forall_const, oneCellS, litOne, flat1, Kd.isSca, flat, TYB]
    refine ⟨fun h => ?_, fun h => ?_⟩
    · have hlt : i < len := by omega
      have e1 : off + (i : Int).toNat * 4 = off + i * 4 := by simp
      have e2 : (L.drop (off + i * 4)).take 4 = (tubesOf L off len).getD i [] := (tubesOf_getD L off len i hlt).symm
      simp only [e1, e2]
      refine ⟨by omega, by omega, by omega, ?_, ?_⟩
      · simp only [List.getD, List.getElem?_eq_getElem (show i < (tubesOf L off len).length by omega), Option.getD_some]
        exact List.getElem_mem _
      · cases hp : pr ((tubesOf L off len).getD i []) with
        | true =>
          simp -implicitDefEqProofs only [SB, SV.known, packR, ne_eq, reduceCtorEq, Nat.reduceEqDiff, ↓reduceIte, if_true, if_false, eq_self, Nat.reduceAdd, Nat.reduceMul, Nat.reduceSub, forall_const, oneCellS, litOne, flat1, Kd.isSca, flat, TYB]
          rw [idxG_hit (by omega) hp hi2]
        | false =>
          simp -implicitDefEqProofs only [lk_normal, SB, SV.known, packR, ne_eq, reduceCtorEq, Nat.reduceEqDiff, ↓reduceIte, if_true, if_false, eq_self, Nat.reduceAdd, Nat.reduceMul, Nat.reduceSub, forall_const, oneCellS, litOne, flat1, Kd.isSca, flat, TYB]
          refine ⟨by unfold In64; omega, i + 1, ⟨by omega, fun k hk => ?_⟩, by omega, Sub.same ?_ ?_ hwH (Nat.le_refl _)⟩
          · by_cases hki : k = i
            · subst hki; exact hp
            · exact hi2 k (by omega)
          · simp [subS, subH, wfS, wfH, SV.ren, renL, SObj.ren, SV.wf, SObj.wf, wfL, sget_cons, hget_cons, SV.known, renL_id]
          · simp [subS, subH, wfS, wfH, SV.ren, renL, SObj.ren, SV.wf, SObj.wf, wfL, sget_cons, hget_cons, hw, h00]
    · obtain rfl : i = len := by omega
      rw [idxG_none (by rw [hE]; exact hi2)]

theorem containsFuncT_ok (g : Nat) (caps : List SV) (Hc : Heap) (pr : List Int → Bool) (n0 : Nat) (L : List Int) (e off len cap : Nat) (hl : off + len * 4 ≤ L.length) (hm : len ≤ 9223372036854775806)
    (hc : ∀ x ∈ tubesOf L off len, PureH Tryz.prog g (.arr x :: caps) ((0, .ints L e) :: Hc) (.bool (pr x))) (hw : wfL n0 caps) (hwH : hwf n0 ((0, .ints L e) :: Hc)) :
    PureH Tryz.prog 148 [.slice 0 off len cap, .fn g caps] ((0, .ints L e) :: Hc) (.bool ((tubesOf L off len).any pr)) := by
  have h00 : 0 < n0 := (hwH 0 _ (by rw [hget_cons, if_pos rfl])).1
  refine pure_of_vc (X := ⟨Tryz.prog, tys, [(162, fun args H => some (args = [.slice 0 off len cap, .fn g caps] ∧ H = ((0, .ints L e) :: Hc), .int (idxG pr (tubesOf L off len))))], [], true, true, n0, [], []⟩) fn_148
    ⟨tys_ok, .cons (fun args H p v h hp => ?_) .nil, .nil, mixed⟩ (n0 := n0) (Nat.le_of_ble_eq_true rfl) ⟨by simpa [SV.wf] using h00, by simpa [SV.wf] using hw, trivial⟩ hwH (Nat.le_refl _) (fun _ => trivial) ?_
  · cases h
    obtain ⟨rfl, rfl⟩ := hp
    exact indexFuncT_ok g caps Hc pr n0 L e off len cap hl hm hc hw hwH
  simp -implicitDefEqProofs only [Tryz.f148, Option.getD_some, argS, SB, SV.known, packR, ne_eq, reduceCtorEq, Nat.reduceEqDiff, ↓reduceIte, if_true, if_false, eq_self, Nat.reduceAdd, Nat.reduceMul, Nat.reduceSub, forall_const, oneCellS, litOne, flat1, Kd.isSca, flat, TYB, idxG_any]

/-- areAll's own closure. -/
theorem tubesOf_mem {L : List Int} {off len : Nat} (h : off + len * 4 ≤ L.length) {x : List Int} (hx : x ∈ tubesOf L off len) : x.length = 4 := by
  obtain ⟨i, hi, rfl⟩ := List.mem_map.1 hx
  have := List.mem_range.1 hi
  rw [List.length_take, List.length_drop]; omega
theorem areAllT1_ok (x : List Int) (hx4 : x.length = 4) (g : Nat) (pr : List Int → Bool) (k et : Nat) (H : Heap) (hk : hget H k = some (.cells [.fn g []] et)) (hg : PureH Tryz.prog g [.arr x] [] (.bool (pr x))) :
    PureH Tryz.prog 149 [.arr x, .ptr k 0] H (.bool (!pr x)) := by
  have h0 : PureH Tryz.prog 149 [.arr x, .ptr 0 0] [(0, .cells [.fn g []] et)] (.bool (!pr x)) := by
    refine pure_of_vc (X := ⟨Tryz.prog, tys, [(g, fun args _ => some (args = [.arr x], .bool (pr x)))], [], true, true, 1, [], []⟩) fn_149
      ⟨tys_ok, .cons (fun args H p v h hp => ?_) .nil, .nil, mixed⟩ (n0 := 1) (Nat.le_of_ble_eq_true rfl) (by simp [wfL, SV.wf]) (wfH_spec (by simp [wfH, SObj.wf, wfL, SV.wf])) (Nat.le_refl _) (fun _ => trivial) ?_
    · cases h; subst hp; exact hg.any H
    have tkx : x.take 4 = x := List.take_of_length_le (by omega)
    simp -implicitDefEqProofs only [Tryz.f149, hx4, tkx, Option.getD_some, argS, SB, SV.known, packR, ne_eq, reduceCtorEq, Nat.reduceEqDiff, ↓reduceIte, if_true, if_false, eq_self, Nat.reduceAdd, Nat.reduceMul, Nat.reduceSub, forall_const, oneCellS, litOne, flat1, Kd.isSca, flat, TYB]
  exact h0.sub (H := H) (fun _ => k) (fun j o hj => by
    rw [hget_cons] at hj
    split at hj
    · cases hj; exact ⟨hk, fun _ => by omega, by simp [*]⟩
    · cases hj) (fun a ha b hb _ => by simp at ha hb; omega) (fun _ => trivial)

theorem all_anyT (pr : List Int → Bool) (l : List (List Int)) : (!l.any fun x => !pr x) = l.all pr := by simp [List.all_eq_not_any_not]

theorem areAllT_ok (g : Nat) (pr : List Int → Bool) (L : List Int) (e off len cap : Nat) (hl : off + len * 4 ≤ L.length) (hm : len ≤ 9223372036854775806) (hg : ∀ x ∈ tubesOf L off len, PureH Tryz.prog g [.arr x] [] (.bool (pr x))) :
    PureH Tryz.prog 117 [.slice 0 off len cap, .fn g []] [(0, .ints L e)] (.bool ((tubesOf L off len).all pr)) := by
  refine pure_of_vc (X := ⟨Tryz.prog, tys, [(148, fun args H => some (args = [.slice 0 off len cap, .fn 149 [.ptr 1 0]] ∧ hget H 0 = some (.ints L e) ∧ ∃ et, hget H 1 = some (.cells [.fn g []] et), .bool ((tubesOf L off len).any fun x => !pr x)))], [], true, true, 1, [], []⟩) fn_117
    ⟨tys_ok, .cons (fun args H p v h hp => ?_) .nil, .nil, mixed⟩ (n0 := 1) (Nat.le_of_ble_eq_true rfl) (by simp [wfL, SV.wf]) (wfH_spec (by simp [wfH, SObj.wf])) (Nat.le_refl _) (fun _ => trivial) ?_
  · cases h
    obtain ⟨rfl, h0, et, h1⟩ := hp
    have := containsFuncT_ok 149 [.ptr 1 0] [(1, .cells [.fn g []] et)] (fun x => !pr x) 2 L e off len cap hl hm (fun x hx => areAllT1_ok x (tubesOf_mem hl hx) g pr 1 et _ (by simp [hget_cons]) (hg x hx)) (by simp [wfL, SV.wf]) (wfH_spec (by simp [wfH, SObj.wf, wfL, SV.wf]))
    refine this.weaken (fun k o hk => ?_) (fun _ => trivial)
    simp only [hget_cons, hget_nil] at hk
    split at hk
    · rename_i h; cases hk; rw [h]; exact h0
    · split at hk
      · rename_i h; cases hk; rw [h]; exact h1
      · cases hk
  simp -implicitDefEqProofs only [Tryz.f117, Option.getD_some, argS, SB, SV.known, packR, ne_eq, reduceCtorEq, Nat.reduceEqDiff, ↓reduceIte, if_true, if_false, eq_self, Nat.reduceAdd, Nat.reduceMul, Nat.reduceSub, forall_const, oneCellS, litOne, flat1, Kd.isSca, flat, TYB, all_anyT]
  exact ⟨_, rfl⟩

end Go.Proofs.YtmccafjblhbmkaaGreat
set_option maxRecDepth 100000
set_option linter.unusedSimpArgs false
set_option linter.unusedVariables false
namespace Go.Proofs.YtmccafjblhbmkaaGreat
open Go Go.RowKit

/-! Sums. -/
def Bd (a b : Int) (l : List Int) : Prop := ∀ x ∈ l, a ≤ x ∧ x ≤ b
theorem Bd.getD {a b : Int} {l : List Int} (h : Bd a b l) {k : Nat} (hk : k < l.length) : a ≤ l.getD k 0 ∧ l.getD k 0 ≤ b := by
  simp only [List.getD, List.getElem?_eq_getElem hk, Option.getD_some]
  exact h _ (List.getElem_mem _)
theorem Bd.take {a b : Int} {l : List Int} (h : Bd a b l) (k : Nat) : Bd a b (l.take k) := fun x hx => h x (List.mem_of_mem_take hx)
theorem Bd.drop {a b : Int} {l : List Int} (h : Bd a b l) (k : Nat) : Bd a b (l.drop k) := fun x hx => h x (List.mem_of_mem_drop hx)
theorem sum_bd {a b : Int} : ∀ (l : List Int), Bd a b l → a * l.length ≤ l.sum ∧ l.sum ≤ b * l.length
  | [], _ => by simp
  | x :: r, h => by
    have h1 := h x (by simp)
    have h2 := sum_bd r fun y hy => h y (by simp [hy])
    simp only [List.sum_cons, List.length_cons]
    have e1 : a * ((r.length + 1 : Nat) : Int) = a * r.length + a := by rw [Int.natCast_add, Int.mul_add]; simp
    have e2 : b * ((r.length + 1 : Nat) : Int) = b * r.length + b := by rw [Int.natCast_add, Int.mul_add]; simp
    omega
theorem sum_take_succ (l : List Int) (k : Nat) (h : k < l.length) : (l.take (k + 1)).sum = (l.take k).sum + l.getD k 0 := by
  rw [List.take_succ_eq_append_getElem h, List.sum_append]
  simp [List.getD, List.getElem?_eq_getElem h]

--@tbl sum = impl.sum
theorem one_block {P : Program} {f : FuncId} {args : List SV} {o : SObj} {r : SV} {H : Heap} {b : Nat} (h : PureH P f args [(0, o)] r) (hb : hget H b = some o) (ho : o.ren (fun _ => b) = o) (hr : ∀ n, r.wf n) : PureH P f (renL (fun _ => b) args) H r :=
  h.sub (fun _ => b) (fun j o' hj => by
    rw [hget_cons] at hj
    split at hj
    · cases hj; exact ⟨by rw [ho]; exact hb, fun _ => by omega, by simp [*]⟩
    · cases hj) (fun a ha c hc _ => by simp at ha hc; omega) hr
/-! Arrangements. -/
end Go.Proofs.YtmccafjblhbmkaaGreat
set_option maxRecDepth 100000
set_option linter.unusedSimpArgs false
set_option linter.unusedVariables false
namespace Go.Proofs.YtmccafjblhbmkaaGreat
open Go Go.RowKit
def rackB (R : List Int) : Bool := (tubesOf R 0 6).all tubeB
--@tbl areAll_rack = impl.areAll[[4]int]
def areAll_rack_F : List SV → Heap → Option (Prop × SV)
  | [.slice b off len _, .fn g []], H => match hget H b with
    | some (.ints L _) => some (g = 118 ∧ off + len * 4 ≤ L.length ∧ len ≤ 9223372036854775806, .bool ((tubesOf L off len).all tubeB))
    | _ => none
  | _, _ => none
theorem areAll_rack_T : ∀ args H p v, areAll_rack_F args H = some (p, v) → p → PureH Tryz.prog 117 args H v := by
  intro args H p v h hp
  unfold areAll_rack_F at h
  split at h
  · rename_i b off len cap g
    split at h
    · rename_i L e hb
      cases h
      obtain ⟨rfl, hl, hm⟩ := hp
      exact one_block (areAllT_ok _ tubeB L e off len cap hl hm fun x hx => isTube_ok x (tubesOf_mem hl hx)) hb rfl (fun _ => trivial)
    · cases h
  · cases h
--@tbl IsRack = impl.IsRack
theorem IsRack_ok (R : List Int) (hR : R.length = 24) : PureH Tryz.prog 62 [.arr R] [] (.bool (rackB R)) := by
  refine pure_of_vc (X := ⟨Tryz.prog, tys, [(117, areAll_rack_F)], [], true, true, 0, [], []⟩) fn_62 ⟨tys_ok, (.cons areAll_rack_T .nil), .nil, mixed⟩ (n0 := 0) (Nat.le_of_ble_eq_true rfl) (by simp [wfL, SV.wf]) (wfH_spec (by simp [wfH, SObj.wf])) (Nat.le_refl _) (fun _ => by simp [SV.wf, wfL]) ?_
  simp -implicitDefEqProofs only [Tryz.f62, Option.getD_some, argS, areAll_rack_F, hR, ZB, Int.reduceToNat, Nat.reduceLT, Nat.reduceLeDiff, Int.reduceLE, Int.reduceLT, Nat.reduceEqDiff, Nat.reduceSub, SB, SV.known, packR, ne_eq, reduceCtorEq, Nat.reduceEqDiff, ↓reduceIte, if_true, if_false, eq_self, Nat.reduceAdd, Nat.reduceMul, Nat.reduceSub, forall_const, oneCellS, litOne, flat1, Kd.isSca, flat, TYB]
  rfl
def IsRack_F : List SV → Heap → Option (Prop × SV)
  | [.arr R], _ => some (R.length = 24, .bool (rackB R))
  | _, _ => none
theorem IsRack_T : ∀ args H p v, IsRack_F args H = some (p, v) → p → PureH Tryz.prog 62 args H v := by
  intro args H p v h hp
  unfold IsRack_F at h
  split at h
  · cases h; exact (IsRack_ok _ hp).any _
  · cases h

def cB (R : List Int) (a b : Nat) : Prop := (0 ≤ R.getD (a * 4 + b) 0 ∧ R.getD (a * 4 + b) 0 ≤ 5) ∧ ¬ (0 < b ∧ 0 < R.getD (a * 4 + b) 0 ∧ R.getD (a * 4 + (b - 1)) 0 = 0)
theorem tubeB_iff (t : List Int) (h : t.length = 4) : tubeB t = true ↔ ∀ b, b < 4 → cB t 0 b := by
  obtain ⟨a, b, c, d, rfl⟩ : ∃ a b c d, t = [a, b, c, d] := by
    match t, h with
    | [a, b, c, d], _ => exact ⟨a, b, c, d, rfl⟩
  have e : (∀ k, k < 4 → cB [a, b, c, d] 0 k) ↔ cB [a, b, c, d] 0 0 ∧ cB [a, b, c, d] 0 1 ∧ cB [a, b, c, d] 0 2 ∧ cB [a, b, c, d] 0 3 :=
    ⟨fun h => ⟨h 0 (by omega), h 1 (by omega), h 2 (by omega), h 3 (by omega)⟩, fun h k hk => by
      match k, hk with
      | 0, _ => exact h.1
      | 1, _ => exact h.2.1
      | 2, _ => exact h.2.2.1
      | 3, _ => exact h.2.2.2⟩
  rw [e]
  by_cases ha : a = 0
  · subst ha
    simp [tubeB, layN, isZ0, cB, coT, is0, List.findIdx?_cons]; omega
  · by_cases hb : b = 0
    · subst hb
      simp [tubeB, layN, isZ0, cB, coT, is0, List.findIdx?_cons, ha, Ne.symm ha]; omega
    · by_cases hc : c = 0
      · subst hc
        simp [tubeB, layN, isZ0, cB, coT, is0, List.findIdx?_cons, ha, hb, Ne.symm ha, Ne.symm hb]; omega
      · by_cases hd : d = 0
        · subst hd
          simp [tubeB, layN, isZ0, cB, coT, is0, List.findIdx?_cons, ha, hb, hc, Ne.symm ha, Ne.symm hb, Ne.symm hc]; omega
        · simp [tubeB, layN, isZ0, cB, coT, is0, List.findIdx?_cons, ha, hb, hc, hd, Ne.symm ha, Ne.symm hb, Ne.symm hc, Ne.symm hd]; omega
theorem cut_getD (R : List Int) (i k : Nat) (h : k < 4) : ((R.drop (i * 4)).take 4).getD k 0 = R.getD (i * 4 + k) 0 := by
  simp [List.getD, List.getElem?_take, h, List.getElem?_drop]
theorem rackB_iff (R : List Int) (h : R.length = 24) : rackB R = true ↔ ∀ a b, a < 6 → b < 4 → cB R a b := by
  unfold rackB tubesOf
  simp only [List.all_map, List.all_eq_true, List.mem_range, Function.comp, Nat.zero_add]
  constructor
  · intro hh a b ha hb
    have h1 := (tubeB_iff _ (by rw [List.length_take, List.length_drop]; omega)).1 (hh a ha) b hb
    unfold cB at h1 ⊢
    rw [Nat.zero_mul, Nat.zero_add, Nat.zero_add, cut_getD _ _ _ hb, cut_getD _ _ _ (by omega)] at h1
    exact h1
  · intro hh a ha
    refine (tubeB_iff _ (by rw [List.length_take, List.length_drop]; omega)).2 fun b hb => ?_
    have h1 := hh a b ha hb
    unfold cB at h1 ⊢
    rw [Nat.zero_mul, Nat.zero_add, Nat.zero_add, cut_getD _ _ _ hb, cut_getD _ _ _ (by omega)]
    exact h1
--@tbl l2Rack = spec.l2Rack
theorem l2Rack_ok (R : List Int) (hR : R.length = 24) : PureH Tryz.prog 64 [.arr R] [] (.bool (rackB R)) := by
  refine pure_of_vc (X := ⟨Tryz.prog, tys, [(72, l1In_F)], [], true, true, 0, [], []⟩) fn_64 ⟨tys_ok, (.cons l1In_T .nil), .nil, mixed⟩ (n0 := 0) (Nat.le_of_ble_eq_true rfl) (by simp [wfL, SV.wf]) (wfH_spec (by simp [wfH, SObj.wf])) (Nat.le_refl _) (fun _ => by simp [SV.wf, wfL]) ?_
  simp -implicitDefEqProofs only [Tryz.f64, Option.getD_some, argS, l1In_F, hR, ZB, Int.reduceToNat, Nat.reduceLT, Nat.reduceLeDiff, Int.reduceLE, Int.reduceLT, Nat.reduceEqDiff, Nat.reduceSub, SB, SV.known, packR, ne_eq, reduceCtorEq, Nat.reduceEqDiff, ↓reduceIte, if_true, if_false, eq_self, Nat.reduceAdd, Nat.reduceMul, Nat.reduceSub, forall_const, oneCellS, litOne, flat1, Kd.isSca, flat, TYB]
  refine loop_intro (fun i : Nat => [(1, .ptr 0 0), (3, .int i)]) (fun _ => [(0, .ints R 27)]) 1 (fun i => i ≤ 6 ∧ ∀ a b, a < i → b < 4 → cB R a b) (fun i => 6 - i) ?_ ?_
  · refine ⟨0, ⟨by omega, by omega⟩, Sub.mk_id ?_ ?_ ?_ ?_ ?_⟩
    all_goals simp only [LB, subS, subH, wfS, wfH, SV.ren, renL, SObj.ren, SV.wf, SObj.wf, wfL, SV.known, Nat.reduceEqDiff, ↓reduceIte, if_true, if_false, eq_self, Nat.reduceAdd, Nat.reduceLT, Nat.reduceLeDiff, implies_true, reduceCtorEq, forall_const]
    all_goals simp
  · intro i hi
    obtain ⟨hi1, hi2⟩ := hi
    simp -implicitDefEqProofs only [lk_normal, l1In_F, hR, ZB, Int.reduceToNat, Nat.reduceLT, Nat.reduceLeDiff, Int.reduceLE, Int.reduceLT, Nat.reduceEqDiff, Nat.reduceSub, SB, SV.known, packR, ne_eq, reduceCtorEq, Nat.reduceEqDiff, ↓reduceIte, if_true, if_false, eq_self, Nat.reduceAdd, Nat.reduceMul, Nat.reduceSub, forall_const, oneCellS, litOne, flat1, Kd.isSca, flat, TYB]
    refine ⟨fun h => ?_, fun h => ?_⟩
    · have hlt : i < 6 := by omega
      refine loop_intro (fun k : Nat => [(1, .ptr 0 0), (3, .int i), (4, .int k)]) (fun _ => [(0, .ints R 27)]) 1 (fun k => k ≤ 4 ∧ ∀ b, b < k → cB R i b) (fun k => 4 - k) ?_ ?_
      · refine ⟨0, ⟨by omega, by omega⟩, Sub.mk_id ?_ ?_ ?_ ?_ ?_⟩
        all_goals simp only [LB, subS, subH, wfS, wfH, SV.ren, renL, SObj.ren, SV.wf, SObj.wf, wfL, SV.known, Nat.reduceEqDiff, ↓reduceIte, if_true, if_false, eq_self, Nat.reduceAdd, Nat.reduceLT, Nat.reduceLeDiff, implies_true, reduceCtorEq, forall_const]
        all_goals simp
      · intro k hk
        obtain ⟨hk1, hk2⟩ := hk
        simp -implicitDefEqProofs only [lk_normal, l1In_F, hR, ZB, Int.reduceToNat, Nat.reduceLT, Nat.reduceLeDiff, Int.reduceLE, Int.reduceLT, Nat.reduceEqDiff, Nat.reduceSub, SB, SV.known, packR, ne_eq, reduceCtorEq, Nat.reduceEqDiff, ↓reduceIte, if_true, if_false, eq_self, Nat.reduceAdd, Nat.reduceMul, Nat.reduceSub, forall_const, oneCellS, litOne, flat1, Kd.isSca, flat, TYB]
        refine ⟨fun h => ?_, fun h => ?_⟩
        · have e0 : ((k : Int) - 1).toNat = k - 1 := by omega
          simp only [e0]
          have no : ¬ cB R i k → false = rackB R := fun hn => by
            cases hr : rackB R with
            | false => rfl
            | true => exact absurd ((rackB_iff R hR).1 hr i k hlt (by omega)) hn
          have inv : cB R i k → ∀ b, b < k + 1 → cB R i b := fun hc b hb => by
            by_cases hbk : b = k
            · subst hbk; exact hc
            · exact hk2 b (by omega)
          (try (and_intros <;> try (first | omega | (unfold In64; omega) | trivial | assumption)))
          all_goals intro h1
          · (try (and_intros <;> try (first | omega | (unfold In64; omega) | trivial | assumption)))
            all_goals intro h2
            · (try (and_intros <;> try (first | omega | (unfold In64; omega) | trivial | assumption)))
              all_goals intro h3
              · (try (and_intros <;> try (first | omega | (unfold In64; omega) | trivial | assumption)))
                all_goals intro h4
                · exact no fun hc => hc.2 ⟨by omega, h3, h4⟩
                · (try (and_intros <;> try (first | omega | (unfold In64; omega) | trivial | assumption)))
                  refine ⟨k + 1, ⟨by omega, inv ⟨h1, fun hn => h4 hn.2.2⟩⟩, by omega, Sub.mk_id ?_ ?_ ?_ ?_ ?_⟩
                  all_goals simp only [LB, subS, subH, wfS, wfH, SV.ren, renL, SObj.ren, SV.wf, SObj.wf, wfL, SV.known, Nat.reduceEqDiff, ↓reduceIte, if_true, if_false, eq_self, Nat.reduceAdd, Nat.reduceLT, Nat.reduceLeDiff, implies_true, reduceCtorEq, forall_const]
              · (try (and_intros <;> try (first | omega | (unfold In64; omega) | trivial | assumption)))
                refine ⟨k + 1, ⟨by omega, inv ⟨h1, fun hn => h3 hn.2.1⟩⟩, by omega, Sub.mk_id ?_ ?_ ?_ ?_ ?_⟩
                all_goals simp only [LB, subS, subH, wfS, wfH, SV.ren, renL, SObj.ren, SV.wf, SObj.wf, wfL, SV.known, Nat.reduceEqDiff, ↓reduceIte, if_true, if_false, eq_self, Nat.reduceAdd, Nat.reduceLT, Nat.reduceLeDiff, implies_true, reduceCtorEq, forall_const]
            · (try (and_intros <;> try (first | omega | (unfold In64; omega) | trivial | assumption)))
              refine ⟨k + 1, ⟨by omega, inv ⟨h1, fun hn => h2 (by omega)⟩⟩, by omega, Sub.mk_id ?_ ?_ ?_ ?_ ?_⟩
              all_goals simp only [LB, subS, subH, wfS, wfH, SV.ren, renL, SObj.ren, SV.wf, SObj.wf, wfL, SV.known, Nat.reduceEqDiff, ↓reduceIte, if_true, if_false, eq_self, Nat.reduceAdd, Nat.reduceLT, Nat.reduceLeDiff, implies_true, reduceCtorEq, forall_const]
          · exact no fun hc => h1 hc.1
        · obtain rfl : k = 4 := by omega
          (try (and_intros <;> try (first | omega | (unfold In64; omega) | trivial | assumption)))
          refine ⟨i + 1, ⟨by omega, fun a b ha hb => ?_⟩, by omega, Sub.mk_id ?_ ?_ ?_ ?_ ?_⟩
          · by_cases hai : a = i
            · subst hai; exact hk2 b hb
            · exact hi2 a b (by omega) hb
          all_goals simp only [LB, subS, subH, wfS, wfH, SV.ren, renL, SObj.ren, SV.wf, SObj.wf, wfL, SV.known, Nat.reduceEqDiff, ↓reduceIte, if_true, if_false, eq_self, Nat.reduceAdd, Nat.reduceLT, Nat.reduceLeDiff, implies_true, reduceCtorEq, forall_const]
    · obtain rfl : i = 6 := by omega
      rw [(rackB_iff R hR).2 fun a b ha hb => hi2 a b ha hb]
def l2Rack_F : List SV → Heap → Option (Prop × SV)
  | [.arr R], _ => some (R.length = 24, .bool (rackB R))
  | _, _ => none
theorem l2Rack_T : ∀ args H p v, l2Rack_F args H = some (p, v) → p → PureH Tryz.prog 64 args H v := by
  intro args H p v h hp
  unfold l2Rack_F at h
  split at h
  · cases h; exact (l2Rack_ok _ hp).any _
  · cases h

/-! Layers, as the model counts them. -/
def posC (t : List Int) : Int := ((t.map fun x => if 0 < x then (1 : Int) else 0)).sum
theorem posC_take_succ (l : List Int) (k : Nat) (h : k < l.length) : posC (l.take (k + 1)) = posC (l.take k) + if 0 < l.getD k 0 then 1 else 0 := by
  unfold posC
  rw [List.map_take, List.map_take, sum_take_succ _ k (by simpa using h)]
  simp [List.getD, List.getElem?_eq_getElem h]
theorem posC_bd (l : List Int) : 0 ≤ posC l ∧ posC l ≤ l.length := by
  have : Bd 0 1 (l.map fun x => if 0 < x then (1 : Int) else 0) := by
    intro x hx
    obtain ⟨c, _, rfl⟩ := List.mem_map.1 hx
    split <;> omega
  have := sum_bd _ this
  simp only [List.length_map] at this
  unfold posC; omega
theorem posC_lay (t : List Int) (h : t.length = 4) (ht : tubeB t = true) : posC t = layN t := by
  rw [tubeB_iff t h] at ht
  obtain ⟨a, b, c, d, rfl⟩ : ∃ a b c d, t = [a, b, c, d] := by
    match t, h with
    | [a, b, c, d], _ => exact ⟨a, b, c, d, rfl⟩
  have h0 := ht 0 (by omega)
  have h1 := ht 1 (by omega)
  have h2 := ht 2 (by omega)
  have h3 := ht 3 (by omega)
  simp [cB] at h0 h1 h2 h3
  by_cases ha : a = 0
  · subst ha
    simp [posC, layN, isZ0, List.findIdx?_cons]
    repeat' (split)
    all_goals omega
  · by_cases hb : b = 0
    · subst hb
      simp [posC, layN, isZ0, List.findIdx?_cons, Ne.symm ha]
      repeat' (split)
      all_goals omega
    · by_cases hc : c = 0
      · subst hc
        simp [posC, layN, isZ0, List.findIdx?_cons, Ne.symm ha, Ne.symm hb]
        repeat' (split)
        all_goals omega
      · by_cases hd : d = 0
        · subst hd
          simp [posC, layN, isZ0, List.findIdx?_cons, Ne.symm ha, Ne.symm hb, Ne.symm hc]
          repeat' (split)
          all_goals omega
        · simp [posC, layN, isZ0, List.findIdx?_cons, Ne.symm ha, Ne.symm hb, Ne.symm hc, Ne.symm hd]
          repeat' (split)
          all_goals omega
--@tbl l2Many = spec.l2Many
theorem l2Many_ok (t : List Int) (h : t.length = 4) : PureH Tryz.prog 128 [.arr t] [] (.int (posC t)) := by
  refine pure_of_vc (X := ⟨Tryz.prog, tys, [], [], true, true, 0, [], []⟩) fn_128 ⟨tys_ok, .nil, .nil, mixed⟩ (n0 := 0) (Nat.le_of_ble_eq_true rfl) (by simp [wfL, SV.wf]) (wfH_spec (by simp [wfH, SObj.wf])) (Nat.le_refl _) (fun _ => by simp [SV.wf, wfL]) ?_
  simp -implicitDefEqProofs only [Tryz.f128, Option.getD_some, argS, h, ZB, Int.reduceToNat, Nat.reduceLT, Nat.reduceLeDiff, Int.reduceLE, Int.reduceLT, Nat.reduceEqDiff, Nat.reduceSub, SB, SV.known, packR, ne_eq, reduceCtorEq, Nat.reduceEqDiff, ↓reduceIte, if_true, if_false, eq_self, Nat.reduceAdd, Nat.reduceMul, Nat.reduceSub, forall_const, oneCellS, litOne, flat1, Kd.isSca, flat, TYB]
  refine loop_intro (fun i : Nat => [(1, .ptr 0 0), (4, .int i), (3, .int (posC (t.take i)))]) (fun _ => [(0, .ints t 24)]) 1 (fun i => i ≤ 4) (fun i => 4 - i) ?_ ?_
  · refine ⟨0, by omega, Sub.mk_id ?_ ?_ ?_ ?_ ?_⟩
    all_goals simp only [LB, subS, subH, wfS, wfH, SV.ren, renL, SObj.ren, SV.wf, SObj.wf, wfL, SV.known, Nat.reduceEqDiff, ↓reduceIte, if_true, if_false, eq_self, Nat.reduceAdd, Nat.reduceLT, Nat.reduceLeDiff, implies_true, reduceCtorEq, forall_const]
    all_goals simp [posC]
  · intro i hi
    simp -implicitDefEqProofs only [lk_normal, h, ZB, Int.reduceToNat, Nat.reduceLT, Nat.reduceLeDiff, Int.reduceLE, Int.reduceLT, Nat.reduceEqDiff, Nat.reduceSub, SB, SV.known, packR, ne_eq, reduceCtorEq, Nat.reduceEqDiff, ↓reduceIte, if_true, if_false, eq_self, Nat.reduceAdd, Nat.reduceMul, Nat.reduceSub, forall_const, oneCellS, litOne, flat1, Kd.isSca, flat, TYB]
    have hb := posC_bd (t.take i)
    have hl1 : (t.take i).length = i := by rw [List.length_take]; omega
    rw [hl1] at hb
    refine ⟨fun hx => ?_, fun hx => ?_⟩
    · have es := posC_take_succ t i (by omega)
      (try (and_intros <;> try (first | omega | (unfold In64; omega) | trivial | assumption)))
      all_goals intro hp
      · (try (and_intros <;> try (first | omega | (unfold In64; omega) | trivial | assumption)))
        refine ⟨i + 1, by omega, by omega, Sub.mk_id ?_ ?_ ?_ ?_ ?_⟩
        any_goals (simp only [LB, subS, subH, wfS, wfH, SV.ren, renL, SObj.ren, SV.wf, SObj.wf, wfL, SV.known, Nat.reduceEqDiff, ↓reduceIte, if_true, if_false, eq_self, Nat.reduceAdd, Nat.reduceLT, Nat.reduceLeDiff, implies_true, reduceCtorEq, forall_const]; done)
        simp only [LB, subS, subH, wfS, wfH, SV.ren, renL, SObj.ren, SV.wf, SObj.wf, wfL, SV.known, Nat.reduceEqDiff, ↓reduceIte, if_true, if_false, eq_self, Nat.reduceAdd, Nat.reduceLT, Nat.reduceLeDiff, implies_true, reduceCtorEq, forall_const]
        rw [es, if_pos hp]
      · (try (and_intros <;> try (first | omega | (unfold In64; omega) | trivial | assumption)))
        refine ⟨i + 1, by omega, by omega, Sub.mk_id ?_ ?_ ?_ ?_ ?_⟩
        any_goals (simp only [LB, subS, subH, wfS, wfH, SV.ren, renL, SObj.ren, SV.wf, SObj.wf, wfL, SV.known, Nat.reduceEqDiff, ↓reduceIte, if_true, if_false, eq_self, Nat.reduceAdd, Nat.reduceLT, Nat.reduceLeDiff, implies_true, reduceCtorEq, forall_const]; done)
        simp only [LB, subS, subH, wfS, wfH, SV.ren, renL, SObj.ren, SV.wf, SObj.wf, wfL, SV.known, Nat.reduceEqDiff, ↓reduceIte, if_true, if_false, eq_self, Nat.reduceAdd, Nat.reduceLT, Nat.reduceLeDiff, implies_true, reduceCtorEq, forall_const]
        rw [es, if_neg hp, Int.add_zero]
    · obtain rfl : i = 4 := by omega
      rw [List.take_of_length_le (by omega)]
def l2Many_F : List SV → Heap → Option (Prop × SV)
  | [.arr t], _ => some (t.length = 4, .int (posC t))
  | _, _ => none
theorem l2Many_T : ∀ args H p v, l2Many_F args H = some (p, v) → p → PureH Tryz.prog 128 args H v := by
  intro args H p v h hp
  unfold l2Many_F at h
  split at h
  · cases h; exact (l2Many_ok _ hp).any _
  · cases h

/-! Fitting depths. -/
def tubeAt (R : List Int) (i : Nat) : List Int := (R.drop (i * 4)).take 4
theorem tubeAt_len {R : List Int} (h : R.length = 24) {i : Nat} (hi : i < 6) : (tubeAt R i).length = 4 := by unfold tubeAt; rw [List.length_take, List.length_drop]; omega
theorem tubeAt_ok {R : List Int} (hr : rackB R = true) {i : Nat} (hi : i < 6) : tubeB (tubeAt R i) = true := by
  unfold rackB at hr
  refine List.all_eq_true.1 hr _ (List.mem_map.2 ⟨i, List.mem_range.2 hi, ?_⟩)
  rw [Nat.zero_add]; rfl
def fitF (R D : List Int) : Bool := (List.range 6).all fun i => decide ((layN (tubeAt R i) : Int) ≤ D.getD i 0)
end Go.Proofs.YtmccafjblhbmkaaGreat
set_option maxRecDepth 100000
set_option linter.unusedSimpArgs false
set_option linter.unusedVariables false
namespace Go.Proofs.YtmccafjblhbmkaaGreat
open Go Go.RowKit

def in04 (n : Int) : Bool := decide (0 ≤ n ∧ n ≤ 4)
end Go.Proofs.YtmccafjblhbmkaaGreat
set_option maxRecDepth 100000
set_option linter.unusedSimpArgs false
set_option linter.unusedVariables false
namespace Go.Proofs.YtmccafjblhbmkaaGreat
open Go Go.RowKit
/-- A tube is filled. -/
def pfl (R : List Int) (a : Nat) (c : Int) : Nat → List Int
  | 0 => R
  | k + 1 => (pfl R a c k).set (a * 4 + k) c
theorem pfl_len (R : List Int) (a : Nat) (c : Int) : ∀ k, (pfl R a c k).length = R.length
  | 0 => rfl
  | k + 1 => by show ((pfl R a c k).set _ _).length = _; rw [List.length_set, pfl_len R a c k]
def pnK (C : List Int) : Nat → List Int × Nat
  | 0 => (List.replicate 24 0, 0)
  | c + 1 => (pfl (pnK C c).1 (pnK C c).2 c (C.getD c 0).toNat, (pnK C c).2 + if 0 < C.getD c 0 then 1 else 0)
theorem pnK_len (C : List Int) : ∀ c, (pnK C c).1.length = 24
  | 0 => by simp [pnK]
  | c + 1 => by show (pfl _ _ _ _).length = 24; rw [pfl_len]; exact pnK_len C c
theorem pnK_at (C : List Int) (h0 : C.getD 0 0 = 0) : ∀ c, (pnK C (c + 1)).2 ≤ c
  | 0 => by show 0 + (if 0 < C.getD 0 0 then 1 else 0) ≤ 0; rw [h0]; decide
  | c + 1 => by
    have := pnK_at C h0 c
    show (pnK C (c + 1)).2 + (if 0 < C.getD (c + 1) 0 then 1 else 0) ≤ c + 1
    split <;> omega
theorem pnK_one (C : List Int) (h0 : C.getD 0 0 = 0) : pnK C 1 = (List.replicate 24 0, 0) := by
  show (pfl (List.replicate 24 0) 0 0 (C.getD 0 0).toNat, 0 + if 0 < C.getD 0 0 then 1 else 0) = _
  rw [h0]; rfl
def pnB (C : List Int) : Bool := decide (C.getD 0 0 = 0) && C.all in04
def pnF (C : List Int) : List Int := if pnB C = true then (pnK C 6).1 else List.replicate 24 0
theorem pnF_len (C : List Int) : (pnF C).length = 24 := by
  unfold pnF; split
  · exact pnK_len C 6
  · simp
theorem in04_at {C : List Int} (hC : C.length = 6) (h : C.all in04 = true) {c : Nat} (hc : c < 6) : 0 ≤ C.getD c 0 ∧ C.getD c 0 ≤ 4 := by
  have := List.all_eq_true.1 h (C.getD c 0) (by rw [List.getD_eq_getElem?_getD, List.getElem?_eq_getElem (by omega)]; exact List.getElem_mem _)
  simpa [in04] using this
theorem plain1_ok (x : Int) : PureH Tryz.prog 106 [.int x] [] (.bool (in04 x)) := by
  unfold in04
  refine pure_of_vc (X := ⟨Tryz.prog, tys, [(69, within_F)], [], true, true, 0, [], []⟩) fn_106 ⟨tys_ok, (.cons within_T .nil), .nil, mixed⟩ (n0 := 0) (Nat.le_of_ble_eq_true rfl) (by simp [wfL, SV.wf]) (wfH_spec (by simp [wfH, SObj.wf])) (Nat.le_refl _) (fun _ => by simp [SV.wf, wfL]) ?_
  simp -implicitDefEqProofs only [Tryz.f106, Option.getD_some, argS, within_F, ZB, Int.reduceToNat, Nat.reduceLT, Nat.reduceLeDiff, Int.reduceLE, Int.reduceLT, Nat.reduceEqDiff, Nat.reduceSub, SB, SV.known, packR, ne_eq, reduceCtorEq, Nat.reduceEqDiff, ↓reduceIte, if_true, if_false, eq_self, Nat.reduceAdd, Nat.reduceMul, Nat.reduceSub, forall_const, oneCellS, litOne, flat1, Kd.isSca, flat, TYB]
--@tbl areAll_pl = impl.areAll[int]
def areAll_pl_F := areAllI_F [(106, in04)]
theorem areAll_pl_T : ∀ args H p v, areAll_pl_F args H = some (p, v) → p → PureH Tryz.prog 103 args H v :=
  areAllI_T (by intro q hq; simp at hq; subst hq; exact plain1_ok)
--@tbl PlainRack = impl.PlainRack
set_option maxHeartbeats 1000000 in
theorem PlainRack_ok (C : List Int) (hC : C.length = 6) : PureH Tryz.prog 46 [.arr C] [] (.tup [.arr (pnF C), .bool (pnB C)]) := by
  have tkC : C.take 6 = C := List.take_of_length_le (by omega)
  have dC : C.drop 6 = [] := List.drop_eq_nil_of_le (by omega)
  have r24 : List.take 24 (List.replicate 24 (0 : Int)) = List.replicate 24 0 := rfl
  unfold pnF
  by_cases h0 : C.getD 0 0 = 0
  · cases hall : C.all in04
    · have hb : pnB C = false := by unfold pnB; rw [hall]; simp
      rw [hb]
      refine pure_of_vc (X := ⟨Tryz.prog, tys, [(103, areAll_pl_F)], [], true, true, 0, [], []⟩) fn_46 ⟨tys_ok, (.cons areAll_pl_T .nil), .nil, mixed⟩ (n0 := 0) (Nat.le_of_ble_eq_true rfl) (by simp [wfL, SV.wf]) (wfH_spec (by simp [wfH, SObj.wf])) (Nat.le_refl _) (fun _ => by simp [SV.wf, wfL]) ?_
      simp -implicitDefEqProofs only [Tryz.f46, Option.getD_some, argS, areAll_pl_F, hC, tkC, dC, h0, hall, r24, areAllI_F, List.lookup, ZB, Int.reduceToNat, Nat.reduceLT, Nat.reduceLeDiff, Int.reduceLE, Int.reduceLT, Nat.reduceEqDiff, Nat.reduceSub, SB, SV.known, packR, ne_eq, reduceCtorEq, Nat.reduceEqDiff, ↓reduceIte, if_true, if_false, eq_self, Nat.reduceAdd, Nat.reduceMul, Nat.reduceSub, forall_const, oneCellS, litOne, flat1, Kd.isSca, flat, TYB]
    · have hb : pnB C = true := by unfold pnB; rw [hall, h0]; rfl
      rw [hb]
      refine pure_of_vc (X := ⟨Tryz.prog, tys, [(103, areAll_pl_F)], [], true, true, 0, [], []⟩) fn_46 ⟨tys_ok, (.cons areAll_pl_T .nil), .nil, mixed⟩ (n0 := 0) (Nat.le_of_ble_eq_true rfl) (by simp [wfL, SV.wf]) (wfH_spec (by simp [wfH, SObj.wf])) (Nat.le_refl _) (fun _ => by simp [SV.wf, wfL]) ?_
      simp -implicitDefEqProofs only [Tryz.f46, Option.getD_some, argS, areAll_pl_F, hC, tkC, dC, h0, hall, r24, areAllI_F, List.lookup, ZB, Int.reduceToNat, Nat.reduceLT, Nat.reduceLeDiff, Int.reduceLE, Int.reduceLT, Nat.reduceEqDiff, Nat.reduceSub, SB, SV.known, packR, ne_eq, reduceCtorEq, Nat.reduceEqDiff, ↓reduceIte, if_true, if_false, eq_self, Nat.reduceAdd, Nat.reduceMul, Nat.reduceSub, forall_const, oneCellS, litOne, flat1, Kd.isSca, flat, TYB]
      refine loop_intro (fun c : Nat => [(19, .int c), (18, .arr C), (5, .int (pnK C c).2), (4, .ptr 2 0), (2, .ptr 1 0)]) (fun c => [(2, .ints (pnK C c).1 27), (1, .ints (List.replicate 24 0) 27)]) 3 (fun c => c ≤ 6) (fun c => 6 - c) ?_ ?_
      · refine ⟨0, ?_, Sub.mk_id ?_ ?_ ?_ ?_ ?_⟩
        all_goals (try (simp only [LB, subS, subH, wfS, wfH, SV.ren, renL, SObj.ren, SV.wf, SObj.wf, wfL, SV.known, Nat.reduceEqDiff, ↓reduceIte, if_true, if_false, eq_self, Nat.reduceAdd, Nat.reduceLT, Nat.reduceLeDiff, implies_true, reduceCtorEq, forall_const]; done))
        all_goals (try (simp only [LB, subS, subH, wfS, wfH, SV.ren, renL, SObj.ren, SV.wf, SObj.wf, wfL, SV.known, Nat.reduceEqDiff, ↓reduceIte, if_true, if_false, eq_self, Nat.reduceAdd, Nat.reduceLT, Nat.reduceLeDiff, implies_true, reduceCtorEq, forall_const]; simp; done))
        all_goals (try (simp only [LB, subS, subH, wfS, wfH, SV.ren, renL, SObj.ren, SV.wf, SObj.wf, wfL, SV.known, Nat.reduceEqDiff, ↓reduceIte, if_true, if_false, eq_self, Nat.reduceAdd, Nat.reduceLT, Nat.reduceLeDiff, implies_true, reduceCtorEq, forall_const]; (and_intros <;> (first | omega | rfl | (simp; done) | (simp; omega))); done))
        all_goals (try dsimp only)
        all_goals (and_intros <;> try (first | omega | (unfold In64; omega) | trivial | assumption))
      · intro c hc
        have lP := pnK_len C c
        have tkP : (pnK C c).1.take 24 = (pnK C c).1 := List.take_of_length_le (by omega)
        by_cases h6 : c < 6
        · have h6' : (c : Int) < 6 := by omega
          have hn := in04_at hC hall h6
          have hat : (pnK C c).2 ≤ 4 := by
            rcases c with _ | c
            · show 0 ≤ 4; omega
            · have := pnK_at C h0 c; omega
          have hat' : ((pnK C c).2 : Int) < 6 := by omega
          simp -implicitDefEqProofs only [lk_normal, h6', hC, ZB, Int.reduceToNat, Nat.reduceLT, Nat.reduceLeDiff, Int.reduceLE, Int.reduceLT, Nat.reduceEqDiff, Nat.reduceSub, SB, SV.known, packR, ne_eq, reduceCtorEq, Nat.reduceEqDiff, ↓reduceIte, if_true, if_false, eq_self, Nat.reduceAdd, Nat.reduceMul, Nat.reduceSub, forall_const, oneCellS, litOne, flat1, Kd.isSca, flat, TYB]
          refine ⟨by omega, by omega, ?_⟩
          obtain ⟨n, hnn⟩ : ∃ n : Nat, C.getD c 0 = (n : Int) := ⟨(C.getD c 0).toNat, by omega⟩
          obtain ⟨a, ha⟩ : ∃ a, (pnK C c).2 = a := ⟨_, rfl⟩
          have nx1 : (pnK C (c + 1)).1 = pfl (pnK C c).1 a c n := by
            show pfl (pnK C c).1 (pnK C c).2 c (C.getD c 0).toNat = _
            rw [ha, hnn]; rfl
          have nx2 : (pnK C (c + 1)).2 = a + if 0 < (n : Int) then 1 else 0 := by
            show (pnK C c).2 + (if 0 < C.getD c 0 then 1 else 0) = _
            rw [ha, hnn]
          rw [ha] at hat hat'
          rw [hnn] at hn
          simp -implicitDefEqProofs only [ha, hnn, ZB, Int.reduceToNat, Nat.reduceLT, Nat.reduceLeDiff, Int.reduceLE, Int.reduceLT, Nat.reduceEqDiff, Nat.reduceSub, SB, SV.known, packR, ne_eq, reduceCtorEq, Nat.reduceEqDiff, ↓reduceIte, if_true, if_false, eq_self, Nat.reduceAdd, Nat.reduceMul, Nat.reduceSub, forall_const, oneCellS, litOne, flat1, Kd.isSca, flat, TYB]
          refine loop_intro (fun k : Nat => [(24, .int k), (23, .int n), (7, .int n), (6, .int c), (19, .int c), (18, .arr C), (5, .int a), (4, .ptr 2 0), (2, .ptr 1 0)]) (fun k => [(2, .ints (pfl (pnK C c).1 a c k) 27), (1, .ints (List.replicate 24 0) 27)]) 3 (fun k => k ≤ n) (fun k => n - k) ?_ ?_
          · refine ⟨0, ?_, Sub.mk_id ?_ ?_ ?_ ?_ ?_⟩
            all_goals (try (simp only [LB, subS, subH, wfS, wfH, SV.ren, renL, SObj.ren, SV.wf, SObj.wf, wfL, SV.known, Nat.reduceEqDiff, ↓reduceIte, if_true, if_false, eq_self, Nat.reduceAdd, Nat.reduceLT, Nat.reduceLeDiff, implies_true, reduceCtorEq, forall_const]; done))
            all_goals (try (simp only [LB, subS, subH, wfS, wfH, SV.ren, renL, SObj.ren, SV.wf, SObj.wf, wfL, SV.known, Nat.reduceEqDiff, ↓reduceIte, if_true, if_false, eq_self, Nat.reduceAdd, Nat.reduceLT, Nat.reduceLeDiff, implies_true, reduceCtorEq, forall_const]; simp; done))
            all_goals (try (simp only [LB, subS, subH, wfS, wfH, SV.ren, renL, SObj.ren, SV.wf, SObj.wf, wfL, SV.known, Nat.reduceEqDiff, ↓reduceIte, if_true, if_false, eq_self, Nat.reduceAdd, Nat.reduceLT, Nat.reduceLeDiff, implies_true, reduceCtorEq, forall_const]; (and_intros <;> (first | omega | rfl | (simp; done) | (simp; omega))); done))
            all_goals (try dsimp only)
            all_goals (and_intros <;> try (first | omega | (unfold In64; omega) | trivial | assumption))
          · intro k hk
            have lQ := pfl_len (pnK C c).1 a c k
            rw [lP] at lQ
            by_cases hkn : k < n
            · have hkn' : (k : Int) < n := by omega
              have hk4 : (k : Int) < 4 := by omega
              have i24 : a * 4 + k < 24 := by omega
              simp -implicitDefEqProofs only [lk_normal, hkn', hat', hk4, lQ, i24, ZB, Int.reduceToNat, Nat.reduceLT, Nat.reduceLeDiff, Int.reduceLE, Int.reduceLT, Nat.reduceEqDiff, Nat.reduceSub, SB, SV.known, packR, ne_eq, reduceCtorEq, Nat.reduceEqDiff, ↓reduceIte, if_true, if_false, eq_self, Nat.reduceAdd, Nat.reduceMul, Nat.reduceSub, forall_const, oneCellS, litOne, flat1, Kd.isSca, flat, TYB]
              (try (and_intros <;> try (first | omega | (unfold In64; omega) | trivial | assumption)))
              refine ⟨k + 1, ?_, ?_, Sub.mk_id ?_ ?_ ?_ ?_ ?_⟩
              all_goals (try (simp only [pfl, LB, subS, subH, wfS, wfH, SV.ren, renL, SObj.ren, SV.wf, SObj.wf, wfL, SV.known, Nat.reduceEqDiff, ↓reduceIte, if_true, if_false, eq_self, Nat.reduceAdd, Nat.reduceLT, Nat.reduceLeDiff, implies_true, reduceCtorEq, forall_const]; done))
              all_goals (try (simp only [pfl, LB, subS, subH, wfS, wfH, SV.ren, renL, SObj.ren, SV.wf, SObj.wf, wfL, SV.known, Nat.reduceEqDiff, ↓reduceIte, if_true, if_false, eq_self, Nat.reduceAdd, Nat.reduceLT, Nat.reduceLeDiff, implies_true, reduceCtorEq, forall_const]; simp; done))
              all_goals (try (simp only [pfl, LB, subS, subH, wfS, wfH, SV.ren, renL, SObj.ren, SV.wf, SObj.wf, wfL, SV.known, Nat.reduceEqDiff, ↓reduceIte, if_true, if_false, eq_self, Nat.reduceAdd, Nat.reduceLT, Nat.reduceLeDiff, implies_true, reduceCtorEq, forall_const]; (and_intros <;> (first | omega | rfl | (simp; done) | (simp; omega))); done))
              all_goals (try dsimp only)
              all_goals (and_intros <;> try (first | omega | (unfold In64; omega) | trivial | assumption))
            · have hkn' : ¬ (k : Int) < n := by omega
              obtain rfl : k = n := by omega
              by_cases hpos : (0 : Int) < (k : Int)
              · rw [if_pos hpos] at nx2
                simp -implicitDefEqProofs only [lk_normal, hkn', hpos, ZB, Int.reduceToNat, Nat.reduceLT, Nat.reduceLeDiff, Int.reduceLE, Int.reduceLT, Nat.reduceEqDiff, Nat.reduceSub, SB, SV.known, packR, ne_eq, reduceCtorEq, Nat.reduceEqDiff, ↓reduceIte, if_true, if_false, eq_self, Nat.reduceAdd, Nat.reduceMul, Nat.reduceSub, forall_const, oneCellS, litOne, flat1, Kd.isSca, flat, TYB]
                (try (and_intros <;> try (first | omega | (unfold In64; omega) | trivial | assumption)))
                refine ⟨c + 1, ?_, ?_, Sub.mk_id ?_ ?_ ?_ ?_ ?_⟩
                all_goals (try (simp only [nx1, nx2, LB, subS, subH, wfS, wfH, SV.ren, renL, SObj.ren, SV.wf, SObj.wf, wfL, SV.known, Nat.reduceEqDiff, ↓reduceIte, if_true, if_false, eq_self, Nat.reduceAdd, Nat.reduceLT, Nat.reduceLeDiff, implies_true, reduceCtorEq, forall_const]; done))
                all_goals (try (simp only [nx1, nx2, LB, subS, subH, wfS, wfH, SV.ren, renL, SObj.ren, SV.wf, SObj.wf, wfL, SV.known, Nat.reduceEqDiff, ↓reduceIte, if_true, if_false, eq_self, Nat.reduceAdd, Nat.reduceLT, Nat.reduceLeDiff, implies_true, reduceCtorEq, forall_const]; simp; done))
                all_goals (try (simp only [nx1, nx2, LB, subS, subH, wfS, wfH, SV.ren, renL, SObj.ren, SV.wf, SObj.wf, wfL, SV.known, Nat.reduceEqDiff, ↓reduceIte, if_true, if_false, eq_self, Nat.reduceAdd, Nat.reduceLT, Nat.reduceLeDiff, implies_true, reduceCtorEq, forall_const]; (and_intros <;> (first | omega | rfl | (simp; done) | (simp; omega))); done))
                all_goals (try dsimp only)
                all_goals (and_intros <;> try (first | omega | (unfold In64; omega) | trivial | assumption))
              · rw [if_neg hpos] at nx2
                simp -implicitDefEqProofs only [lk_normal, hkn', hpos, ZB, Int.reduceToNat, Nat.reduceLT, Nat.reduceLeDiff, Int.reduceLE, Int.reduceLT, Nat.reduceEqDiff, Nat.reduceSub, SB, SV.known, packR, ne_eq, reduceCtorEq, Nat.reduceEqDiff, ↓reduceIte, if_true, if_false, eq_self, Nat.reduceAdd, Nat.reduceMul, Nat.reduceSub, forall_const, oneCellS, litOne, flat1, Kd.isSca, flat, TYB]
                (try (and_intros <;> try (first | omega | (unfold In64; omega) | trivial | assumption)))
                refine ⟨c + 1, ?_, ?_, Sub.mk_id ?_ ?_ ?_ ?_ ?_⟩
                all_goals (try (simp only [nx1, nx2, LB, subS, subH, wfS, wfH, SV.ren, renL, SObj.ren, SV.wf, SObj.wf, wfL, SV.known, Nat.reduceEqDiff, ↓reduceIte, if_true, if_false, eq_self, Nat.reduceAdd, Nat.reduceLT, Nat.reduceLeDiff, implies_true, reduceCtorEq, forall_const]; done))
                all_goals (try (simp only [nx1, nx2, LB, subS, subH, wfS, wfH, SV.ren, renL, SObj.ren, SV.wf, SObj.wf, wfL, SV.known, Nat.reduceEqDiff, ↓reduceIte, if_true, if_false, eq_self, Nat.reduceAdd, Nat.reduceLT, Nat.reduceLeDiff, implies_true, reduceCtorEq, forall_const]; simp; done))
                all_goals (try (simp only [nx1, nx2, LB, subS, subH, wfS, wfH, SV.ren, renL, SObj.ren, SV.wf, SObj.wf, wfL, SV.known, Nat.reduceEqDiff, ↓reduceIte, if_true, if_false, eq_self, Nat.reduceAdd, Nat.reduceLT, Nat.reduceLeDiff, implies_true, reduceCtorEq, forall_const]; (and_intros <;> (first | omega | rfl | (simp; done) | (simp; omega))); done))
                all_goals (try dsimp only)
                all_goals (and_intros <;> try (first | omega | (unfold In64; omega) | trivial | assumption))
        · have h6' : ¬ (c : Int) < 6 := by omega
          obtain rfl : c = 6 := by omega
          simp -implicitDefEqProofs only [lk_normal, h6', lP, tkP, ZB, Int.reduceToNat, Nat.reduceLT, Nat.reduceLeDiff, Int.reduceLE, Int.reduceLT, Nat.reduceEqDiff, Nat.reduceSub, SB, SV.known, packR, ne_eq, reduceCtorEq, Nat.reduceEqDiff, ↓reduceIte, if_true, if_false, eq_self, Nat.reduceAdd, Nat.reduceMul, Nat.reduceSub, forall_const, oneCellS, litOne, flat1, Kd.isSca, flat, TYB]
  · have hb : pnB C = false := by unfold pnB; rw [decide_eq_false h0]; rfl
    rw [hb]
    refine pure_of_vc (X := ⟨Tryz.prog, tys, [(103, areAll_pl_F)], [], true, true, 0, [], []⟩) fn_46 ⟨tys_ok, (.cons areAll_pl_T .nil), .nil, mixed⟩ (n0 := 0) (Nat.le_of_ble_eq_true rfl) (by simp [wfL, SV.wf]) (wfH_spec (by simp [wfH, SObj.wf])) (Nat.le_refl _) (fun _ => by simp [SV.wf, wfL]) ?_
    simp -implicitDefEqProofs only [Tryz.f46, Option.getD_some, argS, areAll_pl_F, hC, tkC, dC, h0, r24, ZB, Int.reduceToNat, Nat.reduceLT, Nat.reduceLeDiff, Int.reduceLE, Int.reduceLT, Nat.reduceEqDiff, Nat.reduceSub, SB, SV.known, packR, ne_eq, reduceCtorEq, Nat.reduceEqDiff, ↓reduceIte, if_true, if_false, eq_self, Nat.reduceAdd, Nat.reduceMul, Nat.reduceSub, forall_const, oneCellS, litOne, flat1, Kd.isSca, flat, TYB]
def PlainRack_F : List SV → Heap → Option (Prop × SV)
  | [.arr C], _ => some (C.length = 6, .tup [.arr (pnF C), .bool (pnB C)])
  | _, _ => none
theorem PlainRack_T : ∀ args H p v, PlainRack_F args H = some (p, v) → p → PureH Tryz.prog 46 args H v := by
  intro args H p v h hp
  unfold PlainRack_F at h
  split at h
  · cases h; exact (PlainRack_ok _ hp).any _
  · cases h
--@tbl sPlainRack = spec.PlainRack
theorem pnB_of {C : List Int} (hC : C.length = 6) (h0 : C.getD 0 0 = 0) (h : ∀ k, k < 6 → 0 ≤ C.getD k 0 ∧ C.getD k 0 ≤ 4) : pnB C = true := by
  unfold pnB
  rw [decide_eq_true h0, Bool.true_and, List.all_eq_true]
  intro x hx
  obtain ⟨k, hk, rfl⟩ := List.getElem_of_mem hx
  have := h k (by omega)
  rw [List.getD_eq_getElem?_getD, List.getElem?_eq_getElem hk] at this
  exact decide_eq_true this
theorem pnB_not {C : List Int} (hC : C.length = 6) {k : Nat} (hk : k < 6) (h : ¬ (0 ≤ C.getD k 0 ∧ C.getD k 0 ≤ 4)) : pnB C = false := by
  cases hb : pnB C with
  | false => rfl
  | true =>
    unfold pnB at hb
    rw [Bool.and_eq_true] at hb
    exact absurd (in04_at hC hb.2 hk) h
set_option maxHeartbeats 1000000 in
theorem sPlainRack_ok (C : List Int) (hC : C.length = 6) : PureH Tryz.prog 47 [.arr C] [] (.tup [.arr (pnF C), .bool (pnB C)]) := by
  have tkC : C.take 6 = C := List.take_of_length_le (by omega)
  have r24 : List.take 24 (List.replicate 24 (0 : Int)) = List.replicate 24 0 := rfl
  by_cases h0 : C.getD 0 0 = 0
  · refine pure_of_vc (X := ⟨Tryz.prog, tys, [(72, l1In_F)], [], true, true, 0, [], []⟩) fn_47 ⟨tys_ok, (.cons l1In_T .nil), .nil, mixed⟩ (n0 := 0) (Nat.le_of_ble_eq_true rfl) (by simp [wfL, SV.wf]) (wfH_spec (by simp [wfH, SObj.wf])) (Nat.le_refl _) (fun _ => by simp [SV.wf, wfL]) ?_
    simp -implicitDefEqProofs only [Tryz.f47, Option.getD_some, argS, l1In_F, hC, tkC, h0, r24, ZB, Int.reduceToNat, Nat.reduceLT, Nat.reduceLeDiff, Int.reduceLE, Int.reduceLT, Nat.reduceEqDiff, Nat.reduceSub, SB, SV.known, packR, ne_eq, reduceCtorEq, Nat.reduceEqDiff, ↓reduceIte, if_true, if_false, eq_self, Nat.reduceAdd, Nat.reduceMul, Nat.reduceSub, forall_const, oneCellS, litOne, flat1, Kd.isSca, flat, TYB]
    have p1 := pnK_one C h0
    refine loop_intro (fun c : Nat => [(6, .int c), (5, .int (pnK C c).2), (4, .ptr 2 0), (2, .ptr 1 0), (1, .ptr 0 0)]) (fun c => [(2, .ints (pnK C c).1 27), (1, .ints (List.replicate 24 0) 27), (0, .ints C 40)]) 3 (fun c => (1 ≤ c ∧ c ≤ 6) ∧ ∀ k, k < c → 0 ≤ C.getD k 0 ∧ C.getD k 0 ≤ 4) (fun c => 6 - c) ?_ ?_
    · refine ⟨1, ⟨⟨by omega, by omega⟩, fun k hk => ?_⟩, Sub.mk_id ?_ ?_ ?_ ?_ ?_⟩
      · obtain rfl : k = 0 := by omega
        rw [h0]; omega
      all_goals (simp only [p1, LB, subS, subH, wfS, wfH, SV.ren, renL, SObj.ren, SV.wf, SObj.wf, wfL, SV.known, Nat.reduceEqDiff, ↓reduceIte, if_true, if_false, eq_self, Nat.reduceAdd, Nat.reduceLT, Nat.reduceLeDiff, implies_true, reduceCtorEq, forall_const]; try simp)
    · rintro c ⟨⟨hc1, hc⟩, hall⟩
      have lP := pnK_len C c
      have tkP : (pnK C c).1.take 24 = (pnK C c).1 := List.take_of_length_le (by omega)
      by_cases h6 : c < 6
      · have h6' : (c : Int) ≤ 5 := by omega
        by_cases hn : 0 ≤ C.getD c 0 ∧ C.getD c 0 ≤ 4
        · have hin : decide (0 ≤ C.getD c 0 ∧ C.getD c 0 ≤ 4) = true := decide_eq_true hn
          have hat : (pnK C c).2 ≤ 4 := by
            rcases c with _ | c
            · show 0 ≤ 4; omega
            · have := pnK_at C h0 c; omega
          have hat' : ((pnK C c).2 : Int) < 6 := by omega
          obtain ⟨n, hnn⟩ : ∃ n : Nat, C.getD c 0 = (n : Int) := ⟨(C.getD c 0).toNat, by omega⟩
          obtain ⟨a, ha⟩ : ∃ a, (pnK C c).2 = a := ⟨_, rfl⟩
          have nx1 : (pnK C (c + 1)).1 = pfl (pnK C c).1 a c n := by
            show pfl (pnK C c).1 (pnK C c).2 c (C.getD c 0).toNat = _
            rw [ha, hnn]; rfl
          have nx2 : (pnK C (c + 1)).2 = a + if 0 < (n : Int) then 1 else 0 := by
            show (pnK C c).2 + (if 0 < C.getD c 0 then 1 else 0) = _
            rw [ha, hnn]
          have hall2 : ∀ k, k < c + 1 → 0 ≤ C.getD k 0 ∧ C.getD k 0 ≤ 4 := fun k hk => by
            rcases Nat.lt_or_ge k c with h | h
            · exact hall k h
            · obtain rfl : k = c := by omega
              exact hn
          rw [ha] at hat hat'
          rw [hnn] at hn
          rw [hnn] at hin
          simp -implicitDefEqProofs only [lk_normal, h6', hC, ha, hnn, hin, l1In_F, ZB, Int.reduceToNat, Nat.reduceLT, Nat.reduceLeDiff, Int.reduceLE, Int.reduceLT, Nat.reduceEqDiff, Nat.reduceSub, SB, SV.known, packR, ne_eq, reduceCtorEq, Nat.reduceEqDiff, ↓reduceIte, if_true, if_false, eq_self, Nat.reduceAdd, Nat.reduceMul, Nat.reduceSub, forall_const, oneCellS, litOne, flat1, Kd.isSca, flat, TYB]
          refine ⟨by omega, by omega, h6, ?_⟩
          refine loop_intro (fun k : Nat => [(7, .int k), (6, .int c), (5, .int a), (4, .ptr 2 0), (2, .ptr 1 0), (1, .ptr 0 0)]) (fun k => [(2, .ints (pfl (pnK C c).1 a c k) 27), (1, .ints (List.replicate 24 0) 27), (0, .ints C 40)]) 3 (fun k => k ≤ n) (fun k => n - k) ?_ ?_
          · refine ⟨0, ?_, Sub.mk_id ?_ ?_ ?_ ?_ ?_⟩
            all_goals (try (simp only [pfl, LB, subS, subH, wfS, wfH, SV.ren, renL, SObj.ren, SV.wf, SObj.wf, wfL, SV.known, Nat.reduceEqDiff, ↓reduceIte, if_true, if_false, eq_self, Nat.reduceAdd, Nat.reduceLT, Nat.reduceLeDiff, implies_true, reduceCtorEq, forall_const]; done))
            all_goals (try (simp only [pfl, LB, subS, subH, wfS, wfH, SV.ren, renL, SObj.ren, SV.wf, SObj.wf, wfL, SV.known, Nat.reduceEqDiff, ↓reduceIte, if_true, if_false, eq_self, Nat.reduceAdd, Nat.reduceLT, Nat.reduceLeDiff, implies_true, reduceCtorEq, forall_const]; simp; done))
            all_goals (try (simp only [pfl, LB, subS, subH, wfS, wfH, SV.ren, renL, SObj.ren, SV.wf, SObj.wf, wfL, SV.known, Nat.reduceEqDiff, ↓reduceIte, if_true, if_false, eq_self, Nat.reduceAdd, Nat.reduceLT, Nat.reduceLeDiff, implies_true, reduceCtorEq, forall_const]; (and_intros <;> (first | omega | rfl | (simp; done) | (simp; omega))); done))
            all_goals (try dsimp only)
            all_goals (and_intros <;> try (first | omega | (unfold In64; omega) | trivial | assumption))
          · intro k hk
            have lQ := pfl_len (pnK C c).1 a c k
            rw [lP] at lQ
            by_cases hkn : k < n
            · have hkn' : (k : Int) < n := by omega
              have hk4 : (k : Int) < 4 := by omega
              have i24 : a * 4 + k < 24 := by omega
              simp -implicitDefEqProofs only [lk_normal, hC, hnn, h6, hkn', hat', hk4, lQ, i24, ZB, Int.reduceToNat, Nat.reduceLT, Nat.reduceLeDiff, Int.reduceLE, Int.reduceLT, Nat.reduceEqDiff, Nat.reduceSub, SB, SV.known, packR, ne_eq, reduceCtorEq, Nat.reduceEqDiff, ↓reduceIte, if_true, if_false, eq_self, Nat.reduceAdd, Nat.reduceMul, Nat.reduceSub, forall_const, oneCellS, litOne, flat1, Kd.isSca, flat, TYB]
              (try (and_intros <;> try (first | omega | (unfold In64; omega) | trivial | assumption)))
              refine ⟨k + 1, ?_, ?_, Sub.mk_id ?_ ?_ ?_ ?_ ?_⟩
              all_goals (try (simp only [pfl, LB, subS, subH, wfS, wfH, SV.ren, renL, SObj.ren, SV.wf, SObj.wf, wfL, SV.known, Nat.reduceEqDiff, ↓reduceIte, if_true, if_false, eq_self, Nat.reduceAdd, Nat.reduceLT, Nat.reduceLeDiff, implies_true, reduceCtorEq, forall_const]; done))
              all_goals (try (simp only [pfl, LB, subS, subH, wfS, wfH, SV.ren, renL, SObj.ren, SV.wf, SObj.wf, wfL, SV.known, Nat.reduceEqDiff, ↓reduceIte, if_true, if_false, eq_self, Nat.reduceAdd, Nat.reduceLT, Nat.reduceLeDiff, implies_true, reduceCtorEq, forall_const]; simp; done))
              all_goals (try (simp only [pfl, LB, subS, subH, wfS, wfH, SV.ren, renL, SObj.ren, SV.wf, SObj.wf, wfL, SV.known, Nat.reduceEqDiff, ↓reduceIte, if_true, if_false, eq_self, Nat.reduceAdd, Nat.reduceLT, Nat.reduceLeDiff, implies_true, reduceCtorEq, forall_const]; (and_intros <;> (first | omega | rfl | (simp; done) | (simp; omega))); done))
              all_goals (try dsimp only)
              all_goals (and_intros <;> try (first | omega | (unfold In64; omega) | trivial | assumption))
            · have hkn' : ¬ (k : Int) < n := by omega
              obtain rfl : k = n := by omega
              by_cases hpos : (0 : Int) < (k : Int)
              · rw [if_pos hpos] at nx2
                simp -implicitDefEqProofs only [lk_normal, hC, hnn, h6, hkn', hpos, ZB, Int.reduceToNat, Nat.reduceLT, Nat.reduceLeDiff, Int.reduceLE, Int.reduceLT, Nat.reduceEqDiff, Nat.reduceSub, SB, SV.known, packR, ne_eq, reduceCtorEq, Nat.reduceEqDiff, ↓reduceIte, if_true, if_false, eq_self, Nat.reduceAdd, Nat.reduceMul, Nat.reduceSub, forall_const, oneCellS, litOne, flat1, Kd.isSca, flat, TYB]
                refine ⟨by omega, by omega, by omega, by omega, by unfold In64; omega, by unfold In64; omega, c + 1, ⟨⟨by omega, by omega⟩, hall2⟩, by omega, Sub.mk_id ?_ ?_ ?_ ?_ ?_⟩
                all_goals (simp only [nx1, nx2, LB, subS, subH, wfS, wfH, SV.ren, renL, SObj.ren, SV.wf, SObj.wf, wfL, SV.known, Nat.reduceEqDiff, ↓reduceIte, if_true, if_false, eq_self, Nat.reduceAdd, Nat.reduceLT, Nat.reduceLeDiff, implies_true, reduceCtorEq, forall_const]; try simp)
              · rw [if_neg hpos] at nx2
                simp -implicitDefEqProofs only [lk_normal, hC, hnn, h6, hkn', hpos, ZB, Int.reduceToNat, Nat.reduceLT, Nat.reduceLeDiff, Int.reduceLE, Int.reduceLT, Nat.reduceEqDiff, Nat.reduceSub, SB, SV.known, packR, ne_eq, reduceCtorEq, Nat.reduceEqDiff, ↓reduceIte, if_true, if_false, eq_self, Nat.reduceAdd, Nat.reduceMul, Nat.reduceSub, forall_const, oneCellS, litOne, flat1, Kd.isSca, flat, TYB]
                refine ⟨by omega, by omega, by omega, by omega, by unfold In64; omega, c + 1, ⟨⟨by omega, by omega⟩, hall2⟩, by omega, Sub.mk_id ?_ ?_ ?_ ?_ ?_⟩
                all_goals (simp only [nx1, nx2, LB, subS, subH, wfS, wfH, SV.ren, renL, SObj.ren, SV.wf, SObj.wf, wfL, SV.known, Nat.reduceEqDiff, ↓reduceIte, if_true, if_false, eq_self, Nat.reduceAdd, Nat.reduceLT, Nat.reduceLeDiff, implies_true, reduceCtorEq, forall_const]; try simp)
        · have hin : decide (0 ≤ C.getD c 0 ∧ C.getD c 0 ≤ 4) = false := decide_eq_false hn
          have hb := pnB_not hC h6 hn
          unfold pnF
          rw [hb]
          simp -implicitDefEqProofs only [lk_normal, h6', hC, hin, l1In_F, r24, ZB, Int.reduceToNat, Nat.reduceLT, Nat.reduceLeDiff, Int.reduceLE, Int.reduceLT, Nat.reduceEqDiff, Nat.reduceSub, SB, SV.known, packR, ne_eq, reduceCtorEq, Nat.reduceEqDiff, ↓reduceIte, if_true, if_false, eq_self, Nat.reduceAdd, Nat.reduceMul, Nat.reduceSub, forall_const, oneCellS, litOne, flat1, Kd.isSca, flat, TYB]
          exact ⟨by omega, by omega, h6⟩
      · have h6' : ¬ (c : Int) ≤ 5 := by omega
        obtain rfl : c = 6 := by omega
        have hb := pnB_of hC h0 hall
        unfold pnF
        rw [hb]
        simp -implicitDefEqProofs only [lk_normal, h6', lP, tkP, ZB, Int.reduceToNat, Nat.reduceLT, Nat.reduceLeDiff, Int.reduceLE, Int.reduceLT, Nat.reduceEqDiff, Nat.reduceSub, SB, SV.known, packR, ne_eq, reduceCtorEq, Nat.reduceEqDiff, ↓reduceIte, if_true, if_false, eq_self, Nat.reduceAdd, Nat.reduceMul, Nat.reduceSub, forall_const, oneCellS, litOne, flat1, Kd.isSca, flat, TYB]
  · have hb : pnB C = false := by unfold pnB; rw [decide_eq_false h0]; rfl
    unfold pnF
    rw [hb]
    refine pure_of_vc (X := ⟨Tryz.prog, tys, [(72, l1In_F)], [], true, true, 0, [], []⟩) fn_47 ⟨tys_ok, (.cons l1In_T .nil), .nil, mixed⟩ (n0 := 0) (Nat.le_of_ble_eq_true rfl) (by simp [wfL, SV.wf]) (wfH_spec (by simp [wfH, SObj.wf])) (Nat.le_refl _) (fun _ => by simp [SV.wf, wfL]) ?_
    simp -implicitDefEqProofs only [Tryz.f47, Option.getD_some, argS, l1In_F, hC, tkC, h0, r24, ZB, Int.reduceToNat, Nat.reduceLT, Nat.reduceLeDiff, Int.reduceLE, Int.reduceLT, Nat.reduceEqDiff, Nat.reduceSub, SB, SV.known, packR, ne_eq, reduceCtorEq, Nat.reduceEqDiff, ↓reduceIte, if_true, if_false, eq_self, Nat.reduceAdd, Nat.reduceMul, Nat.reduceSub, forall_const, oneCellS, litOne, flat1, Kd.isSca, flat, TYB]
def sPlainRack_F : List SV → Heap → Option (Prop × SV)
  | [.arr C], _ => some (C.length = 6, .tup [.arr (pnF C), .bool (pnB C)])
  | _, _ => none
theorem sPlainRack_T : ∀ args H p v, sPlainRack_F args H = some (p, v) → p → PureH Tryz.prog 47 args H v := by
  intro args H p v h hp
  unfold sPlainRack_F at h
  split at h
  · cases h; exact (sPlainRack_ok _ hp).any _
  · cases h
end Go.Proofs.YtmccafjblhbmkaaGreat
namespace Go.Proofs
open Go.Shelf
def YtmccafjblhbmkaaGreat.laySortT_ren : Go.Shelf.Ren := ⟨fun | 6 => 119 | 15 => 153 | 14 => 152 | 28 => 171 | 29 => 172 | 20 => 163 | 21 => 164 | 22 => 165 | 23 => 166 | 24 => 167 | 25 => 168 | 26 => 169 | 27 => 170 | 46 => 184 | 47 => 185 | 48 => 186 | 49 => 187 | 50 => 188 | 57 => 193 | n => n, fun | 22 => 131 | 24 => 24 | 25 => 134 | 3 => 3 | 39 => 156 | 0 => 0 | 53 => 173 | 55 => 83 | 4 => 4 | 46 => 167 | 45 => 166 | 50 => 34 | 5 => 5 | 9 => 9 | 66 => 182 | 70 => 186 | 76 => 190 | 77 => 140 | n => n, fun | n => n⟩
theorem YtmccafjblhbmkaaGreat.laySortT : Go.Proofs.SlLaysF0.n6 Tryz.prog YtmccafjblhbmkaaGreat.laySortT_ren := {
  mixed := by kernel_rfl
  f6 := ⟨Tryz.f119.name, by decide, Tryz.func119.trans (congrArg some (by kernel_rfl))⟩
  f14 := ⟨Tryz.f152.name, by decide, Tryz.func152.trans (congrArg some (by kernel_rfl))⟩
  f15 := Tryz.func153.trans (congrArg some (by kernel_rfl))
  f20 := ⟨Tryz.f163.name, by decide, Tryz.func163.trans (congrArg some (by kernel_rfl))⟩
  f21 := ⟨Tryz.f164.name, by decide, Tryz.func164.trans (congrArg some (by kernel_rfl))⟩
  f22 := ⟨Tryz.f165.name, by decide, Tryz.func165.trans (congrArg some (by kernel_rfl))⟩
  f23 := ⟨Tryz.f166.name, by decide, Tryz.func166.trans (congrArg some (by kernel_rfl))⟩
  f24 := ⟨Tryz.f167.name, by decide, Tryz.func167.trans (congrArg some (by kernel_rfl))⟩
  f25 := ⟨Tryz.f168.name, by decide, Tryz.func168.trans (congrArg some (by kernel_rfl))⟩
  f26 := ⟨Tryz.f169.name, by decide, Tryz.func169.trans (congrArg some (by kernel_rfl))⟩
  f27 := ⟨Tryz.f170.name, by decide, Tryz.func170.trans (congrArg some (by kernel_rfl))⟩
  f28 := Tryz.func171.trans (congrArg some (by kernel_rfl))
  f29 := Tryz.func172.trans (congrArg some (by kernel_rfl))
  f46 := ⟨Tryz.f184.name, by decide, Tryz.func184.trans (congrArg some (by kernel_rfl))⟩
  f47 := Tryz.func185.trans (congrArg some (by kernel_rfl))
  f48 := Tryz.func186.trans (congrArg some (by kernel_rfl))
  f49 := ⟨Tryz.f187.name, by decide, Tryz.func187.trans (congrArg some (by kernel_rfl))⟩
  f50 := ⟨Tryz.f188.name, by decide, Tryz.func188.trans (congrArg some (by kernel_rfl))⟩
  f57 := ⟨Tryz.f193.name, by decide, Tryz.func193.trans (congrArg some (by kernel_rfl))⟩
  t0 := Tryz.underlying0
  a0 := Tryz.isAgg0
  z0 := Tryz.sizeOf0
  v0 := Tryz.zeroValue0
  t3 := Tryz.underlying3
  a3 := Tryz.isAgg3
  z3 := Tryz.sizeOf3
  v3 := Tryz.zeroValue3
  t4 := Tryz.underlying4
  a4 := Tryz.isAgg4
  z4 := Tryz.sizeOf4
  v4 := Tryz.zeroValue4
  t5 := Tryz.underlying5
  a5 := Tryz.isAgg5
  z5 := Tryz.sizeOf5
  v5 := Tryz.zeroValue5
  t9 := Tryz.underlying9
  a9 := Tryz.isAgg9
  z9 := Tryz.sizeOf9
  v9 := Tryz.zeroValue9
  t22 := Tryz.underlying131
  a22 := Tryz.isAgg131
  z22 := Tryz.sizeOf131
  v22 := Tryz.zeroValue131
  t25 := Tryz.underlying134
  a25 := Tryz.isAgg134
  z25 := Tryz.sizeOf134
  v25 := Tryz.zeroValue134
  t39 := Tryz.underlying156
  a39 := Tryz.isAgg156
  z39 := Tryz.sizeOf156
  v39 := Tryz.zeroValue156
  t45 := Tryz.underlying166
  a45 := Tryz.isAgg166
  z45 := Tryz.sizeOf166
  v45 := Tryz.zeroValue166
  t46 := Tryz.underlying167
  a46 := Tryz.isAgg167
  z46 := Tryz.sizeOf167
  v46 := Tryz.zeroValue167
  t50 := Tryz.underlying34
  a50 := Tryz.isAgg34
  z50 := Tryz.sizeOf34
  v50 := Tryz.zeroValue34
  t53 := Tryz.underlying173
  a53 := Tryz.isAgg173
  z53 := Tryz.sizeOf173
  v53 := Tryz.zeroValue173
  t55 := Tryz.underlying83
  a55 := Tryz.isAgg83
  z55 := Tryz.sizeOf83
  v55 := Tryz.zeroValue83
  t66 := Tryz.underlying182
  a66 := Tryz.isAgg182
  z66 := Tryz.sizeOf182
  v66 := Tryz.zeroValue182
  t70 := Tryz.underlying186
  a70 := Tryz.isAgg186
  z70 := Tryz.sizeOf186
  v70 := Tryz.zeroValue186
  t76 := Tryz.underlying190
  a76 := Tryz.isAgg190
  z76 := Tryz.sizeOf190
  v76 := Tryz.zeroValue190
  t77 := Tryz.underlying140
  a77 := Tryz.isAgg140
  z77 := Tryz.sizeOf140
  v77 := Tryz.zeroValue140 }
end Go.Proofs
set_option maxRecDepth 100000
set_option linter.unusedSimpArgs false
set_option linter.unusedVariables false
namespace Go.Proofs.YtmccafjblhbmkaaGreat
open Go Go.RowKit
theorem run_of_next {P : Program} {s : Sem Value} {x : Value} {w : World} (h : (do pure (Next.value (← s)) : Sem Next).run P w = .ok (.value x) w) : s.run P w = .ok x w := by
  simp only [Sem.run_bind] at h
  generalize s.run P w = r at h
  cases r with
  | ok y w1 => simp only [Result.andThen_ok, Sem.run_pure] at h; cases h; rfl
  | halt y w1 => simp only [Result.andThen_halt] at h; cases h
theorem runPart_int {t : TypeId} (hk : (tys t).k = .int) (L : List Int) (off : Nat) (h : off < L.length) (w : World) : (part t (ints L) off).run Tryz.prog w = .ok (.int .i64 (L.getD off 0)) w := by
  obtain ⟨v, x, _, h2, h3, h4⟩ := part_sound (B := fun _ => 0) (H := []) (n := 0) (κ := fun v _ _ => v = .int (L.getD off 0)) tys_ok (t := t) (L := L) (off := off) (by unfold partVC; rw [hk]; all_goals exact ⟨h, rfl⟩)
  subst h3
  have h5 := h4 w (HR.nil _ _)
  rw [h2 rfl] at h5
  exact run_of_next h5
theorem runPart_arr {t k e : Nat} (hk : (tys t).k = .arr k e) (L : List Int) (off : Nat) (h : off + (tys t).size ≤ L.length) (w : World) : (part t (ints L) off).run Tryz.prog w = .ok (.agg (ints ((L.drop off).take (tys t).size))) w := by
  obtain ⟨v, x, _, h2, h3, h4⟩ := part_sound (B := fun _ => 0) (H := []) (n := 0) (κ := fun v _ _ => v = .arr ((L.drop off).take (tys t).size)) tys_ok (t := t) (L := L) (off := off) (by unfold partVC; rw [hk]; all_goals exact ⟨h, rfl⟩)
  subst h3
  have h5 := h4 w (HR.nil _ _)
  rw [h2 rfl] at h5
  exact run_of_next h5
/-- Equality at a type, at every depth from some depth on. -/
def EqA (D : Nat) (t : TypeId) (s : Nat) : Prop := ∀ d, D ≤ d → ∀ (L M : List Int), L.length = s → M.length = s → ∀ w, (Op.equalIn d t (.agg (ints L)) (.agg (ints M))).run Tryz.prog w = .ok (decide (L = M)) w
theorem take_split (L : List Int) (c k : Nat) : L.take ((k + 1) * c) = L.take c ++ (L.drop c).take (k * c) := by
  rw [show (k + 1) * c = c + k * c by rw [Nat.add_mul, Nat.one_mul, Nat.add_comm], List.take_add]
theorem items_run {d : Nat} {e : TypeId} {c : Nat} (L M : List Int) (hst : ∀ a, (a + 1) * c ≤ L.length → (a + 1) * c ≤ M.length → ∀ w, ∃ x y, (part e (ints L) (a * c)).run Tryz.prog w = .ok x w ∧ (part e (ints M) (a * c)).run Tryz.prog w = .ok y w ∧
      (Op.equalIn d e x y).run Tryz.prog w = .ok (decide ((L.drop (a * c)).take c = (M.drop (a * c)).take c)) w) :
    ∀ (k a : Nat), (a + k) * c ≤ L.length → (a + k) * c ≤ M.length → ∀ w, (Op.eqItems d e c (ints L) (ints M) (List.range' a k)).run Tryz.prog w = .ok (decide ((L.drop (a * c)).take (k * c) = (M.drop (a * c)).take (k * c))) w
  | 0, a, _, _, w => by simp [Op.eqItems]
  | k + 1, a, h1, h2, w => by
    have le : (a + 1) * c ≤ (a + (k + 1)) * c := Nat.mul_le_mul_right c (by omega)
    obtain ⟨x, y, p1, p2, p3⟩ := hst a (by omega) (by omega) w
    have ih := items_run L M hst k (a + 1) (by rw [show a + 1 + k = a + (k + 1) by omega]; exact h1) (by rw [show a + 1 + k = a + (k + 1) by omega]; exact h2) w
    have hac : (a + 1) * c = a * c + c := by rw [Nat.add_mul, Nat.one_mul]
    have hkc : (a + (k + 1)) * c = a * c + c + k * c := by rw [Nat.add_mul, Nat.add_mul, Nat.one_mul]; omega
    rw [List.range'_succ]
    simp only [Op.eqItems, Sem.run_bind, p1, p2, p3, Result.andThen_ok]
    rw [take_split, take_split, List.drop_drop, List.drop_drop, ← hac]
    by_cases hd : (L.drop (a * c)).take c = (M.drop (a * c)).take c
    · simp only [hd, decide_true, Bool.not_true, Bool.false_eq_true, if_false]
      rw [ih]
      simp
    · have : ¬ ((L.drop (a * c)).take c ++ (L.drop ((a + 1) * c)).take (k * c) = (M.drop (a * c)).take c ++ (M.drop ((a + 1) * c)).take (k * c)) := fun h => hd (List.append_inj_left h (by rw [List.length_take, List.length_take, List.length_drop, List.length_drop]; omega))
      simp [hd, this]
theorem eqA_ints {t e n : Nat} {i : TypeInfo} (hu : Tryz.prog.underlying t = some (.array n e)) (hi : Tryz.prog.info? e = some i) (hc : Tryz.prog.cellsOf e = 1) (hk : (tys e).k = .int) (hue : Tryz.prog.underlying e = some (.int .i64)) : EqA 2 t n := by
  intro d hd L M hL hM w
  obtain ⟨d, rfl⟩ : ∃ d', d = d' + 1 + 1 := ⟨d - 2, by omega⟩
  rw [run_equalIn_array w (d + 1) (ints L) (ints M) hu hi, hc, List.range_eq_range', items_run L M (fun a h1 h2 w => ⟨_, _, runPart_int hk L (a * 1) (by omega) w, runPart_int hk M (a * 1) (by omega) w, ?_⟩) n 0 (by omega) (by omega) w]
  · simp [List.take_of_length_le, hL, hM]
  · rw [run_equalIn_int w d e .i64 .i64 _ _ hue]
    have one : ∀ N : List Int, a * 1 < N.length → (N.drop (a * 1)).take 1 = [N.getD (a * 1) 0] := fun N h => by
      rw [List.drop_eq_getElem_cons h, List.take_succ_cons, List.take_zero]
      simp only [List.getD, List.getElem?_eq_getElem h, Option.getD_some]
    rw [one L (by omega), one M (by omega)]
    have : (L.getD (a * 1) 0 == M.getD (a * 1) 0) = decide ([L.getD (a * 1) 0] = [M.getD (a * 1) 0]) := by
      simp only [List.cons.injEq, and_true]
      rfl
    rw [this]
theorem eqA_arr {t e n c D k e' : Nat} {i : TypeInfo} (hu : Tryz.prog.underlying t = some (.array n e)) (hi : Tryz.prog.info? e = some i) (hc : Tryz.prog.cellsOf e = c) (hs : (tys e).size = c) (hk : (tys e).k = .arr k e') (he : EqA D e c) : EqA (D + 1) t (n * c) := by
  intro d hd L M hL hM w
  obtain ⟨d, rfl⟩ : ∃ d', d = d' + 1 := ⟨d - 1, by omega⟩
  have mul1 : ∀ a, (a + 1) * c = a * c + c := fun a => by rw [Nat.add_mul, Nat.one_mul]
  rw [run_equalIn_array w d (ints L) (ints M) hu hi, hc, List.range_eq_range', items_run L M (fun a h1 h2 w => ⟨_, _, runPart_arr hk L (a * c) (by rw [hs]; have := mul1 a; omega) w, runPart_arr hk M (a * c) (by rw [hs]; have := mul1 a; omega) w, ?_⟩) n 0 (by rw [Nat.zero_add]; omega) (by rw [Nat.zero_add]; omega) w]
  · simp [List.take_of_length_le, hL, hM]
  · rw [hs]
    exact he d (by omega) _ _ (by rw [List.length_take, List.length_drop]; have := mul1 a; omega) (by rw [List.length_take, List.length_drop]; have := mul1 a; omega) w
theorem eqA_one {t e c D k e' : Nat} {f : Field} (hu : Tryz.prog.underlying t = some (.struct #[f])) (hf : f.name ≠ "_") (hft : f.type = e) (hfo : f.offset = 0) (hs : (tys e).size = c) (hk : (tys e).k = .arr k e') (hp : Tryz.prog.stoodInHeld t = false) (he : EqA D e c) : EqA (D + 1) t c := by
  intro d hd L M hL hM w
  obtain ⟨d, rfl⟩ : ∃ d', d = d' + 1 := ⟨d - 1, by omega⟩
  have hfs : Tryz.prog.fieldsOf t = #[f] := by simp [Program.fieldsOf, hu]
  rw [run_equalIn_struct w d t (ints L) (ints M) (by rw [hfs]; exact hu) hp, hfs]
  have p1 := runPart_arr hk L 0 (by omega) w
  have p2 := runPart_arr hk M 0 (by omega) w
  rw [hs, List.drop_zero, List.take_of_length_le (by omega)] at p1 p2
  have h3 := he d (by omega) L M hL hM w
  simp only [Op.eqFields, if_pos hf, hft, hfo, Sem.run_bind, p1, p2, h3, Result.andThen_ok]
  by_cases hx : L = M
  · simp [hx]
  · simp [hx]
theorem eqI_of {t s D : Nat} (hD : D ≤ 10000) (h : EqA D t s) (hg : Tryz.prog.eqGuardType Tryz.prog.depth t = false) : EqI Tryz.prog t s := by
  intro L M hL hM w
  refine ⟨fun x y => ?_, fun x y => ?_, h 10000 hD L M hL hM w⟩
  · simp [eqGuard, hg]
  · simp [eqGuard, hg]
theorem eqA_A4 : EqA 2 24 4 := eqA_ints (i := (Tryz.prog.info? 3).getD default) Tryz.underlying24 (by kernel_rfl) (by kernel_rfl) rfl Tryz.underlying3
theorem eqA_A64 : EqA 3 25 24 := eqA_arr (c := 4) (i := (Tryz.prog.info? 24).getD default) Tryz.underlying25 (by kernel_rfl) (by kernel_rfl) rfl rfl eqA_A4
theorem eqI_rack : EqI Tryz.prog 27 24 := eqI_of (by omega) (eqA_one Tryz.underlying27 (by decide) rfl rfl rfl rfl (by kernel_rfl) eqA_A64) (by kernel_rfl)
/-! Keys of maps. -/
def KeyA (D : Nat) (t s : Nat) : Prop := ∀ d, D ≤ d → ∀ L : List Int, L.length = s → ∀ em w, (Instr.checkKey em d t (.agg (ints L))).run Tryz.prog w = .ok () w
theorem keyA_ints {t e n : Nat} {i : TypeInfo} (hu : Tryz.prog.underlying t = some (.array n e)) (hi : Tryz.prog.info? e = some i) (hc : Tryz.prog.cellsOf e = 1) (hk : (tys e).k = .int) (hue : Tryz.prog.underlying e = some (.int .i64)) : KeyA 2 t n := by
  intro d hd L hL em w
  obtain ⟨d, rfl⟩ : ∃ d', d = d' + 1 + 1 := ⟨d - 2, by omega⟩
  rw [Instr.checkKey]
  simp only [Sem.run_bind, run_underlying hu, Result.andThen_ok]
  simp only [Std.Legacy.Range.forIn_eq_forIn_range', Std.Legacy.Range.size, Nat.sub_zero, Nat.add_one_sub_one, Nat.div_one]
  have each : ∀ j ∈ List.range' 0 n, j < L.length := fun j hj => by
    rw [List.mem_range'] at hj; omega
  generalize List.range' 0 n = is at each
  induction is with
  | nil => simp
  | cons j is ih =>
    have hj := each j (List.mem_cons_self ..)
    have p1 := runPart_int hk L (j * 1) (by omega) w
    have p2 : ∀ x : Int, (Instr.checkKey em (d + 1) e (.int .i64 x)).run Tryz.prog w = .ok () w := fun x => by
      unfold Instr.checkKey
      simp [run_underlying hue]
    simp only [List.forIn_cons, Sem.run_bind, run_sizeOf w hi, Result.andThen_ok, hc, p1, p2, Sem.run_pure]
    exact ih (fun y hy => each y (List.mem_cons_of_mem _ hy))
theorem keyA_arr {t e n c D k e' : Nat} {i : TypeInfo} (hu : Tryz.prog.underlying t = some (.array n e)) (hi : Tryz.prog.info? e = some i) (hc : Tryz.prog.cellsOf e = c) (hs : (tys e).size = c) (hk : (tys e).k = .arr k e') (he : KeyA D e c) : KeyA (D + 1) t (n * c) := by
  intro d hd L hL em w
  obtain ⟨d, rfl⟩ : ∃ d', d = d' + 1 := ⟨d - 1, by omega⟩
  rw [Instr.checkKey]
  simp only [Sem.run_bind, run_underlying hu, Result.andThen_ok]
  simp only [Std.Legacy.Range.forIn_eq_forIn_range', Std.Legacy.Range.size, Nat.sub_zero, Nat.add_one_sub_one, Nat.div_one]
  have each : ∀ j ∈ List.range' 0 n, j * c + c ≤ L.length := fun j hj => by
    have hjn : j + 1 ≤ n := by rw [List.mem_range'] at hj; omega
    have := Nat.mul_le_mul_right c hjn
    rw [Nat.add_mul, Nat.one_mul] at this
    omega
  generalize List.range' 0 n = is at each
  induction is with
  | nil => simp
  | cons j is ih =>
    have hj := each j (List.mem_cons_self ..)
    have p1 := runPart_arr hk L (j * c) (by rw [hs]; exact hj) w
    rw [hs] at p1
    have p2 := he d (by omega) ((L.drop (j * c)).take c) (by rw [List.length_take, List.length_drop]; omega) em w
    simp only [List.forIn_cons, Sem.run_bind, run_sizeOf w hi, Result.andThen_ok, hc, p1, p2, Sem.run_pure]
    exact ih (fun y hy => each y (List.mem_cons_of_mem _ hy))
theorem keyA_one {t e c D k e' : Nat} {f : Field} (hu : Tryz.prog.underlying t = some (.struct #[f])) (hf : f.name ≠ "_") (hft : f.type = e) (hfo : f.offset = 0) (hs : (tys e).size = c) (hk : (tys e).k = .arr k e') (he : KeyA D e c) : KeyA (D + 1) t c := by
  intro d hd L hL em w
  obtain ⟨d, rfl⟩ : ∃ d', d = d' + 1 := ⟨d - 1, by omega⟩
  rw [Instr.checkKey]
  have p1 := runPart_arr hk L 0 (by omega) w
  rw [hs, List.drop_zero, List.take_of_length_le (by omega)] at p1
  have p2 := he d (by omega) L hL em w
  simp only [Sem.run_bind, run_underlying hu, Result.andThen_ok]
  rw [← Array.forIn_toList]
  simp only [List.forIn_cons, List.forIn_nil, Sem.run_bind, hf, ne_eq, not_false_eq_true, if_true, hft, hfo, p1, p2, Result.andThen_ok, Sem.run_pure]
theorem keyA_A4 : KeyA 2 24 4 := keyA_ints (i := (Tryz.prog.info? 3).getD default) Tryz.underlying24 (by kernel_rfl) (by kernel_rfl) rfl Tryz.underlying3
theorem keyA_A64 : KeyA 3 25 24 := keyA_arr (c := 4) (i := (Tryz.prog.info? 24).getD default) Tryz.underlying25 (by kernel_rfl) (by kernel_rfl) rfl rfl keyA_A4
theorem keyA_rack : KeyA 4 27 24 := keyA_one Tryz.underlying27 (by decide) rfl rfl rfl rfl keyA_A64
theorem keyI_rack : KeyI Tryz.prog 27 24 := ⟨by rw [Tryz.underlying27], eqI_rack, fun L hL em w => keyA_rack 10000 (by omega) L hL em w⟩
end Go.Proofs.YtmccafjblhbmkaaGreat
set_option maxRecDepth 100000
set_option linter.unusedSimpArgs false
set_option linter.unusedVariables false
namespace Go.Proofs.YtmccafjblhbmkaaGreat
open Go Go.RowKit
def lexC : List Int → List Int → Int
  | a :: A, b :: B => if a < b then -1 else if b < a then 1 else lexC A B
  | _, _ => 0
def icmp (a b : Int) : Int := if a < b then -1 else if b < a then 1 else 0
--@tbl isNaNI = cmp.isNaN[int]
theorem isNaNI_ok (x : Int) : PureH Tryz.prog 189 [.int x] [] (.bool false) := by
  refine pure_of_vc (X := ⟨Tryz.prog, tys, [], [], true, true, 0, [], []⟩) fn_189 ⟨tys_ok, .nil, .nil, mixed⟩ (n0 := 0) (Nat.le_of_ble_eq_true rfl) (by simp [wfL, SV.wf]) (wfH_spec (by simp [wfH, SObj.wf])) (Nat.le_refl _) (fun _ => by simp [SV.wf, wfL]) ?_
  simp -implicitDefEqProofs only [Tryz.f189, Option.getD_some, argS, ZB, Int.reduceToNat, Nat.reduceLT, Nat.reduceLeDiff, Int.reduceLE, Int.reduceLT, Nat.reduceEqDiff, Nat.reduceSub, SB, SV.known, packR, ne_eq, reduceCtorEq, Nat.reduceEqDiff, ↓reduceIte, if_true, if_false, eq_self, Nat.reduceAdd, Nat.reduceMul, Nat.reduceSub, forall_const, oneCellS, litOne, flat1, Kd.isSca, flat, TYB]
  all_goals simp
def isNaNI_F : List SV → Heap → Option (Prop × SV)
  | [.int x], _ => some (True, .bool false)
  | _, _ => none
theorem isNaNI_T : ∀ args H p v, isNaNI_F args H = some (p, v) → p → PureH Tryz.prog 189 args H v := by
  intro args H p v h hp
  unfold isNaNI_F at h
  split at h
  · cases h; exact (isNaNI_ok _).any _
  · cases h
--@tbl cmpI = cmp.Compare[int]
theorem cmpI_ok (x y : Int) : PureH Tryz.prog 173 [.int x, .int y] [] (.int (icmp x y)) := by
  unfold icmp
  refine pure_of_vc (X := ⟨Tryz.prog, tys, [(189, isNaNI_F)], [], true, true, 0, [], []⟩) fn_173 ⟨tys_ok, (.cons isNaNI_T .nil), .nil, mixed⟩ (n0 := 0) (Nat.le_of_ble_eq_true rfl) (by simp [wfL, SV.wf]) (wfH_spec (by simp [wfH, SObj.wf])) (Nat.le_refl _) (fun _ => by simp [SV.wf, wfL]) ?_
  simp -implicitDefEqProofs only [Tryz.f173, Option.getD_some, argS, isNaNI_F, ZB, Int.reduceToNat, Nat.reduceLT, Nat.reduceLeDiff, Int.reduceLE, Int.reduceLT, Nat.reduceEqDiff, Nat.reduceSub, SB, SV.known, packR, ne_eq, reduceCtorEq, Nat.reduceEqDiff, ↓reduceIte, if_true, if_false, eq_self, Nat.reduceAdd, Nat.reduceMul, Nat.reduceSub, forall_const, oneCellS, litOne, flat1, Kd.isSca, flat, TYB]
  refine ⟨fun h => by rw [if_pos h], fun h => ⟨fun h2 => by rw [if_neg h, if_pos h2], fun h2 => by rw [if_neg h, if_neg h2]⟩⟩
def cmpI_F : List SV → Heap → Option (Prop × SV)
  | [.int x, .int y], _ => some (True, .int (icmp x y))
  | _, _ => none
theorem cmpI_T : ∀ args H p v, cmpI_F args H = some (p, v) → p → PureH Tryz.prog 173 args H v := by
  intro args H p v h hp
  unfold cmpI_F at h
  split at h
  · cases h; exact (cmpI_ok _ _).any _
  · cases h
theorem lexC_step (x y : List Int) (n i : Nat) (hi : i < n) (hx : n ≤ x.length) (hy : n ≤ y.length) : lexC ((x.take n).drop i) ((y.take n).drop i) = if icmp (x.getD i 0) (y.getD i 0) = 0 then lexC ((x.take n).drop (i + 1)) ((y.take n).drop (i + 1)) else icmp (x.getD i 0) (y.getD i 0) := by
  have e : ∀ l : List Int, n ≤ l.length → (l.take n).drop i = l.getD i 0 :: (l.take n).drop (i + 1) := fun l hl => by
    rw [List.drop_eq_getElem_cons (by rw [List.length_take]; omega), List.getElem_take, List.getD_eq_getElem?_getD, List.getElem?_eq_getElem (by omega)]; rfl
  rw [e x hx, e y hy]
  unfold icmp
  simp only [lexC]
  repeat' split
  all_goals (first | rfl | omega)
theorem cmpS_ok (x y : List Int) (e e' n c c' : Nat) (hx : n ≤ x.length) (hy : n ≤ y.length) (hn : n ≤ 1000) : PureH Tryz.prog 154 [.slice 0 0 n c, .slice 1 0 n c'] [(0, .ints x e), (1, .ints y e')] (.int (lexC (x.take n) (y.take n))) := by
  refine pure_of_vc (X := ⟨Tryz.prog, tys, [(173, cmpI_F)], [], true, true, 2, [], []⟩) fn_154 ⟨tys_ok, (.cons cmpI_T .nil), .nil, mixed⟩ (n0 := 2) (Nat.le_of_ble_eq_true rfl) (by simp [wfL, SV.wf]) (wfH_spec (by simp [wfH, SObj.wf])) (Nat.le_refl _) (fun _ => by simp [SV.wf, wfL]) ?_
  simp -implicitDefEqProofs only [Tryz.f154, Option.getD_some, argS, cmpI_F, ZB, Int.reduceToNat, Nat.reduceLT, Nat.reduceLeDiff, Int.reduceLE, Int.reduceLT, Nat.reduceEqDiff, Nat.reduceSub, SB, SV.known, packR, ne_eq, reduceCtorEq, Nat.reduceEqDiff, ↓reduceIte, if_true, if_false, eq_self, Nat.reduceAdd, Nat.reduceMul, Nat.reduceSub, forall_const, oneCellS, litOne, flat1, Kd.isSca, flat, TYB]
  refine loop_intro (fun i : Nat => [(11, .int i), (10, .int n), (9, .slice 0 0 n c), (0, .slice 0 0 n c), (1, .slice 1 0 n c')]) (fun _ => [(0, .ints x e), (1, .ints y e')]) 2 (fun i => i ≤ n ∧ lexC (x.take n) (y.take n) = lexC ((x.take n).drop i) ((y.take n).drop i)) (fun i => n - i) ?_ ?_
  · refine ⟨0, ⟨by omega, rfl⟩, Sub.mk_id ?_ ?_ ?_ ?_ ?_⟩
    all_goals ((try simp only [LB, subS, subH, wfS, wfH, SV.ren, renL, SObj.ren, SV.wf, SObj.wf, wfL, SV.known, Nat.reduceEqDiff, ↓reduceIte, if_true, if_false, eq_self, Nat.reduceAdd, Nat.reduceLT, Nat.reduceLeDiff, implies_true, reduceCtorEq, forall_const]) <;> simp)
  · rintro i ⟨hi, he⟩
    by_cases hlt : i < n
    · have hil : (i : Int) < n := by omega
      have hnl : ¬ (i : Int) ≥ n := by omega
      have hix : i < x.length := by omega
      have hiy : i < y.length := by omega
      have st := lexC_step x y n i hlt hx hy
      rw [← he] at st
      by_cases hc : icmp (x.getD i 0) (y.getD i 0) = 0
      · rw [if_pos hc] at st
        simp -implicitDefEqProofs only [lk_normal, cmpI_F, hil, hnl, hix, hiy, hc, ZB, Int.reduceToNat, Nat.reduceLT, Nat.reduceLeDiff, Int.reduceLE, Int.reduceLT, Nat.reduceEqDiff, Nat.reduceSub, SB, SV.known, packR, ne_eq, reduceCtorEq, Nat.reduceEqDiff, ↓reduceIte, if_true, if_false, eq_self, Nat.reduceAdd, Nat.reduceMul, Nat.reduceSub, forall_const, oneCellS, litOne, flat1, Kd.isSca, flat, TYB]
        refine ⟨by omega, by omega, by unfold In64; omega, i + 1, ⟨by omega, st⟩, by omega, Sub.mk_id ?_ ?_ ?_ ?_ ?_⟩
        all_goals ((try simp only [LB, subS, subH, wfS, wfH, SV.ren, renL, SObj.ren, SV.wf, SObj.wf, wfL, SV.known, Nat.reduceEqDiff, ↓reduceIte, if_true, if_false, eq_self, Nat.reduceAdd, Nat.reduceLT, Nat.reduceLeDiff, implies_true, reduceCtorEq, forall_const]) <;> simp)
      · rw [if_neg hc] at st
        simp -implicitDefEqProofs only [lk_normal, cmpI_F, hil, hnl, hix, hiy, hc, ZB, Int.reduceToNat, Nat.reduceLT, Nat.reduceLeDiff, Int.reduceLE, Int.reduceLT, Nat.reduceEqDiff, Nat.reduceSub, SB, SV.known, packR, ne_eq, reduceCtorEq, Nat.reduceEqDiff, ↓reduceIte, if_true, if_false, eq_self, Nat.reduceAdd, Nat.reduceMul, Nat.reduceSub, forall_const, oneCellS, litOne, flat1, Kd.isSca, flat, TYB]
        exact ⟨by omega, by omega, st.symm⟩
    · have hil : ¬ (i : Int) < n := by omega
      obtain rfl : i = n := by omega
      have e0 : lexC (x.take i) (y.take i) = 0 := by
        rw [he, List.drop_eq_nil_of_le (by rw [List.length_take]; omega)]; rfl
      simp -implicitDefEqProofs only [lk_normal, hil, e0, Int.lt_irrefl, ZB, Int.reduceToNat, Nat.reduceLT, Nat.reduceLeDiff, Int.reduceLE, Int.reduceLT, Nat.reduceEqDiff, Nat.reduceSub, SB, SV.known, packR, ne_eq, reduceCtorEq, Nat.reduceEqDiff, ↓reduceIte, if_true, if_false, eq_self, Nat.reduceAdd, Nat.reduceMul, Nat.reduceSub, forall_const, oneCellS, litOne, flat1, Kd.isSca, flat, TYB]
--@tbl cmpS = slices.Compare[[]int,int]
def cmpS_F : List SV → Heap → Option (Prop × SV)
  | [.slice 0 0 n _, .slice 1 0 n' _], H => match hget H 0, hget H 1 with
    | some (.ints x _), some (.ints y _) => some (n = n' ∧ n ≤ x.length ∧ n ≤ y.length ∧ n ≤ 1000, .int (lexC (x.take n) (y.take n)))
    | _, _ => none
  | _, _ => none
theorem cmpS_T : ∀ args H p v, cmpS_F args H = some (p, v) → p → PureH Tryz.prog 154 args H v := by
  intro args H p v h hp
  unfold cmpS_F at h
  split at h
  · rename_i n c n' c'
    split at h
    · rename_i x e y e' h1 h2
      cases h
      obtain ⟨rfl, g1, g2, g3⟩ := hp
      refine (cmpS_ok x y e e' n c c' g1 g2 g3).weaken (fun k o hk => ?_) (fun _ => trivial)
      simp only [hget_cons] at hk
      split at hk
      · rename_i h0; cases hk; subst h0; exact h1
      · split at hk
        · rename_i h0; cases hk; subst h0; exact h2
        · cases hk
    · cases h
  · cases h
theorem cmpT_ok (x y : List Int) (hx : x.length = 4) (hy : y.length = 4) : PureH Tryz.prog 120 [.arr x, .arr y] [] (.int (lexC x y)) := by
  have tx : x.take 4 = x := List.take_of_length_le (by omega)
  have ty : y.take 4 = y := List.take_of_length_le (by omega)
  refine pure_of_vc (X := ⟨Tryz.prog, tys, [(154, cmpS_F)], [], true, true, 0, [], []⟩) fn_120 ⟨tys_ok, (.cons cmpS_T .nil), .nil, mixed⟩ (n0 := 0) (Nat.le_of_ble_eq_true rfl) (by simp [wfL, SV.wf]) (wfH_spec (by simp [wfH, SObj.wf])) (Nat.le_refl _) (fun _ => by simp [SV.wf, wfL]) ?_
  simp -implicitDefEqProofs only [Tryz.f120, Option.getD_some, argS, cmpS_F, hx, hy, tx, ty, ZB, Int.reduceToNat, Nat.reduceLT, Nat.reduceLeDiff, Int.reduceLE, Int.reduceLT, Nat.reduceEqDiff, Nat.reduceSub, SB, SV.known, packR, ne_eq, reduceCtorEq, Nat.reduceEqDiff, ↓reduceIte, if_true, if_false, eq_self, Nat.reduceAdd, Nat.reduceMul, Nat.reduceSub, forall_const, oneCellS, litOne, flat1, Kd.isSca, flat, TYB]
--@tbl compareTubes = impl.compareTubes
/-! The order. -/
theorem lexC_refl : ∀ x : List Int, lexC x x = 0
  | [] => rfl
  | a :: A => by
    show (if a < a then -1 else if a < a then 1 else lexC A A) = 0
    rw [if_neg (by omega), if_neg (by omega), lexC_refl A]
theorem lexC_lt {a b : Int} {A B : List Int} : lexC (a :: A) (b :: B) < 0 ↔ a < b ∨ (a = b ∧ lexC A B < 0) := by
  show (if a < b then -1 else if b < a then 1 else lexC A B) < 0 ↔ _
  split
  · rename_i h; simp [h]
  · split
    · rename_i h1 h2; constructor
      · intro h; omega
      · rintro (h | ⟨h, _⟩) <;> omega
    · rename_i h1 h2
      have : a = b := by omega
      simp [this]
theorem lexC_trans : ∀ {x y z : List Int}, x.length = y.length → y.length = z.length → lexC x y < 0 → lexC y z < 0 → lexC x z < 0
  | [], _, _, _, _, h, _ => by simp [lexC] at h
  | _ :: _, [], _, h, _, _, _ => by simp at h
  | _ :: _, _ :: _, [], _, h, _, _ => by simp at h
  | a :: A, b :: B, c :: C, h1, h2, h3, h4 => by
    rw [lexC_lt] at h3 h4 ⊢
    have := lexC_trans (x := A) (y := B) (z := C) (by simpa using h1) (by simpa using h2)
    rcases h3 with h3 | ⟨h3, h5⟩ <;> rcases h4 with h4 | ⟨h4, h6⟩
    · left; omega
    · left; omega
    · left; omega
    · right; exact ⟨by omega, this h5 h6⟩
theorem lexC_total : ∀ {x y : List Int}, x.length = y.length → ¬ lexC x y < 0 → ¬ lexC y x < 0 → x = y
  | [], [], _, _, _ => rfl
  | [], _ :: _, h, _, _ => by simp at h
  | _ :: _, [], h, _, _ => by simp at h
  | a :: A, b :: B, h1, h2, h3 => by
    rw [lexC_lt] at h2 h3
    have hab : a = b := by omega
    subst hab
    have := lexC_total (x := A) (y := B) (by simpa using h1) (fun h => h2 (.inr ⟨rfl, h⟩)) (fun h => h3 (.inr ⟨rfl, h⟩))
    rw [this]
/-- At most. -/
def lexL (x y : List Int) : Bool := !decide (lexC y x < 0)
theorem lexL_trans {x y z : List Int} (h1 : x.length = y.length) (h2 : y.length = z.length) (h3 : lexL x y = true) (h4 : lexL y z = true) : lexL x z = true := by
  simp only [lexL, Bool.not_eq_true', decide_eq_false_iff_not] at *
  intro h
  by_cases hxy : lexC x y < 0
  · exact h4 (lexC_trans (by omega) (by omega) h hxy)
  · rw [lexC_total h1 hxy h3] at h; exact h4 h
theorem lexL_anti {x y : List Int} (h : x.length = y.length) (h1 : lexL x y = true) (h2 : lexL y x = true) : x = y := by
  simp only [lexL, Bool.not_eq_true', decide_eq_false_iff_not] at *
  exact lexC_total h h2 h1
theorem lexL_total (x y : List Int) (h : x.length = y.length) : lexL x y = true ∨ lexL y x = true := by
  simp only [lexL, Bool.not_eq_true', decide_eq_false_iff_not]
  by_cases h1 : lexC y x < 0
  · right
    intro h2
    have := lexC_trans (by omega) (by omega) h1 h2
    rw [lexC_refl] at this; omega
  · exact .inl h1
/-- There is one sorted list of given lists. -/
theorem lexL_one {w : Nat} {l1 l2 : List (List Int)} (h1 : ∀ x ∈ l1, x.length = w) (hp : l1.Perm l2) (s1 : l1.Pairwise (fun x y => lexL x y = true)) (s2 : l2.Pairwise (fun x y => lexL x y = true)) : l1 = l2 :=
  List.Perm.eq_of_pairwise (le := fun x y => lexL x y = true) (fun a b ha hb ab ba => lexL_anti (by rw [h1 a ha, h1 b (hp.mem_iff.2 hb)]) ab ba) s1 s2 hp
end Go.Proofs.YtmccafjblhbmkaaGreat
set_option maxRecDepth 100000
set_option linter.unusedSimpArgs false
set_option linter.unusedVariables false
namespace Go.Proofs.YtmccafjblhbmkaaGreat
open Go Go.RowKit

/-- How a slice comes back: by itself, or ahead of other values. -/
inductive Wrap
  | one
  | more (l : List SV)
  | mid (a : SV) (l : List SV)
def Wrap.ap : Wrap → SV → SV
  | .one, v => v
  | .more l, v => .tup (v :: l)
  | .mid a l, v => .tup (a :: v :: l)
def flatL : List SV → Bool
  | [] => true
  | v :: r => flat v && flatL r
def Wrap.ok : Wrap → Bool
  | .one => true
  | .more l => flatL l
  | .mid a l => flat a && flatL l
theorem flatL_den : ∀ {l : List SV}, flatL l = true → ∀ B B' : Nat → Nat, denL B l = denL B' l
  | [], _, _, _ => rfl
  | v :: r, h, B, B' => by
    simp only [flatL, Bool.and_eq_true] at h
    simp only [denL]
    rw [den_flat h.1 B B', flatL_den h.2 B B']
theorem flatL_wf : ∀ {l : List SV}, flatL l = true → ∀ n, wfL n l
  | [], _, _ => trivial
  | v :: r, h, n => by
    simp only [flatL, Bool.and_eq_true] at h
    exact ⟨wf_flat h.1 n, flatL_wf h.2 n⟩
theorem Wrap.den_eq {wr : Wrap} (h : wr.ok = true) {B B' : Nat → Nat} {v v' : SV} (hv : v.den B = v'.den B') : (wr.ap v).den B = (wr.ap v').den B' := by
  cases wr with
  | one => exact hv
  | more l => simp only [Wrap.ap, SV.den, denL, hv, flatL_den h B B']
  | mid a l =>
    simp only [Wrap.ok, Bool.and_eq_true] at h
    simp only [Wrap.ap, SV.den, denL, hv, den_flat h.1 B B', flatL_den h.2 B B']
theorem Wrap.wf_ap {wr : Wrap} (h : wr.ok = true) {v : SV} {n : Nat} (hv : v.wf n) : (wr.ap v).wf n := by
  cases wr with
  | one => exact hv
  | more l => exact ⟨hv, flatL_wf h n⟩
  | mid a l =>
    simp only [Wrap.ok, Bool.and_eq_true] at h
    exact ⟨wf_flat h.1 n, hv, flatL_wf h.2 n⟩

structure FreshP (P : Program) (f : FuncId) (args : List SV) (H0 : Heap) (L : List Int) (len es e : Nat) (nl : Bool) (wr : Wrap) : Prop where
  ent : Entd P f
  ok : wr.ok = true
  call : ∀ B w, HR B H0 w → Calls P f (denL B args).toArray w fun r w' => Bel w.heap.size w w' ∧ ((nl = true ∧ L = [] ∧ r = .returned ((wr.ap .nils).den B)) ∨
    ∃ id cap junk, w.heap.size ≤ id ∧ r = .returned ((wr.ap (.slice 0 0 len cap)).den fun _ => id) ∧ w'.heap[id]? = some ((SObj.ints (L ++ junk) e).den B) ∧ junk.length + L.length = cap * es ∧ (nl = true → L ≠ []))

def freshPost (m : Nat) (L : List Int) (len es e : Nat) (nl : Bool) (wr : Wrap) (v : SV) (H' : Heap) : Prop :=
  (nl = true ∧ L = [] ∧ v = wr.ap .nils) ∨ ∃ b cap junk, v = wr.ap (.slice b 0 len cap) ∧ hget H' b = some (.ints (L ++ junk) e) ∧ m ≤ b ∧ junk.length + L.length = cap * es ∧ (nl = true → L ≠ [])
theorem fresh_of_vc {X : Cx} {f : FuncId} {fn : Func} {c : Code} (hf : FnOK X.P f fn c X.sx X.hr) (hX : CxOK X) {n0 : Nat} {args : List SV} {H0 : Heap} {L : List Int} {len es e : Nat} {nl : Bool} {wr : Wrap} (hw : wr.ok = true) (hN : args.length ≤ fn.ntmps) (hwa : wfL n0 args) (hwH : hwf n0 H0) (hm : n0 ≤ X.m)
    (h : codeVC X n0 c (argS 0 args) H0 n0 (retK X.τ fn.results.toList fun v H' _ => freshPost X.m L len es e nl wr v H')) : FreshP X.P f args H0 L len es e nl wr := by
  refine ⟨hf.ent, hw, fun B w hH => ?_⟩
  refine (run_of_vc hf hX hN hwa hwH (Nat.le_refl _) h B (fun i => w.heap.size ≤ i) w hH (own_ge hwH hm) (fun _ h => h)).mono fun r w' hh => ?_
  obtain ⟨v, H', n', B', rfl, hk, g1, g2, g3, g4, g5, g6, g7⟩ := hh
  refine ⟨g5.below fun i hi hge => by omega, ?_⟩
  rcases hk with ⟨h1, h2, rfl⟩ | ⟨b, cap, junk, rfl, h2, h3, h4, h5⟩
  · exact .inl ⟨h1, h2, congrArg Ending.returned (Wrap.den_eq hw rfl)⟩
  · exact .inr ⟨B' b, cap, junk, g4 b _ h2 rfl h3, congrArg Ending.returned (Wrap.den_eq hw rfl), g3.at_ b _ h2 rfl, h4, h5⟩

def freshK (wr : Wrap) (L : List Int) (len es e : Nat) (nl : Bool) (H : Heap) (n : Nat) (κ : K1) : Prop :=
  (nl = true → L = [] → κ (wr.ap .nils) H n) ∧ ((nl = true → L ≠ []) → ∀ (cap : Nat) (junk : List Int), junk.length + L.length = cap * es → κ (wr.ap (.slice n 0 len cap)) ((n, .ints (L ++ junk) e) :: H) (n + 1))

theorem HR.cons_fresh {B : Nat → Nat} {H : Heap} {n id : Nat} {w w' : World} {o : SObj} (h : HR B H w) (hw : hwf n H) (hb : Bel w.heap.size w w') (hid : w.heap.size ≤ id) (hwo : o.wf n) (hfl : o.full = true) (ho : w'.heap[id]? = some (o.den B)) : HR (upd B n id) ((n, o) :: H) w' := by
  have hag := upd_lt B n id
  have h' := h.of_below hb
  refine ⟨fun k o' hl hk => ?_, fun k j o1 o2 h1 h2 h3 h4 he => ?_⟩
  · rw [hget_cons] at hl
    split at hl
    · rename_i hkn
      subst hkn
      cases hl
      rw [upd_self]
      exact SObj.sat_of_den hfl (by rw [SObj.den_congr hag o hwo]; exact ho)
    · have hkn := (hw k o' hl).1
      rw [hag k hkn]
      exact SObj.sat_congr hag o' (hw k o' hl).2 (h'.at_ k o' hl hk)
  · rw [hget_cons] at h1 h3
    split at h1
    · rename_i hk
      split at h3
      · rename_i hj; omega
      · subst hk
        rw [upd_self, hag j (hw j o2 h3).1] at he
        have := h.lt h3 h4
        omega
    · split at h3
      · rename_i hj
        subst hj
        rw [upd_self, hag k (hw k o1 h1).1] at he
        have := h.lt h1 h2
        omega
      · rw [hag k (hw k o1 h1).1, hag j (hw j o2 h3).1] at he
        exact h.inj k j o1 o2 h1 h2 h3 h4 he

theorem gen_of_fresh {P : Program} {f : FuncId} {args : List SV} {H0 H : Heap} {L : List Int} {len es e n m : Nat} {nl : Bool} {wr : Wrap} {κ : K1} (h : FreshP P f args H0 L len es e nl wr) (hs : ∀ k o, hget H0 k = some o → hget H k = some o) (hk : freshK wr L len es e nl H n κ) : GenOK P f args H n m κ := by
  refine ⟨h.ent, fun B M w hH hwH hwa hown hM => ?_⟩
  have hH0 : HR B H0 w := ⟨fun k o hk hl => hH.at_ k o (hs k o hk) hl, fun k j o o' hk hl hj hl' he => hH.inj k j o o' (hs k o hk) hl (hs j o' hj) hl' he⟩
  refine (h.call B w hH0).mono fun r w' hh => ?_
  obtain ⟨hb, hh⟩ := hh
  rcases hh with ⟨h1, h2, rfl⟩ | ⟨id, cap, junk, h1, rfl, h3, h4, h5⟩
  · exact ⟨_, H, n, B, rfl, hk.1 h1 h2, Nat.le_refl _, Wrap.wf_ap h.ok trivial, hwH, fun _ _ => rfl, hH.of_below hb, hown, Kept.of_below hb⟩
  · refine ⟨_, _, n + 1, upd B n id, ?_, hk.2 h5 cap junk h4, by omega, Wrap.wf_ap h.ok (by simp [SV.wf]), ?_, upd_lt B n id, HR.cons_fresh hH hwH hb h1 trivial rfl h3, ?_, Kept.of_below hb⟩
    · exact congrArg Ending.returned (Wrap.den_eq h.ok (by simp [SV.den, upd_self]))
    · intro k o hl
      rw [hget_cons] at hl
      split at hl
      · cases hl; exact ⟨by omega, trivial⟩
      · have := hwH k o hl
        exact ⟨by omega, SObj.wf_mono (by omega) _ this.2⟩
    · intro k o hl hlive hmk
      rw [hget_cons] at hl
      split at hl
      · rename_i hkn
        subst hkn
        rw [upd_self]
        exact hM id h1
      · rw [upd_lt B n id k (hwH k o hl).1]
        exact hown k o hl hlive hmk

/-- A block under another name. -/
theorem Sub.mk_to (b b' : Nat) {p m : Nat} {S S' : Env} {H H' : Heap} {n' : Nat} (h1 : subS (fun k => if k = b then b' else k) S S') (h2 : subH (fun k => if k = b then b' else k) m H H') (h3 : wfS n' S') (h4 : wfH n' H') (h5 : p ≤ n') (h6 : p ≤ b)
    (h7 : ∀ k ∈ H'.map (·.1), k ≠ b → k ≠ b') : Sub p m S H S' H' n' := by
  refine ⟨fun k => if k = b then b' else k, h1, subH_spec h2, h3, wfH_spec h4, fun x hx y hy he => ?_, fun k hk => if_neg (by omega), h5⟩
  simp only at he
  by_cases hxb : x = b
  · by_cases hyb : y = b
    · rw [hxb, hyb]
    · rw [if_pos hxb, if_neg hyb] at he
      exact absurd he.symm (h7 y hy hyb)
  · by_cases hyb : y = b
    · rw [if_neg hxb, if_pos hyb] at he
      exact absurd he (h7 x hx hxb)
    · rw [if_neg hxb, if_neg hyb] at he
      exact he
theorem Sub.mk_to2 (b b' c c' : Nat) {p m : Nat} {S S' : Env} {H H' : Heap} {n' : Nat} (h1 : subS (fun k => if k = b then b' else if k = c then c' else k) S S') (h2 : subH (fun k => if k = b then b' else if k = c then c' else k) m H H') (h3 : wfS n' S') (h4 : wfH n' H') (h5 : p ≤ n') (h6 : p ≤ b) (h8 : p ≤ c)
    (h7 : ∀ x ∈ H'.map (·.1), ∀ y ∈ H'.map (·.1), (if x = b then b' else if x = c then c' else x) = (if y = b then b' else if y = c then c' else y) → x = y) : Sub p m S H S' H' n' :=
  ⟨fun k => if k = b then b' else if k = c then c' else k, h1, subH_spec h2, h3, wfH_spec h4, fun x hx y hy he => h7 x hx y hy he, fun k hk => by show (if k = b then b' else if k = c then c' else k) = k; rw [if_neg (by omega), if_neg (by omega)], h5⟩
/-- A slice that grows: nothing yet, or block 1. -/
def outV (i len cap : Nat) : SV := match i with
  | 0 => .nils
  | _ + 1 => .slice 1 0 len cap
def outH (i : Nat) (L : List Int) (e : Nat) (base : Heap) : Heap := match i with
  | 0 => base
  | _ + 1 => (1, .ints L e) :: base
theorem outV_zero (len cap : Nat) : outV 0 len cap = .nils := rfl
theorem outV_succ (i len cap : Nat) : outV (i + 1) len cap = .slice 1 0 len cap := rfl
theorem outH_zero (L : List Int) (e : Nat) (base : Heap) : outH 0 L e base = base := rfl
theorem outH_succ (i : Nat) (L : List Int) (e : Nat) (base : Heap) : outH (i + 1) L e base = (1, .ints L e) :: base := rfl
end Go.Proofs.YtmccafjblhbmkaaGreat
set_option maxRecDepth 100000
set_option linter.unusedSimpArgs false
set_option linter.unusedVariables false
namespace Go.Proofs.YtmccafjblhbmkaaGreat
open Go Go.RowKit
def stepR (L : List Int) (c : Int) : List Int := if 0 < L.length ∧ L.getD (L.length - 2) 0 = c then L.set (L.length - 1) (L.getD (L.length - 1) 0 + 1) else L ++ [c, 1]
def RL (t : List Int) (i : Nat) : List Int := (t.take i).foldl stepR []
def runsL (t : List Int) : List Int := (t.take (layN t)).foldl stepR []
theorem RL_zero (t : List Int) : RL t 0 = [] := by simp [RL]
theorem RL_succ (t : List Int) (i : Nat) (h : i < t.length) : RL t (i + 1) = stepR (RL t i) (t.getD i 0) := by
  unfold RL
  rw [List.take_succ_eq_append_getElem h, List.foldl_append]
  simp [List.getD, List.getElem?_eq_getElem h]
theorem stepR_eq {L : List Int} {n : Nat} {c : Int} (hL : L.length = n * 2) (hn : 0 < n) (h : L.getD (n * 2 - 2) 0 = c) : stepR L c = L.set (n * 2 - 1) (L.getD (n * 2 - 1) 0 + 1) := by
  unfold stepR
  rw [hL, if_pos ⟨by omega, h⟩]
theorem stepR_ne {L : List Int} {n : Nat} {c : Int} (hL : L.length = n * 2) (h : ¬ L.getD (n * 2 - 2) 0 = c) : stepR L c = L ++ [c, 1] := by
  unfold stepR
  rw [hL, if_neg fun hh => h hh.2]
theorem RL_one (t : List Int) (h : 0 < t.length) : RL t 1 = [t.getD 0 0, 1] := by
  rw [RL_succ t 0 h, RL_zero]; simp [stepR]
theorem getD_app (L M : List Int) (k : Nat) (h : k < L.length) : (L ++ M).getD k 0 = L.getD k 0 := by
  simp [List.getD, List.getElem?_append_left h]
theorem set_app (L M : List Int) (k : Nat) (x : Int) (h : k < L.length) : (L ++ M).set k x = L.set k x ++ M := List.set_append_left _ _ h
theorem getD_set_self (L : List Int) (k : Nat) (x : Int) (h : k < L.length) : (L.set k x).getD k 0 = x := by
  simp [List.getD, h]
theorem getD_app_right (L M : List Int) (k : Nat) : (L ++ M).getD (L.length + k) 0 = M.getD k 0 := by
  simp [List.getD, List.getElem?_append_right]
--@tbl runs = impl.runs
theorem runs_ok (t : List Int) (ht : t.length = 4) : FreshP Tryz.prog 147 [.arr t] [] (runsL t) ((runsL t).length / 2) 2 65 true .one := by
  have tk : t.take 4 = t := List.take_of_length_le (by omega)
  have hle := lay_le t ht
  refine fresh_of_vc (X := ⟨Tryz.prog, tys, [(135, layers_F)], [], true, true, 0, [], []⟩) fn_147 ⟨tys_ok, (.cons layers_T .nil), .nil, mixed⟩ (n0 := 0) rfl (Nat.le_of_ble_eq_true rfl) (by simp [wfL, SV.wf]) (wfH_spec (by simp [wfH, SObj.wf])) (Nat.le_refl _) ?_
  simp -implicitDefEqProofs only [Tryz.f147, Option.getD_some, argS, layers_F, ht, tk, ZB, Int.reduceToNat, Nat.reduceLT, Nat.reduceLeDiff, Int.reduceLE, Int.reduceLT, Nat.reduceEqDiff, Nat.reduceSub, SB, SV.known, packR, ne_eq, reduceCtorEq, Nat.reduceEqDiff, ↓reduceIte, if_true, if_false, eq_self, Nat.reduceAdd, Nat.reduceMul, Nat.reduceSub, forall_const, oneCellS, litOne, flat1, Kd.isSca, flat, TYB]
  refine ⟨by omega, by omega, ?_⟩
  refine loop_intro (fun s : Nat × Nat × Nat × List Int => [(9, .slice 0 0 (layN t) 4), (10, .int (layN t)), (11, .int s.1), (3, outV s.1 s.2.1 s.2.2.1)]) (fun s => outH s.1 (RL t s.1 ++ s.2.2.2) 65 [(0, .ints t 24)]) 2
    (fun s => s.1 ≤ layN t ∧ (s.1 ≠ 0 → (RL t s.1).length = s.2.1 * 2 ∧ 0 < s.2.1 ∧ s.2.1 ≤ s.1 ∧ (0 ≤ (RL t s.1).getD (s.2.1 * 2 - 1) 0 ∧ (RL t s.1).getD (s.2.1 * 2 - 1) 0 ≤ s.1) ∧ s.2.2.2.length + s.2.1 * 2 = s.2.2.1 * 2)) (fun s => layN t - s.1) ?_ ?_
  · refine ⟨(0, 0, 0, []), ⟨by omega, fun h => absurd rfl h⟩, Sub.mk_id ?_ ?_ ?_ ?_ ?_⟩
    all_goals simp only [outV_zero, outH_zero, LB, subS, subH, wfS, wfH, SV.ren, renL, SObj.ren, SV.wf, SObj.wf, wfL, SV.known, Nat.reduceEqDiff, ↓reduceIte, if_true, if_false, eq_self, Nat.reduceAdd, Nat.reduceLT, Nat.reduceLeDiff, implies_true, reduceCtorEq, forall_const]
    all_goals simp
  · rintro ⟨i, n, cap, junk⟩ ⟨hi1, hi2⟩
    simp only at hi1 hi2
    cases i with
    | zero =>
      simp -implicitDefEqProofs only [lk_normal, outV_zero, outH_zero, ht, ZB, Int.reduceToNat, Nat.reduceLT, Nat.reduceLeDiff, Int.reduceLE, Int.reduceLT, Nat.reduceEqDiff, Nat.reduceSub, SB, SV.known, packR, ne_eq, reduceCtorEq, Nat.reduceEqDiff, ↓reduceIte, if_true, if_false, eq_self, Nat.reduceAdd, Nat.reduceMul, Nat.reduceSub, forall_const, oneCellS, litOne, flat1, Kd.isSca, flat, TYB]
      refine ⟨fun h => ⟨h, fun junk' cap' hj => ⟨by unfold In64; omega, (1, 1, cap', junk'), ⟨by omega, fun _ => ?_⟩, by omega, Sub.mk_to 1 3 ?_ ?_ ?_ ?_ ?_ ?_ ?_⟩⟩, fun h => ?_⟩
      · rw [RL_one t (by omega)]
        simp; omega
      any_goals (simp only [outV_succ, outH_succ, RL_one t (show 0 < t.length by omega), LB, subS, subH, wfS, wfH, SV.ren, renL, SObj.ren, SV.wf, SObj.wf, wfL, SV.known, Nat.reduceEqDiff, ↓reduceIte, if_true, if_false, eq_self, Nat.reduceAdd, Nat.reduceLT, Nat.reduceLeDiff, implies_true, reduceCtorEq, forall_const]; try simp; done)
      have h0 : layN t = 0 := by omega
      exact .inl ⟨rfl, by simp [runsL, h0], rfl⟩
    | succ i =>
      obtain ⟨hL, hn, hni, hlast, hj⟩ := hi2 (by omega)
      have e0 : ((n : Int) - 1).toNat * 2 = n * 2 - 2 := by omega
      have e1 : n * 2 - 2 + 1 = n * 2 - 1 := by omega
      have g0 := getD_app (RL t (i + 1)) junk (n * 2 - 2) (by omega)
      have g1 := getD_app (RL t (i + 1)) junk (n * 2 - 1) (by omega)
      have tkL : (RL t (i + 1) ++ junk).take (n * 2) = RL t (i + 1) := List.take_left' hL
      have lenL : (RL t (i + 1) ++ junk).length = cap * 2 := by rw [List.length_append]; omega
      have hs := fun x => set_app (RL t (i + 1)) junk (n * 2 - 1) x (by omega)
      simp -implicitDefEqProofs only [lk_normal, outV_succ, outH_succ, ht, e0, e1, g0, g1, tkL, lenL, hs, ZB, Int.reduceToNat, Nat.reduceLT, Nat.reduceLeDiff, Int.reduceLE, Int.reduceLT, Nat.reduceEqDiff, Nat.reduceSub, SB, SV.known, packR, ne_eq, reduceCtorEq, Nat.reduceEqDiff, ↓reduceIte, if_true, if_false, eq_self, Nat.reduceAdd, Nat.reduceMul, Nat.reduceSub, forall_const, oneCellS, litOne, flat1, Kd.isSca, flat, TYB]
      refine ⟨fun h => ?_, fun h => ?_⟩
      · have es := RL_succ t (i + 1) (by omega)
        (try (and_intros <;> try (first | omega | (unfold In64; omega) | trivial | assumption)))
        · intro hp
          (try (and_intros <;> try (first | omega | (unfold In64; omega) | trivial | assumption)))
          · intro he
            (try (and_intros <;> try (first | omega | (unfold In64; omega) | trivial | assumption)))
            refine ⟨(i + 1 + 1, n, cap, junk), ⟨by omega, fun _ => ?_⟩, by simp only; omega, Sub.mk_id ?_ ?_ ?_ ?_ ?_⟩
            · simp only
              rw [es, stepR_eq hL hn he]
              refine ⟨by simp [hL], hn, by omega, ?_, hj⟩
              rw [getD_set_self _ _ _ (by omega)]
              omega
            all_goals simp only [outV_succ, outH_succ, es, stepR_eq hL hn he, LB, subS, subH, wfS, wfH, SV.ren, renL, SObj.ren, SV.wf, SObj.wf, wfL, SV.known, Nat.reduceEqDiff, ↓reduceIte, if_true, if_false, eq_self, Nat.reduceAdd, Nat.reduceLT, Nat.reduceLeDiff, implies_true, reduceCtorEq, forall_const]
            all_goals (try simp)
          · intro he
            (try (and_intros <;> try (first | omega | (unfold In64; omega) | trivial | assumption)))
            intro junk' cap' hj'
            (try (and_intros <;> try (first | omega | (unfold In64; omega) | trivial | assumption)))
            refine ⟨(i + 1 + 1, n + 1, cap', junk'), ⟨by omega, fun _ => ?_⟩, by simp only; omega, Sub.mk_to 1 3 ?_ ?_ ?_ ?_ ?_ ?_ ?_⟩
            · simp only
              rw [es, stepR_ne hL he]
              refine ⟨by simp [hL]; omega, by omega, by omega, ?_, by omega⟩
              have : (n + 1) * 2 - 1 = (RL t (i + 1)).length + 1 := by omega
              rw [this, getD_app_right]
              simp; omega
            all_goals simp only [outV_succ, outH_succ, es, stepR_ne hL he, LB, subS, subH, wfS, wfH, SV.ren, renL, SObj.ren, SV.wf, SObj.wf, wfL, SV.known, Nat.reduceEqDiff, ↓reduceIte, if_true, if_false, eq_self, Nat.reduceAdd, Nat.reduceLT, Nat.reduceLeDiff, implies_true, reduceCtorEq, forall_const]
            all_goals (try simp)
      · have hii : i + 1 = layN t := by omega
        have hr : runsL t = RL t (i + 1) := by rw [hii]; rfl
        refine .inr ⟨1, cap, junk, ?_, ?_, by omega, ?_, ?_⟩
        · rw [hr, hL]; simp [Wrap.ap]
        · rw [hr]; simp [hget_cons]
        · rw [hr]; omega
        · intro _ h0
          rw [hr] at h0
          rw [h0] at hL
          simp at hL; omega
def runs_F : List SV → Heap → Nat → Nat → K1 → Prop
  | [.arr t], H, n, _, κ => t.length = 4 ∧ freshK .one (runsL t) ((runsL t).length / 2) 2 65 true H n κ
  | _, _, _, _, _ => False
theorem runs_T : ∀ args H n m κ, runs_F args H n m κ → GenOK Tryz.prog 147 args H n m κ := by
  intro args H n m κ h
  unfold runs_F at h
  split at h
  · exact gen_of_fresh (runs_ok _ h.1) (fun k o hk => by cases hk) h.2
  · exact h.elim
theorem RL_even (t : List Int) (ht : t.length = 4) : ∀ i, i ≤ 4 → ∃ n, (RL t i).length = n * 2 ∧ n ≤ i ∧ (0 < i → 0 < n)
  | 0, _ => ⟨0, by rw [RL_zero]; rfl, by omega, by omega⟩
  | i + 1, hi => by
    obtain ⟨n, h1, h2, h3⟩ := RL_even t ht i (by omega)
    rw [RL_succ t i (by omega)]
    by_cases hn : 0 < n
    · by_cases he : (RL t i).getD (n * 2 - 2) 0 = t.getD i 0
      · rw [stepR_eq h1 hn he]; exact ⟨n, by simpa using h1, by omega, fun _ => hn⟩
      · rw [stepR_ne h1 he]; exact ⟨n + 1, by simp; omega, by omega, fun _ => by omega⟩
    · have h0 : n = 0 := by omega
      subst h0
      have : RL t i = [] := List.length_eq_zero_iff.1 (by simpa using h1)
      rw [this]
      exact ⟨1, by simp [stepR], by omega, fun _ => by omega⟩
theorem runsL_even (t : List Int) (ht : t.length = 4) : ∃ n, (runsL t).length = n * 2 ∧ n ≤ 4 ∧ (0 < layN t → 0 < n) := by
  obtain ⟨n, h1, h2, h3⟩ := RL_even t ht (layN t) (lay_le t ht)
  have := lay_le t ht
  exact ⟨n, h1, by omega, h3⟩
def topF (t : List Int) : Int × Int := if runsL t = [] then (0, 0) else ((runsL t).getD ((runsL t).length - 2) 0, (runsL t).getD ((runsL t).length - 1) 0)
--@tbl top = impl.top
theorem top_ok (t : List Int) (ht : t.length = 4) : PureH Tryz.prog 136 [.arr t] [] (.tup [.int (topF t).1, .int (topF t).2]) := by
  have tk : t.take 4 = t := List.take_of_length_le (by omega)
  obtain ⟨n, hn, hn4, _⟩ := runsL_even t ht
  refine pure_of_vc (X := ⟨Tryz.prog, tys, [], [(147, runs_F)], true, true, 0, [], []⟩) fn_136 ⟨tys_ok, .nil, (.cons runs_T .nil), mixed⟩ (n0 := 0) (Nat.le_of_ble_eq_true rfl) (by simp [wfL, SV.wf]) (wfH_spec (by simp [wfH, SObj.wf])) (Nat.le_refl _) (fun _ => by simp [SV.wf, wfL]) ?_
  simp -implicitDefEqProofs only [Tryz.f136, Option.getD_some, argS, runs_F, ht, tk, hn, freshK, Wrap.ap, ZB, Int.reduceToNat, Nat.reduceLT, Nat.reduceLeDiff, Int.reduceLE, Int.reduceLT, Nat.reduceEqDiff, Nat.reduceSub, SB, SV.known, packR, ne_eq, reduceCtorEq, Nat.reduceEqDiff, ↓reduceIte, if_true, if_false, eq_self, Nat.reduceAdd, Nat.reduceMul, Nat.reduceSub, forall_const, oneCellS, litOne, flat1, Kd.isSca, flat, TYB]
  refine ⟨fun h => by simp [topF, h], fun h cap junk hj => ?_⟩
  have hn0 : 0 < n := by
    rcases Nat.eq_zero_or_pos n with h0 | h0
    · exact absurd (List.length_eq_zero_iff.1 (by rw [hn, h0])) h
    · exact h0
  have e2 : n * 2 / 2 = n := by omega
  have e0 : ((n : Int) - 1).toNat * 2 = n * 2 - 2 := by omega
  simp only [e2, e0]
  have hM : ((runsL t ++ junk).drop (n * 2 - 2) |>.take 2).length = 2 := by rw [List.length_take, List.length_drop, List.length_append]; omega
  have m0 : ((runsL t ++ junk).drop (n * 2 - 2) |>.take 2).getD 0 0 = (topF t).1 := by
    rw [getD_cut _ _ _ _ (by omega), getD_app _ _ _ (by omega)]
    simp [topF, h, hn]
  have m1 : ((runsL t ++ junk).drop (n * 2 - 2) |>.take 2).getD 1 0 = (topF t).2 := by
    rw [getD_cut _ _ _ _ (by omega), getD_app _ _ _ (by omega), show n * 2 - 2 + 1 = n * 2 - 1 by omega]
    simp [topF, h, hn]
  simp only [hM, Nat.sub_self, List.replicate_zero, List.append_nil, m0, m1]
  refine ⟨fun h0 => by omega, fun _ => ?_⟩
  have : (runsL t ++ junk).length = cap * 2 := by rw [List.length_append]; omega
  (try (and_intros <;> try (first | omega | (unfold In64; omega) | trivial | assumption)))
def top_F : List SV → Heap → Option (Prop × SV)
  | [.arr t], _ => some (t.length = 4, .tup [.int (topF t).1, .int (topF t).2])
  | _, _ => none
theorem top_T : ∀ args H p v, top_F args H = some (p, v) → p → PureH Tryz.prog 136 args H v := by
  intro args H p v h hp
  unfold top_F at h
  split at h
  · cases h; exact (top_ok _ hp).any _
  · cases h

/-! The model's top. -/
def isRun (t : List Int) (n r : Nat) : Prop := 0 < r ∧ r ≤ n ∧ (∀ k, k < r → t.getD (n - 1 - k) 0 = t.getD (n - 1) 0) ∧ (r = n ∨ ¬ t.getD (n - 1 - r) 0 = t.getD (n - 1) 0)
theorem isRun_one {t : List Int} {n r r' : Nat} (h : isRun t n r) (h' : isRun t n r') : r = r' := by
  rcases Nat.lt_trichotomy r r' with hl | he | hg
  · rcases h.2.2.2 with h1 | h1
    · have := h'.2.1; omega
    · exact absurd (h'.2.2.1 r hl) h1
  · exact he
  · rcases h'.2.2.2 with h1 | h1
    · have := h.2.1; omega
    · exact absurd (h.2.2.1 r' hg) h1
theorem topF_run (t : List Int) (ht : t.length = 4) (h0 : 0 < layN t) : ∃ r : Nat, topF t = (t.getD (layN t - 1) 0, (r : Int)) ∧ isRun t (layN t) r := by
  have key : ∀ i, 0 < i → i ≤ 4 → ∃ r n : Nat, (RL t i).length = n * 2 ∧ 0 < n ∧ (RL t i).getD (n * 2 - 2) 0 = t.getD (i - 1) 0 ∧ (RL t i).getD (n * 2 - 1) 0 = r ∧ isRun t i r := by
    intro i
    induction i with
    | zero => intro h; omega
    | succ i ih =>
      intro _ hi
      rw [RL_succ t i (by omega)]
      by_cases hi0 : i = 0
      · subst hi0
        rw [RL_zero]
        exact ⟨1, 1, by simp [stepR], by omega, by simp [stepR], by simp [stepR], by omega, by omega, fun k hk => by rw [show k = 0 by omega], .inl rfl⟩
      · obtain ⟨r, n, h1, h2, h3, h4, h5⟩ := ih (by omega) (by omega)
        by_cases he : (RL t i).getD (n * 2 - 2) 0 = t.getD i 0
        · rw [stepR_eq h1 h2 he]
          refine ⟨r + 1, n, by simpa using h1, h2, ?_, ?_, by omega, by have := h5.2.1; omega, fun k hk => ?_, ?_⟩
          · rw [show i + 1 - 1 = i by omega, ← he]
            simp only [List.getD, List.getElem?_set]
            rw [if_neg (by omega)]
          · rw [getD_set_self _ _ _ (by omega), h4]; omega
          · rcases Nat.eq_zero_or_pos k with hk0 | hk0
            · rw [hk0]; rfl
            · have := h5.2.2.1 (k - 1) (by omega)
              rw [show i + 1 - 1 - k = i - 1 - (k - 1) by omega, this, ← h3, he]; rfl
          · rcases h5.2.2.2 with h6 | h6
            · exact .inl (by omega)
            · refine .inr ?_
              rw [show i + 1 - 1 - (r + 1) = i - 1 - r by omega, show i + 1 - 1 = i by omega, ← he, h3]
              exact h6
        · rw [stepR_ne h1 he]
          refine ⟨1, n + 1, by simp; omega, by omega, ?_, ?_, by omega, by omega, fun k hk => by rw [show k = 0 by omega]; rfl, .inr ?_⟩
          · rw [show (n + 1) * 2 - 2 = (RL t i).length + 0 by omega, getD_app_right]; rfl
          · rw [show (n + 1) * 2 - 1 = (RL t i).length + 1 by omega, getD_app_right]; rfl
          · rw [show i + 1 - 1 - 1 = i - 1 by omega, show i + 1 - 1 = i by omega, ← h3]
            exact he
  obtain ⟨r, n, h1, h2, h3, h4, h5⟩ := key (layN t) h0 (lay_le t ht)
  have hr : runsL t = RL t (layN t) := rfl
  refine ⟨r, ?_, h5⟩
  unfold topF
  rw [hr, if_neg (by intro h; rw [h] at h1; simp at h1; omega), h1, h3, h4]
--@tbl l2Top = spec.l2Top
theorem l2Top_ok (t : List Int) (ht : t.length = 4) (hb : tubeB t = true) : PureH Tryz.prog 127 [.arr t] [] (.tup [.int (topF t).1, .int (topF t).2]) := by
  have tk : t.take 4 = t := List.take_of_length_le (by omega)
  have hp := posC_lay t ht hb
  have hle := lay_le t ht
  have hz : layN t = 0 → topF t = (0, 0) := fun h => by simp [topF, runsL, h]
  refine pure_of_vc (X := ⟨Tryz.prog, tys, [(128, l2Many_F)], [], true, true, 0, [], []⟩) fn_127 ⟨tys_ok, (.cons l2Many_T .nil), .nil, mixed⟩ (n0 := 0) (Nat.le_of_ble_eq_true rfl) (by simp [wfL, SV.wf]) (wfH_spec (by simp [wfH, SObj.wf])) (Nat.le_refl _) (fun _ => by simp [SV.wf, wfL]) ?_
  simp -implicitDefEqProofs only [Tryz.f127, Option.getD_some, argS, l2Many_F, ht, tk, hp, ZB, Int.reduceToNat, Nat.reduceLT, Nat.reduceLeDiff, Int.reduceLE, Int.reduceLT, Nat.reduceEqDiff, Nat.reduceSub, SB, SV.known, packR, ne_eq, reduceCtorEq, Nat.reduceEqDiff, ↓reduceIte, if_true, if_false, eq_self, Nat.reduceAdd, Nat.reduceMul, Nat.reduceSub, forall_const, oneCellS, litOne, flat1, Kd.isSca, flat, TYB]
  refine ⟨fun h => by rw [hz (by omega)]; exact ⟨rfl, rfl⟩, fun h => ?_⟩
  obtain ⟨r0, ht0, hr0⟩ := topF_run t ht (by omega)
  refine loop_intro (fun r : Nat => [(1, .ptr 0 0), (4, .int (layN t)), (5, .int r)]) (fun _ => [(0, .ints t 24)]) 1 (fun r => r ≤ layN t ∧ ∀ k, k < r → t.getD (layN t - 1 - k) 0 = t.getD (layN t - 1) 0) (fun r => layN t - r) ?_ ?_
  · refine ⟨0, ⟨by omega, by omega⟩, Sub.mk_id ?_ ?_ ?_ ?_ ?_⟩
    all_goals simp only [LB, subS, subH, wfS, wfH, SV.ren, renL, SObj.ren, SV.wf, SObj.wf, wfL, SV.known, Nat.reduceEqDiff, ↓reduceIte, if_true, if_false, eq_self, Nat.reduceAdd, Nat.reduceLT, Nat.reduceLeDiff, implies_true, reduceCtorEq, forall_const]
    all_goals simp
  · rintro r ⟨hr1, hr2⟩
    have e1 : ((layN t : Int) - 1).toNat = layN t - 1 := by omega
    have e2 : ((layN t : Int) - 1 - r).toNat = layN t - 1 - r := by omega
    simp -implicitDefEqProofs only [lk_normal, ht, e1, e2, ZB, Int.reduceToNat, Nat.reduceLT, Nat.reduceLeDiff, Int.reduceLE, Int.reduceLT, Nat.reduceEqDiff, Nat.reduceSub, SB, SV.known, packR, ne_eq, reduceCtorEq, Nat.reduceEqDiff, ↓reduceIte, if_true, if_false, eq_self, Nat.reduceAdd, Nat.reduceMul, Nat.reduceSub, forall_const, oneCellS, litOne, flat1, Kd.isSca, flat, TYB]
    (try (and_intros <;> try (first | omega | (unfold In64; omega) | trivial | assumption)))
    all_goals intro h1
    · (try (and_intros <;> try (first | omega | (unfold In64; omega) | trivial | assumption)))
      all_goals intro h2
      · (try (and_intros <;> try (first | omega | (unfold In64; omega) | trivial | assumption)))
        refine ⟨r + 1, ⟨by omega, fun k hk => ?_⟩, by omega, Sub.mk_id ?_ ?_ ?_ ?_ ?_⟩
        · by_cases hkr : k = r
          · rw [hkr]; exact h2
          · exact hr2 k (by omega)
        all_goals simp only [LB, subS, subH, wfS, wfH, SV.ren, renL, SObj.ren, SV.wf, SObj.wf, wfL, SV.known, Nat.reduceEqDiff, ↓reduceIte, if_true, if_false, eq_self, Nat.reduceAdd, Nat.reduceLT, Nat.reduceLeDiff, implies_true, reduceCtorEq, forall_const]
      · have hrun : isRun t (layN t) r := ⟨by
          rcases Nat.eq_zero_or_pos r with h0 | h0
          · subst h0; exact absurd rfl h2
          · exact h0, hr1, hr2, .inr h2⟩
        have e3 : topF t = (t.getD (layN t - 1) 0, (r : Int)) := by rw [ht0, isRun_one hr0 hrun]
        simp only [e3]
        (try (and_intros <;> try (first | omega | (unfold In64; omega) | trivial | assumption)))
    · have hrn : r = layN t := by omega
      have hrun : isRun t (layN t) r := ⟨by omega, hr1, hr2, .inl hrn⟩
      have e3 : topF t = (t.getD (layN t - 1) 0, (r : Int)) := by rw [ht0, isRun_one hr0 hrun]
      simp only [e3]
      (try (and_intros <;> try (first | omega | (unfold In64; omega) | trivial | assumption)))
def l2Top_F : List SV → Heap → Option (Prop × SV)
  | [.arr t], _ => some (t.length = 4 ∧ tubeB t = true, .tup [.int (topF t).1, .int (topF t).2])
  | _, _ => none
theorem l2Top_T : ∀ args H p v, l2Top_F args H = some (p, v) → p → PureH Tryz.prog 127 args H v := by
  intro args H p v h hp
  unfold l2Top_F at h
  split at h
  · cases h; exact (l2Top_ok _ hp.1 hp.2).any _
  · cases h

theorem top_pos (t : List Int) (ht : t.length = 4) (hb : tubeB t = true) : (0 < (topF t).1 ↔ 0 < layN t) ∧ (0 < (topF t).2 ↔ 0 < layN t) := by
  rcases Nat.eq_zero_or_pos (layN t) with h0 | h0
  · have : topF t = (0, 0) := by simp [topF, runsL, h0]
    simp [this, h0]
  · obtain ⟨r, h1, h2⟩ := topF_run t ht h0
    have hle := lay_le t ht
    have hc : coT (t.getD (layN t - 1) 0) = true := by
      unfold tubeB at hb
      simp only [Bool.and_eq_true] at hb
      refine List.all_eq_true.1 hb.1 _ ?_
      have hlt : layN t - 1 < t.length := by omega
      simp only [List.getD, List.getElem?_eq_getElem hlt, Option.getD_some]
      exact List.mem_take_iff_getElem.2 ⟨layN t - 1, by omega, rfl⟩
    have hc2 : 1 ≤ t.getD (layN t - 1) 0 ∧ t.getD (layN t - 1) 0 ≤ 5 := by simpa [coT] using hc
    have := h2.1
    rw [h1]
    constructor <;> constructor <;> intro _ <;> first | exact h0 | (simp only; omega)

/-! Pours. -/
def canF (R : List Int) (i j : Int) : Bool := !decide (i = j) && decide (0 < (topF (tubeAt R i.toNat)).1) && decide ((layN (tubeAt R j.toNat) : Int) < 4) && (decide ((topF (tubeAt R j.toNat)).1 = 0) || decide ((topF (tubeAt R j.toNat)).1 = (topF (tubeAt R i.toNat)).1))
--@tbl canPour = impl.canPour
theorem canPour_ok (R : List Int) (i j : Int) (hR : R.length = 24) (hi : 0 ≤ i ∧ i ≤ 5) (hj : 0 ≤ j ∧ j ≤ 5) : PureH Tryz.prog 100 [.arr R, .int i, .int j] [] (.bool (canF R i j)) := by
  have hli := tubeAt_len hR (i := i.toNat) (by omega)
  have hlj := tubeAt_len hR (i := j.toNat) (by omega)
  have ei : List.take 4 (List.drop (i.toNat * 4) R) = tubeAt R i.toNat := rfl
  have ej : List.take 4 (List.drop (j.toNat * 4) R) = tubeAt R j.toNat := rfl
  refine pure_of_vc (X := ⟨Tryz.prog, tys, [(136, top_F), (135, layers_F)], [], true, true, 0, [], []⟩) fn_100 ⟨tys_ok, (.cons top_T (.cons layers_T .nil)), .nil, mixed⟩ (n0 := 0) (Nat.le_of_ble_eq_true rfl) (by simp [wfL, SV.wf]) (wfH_spec (by simp [wfH, SObj.wf])) (Nat.le_refl _) (fun _ => by simp [SV.wf, wfL]) ?_
  simp -implicitDefEqProofs only [Tryz.f100, Option.getD_some, argS, top_F, layers_F, hR, ei, ej, hli, hlj, ZB, Int.reduceToNat, Nat.reduceLT, Nat.reduceLeDiff, Int.reduceLE, Int.reduceLT, Nat.reduceEqDiff, Nat.reduceSub, SB, SV.known, packR, ne_eq, reduceCtorEq, Nat.reduceEqDiff, ↓reduceIte, if_true, if_false, eq_self, Nat.reduceAdd, Nat.reduceMul, Nat.reduceSub, forall_const, oneCellS, litOne, flat1, Kd.isSca, flat, TYB]
  (try (and_intros <;> try (first | omega | (unfold In64; omega) | trivial | assumption)))
  · intro h; simp [canF, h]
  · intro h
    (try (and_intros <;> try (first | omega | (unfold In64; omega) | trivial | assumption)))
    · intro h1
      (try (and_intros <;> try (first | omega | (unfold In64; omega) | trivial | assumption)))
      · intro h2
        (try (and_intros <;> try (first | omega | (unfold In64; omega) | trivial | assumption)))
        · intro h3; simp [canF, h, h1, h2, h3]
        · intro h3; simp [canF, h, h1, h2, h3]
      · intro h2; simp [canF, h, h1, h2]
    · intro h1
      simp [canF, h, h1]
def canPour_F : List SV → Heap → Option (Prop × SV)
  | [.arr R, .int i, .int j], _ => some (R.length = 24 ∧ (0 ≤ i ∧ i ≤ 5) ∧ (0 ≤ j ∧ j ≤ 5), .bool (canF R i j))
  | _, _ => none
theorem canPour_T : ∀ args H p v, canPour_F args H = some (p, v) → p → PureH Tryz.prog 100 args H v := by
  intro args H p v h hp
  unfold canPour_F at h
  split at h
  · cases h; exact (canPour_ok _ _ _ hp.1 hp.2.1 hp.2.2).any _
  · cases h
--@tbl l2Can = spec.l2Can
theorem l2Can_ok (R : List Int) (i j : Int) (hR : R.length = 24) (hr : rackB R = true) (hi : 0 ≤ i ∧ i ≤ 5) (hj : 0 ≤ j ∧ j ≤ 5) : PureH Tryz.prog 110 [.arr R, .int i, .int j] [] (.bool (canF R i j)) := by
  have hli := tubeAt_len hR (i := i.toNat) (by omega)
  have hlj := tubeAt_len hR (i := j.toNat) (by omega)
  have ei : List.take 4 (List.drop (i.toNat * 4) R) = tubeAt R i.toNat := rfl
  have ej : List.take 4 (List.drop (j.toNat * 4) R) = tubeAt R j.toNat := rfl
  have bi := tubeAt_ok hr (i := i.toNat) (by omega)
  have bj := tubeAt_ok hr (i := j.toNat) (by omega)
  have pj := posC_lay _ hlj bj
  refine pure_of_vc (X := ⟨Tryz.prog, tys, [(127, l2Top_F), (128, l2Many_F)], [], true, true, 0, [], []⟩) fn_110 ⟨tys_ok, (.cons l2Top_T (.cons l2Many_T .nil)), .nil, mixed⟩ (n0 := 0) (Nat.le_of_ble_eq_true rfl) (by simp [wfL, SV.wf]) (wfH_spec (by simp [wfH, SObj.wf])) (Nat.le_refl _) (fun _ => by simp [SV.wf, wfL]) ?_
  simp -implicitDefEqProofs only [Tryz.f110, Option.getD_some, argS, l2Top_F, l2Many_F, hR, ei, ej, hli, hlj, bi, bj, pj, ZB, Int.reduceToNat, Nat.reduceLT, Nat.reduceLeDiff, Int.reduceLE, Int.reduceLT, Nat.reduceEqDiff, Nat.reduceSub, SB, SV.known, packR, ne_eq, reduceCtorEq, Nat.reduceEqDiff, ↓reduceIte, if_true, if_false, eq_self, Nat.reduceAdd, Nat.reduceMul, Nat.reduceSub, forall_const, oneCellS, litOne, flat1, Kd.isSca, flat, TYB]
  have tp := (top_pos _ hli bi).2.trans (top_pos _ hli bi).1.symm
  (try (and_intros <;> try (first | omega | (unfold In64; omega) | trivial | assumption)))
  · intro h; simp [canF, h]
  · intro h
    (try (and_intros <;> try (first | omega | (unfold In64; omega) | trivial | assumption)))
    · intro h1
      rw [tp] at h1
      (try (and_intros <;> try (first | omega | (unfold In64; omega) | trivial | assumption)))
      · intro h2
        (try (and_intros <;> try (first | omega | (unfold In64; omega) | trivial | assumption)))
        · intro h3; simp [canF, h, h1, h2, h3]
        · intro h3; simp [canF, h, h1, h2, h3]
      · intro h2; simp [canF, h, h1, h2]
    · intro h1
      rw [tp] at h1
      simp [canF, h, h1]
def l2Can_F : List SV → Heap → Option (Prop × SV)
  | [.arr R, .int i, .int j], _ => some (R.length = 24 ∧ rackB R = true ∧ (0 ≤ i ∧ i ≤ 5) ∧ (0 ≤ j ∧ j ≤ 5), .bool (canF R i j))
  | _, _ => none
theorem l2Can_T : ∀ args H p v, l2Can_F args H = some (p, v) → p → PureH Tryz.prog 110 args H v := by
  intro args H p v h hp
  unfold l2Can_F at h
  split at h
  · cases h; exact (l2Can_ok _ _ _ hp.1 hp.2.1 hp.2.2.1 hp.2.2.2).any _
  · cases h
end Go.Proofs.YtmccafjblhbmkaaGreat
