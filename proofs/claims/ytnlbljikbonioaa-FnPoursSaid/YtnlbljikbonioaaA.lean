import Derived.Test.YtnlbljikbonioaaFn
set_option maxRecDepth 100000
set_option linter.unusedSimpArgs false
set_option linter.unusedVariables false
namespace Go.Proofs.Ytnlbljikbonioaa
open Go Go.RowKit
--@tbl within = impl.within
theorem within_ok (n lo hi : Int) : PureH Try.prog 100 [.int n, .int lo, .int hi] [] (.bool (decide (lo ≤ n ∧ n ≤ hi))) := by
  refine pure_of_vc (X := ⟨Try.prog, tys, [], [], true, true, 0, [], []⟩) fn_100 ⟨tys_ok, .nil, .nil, mixed⟩ (n0 := 0) (Nat.le_of_ble_eq_true rfl) (by simp [wfL, SV.wf]) (wfH_spec (by simp [wfH, SObj.wf])) (Nat.le_refl _) (fun _ => by simp [SV.wf, wfL]) ?_
  simp -implicitDefEqProofs only [Try.f100, Option.getD_some, argS, SB, SV.known, packR, ne_eq, reduceCtorEq, Nat.reduceEqDiff, ↓reduceIte, if_true, if_false, eq_self, Nat.reduceAdd, Nat.reduceMul, Nat.reduceSub, forall_const, oneCellS, litOne, flat1, Kd.isSca, flat, TYB]
  constructor <;> intro h <;> simp [h]
def within_F : List SV → Heap → Option (Prop × SV)
  | [.int n, .int lo, .int hi], _ => some (True, .bool (decide (lo ≤ n ∧ n ≤ hi)))
  | _, _ => none
theorem within_T : ∀ args H p v, within_F args H = some (p, v) → p → PureH Try.prog 100 args H v := by
  intro args H p v h hp
  unfold within_F at h
  split at h
  · cases h; exact (within_ok _ _ _).any _
  · cases h

theorem fill_step (L : List Int) (i n : Nat) (h : i < n) (hL : L.length = n) : (L.take i ++ List.replicate (n - i) 0).set i (L.getD i 0) = L.take (i + 1) ++ List.replicate (n - (i + 1)) 0 := by
  have h1 : List.replicate (n - i) (0 : Int) = 0 :: List.replicate (n - (i + 1)) 0 := by
    rw [← List.replicate_succ]; congr 1; omega
  have hlen : (L.take i).length = i := by simp; omega
  rw [h1, List.take_succ_eq_append_getElem (by omega : i < L.length), List.set_append_right _ _ (by omega), hlen]
  simp only [Nat.sub_self, List.set_cons_zero, List.append_assoc, List.cons_append, List.nil_append, List.getD, List.getElem?_eq_getElem (show i < L.length by omega), Option.getD_some]
--@tbl l1In = spec.l1In
theorem l1In_ok (n lo hi : Int) : PureH Try.prog 101 [.int n, .int lo, .int hi] [] (.bool (decide (lo ≤ n ∧ n ≤ hi))) := by
  refine pure_of_vc (X := ⟨Try.prog, tys, [], [], true, true, 0, [], []⟩) fn_101 ⟨tys_ok, .nil, .nil, mixed⟩ (n0 := 0) (Nat.le_of_ble_eq_true rfl) (by simp [wfL, SV.wf]) (wfH_spec (by simp [wfH, SObj.wf])) (Nat.le_refl _) (fun _ => by simp [SV.wf, wfL]) ?_
  simp -implicitDefEqProofs only [Try.f101, Option.getD_some, argS, SB, SV.known, packR, ne_eq, reduceCtorEq, Nat.reduceEqDiff, ↓reduceIte, if_true, if_false, eq_self, Nat.reduceAdd, Nat.reduceMul, Nat.reduceSub, forall_const, oneCellS, litOne, flat1, Kd.isSca, flat, TYB]
  constructor <;> intro h <;> simp [h]
def l1In_F : List SV → Heap → Option (Prop × SV)
  | [.int n, .int lo, .int hi], _ => some (True, .bool (decide (lo ≤ n ∧ n ≤ hi)))
  | _, _ => none
theorem l1In_T : ∀ args H p v, l1In_F args H = some (p, v) → p → PureH Try.prog 101 args H v := by
  intro args H p v h hp
  unfold l1In_F at h
  split at h
  · cases h; exact (l1In_ok _ _ _).any _
  · cases h

def idxI (pr : Int → Bool) (l : List Int) : Int := match l.findIdx? pr with
  | some k => k
  | none => -1

theorem idxI_hit {pr : Int → Bool} {l : List Int} {i : Nat} (hi : i < l.length) (hp : pr (l.getD i 0) = true) (hn : ∀ k, k < i → pr (l.getD k 0) = false) : idxI pr l = i := by
  have : l.findIdx? pr = some i := by
    rw [List.findIdx?_eq_some_iff_getElem]
    refine ⟨hi, by simpa [List.getD, List.getElem?_eq_getElem hi] using hp, fun j hj => ?_⟩
    have := hn j hj
    simpa [List.getD, List.getElem?_eq_getElem (show j < l.length by omega)] using this
  simp [idxI, this]
theorem idxI_none {pr : Int → Bool} {l : List Int} (hn : ∀ k, k < l.length → pr (l.getD k 0) = false) : idxI pr l = -1 := by
  have : l.findIdx? pr = none := by
    rw [List.findIdx?_eq_none_iff]
    intro x hx
    obtain ⟨k, hk, rfl⟩ := List.getElem_of_mem hx
    have := hn k hk
    simpa [List.getD, List.getElem?_eq_getElem hk] using this
  simp [idxI, this]
theorem getD_cut (L : List Int) (off len k : Nat) (h : k < len) : ((L.drop off).take len).getD k 0 = L.getD (off + k) 0 := by
  simp [List.getD, List.getElem?_take, h, List.getElem?_drop]

theorem indexFuncI_ok (g : Nat) (caps : List SV) (Hc : Heap) (pr : Int → Bool) (n0 : Nat) (L : List Int) (e off len cap : Nat) (hl : off + len ≤ L.length) (hm : len ≤ 9223372036854775806)
    (hc : ∀ x ∈ (L.drop off).take len, PureH Try.prog g (.int x :: caps) ((0, .ints L e) :: Hc) (.bool (pr x))) (hw : wfL n0 caps) (hwH : hwf n0 ((0, .ints L e) :: Hc)) :
    PureH Try.prog 152 [.slice 0 off len cap, .fn g caps] ((0, .ints L e) :: Hc) (.int (idxI pr ((L.drop off).take len))) := by
  have hE : ((L.drop off).take len).length = len := by simp; omega
  have h00 : 0 < n0 := (hwH 0 _ (by rw [hget_cons, if_pos rfl])).1
  refine pure_of_vc (X := ⟨Try.prog, tys, [(g, fun args H => match args with | .int x :: r => some (r = caps ∧ H = ((0, .ints L e) :: Hc) ∧ x ∈ (L.drop off).take len, .bool (pr x)) | _ => none)], [], true, true, n0, [], []⟩) fn_152
    ⟨tys_ok, .cons (fun args H p v h hp => ?_) .nil, .nil, mixed⟩ (n0 := n0) (Nat.le_of_ble_eq_true rfl) ⟨by have := (hwH 0 _ (by rw [hget_cons, if_pos rfl])).1; simpa [SV.wf] using this, by simpa [SV.wf] using hw, trivial⟩ hwH (Nat.le_refl _) (fun _ => trivial) ?_
  · split at h
    · cases h
      obtain ⟨rfl, rfl, hx⟩ := hp
      exact hc _ hx
    · cases h
  simp -implicitDefEqProofs only [Try.f152, Option.getD_some, argS, SB, SV.known, packR, ne_eq, reduceCtorEq, Nat.reduceEqDiff, ↓reduceIte, if_true, if_false, eq_self, Nat.reduceAdd, Nat.reduceMul, Nat.reduceSub, forall_const, oneCellS, litOne, flat1, Kd.isSca, flat, TYB]
  refine loop_intro (fun i : Nat => [(0, .slice 0 off len cap), (1, .fn g caps), (7, .int len), (8, .int i)]) (fun i => (0, .ints L e) :: Hc) n0 (fun i => i ≤ len ∧ ∀ k, k < i → pr (((L.drop off).take len).getD k 0) = false) (fun i => len - i) ?_ ?_
  · refine ⟨0, ⟨by omega, by simp⟩, Sub.same ?_ ?_ hwH (Nat.le_refl _)⟩
    · simp [subS, subH, wfS, wfH, SV.ren, renL, SObj.ren, SV.wf, SObj.wf, wfL, sget_cons, hget_cons, SV.known, renL_id]
    · simp [subS, subH, wfS, wfH, SV.ren, renL, SObj.ren, SV.wf, SObj.wf, wfL, sget_cons, hget_cons, hw, h00]
  · intro i hi
    obtain ⟨hi1, hi2⟩ := hi
    simp -implicitDefEqProofs only [lk_normal, SB, SV.known, packR, ne_eq, reduceCtorEq, Nat.reduceEqDiff, ↓reduceIte, if_true, if_false, eq_self, Nat.reduceAdd, Nat.reduceMul, Nat.reduceSub, forall_const, oneCellS, litOne, flat1, Kd.isSca, flat, TYB]
    refine ⟨fun h => ?_, fun h => ?_⟩
    · have hlt : i < len := by omega
      have e1 : off + (i : Int).toNat * 1 = off + i := by simp
      have e2 : L.getD (off + i) 0 = ((L.drop off).take len).getD i 0 := (getD_cut L off len i hlt).symm
      simp only [e1, e2]
      refine ⟨by omega, by omega, by omega, ?_, ?_⟩
      · simp only [List.getD, List.getElem?_eq_getElem (show i < ((L.drop off).take len).length by omega), Option.getD_some]
        exact List.getElem_mem _
      · cases hp : pr (((L.drop off).take len).getD i 0) with
        | true =>
          simp -implicitDefEqProofs only [SB, SV.known, packR, ne_eq, reduceCtorEq, Nat.reduceEqDiff, ↓reduceIte, if_true, if_false, eq_self, Nat.reduceAdd, Nat.reduceMul, Nat.reduceSub, forall_const, oneCellS, litOne, flat1, Kd.isSca, flat, TYB]
          rw [idxI_hit (by omega) hp hi2]
        | false =>
          simp -implicitDefEqProofs only [lk_normal, SB, SV.known, packR, ne_eq, reduceCtorEq, Nat.reduceEqDiff, ↓reduceIte, if_true, if_false, eq_self, Nat.reduceAdd, Nat.reduceMul, Nat.reduceSub, forall_const, oneCellS, litOne, flat1, Kd.isSca, flat, TYB]
          refine ⟨by unfold In64; omega, i + 1, ⟨by omega, fun k hk => ?_⟩, by omega, Sub.same ?_ ?_ hwH (Nat.le_refl _)⟩
          · by_cases hki : k = i
            · subst hki; exact hp
            · exact hi2 k (by omega)
          · simp [subS, subH, wfS, wfH, SV.ren, renL, SObj.ren, SV.wf, SObj.wf, wfL, sget_cons, hget_cons, SV.known, renL_id]
          · simp [subS, subH, wfS, wfH, SV.ren, renL, SObj.ren, SV.wf, SObj.wf, wfL, sget_cons, hget_cons, hw, h00]
    · obtain rfl : i = len := by omega
      rw [idxI_none (by rw [hE]; exact hi2)]

theorem hget_nil (k : Nat) : hget [] k = none := rfl
theorem idxI_any (pr : Int → Bool) (l : List Int) : decide (0 ≤ idxI pr l) = l.any pr := by
  unfold idxI
  cases h : l.findIdx? pr with
  | none =>
    have := (List.findIdx?_eq_none_iff).1 h
    have e : l.any pr = false := by rw [List.any_eq_false]; intro x hx; simp [this x hx]
    rw [e]; decide
  | some k =>
    obtain ⟨hk, hp, _⟩ := List.findIdx?_eq_some_iff_getElem.1 h
    have e : l.any pr = true := List.any_eq_true.2 ⟨l[k], List.getElem_mem _, hp⟩
    rw [e]; simp

theorem containsFuncI_ok (g : Nat) (caps : List SV) (Hc : Heap) (pr : Int → Bool) (n0 : Nat) (L : List Int) (e off len cap : Nat) (hl : off + len ≤ L.length) (hm : len ≤ 9223372036854775806)
    (hc : ∀ x ∈ (L.drop off).take len, PureH Try.prog g (.int x :: caps) ((0, .ints L e) :: Hc) (.bool (pr x))) (hw : wfL n0 caps) (hwH : hwf n0 ((0, .ints L e) :: Hc)) :
    PureH Try.prog 136 [.slice 0 off len cap, .fn g caps] ((0, .ints L e) :: Hc) (.bool (((L.drop off).take len).any pr)) := by
  have h00 : 0 < n0 := (hwH 0 _ (by rw [hget_cons, if_pos rfl])).1
  refine pure_of_vc (X := ⟨Try.prog, tys, [(152, fun args H => some (args = [.slice 0 off len cap, .fn g caps] ∧ H = ((0, .ints L e) :: Hc), .int (idxI pr ((L.drop off).take len))))], [], true, true, n0, [], []⟩) fn_136
    ⟨tys_ok, .cons (fun args H p v h hp => ?_) .nil, .nil, mixed⟩ (n0 := n0) (Nat.le_of_ble_eq_true rfl) ⟨by simpa [SV.wf] using h00, by simpa [SV.wf] using hw, trivial⟩ hwH (Nat.le_refl _) (fun _ => trivial) ?_
  · cases h
    obtain ⟨rfl, rfl⟩ := hp
    exact indexFuncI_ok g caps Hc pr n0 L e off len cap hl hm hc hw hwH
  simp -implicitDefEqProofs only [Try.f136, Option.getD_some, argS, SB, SV.known, packR, ne_eq, reduceCtorEq, Nat.reduceEqDiff, ↓reduceIte, if_true, if_false, eq_self, Nat.reduceAdd, Nat.reduceMul, Nat.reduceSub, forall_const, oneCellS, litOne, flat1, Kd.isSca, flat, TYB, idxI_any]

/-- areAll's own closure. -/
theorem areAllI1_ok (x : Int) (g : Nat) (pr : Int → Bool) (k et : Nat) (H : Heap) (hk : hget H k = some (.cells [.fn g []] et)) (hg : PureH Try.prog g [.int x] [] (.bool (pr x))) :
    PureH Try.prog 137 [.int x, .ptr k 0] H (.bool (!pr x)) := by
  have h0 : PureH Try.prog 137 [.int x, .ptr 0 0] [(0, .cells [.fn g []] et)] (.bool (!pr x)) := by
    refine pure_of_vc (X := ⟨Try.prog, tys, [(g, fun args _ => some (args = [.int x], .bool (pr x)))], [], true, true, 1, [], []⟩) fn_137
      ⟨tys_ok, .cons (fun args H p v h hp => ?_) .nil, .nil, mixed⟩ (n0 := 1) (Nat.le_of_ble_eq_true rfl) (by simp [wfL, SV.wf]) (wfH_spec (by simp [wfH, SObj.wf, wfL, SV.wf])) (Nat.le_refl _) (fun _ => trivial) ?_
    · cases h; subst hp; exact hg.any H
    simp -implicitDefEqProofs only [Try.f137, Option.getD_some, argS, SB, SV.known, packR, ne_eq, reduceCtorEq, Nat.reduceEqDiff, ↓reduceIte, if_true, if_false, eq_self, Nat.reduceAdd, Nat.reduceMul, Nat.reduceSub, forall_const, oneCellS, litOne, flat1, Kd.isSca, flat, TYB]
  exact h0.sub (H := H) (fun _ => k) (fun j o hj => by
    rw [hget_cons] at hj
    split at hj
    · cases hj; exact ⟨hk, fun _ => by omega, by simp [*]⟩
    · cases hj) (fun a ha b hb _ => by simp at ha hb; omega) (fun _ => trivial)

theorem all_any (pr : Int → Bool) (l : List Int) : (!l.any fun x => !pr x) = l.all pr := by simp [List.all_eq_not_any_not]

theorem areAllI_ok (g : Nat) (pr : Int → Bool) (L : List Int) (e off len cap : Nat) (hl : off + len ≤ L.length) (hm : len ≤ 9223372036854775806) (hg : ∀ x, PureH Try.prog g [.int x] [] (.bool (pr x))) :
    PureH Try.prog 110 [.slice 0 off len cap, .fn g []] [(0, .ints L e)] (.bool (((L.drop off).take len).all pr)) := by
  refine pure_of_vc (X := ⟨Try.prog, tys, [(136, fun args H => some (args = [.slice 0 off len cap, .fn 137 [.ptr 1 0]] ∧ hget H 0 = some (.ints L e) ∧ ∃ et, hget H 1 = some (.cells [.fn g []] et), .bool (((L.drop off).take len).any fun x => !pr x)))], [], true, true, 1, [], []⟩) fn_110
    ⟨tys_ok, .cons (fun args H p v h hp => ?_) .nil, .nil, mixed⟩ (n0 := 1) (Nat.le_of_ble_eq_true rfl) (by simp [wfL, SV.wf]) (wfH_spec (by simp [wfH, SObj.wf])) (Nat.le_refl _) (fun _ => trivial) ?_
  · cases h
    obtain ⟨rfl, h0, et, h1⟩ := hp
    have := containsFuncI_ok 137 [.ptr 1 0] [(1, .cells [.fn g []] et)] (fun x => !pr x) 2 L e off len cap hl hm (fun x _ => areAllI1_ok x g pr 1 et _ (by simp [hget_cons]) (hg x)) (by simp [wfL, SV.wf]) (wfH_spec (by simp [wfH, SObj.wf, wfL, SV.wf]))
    refine this.weaken (fun k o hk => ?_) (fun _ => trivial)
    simp only [hget_cons, hget_nil] at hk
    split at hk
    · rename_i h; cases hk; rw [h]; exact h0
    · split at hk
      · rename_i h; cases hk; rw [h]; exact h1
      · cases hk
  simp -implicitDefEqProofs only [Try.f110, Option.getD_some, argS, SB, SV.known, packR, ne_eq, reduceCtorEq, Nat.reduceEqDiff, ↓reduceIte, if_true, if_false, eq_self, Nat.reduceAdd, Nat.reduceMul, Nat.reduceSub, forall_const, oneCellS, litOne, flat1, Kd.isSca, flat, TYB, all_any]
  exact ⟨_, rfl⟩

/-- areAll at a list of predicates. -/
def areAllI_F (prs : List (Nat × (Int → Bool))) : List SV → Heap → Option (Prop × SV)
  | [.slice b off len _, .fn g []], H => match hget H b, prs.lookup g with
    | some (.ints L _), some pr => some (off + len ≤ L.length ∧ len ≤ 9223372036854775806, .bool (((L.drop off).take len).all pr))
    | _, _ => none
  | _, _ => none
theorem areAllI_T {prs : List (Nat × (Int → Bool))} (hp : ∀ q ∈ prs, ∀ x, PureH Try.prog q.1 [.int x] [] (.bool (q.2 x))) : ∀ args H p v, areAllI_F prs args H = some (p, v) → p → PureH Try.prog 110 args H v := by
  intro args H p v h hpp
  unfold areAllI_F at h
  split at h
  · rename_i b off len cap g
    split at h
    · rename_i L e pr hb hg
      cases h
      have := areAllI_ok g pr L e off len cap hpp.1 hpp.2 (hp _ (lookup_mem hg))
      exact this.sub (H := H) (fun _ => b) (fun j o hj => by
        rw [hget_cons] at hj
        split at hj
        · cases hj; exact ⟨hb, fun _ => by omega, by simp [*]⟩
        · cases hj) (fun a ha c hc _ => by simp at ha hc; omega) (fun _ => trivial)
    · cases h
  · cases h

/-! Walks in the caller's own heap, at any names. -/
theorem gen_direct {X : Cx} {f : FuncId} {fn : Func} {c : Code} (hf : FnOK X.P f fn c X.sx X.hr) (hX : CxOK X) {args : List SV} {H : Heap} {n m : Nat} {ψ κ : K1} (hm : X.m = m) (hN : args.length ≤ fn.ntmps)
    (h : hwf n H → wfL n args → codeVC X n c (argS 0 args) H n (retK X.τ fn.results.toList ψ)) (hk : hwf n H → ∀ v H' n', ψ v H' n' → n ≤ n' → hwf n' H' → v.wf n' → κ v H' n') : GenOK X.P f args H n m κ := by
  subst hm
  refine ⟨hf.ent, fun B M w hH hwH hwa hown hM => ?_⟩
  refine (run_of_vc hf hX hN hwa hwH (Nat.le_refl _) (h hwH hwa) B M w hH hown hM).mono fun e w' hh => ?_
  obtain ⟨v, H', n', B', g0, g1, g2, g3, g4, g5, g6, g7, g8⟩ := hh
  exact ⟨v, H', n', B', g0, hk hwH v H' n' g1 g8 g3 g2, g8, g2, g3, g7, g4, g5, g6⟩
theorem ne_add {k n : Nat} (h : k < n) (i : Nat) : (k = n + i) = False := by simp; omega
theorem ne_add' {k n : Nat} (h : k < n) : (k = n) = False := by simp; omega
theorem add_ne {k n : Nat} (h : k < n) (i : Nat) : (n + i = k) = False := by simp; omega
theorem add_ne' {k n : Nat} (h : k < n) : (n = k) = False := by simp; omega
theorem add_self (n i : Nat) : (n = n + (i + 1)) = False := by simp
theorem self_add (n i : Nat) : (n + (i + 1) = n) = False := by simp
theorem add_add (n i j : Nat) : (n + i = n + j) = (i = j) := by simp
end Go.Proofs.Ytnlbljikbonioaa
