/- Walks: how arguments are drawn from bytes. -/
import Derived.Test.YtnlbljikbonioaaS
import Derived.Test.YtnlbljikbonioaaK
set_option maxRecDepth 100000
set_option linter.unusedSimpArgs false
set_option linter.unusedVariables false
namespace Go.Proofs.Ytnlbljikbonioaa
open Go Go.RowKit
/-- A code of bytes: nil, or a window of a block. -/
def BytV (kc : Nat) (v : SV) (H : Heap) : Prop := (v = .nils ∧ ∃ o, hget H kc = some o) ∨ ∃ (off len cap : Nat) (L : List Int), v = .slice kc off len cap ∧ hget H kc = some (.winU off L) ∧ L.length = len ∧ len ≤ 1000000000 ∧ ∀ x ∈ L, 0 ≤ x ∧ x ≤ 255
theorem BytV.wf {kc n : Nat} {v : SV} {H : Heap} (h : BytV kc v H) (hw : hwf n H) : v.wf n ∧ kc < n := by
  rcases h with ⟨rfl, o, h⟩ | ⟨off, len, cap, L, rfl, h, _⟩
  · exact ⟨trivial, (hw _ _ h).1⟩
  · exact ⟨(hw _ _ h).1, (hw _ _ h).1⟩
theorem BytV.one {kc : Nat} {v : SV} {H : Heap} (h : BytV kc v H) : oneCellS v = true := by
  rcases h with ⟨rfl, o, h⟩ | ⟨off, len, cap, L, rfl, h, _⟩ <;> rfl
theorem BytV.at {kc : Nat} {v : SV} {H H' : Heap} (h : BytV kc v H) (hf : ∀ o, hget H kc = some o → hget H' kc = some o) : BytV kc v H' := by
  rcases h with ⟨rfl, o, h⟩ | ⟨off, len, cap, L, rfl, h, h2⟩
  · exact .inl ⟨rfl, o, hf _ h⟩
  · exact .inr ⟨off, len, cap, L, rfl, hf _ h, h2⟩
/-- A cursor, its bytes, and the number of draws. -/
def CurH (c kc a : Nat) (H : Heap) : Prop := ∃ (v : SV) (s : Int), hget H c = some (.cells [v, .int a, .lit (.int .u64 s)] 85) ∧ BytV kc v H ∧ kc ≠ c
/-- What draws leave. -/
structure Drawn (c kc a k n : Nat) (H H' : Heap) (n' : Nat) : Prop where
  le : n ≤ n'
  wf : hwf n' H'
  cur : ∃ a', a ≤ a' ∧ a' ≤ a + k ∧ CurH c kc a' H'
  fr : ∀ i o, i < n → i ≠ c → hget H i = some o → hget H' i = some o
theorem u8_in {x : Int} (h : 0 ≤ x ∧ x ≤ 255) : In64 x := by unfold In64; omega
theorem and_255 (x : Int) : 0 ≤ IntKind.u64.wrap ((BitVec.ofInt IntKind.u64.bits x &&& BitVec.ofInt IntKind.u64.bits 255).toNat : Int) ∧ IntKind.u64.wrap ((BitVec.ofInt IntKind.u64.bits x &&& BitVec.ofInt IntKind.u64.bits 255).toNat : Int) ≤ 255 := by
  have h : (BitVec.ofInt IntKind.u64.bits x &&& BitVec.ofInt IntKind.u64.bits 255).toNat ≤ 255 := by
    rw [BitVec.toNat_and]
    exact Nat.le_trans Nat.and_le_right (by decide)
  generalize (BitVec.ofInt IntKind.u64.bits x &&& BitVec.ofInt IntKind.u64.bits 255).toNat = y at h ⊢
  have e : IntKind.u64.wrap (y : Int) = y := by
    unfold IntKind.wrap
    have h2 : ((y : Int) % (2 ^ IntKind.u64.bits : Int)) = y := Int.emod_eq_of_lt (by omega) (by show (y : Int) < 18446744073709551616; omega)
    simp only [h2]
    rfl
  rw [e]; omega
def next_F : List SV → Heap → Nat → Nat → K1 → Prop
  | [.ptr c 0], H, n, m, κ => ∃ kc a, CurH c kc a H ∧ m ≤ c ∧ a ≤ 1000000 ∧ ∀ x H', 0 ≤ x → x ≤ 255 → Drawn c kc a 1 n H H' n → κ (.int x) H' n
  | _, _, _, _, _ => False
theorem next_vc (c kc a m n : Nat) (H : Heap) (hC : CurH c kc a H) (hm : m ≤ c) (ha : a ≤ 1000000) (hwH : hwf n H) :
    codeVC (⟨Try.prog, tys, [], [], true, true, m, [], []⟩ : Cx) n (Try.f129.body.getD .skip) (argS 0 [.ptr c 0]) H n
      (retK tys Try.f129.results.toList fun v H' n' => ∃ x : Int, v = .int x ∧ 0 ≤ x ∧ x ≤ 255 ∧ Drawn c kc a 1 n H H' n ∧ n' = n) := by
  obtain ⟨v, s, h1, h2, h6⟩ := hC
  have hc := (hwH _ _ h1).1
  obtain ⟨hvw, hk⟩ := h2.wf hwH
  have fin : ∀ s', Drawn c kc a 1 n H ((c, .cells [v, .int ((a : Int) + 1), .lit (.int .u64 s')] 85) :: (c, .cells [v, .int ((a : Int) + 1), .lit (.int .u64 s)] 85) :: H) n := fun s' =>
    ⟨Nat.le_refl _, hwf_cons (hwf_cons hwH hc (by simp [SObj.wf, wfL, SV.wf]; exact hvw)) hc (by simp [SObj.wf, wfL, SV.wf]; exact hvw),
      ⟨a + 1, by omega, by omega, v, s', by simp [hget_cons], h2.at (fun o ho => by rw [hget_cons, if_neg h6, hget_cons, if_neg h6]; exact ho), h6⟩,
      fun i o _ hi ho => by rw [hget_cons, if_neg hi, hget_cons, if_neg hi]; exact ho⟩
  rcases h2 with ⟨rfl, o, h2⟩ | ⟨off, len, cap, L, rfl, h2, h3, h4, h5⟩
  · have hil : ¬ (a : Int) < 0 := by omega
    have hil2 : ¬ (a : Int) + 1 ≤ 0 := by omega
    simp -implicitDefEqProofs only [Try.f129, Option.getD_some, argS, h1, hil, hil2, ZB, Int.reduceToNat, Nat.reduceLT, Nat.reduceLeDiff, Int.reduceLE, Int.reduceLT, Nat.reduceEqDiff, Nat.reduceSub, SB, SV.known, packR, ne_eq, reduceCtorEq, Nat.reduceEqDiff, ↓reduceIte, if_true, if_false, eq_self, Nat.reduceAdd, Nat.reduceMul, Nat.reduceSub, forall_const, oneCellS, litOne, flat1, Kd.isSca, flat, TYB]
    exact ⟨by unfold In64; omega, hm, hm, u8_in (and_255 _), _, rfl, (and_255 _).1, (and_255 _).2, fin _⟩
  by_cases hal : a < len
  · have hil : (a : Int) < len := by omega
    have hil2 : (a : Int) + 1 ≤ len := by omega
    have gL : off ≤ off + a ∧ off + a < off + L.length := by omega
    have ga : off + a - off = a := by omega
    have bL : 0 ≤ L.getD a 0 ∧ L.getD a 0 ≤ 255 := by
      rw [List.getD_eq_getElem?_getD, List.getElem?_eq_getElem (by omega)]
      exact h5 _ (List.getElem_mem _)
    have iL := u8_in bL
    simp -implicitDefEqProofs only [Try.f129, Option.getD_some, argS, h1, h2, hil, hil2, gL, ga, iL, ZB, Int.reduceToNat, Nat.reduceLT, Nat.reduceLeDiff, Int.reduceLE, Int.reduceLT, Nat.reduceEqDiff, Nat.reduceSub, SB, SV.known, packR, ne_eq, reduceCtorEq, Nat.reduceEqDiff, ↓reduceIte, if_true, if_false, eq_self, Nat.reduceAdd, Nat.reduceMul, Nat.reduceSub, forall_const, oneCellS, litOne, flat1, Kd.isSca, flat, TYB]
    exact ⟨by omega, by unfold In64; omega, hm, hm, _, rfl, bL.1, bL.2, fin _⟩
  · have hil : ¬ (a : Int) < len := by omega
    have hil2 : ¬ (a : Int) + 1 ≤ len := by omega
    simp -implicitDefEqProofs only [Try.f129, Option.getD_some, argS, h1, h2, hil, hil2, ZB, Int.reduceToNat, Nat.reduceLT, Nat.reduceLeDiff, Int.reduceLE, Int.reduceLT, Nat.reduceEqDiff, Nat.reduceSub, SB, SV.known, packR, ne_eq, reduceCtorEq, Nat.reduceEqDiff, ↓reduceIte, if_true, if_false, eq_self, Nat.reduceAdd, Nat.reduceMul, Nat.reduceSub, forall_const, oneCellS, litOne, flat1, Kd.isSca, flat, TYB]
    exact ⟨by unfold In64; omega, hm, hm, u8_in (and_255 _), _, rfl, (and_255 _).1, (and_255 _).2, fin _⟩
theorem fnx_next : FnOK Try.prog 129 Try.f129 (Try.f129.body.getD .skip) [] [] := ⟨Try.func129, rfl, by kernel_rfl, by kernel_rfl⟩
theorem next_T : ∀ args H n m κ, next_F args H n m κ → GenOK Try.prog 129 args H n m κ := by
  intro args H n m κ h
  unfold next_F at h
  split at h
  · rename_i c
    obtain ⟨kc, a, hC, hm, ha, h1⟩ := h
    exact gen_direct (X := ⟨Try.prog, tys, [], [], true, true, m, [], []⟩) fnx_next ⟨tys_ok, .nil, .nil, mixed⟩ rfl (Nat.le_of_ble_eq_true rfl) (fun hwH hwa => next_vc c kc a m n H hC hm ha hwH) fun hwH v H' n' hψ h3 h4 h5 => by
      obtain ⟨x, rfl, g1, g2, g3, rfl⟩ := hψ
      exact h1 x H' g1 g2 g3
  · exact h.elim
theorem Drawn.trans {c kc a k a' k' n n1 n2 : Nat} {H H1 H2 : Heap} (h1 : Drawn c kc a k n H H1 n1) (h2 : Drawn c kc a' k' n1 H1 H2 n2) (h : a' ≤ a + k) (h' : a ≤ a') : Drawn c kc a (k + k') n H H2 n2 :=
  ⟨Nat.le_trans h1.le h2.le, h2.wf, by
    obtain ⟨b, g1, g2, g3⟩ := h2.cur
    exact ⟨b, by omega, by omega, g3⟩, fun i o hi hc ho => h2.fr i o (Nat.lt_of_lt_of_le hi h1.le) hc (h1.fr i o hi hc ho)⟩
theorem Drawn.more {c kc a k k' n n1 : Nat} {H H1 : Heap} (h1 : Drawn c kc a k n H H1 n1) (h : k ≤ k') : Drawn c kc a k' n H H1 n1 :=
  ⟨h1.le, h1.wf, by
    obtain ⟨b, g1, g2, g3⟩ := h1.cur
    exact ⟨b, g1, by omega, g3⟩, h1.fr⟩
/-- A number below another one. -/
def pick_F : List SV → Heap → Nat → Nat → K1 → Prop
  | [.ptr c 0, .int k], H, n, m, κ => ∃ kc a, CurH c kc a H ∧ m ≤ c ∧ a ≤ 999990 ∧ ∀ (x : Int) H', 0 ≤ x → (x < k ∨ x = 0) → Drawn c kc a 2 n H H' n → κ (.int x) H' n
  | _, _, _, _, _ => False
theorem pick_vc (c kc a m n : Nat) (k : Int) (H : Heap) (hC : CurH c kc a H) (hm : m ≤ c) (ha : a ≤ 999990) (hwH : hwf n H) :
    codeVC (⟨Try.prog, tys, [], [(129, next_F)], true, true, m, [129], []⟩ : Cx) n (Try.f89.body.getD .skip) (argS 0 [.ptr c 0, .int k]) H n
      (retK tys Try.f89.results.toList fun v H' n' => ∃ x : Int, v = .int x ∧ 0 ≤ x ∧ (x < k ∨ x = 0) ∧ Drawn c kc a 2 n H H' n ∧ n' = n) := by
  have d0 : Drawn c kc a 2 n H H n := ⟨Nat.le_refl _, hwH, ⟨a, Nat.le_refl _, by omega, hC⟩, fun i o _ _ h => h⟩
  by_cases hk : k ≤ 1
  · simp -implicitDefEqProofs only [Try.f89, Option.getD_some, argS, hk, ZB, Int.reduceToNat, Nat.reduceLT, Nat.reduceLeDiff, Int.reduceLE, Int.reduceLT, Nat.reduceEqDiff, Nat.reduceSub, SB, SV.known, packR, ne_eq, reduceCtorEq, Nat.reduceEqDiff, ↓reduceIte, if_true, if_false, eq_self, Nat.reduceAdd, Nat.reduceMul, Nat.reduceSub, forall_const, oneCellS, litOne, flat1, Kd.isSca, flat, TYB]
    exact ⟨0, rfl, Int.le_refl _, .inr rfl, d0⟩
  · simp -implicitDefEqProofs only [Try.f89, Option.getD_some, argS, next_F, hk, ZB, Int.reduceToNat, Nat.reduceLT, Nat.reduceLeDiff, Int.reduceLE, Int.reduceLT, Nat.reduceEqDiff, Nat.reduceSub, SB, SV.known, packR, ne_eq, reduceCtorEq, Nat.reduceEqDiff, ↓reduceIte, if_true, if_false, eq_self, Nat.reduceAdd, Nat.reduceMul, Nat.reduceSub, forall_const, oneCellS, litOne, flat1, Kd.isSca, flat, TYB]
    refine ⟨kc, a, hC, hm, by omega, fun x H1 hx0 hx1 hd1 => ?_⟩
    obtain ⟨a1, ha1, ha1', hC1⟩ := hd1.cur
    by_cases hk2 : 200 < k
    · simp -implicitDefEqProofs only [next_F, hk2, ZB, Int.reduceToNat, Nat.reduceLT, Nat.reduceLeDiff, Int.reduceLE, Int.reduceLT, Nat.reduceEqDiff, Nat.reduceSub, SB, SV.known, packR, ne_eq, reduceCtorEq, Nat.reduceEqDiff, ↓reduceIte, if_true, if_false, eq_self, Nat.reduceAdd, Nat.reduceMul, Nat.reduceSub, forall_const, oneCellS, litOne, flat1, Kd.isSca, flat, TYB]
      refine ⟨⟨by unfold In64; omega, kc, a1, hC1, hm, by omega, fun y H2 hy0 hy1 hd2 => ?_⟩, fun h => absurd trivial h⟩
      have hr := Int.tmod_lt_of_pos (x * 256 + y) (show 0 < k by omega)
      have hr0 := Int.tmod_nonneg k (show 0 ≤ x * 256 + y by omega)
      exact ⟨by unfold In64; omega, by omega, _, rfl, hr0, .inl hr, hd1.trans hd2 ha1' ha1⟩
    · simp -implicitDefEqProofs only [next_F, hk2, ZB, Int.reduceToNat, Nat.reduceLT, Nat.reduceLeDiff, Int.reduceLE, Int.reduceLT, Nat.reduceEqDiff, Nat.reduceSub, SB, SV.known, packR, ne_eq, reduceCtorEq, Nat.reduceEqDiff, ↓reduceIte, if_true, if_false, eq_self, Nat.reduceAdd, Nat.reduceMul, Nat.reduceSub, forall_const, oneCellS, litOne, flat1, Kd.isSca, flat, TYB]
      exact ⟨by omega, _, rfl, Int.tmod_nonneg k hx0, .inl (Int.tmod_lt_of_pos x (show 0 < k by omega)), hd1.more (by omega)⟩
theorem fnx_pick : FnOK Try.prog 89 Try.f89 (Try.f89.body.getD .skip) [129] [] := ⟨Try.func89, rfl, by kernel_rfl, by kernel_rfl⟩
theorem pick_T : ∀ args H n m κ, pick_F args H n m κ → GenOK Try.prog 89 args H n m κ := by
  intro args H n m κ h
  unfold pick_F at h
  split at h
  · rename_i c k
    obtain ⟨kc, a, hC, hm, ha, h1⟩ := h
    exact gen_direct (X := ⟨Try.prog, tys, [], [(129, next_F)], true, true, m, [129], []⟩) fnx_pick ⟨tys_ok, .nil, .cons next_T .nil, mixed⟩ rfl (Nat.le_of_ble_eq_true rfl) (fun hwH hwa => pick_vc c kc a m n k H hC hm ha hwH) fun hwH v H' n' hψ h3 h4 h5 => by
      obtain ⟨x, rfl, g1, g2, g3, rfl⟩ := hψ
      exact h1 x H' g1 g2 g3
  · exact h.elim
def one_F : List SV → Heap → Nat → Nat → K1 → Prop
  | [.ptr c 0, .int _], H, n, m, κ => ∃ kc a, CurH c kc a H ∧ m ≤ c ∧ a ≤ 999990 ∧ ∀ (b : Bool) H', Drawn c kc a 2 n H H' n → κ (.bool b) H' n
  | _, _, _, _, _ => False
theorem one_vc (c kc a m n : Nat) (k : Int) (H : Heap) (hC : CurH c kc a H) (hm : m ≤ c) (ha : a ≤ 999990) (hwH : hwf n H) :
    codeVC (⟨Try.prog, tys, [], [(89, pick_F)], true, true, m, [89], []⟩ : Cx) n (Try.f128.body.getD .skip) (argS 0 [.ptr c 0, .int k]) H n
      (retK tys Try.f128.results.toList fun v H' n' => ∃ b : Bool, v = .bool b ∧ Drawn c kc a 2 n H H' n ∧ n' = n) := by
  simp -implicitDefEqProofs only [Try.f128, Option.getD_some, argS, pick_F, ZB, Int.reduceToNat, Nat.reduceLT, Nat.reduceLeDiff, Int.reduceLE, Int.reduceLT, Nat.reduceEqDiff, Nat.reduceSub, SB, SV.known, packR, ne_eq, reduceCtorEq, Nat.reduceEqDiff, ↓reduceIte, if_true, if_false, eq_self, Nat.reduceAdd, Nat.reduceMul, Nat.reduceSub, forall_const, oneCellS, litOne, flat1, Kd.isSca, flat, TYB]
  exact ⟨kc, a, hC, hm, ha, fun x H1 _ _ hd1 => ⟨_, rfl, hd1⟩⟩
theorem fnx_one : FnOK Try.prog 128 Try.f128 (Try.f128.body.getD .skip) [89] [] := ⟨Try.func128, rfl, by kernel_rfl, by kernel_rfl⟩
theorem one_T : ∀ args H n m κ, one_F args H n m κ → GenOK Try.prog 128 args H n m κ := by
  intro args H n m κ h
  unfold one_F at h
  split at h
  · rename_i c k
    obtain ⟨kc, a, hC, hm, ha, h1⟩ := h
    exact gen_direct (X := ⟨Try.prog, tys, [], [(89, pick_F)], true, true, m, [89], []⟩) fnx_one ⟨tys_ok, .nil, .cons pick_T .nil, mixed⟩ rfl (Nat.le_of_ble_eq_true rfl) (fun hwH hwa => one_vc c kc a m n k H hC hm ha hwH) fun hwH v H' n' hψ h3 h4 h5 => by
      obtain ⟨b, rfl, g3, rfl⟩ := hψ
      exact h1 b H' g3
  · exact h.elim
/-- One of some numbers. -/
def among_F : List SV → Heap → Nat → Nat → K1 → Prop
  | [.ptr c 0, .slice b 0 len _], H, n, m, κ => match hget H b with
    | some (.ints L _) => 0 < len ∧ len ≤ L.length ∧ len ≤ 1000 ∧ b < n ∧ b ≠ c ∧ ∃ kc a, CurH c kc a H ∧ m ≤ c ∧ a ≤ 999990 ∧ ∀ (i : Nat) H', i < len → Drawn c kc a 2 n H H' n → κ (.int (L.getD i 0)) H' n
    | _ => False
  | _, _, _, _, _ => False
theorem among_vc (c kc a m n b len cap e : Nat) (L : List Int) (H : Heap) (hb : hget H b = some (.ints L e)) (hl : 0 < len ∧ len ≤ L.length) (hl2 : len ≤ 1000) (hbn : b < n) (hbc : b ≠ c) (hC : CurH c kc a H) (hm : m ≤ c) (ha : a ≤ 999990) (hwH : hwf n H) :
    codeVC (⟨Try.prog, tys, [], [(89, pick_F)], true, true, m, [89], []⟩ : Cx) n (Try.f99.body.getD .skip) (argS 0 [.ptr c 0, .slice b 0 len cap]) H n
      (retK tys Try.f99.results.toList fun v H' n' => ∃ i : Nat, v = .int (L.getD i 0) ∧ i < len ∧ Drawn c kc a 2 n H H' n ∧ n' = n) := by
  simp -implicitDefEqProofs only [Try.f99, Option.getD_some, argS, pick_F, hb, ZB, Int.reduceToNat, Nat.reduceLT, Nat.reduceLeDiff, Int.reduceLE, Int.reduceLT, Nat.reduceEqDiff, Nat.reduceSub, SB, SV.known, packR, ne_eq, reduceCtorEq, Nat.reduceEqDiff, ↓reduceIte, if_true, if_false, eq_self, Nat.reduceAdd, Nat.reduceMul, Nat.reduceSub, forall_const, oneCellS, litOne, flat1, Kd.isSca, flat, TYB]
  refine ⟨kc, a, hC, hm, ha, fun x H1 hx0 hx1 hd1 => ?_⟩
  obtain ⟨i, rfl⟩ : ∃ i : Nat, x = i := ⟨x.toNat, by omega⟩
  have hi : i < len := by omega
  have hil : (i : Int) < len := by omega
  have hb1 := hd1.fr b _ hbn hbc hb
  simp -implicitDefEqProofs only [hb1, hil, ZB, Int.reduceToNat, Nat.reduceLT, Nat.reduceLeDiff, Int.reduceLE, Int.reduceLT, Nat.reduceEqDiff, Nat.reduceSub, SB, SV.known, packR, ne_eq, reduceCtorEq, Nat.reduceEqDiff, ↓reduceIte, if_true, if_false, eq_self, Nat.reduceAdd, Nat.reduceMul, Nat.reduceSub, forall_const, oneCellS, litOne, flat1, Kd.isSca, flat, TYB]
  exact ⟨by omega, by omega, i, rfl, hi, hd1⟩
theorem fnx_among : FnOK Try.prog 99 Try.f99 (Try.f99.body.getD .skip) [89] [] := ⟨Try.func99, rfl, by kernel_rfl, by kernel_rfl⟩
theorem among_T : ∀ args H n m κ, among_F args H n m κ → GenOK Try.prog 99 args H n m κ := by
  intro args H n m κ h
  unfold among_F at h
  split at h
  · rename_i c b len cap
    split at h
    · rename_i L e hb
      obtain ⟨g1, g2, g3, g4, g5, kc, a, hC, hm, ha, h1⟩ := h
      exact gen_direct (X := ⟨Try.prog, tys, [], [(89, pick_F)], true, true, m, [89], []⟩) fnx_among ⟨tys_ok, .nil, .cons pick_T .nil, mixed⟩ rfl (Nat.le_of_ble_eq_true rfl) (fun hwH hwa => among_vc c kc a m n b len cap e L H hb ⟨g1, g2⟩ g3 g4 g5 hC hm ha hwH) fun hwH v H' n' hψ h3 h4 h5 => by
        obtain ⟨i, rfl, hi, g6, rfl⟩ := hψ
        exact h1 i H' hi g6
    · exact h.elim
  · exact h.elim
theorem CurH.lt {c kc a n : Nat} {H : Heap} (h : CurH c kc a H) (hw : hwf n H) : c < n ∧ kc < n ∧ kc ≠ c := by
  obtain ⟨v, s, h1, h2, h6⟩ := h
  exact ⟨(hw _ _ h1).1, (h2.wf hw).2, h6⟩
theorem CurH.cons {c kc a k : Nat} {H : Heap} (h : CurH c kc a H) (o : SObj) (h1 : k ≠ c) (h2 : k ≠ kc) : CurH c kc a ((k, o) :: H) := by
  obtain ⟨v, s, g1, g2, g6⟩ := h
  exact ⟨v, s, by rw [hget_cons, if_neg (fun e => h1 e.symm)]; exact g1, g2.at (fun o ho => by rw [hget_cons, if_neg (fun e => h2 e.symm)]; exact ho), g6⟩
/-- A block put beside. -/
theorem Drawn.put {c kc a k n0 n n' k0 : Nat} {H0 H : Heap} (h : Drawn c kc a k n0 H0 H n) (hc : c < n0 ∧ kc < n0 ∧ kc ≠ c) (o : SObj) (h0 : n0 ≤ k0) (hk : k0 < n') (hn : n ≤ n') (ho : o.wf n') : Drawn c kc a k n0 H0 ((k0, o) :: H) n' := by
  obtain ⟨b, g1, g2, g3⟩ := h.cur
  exact ⟨Nat.le_trans h.le hn, hwf_cons (hwf_mono hn h.wf) hk ho, ⟨b, g1, g2, g3.cons o (by omega) (by omega)⟩, fun i o' hi hic ho' => by
    rw [hget_cons, if_neg (by omega)]
    exact h.fr i o' hi hic ho'⟩
theorem Drawn.start {c kc a n : Nat} {H : Heap} (h : CurH c kc a H) (hw : hwf n H) : Drawn c kc a 0 n H H n := ⟨Nat.le_refl _, hw, ⟨a, Nat.le_refl _, Nat.le_refl _, h⟩, fun _ _ _ _ h => h⟩
/-- One of a few numbers, drawn from a list just made. -/
theorem among_new {c kc a k n0 n m : Nat} {H0 H : Heap} {κ : K1} (h : Drawn c kc a k n0 H0 H n) (hC : CurH c kc a H0) (hw0 : hwf n0 H0) (hm : m ≤ c) (ha : a + k ≤ 999980) (L : List Int) (e len cap : Nat) (hl : 0 < len ∧ len ≤ L.length) (hl2 : len ≤ 1000)
    (hκ : ∀ (i : Nat) H', i < len → Drawn c kc a (k + 2) n0 H0 H' (n + 1) → κ (.int (L.getD i 0)) H' (n + 1)) : among_F [.ptr c 0, .slice n 0 len cap] ((n, .ints L e) :: H) (n + 1) m κ := by
  obtain ⟨q1, q2, q3⟩ := hC.lt hw0
  have h2 := h.put (hC.lt hw0) (k0 := n) (n' := n + 1) (.ints L e) h.le (by omega) (by omega) trivial
  obtain ⟨b, g1, g2, g3⟩ := h2.cur
  have hle := h.le
  simp only [among_F, hget_cons, if_true]
  exact ⟨hl.1, hl.2, hl2, by omega, by omega, kc, b, g3, hm, by omega, fun i H' hi hd => hκ i H' hi (h2.trans hd g2 g1)⟩
def place_F : List SV → Heap → Nat → Nat → K1 → Prop
  | [.ptr c 0], H, n, m, κ => ∃ kc a, CurH c kc a H ∧ m ≤ c ∧ a ≤ 999900 ∧ ∀ (x : Int) H' n', In64 x → Drawn c kc a 4 n H H' n' → κ (.int x) H' n'
  | _, _, _, _, _ => False
theorem place_vc (c kc a m n : Nat) (H : Heap) (hC : CurH c kc a H) (hm : m ≤ c) (ha : a ≤ 999900) (hwH : hwf n H) :
    codeVC (⟨Try.prog, tys, [], [(89, pick_F), (128, one_F), (99, among_F)], true, true, m, [89, 128, 99], []⟩ : Cx) n (Try.f135.body.getD .skip) (argS 0 [.ptr c 0]) H n
      (retK tys Try.f135.results.toList fun v H' n' => ∃ x : Int, v = .int x ∧ In64 x ∧ Drawn c kc a 4 n H H' n') := by
  simp -implicitDefEqProofs only [Try.f135, Option.getD_some, argS, one_F, ZB, Int.reduceToNat, Nat.reduceLT, Nat.reduceLeDiff, Int.reduceLE, Int.reduceLT, Nat.reduceEqDiff, Nat.reduceSub, SB, SV.known, packR, ne_eq, reduceCtorEq, Nat.reduceEqDiff, ↓reduceIte, if_true, if_false, eq_self, Nat.reduceAdd, Nat.reduceMul, Nat.reduceSub, forall_const, oneCellS, litOne, flat1, Kd.isSca, flat, TYB]
  refine ⟨kc, a, hC, hm, by omega, fun b H1 hd1 => ?_⟩
  obtain ⟨a1, ha1, ha1', hC1⟩ := hd1.cur
  cases b
  · simp -implicitDefEqProofs only [pick_F, ZB, Int.reduceToNat, Nat.reduceLT, Nat.reduceLeDiff, Int.reduceLE, Int.reduceLT, Nat.reduceEqDiff, Nat.reduceSub, SB, SV.known, packR, ne_eq, reduceCtorEq, Nat.reduceEqDiff, ↓reduceIte, if_true, if_false, eq_self, Nat.reduceAdd, Nat.reduceMul, Nat.reduceSub, forall_const, oneCellS, litOne, flat1, Kd.isSca, flat, TYB]
    exact ⟨kc, a1, hC1, hm, by omega, fun x H2 hx0 hx1 hd2 => ⟨x, rfl, by unfold In64; omega, hd1.trans hd2 ha1' ha1⟩⟩
  · simp -implicitDefEqProofs only [ZB, Int.reduceToNat, Nat.reduceLT, Nat.reduceLeDiff, Int.reduceLE, Int.reduceLT, Nat.reduceEqDiff, Nat.reduceSub, SB, SV.known, packR, ne_eq, reduceCtorEq, Nat.reduceEqDiff, ↓reduceIte, if_true, if_false, eq_self, Nat.reduceAdd, Nat.reduceMul, Nat.reduceSub, forall_const, oneCellS, litOne, flat1, Kd.isSca, flat, TYB]
    refine among_new hd1 hC hwH hm (by omega) _ _ _ _ (by simp) (by omega) fun i H' hi hd => ?_
    have hI : In64 (([-1, 6, 4611686018427387904] : List Int).getD i 0) := by
      match i, hi with
      | 0, _ => simp [In64]
      | 1, _ => simp [In64]
      | 2, _ => simp [In64]
    simp -implicitDefEqProofs only [ZB, Int.reduceToNat, Nat.reduceLT, Nat.reduceLeDiff, Int.reduceLE, Int.reduceLT, Nat.reduceEqDiff, Nat.reduceSub, SB, SV.known, packR, ne_eq, reduceCtorEq, Nat.reduceEqDiff, ↓reduceIte, if_true, if_false, eq_self, Nat.reduceAdd, Nat.reduceMul, Nat.reduceSub, forall_const, oneCellS, litOne, flat1, Kd.isSca, flat, TYB]
    exact ⟨_, rfl, hI, hd⟩
theorem fnx_place : FnOK Try.prog 135 Try.f135 (Try.f135.body.getD .skip) [89, 128, 99] [] := ⟨Try.func135, rfl, by kernel_rfl, by kernel_rfl⟩
theorem place_T : ∀ args H n m κ, place_F args H n m κ → GenOK Try.prog 135 args H n m κ := by
  intro args H n m κ h
  unfold place_F at h
  split at h
  · rename_i c
    obtain ⟨kc, a, hC, hm, ha, h1⟩ := h
    exact gen_direct (X := ⟨Try.prog, tys, [], [(89, pick_F), (128, one_F), (99, among_F)], true, true, m, [89, 128, 99], []⟩) fnx_place ⟨tys_ok, .nil, .cons pick_T (.cons one_T (.cons among_T .nil)), mixed⟩ rfl (Nat.le_of_ble_eq_true rfl) (fun hwH hwa => place_vc c kc a m n H hC hm ha hwH) fun hwH v H' n' hψ h3 h4 h5 => by
      obtain ⟨x, rfl, hI, g3⟩ := hψ
      exact h1 x H' n' hI g3
  · exact h.elim
theorem Drawn.push {c kc a k n0 n : Nat} {H0 H : Heap} (h : Drawn c kc a k n0 H0 H n) (hc : c < n0 ∧ kc < n0 ∧ kc ≠ c) (o : SObj) (ho : o.wf (n + 1)) : Drawn c kc a k n0 H0 ((n, o) :: H) (n + 1) := h.put hc o h.le (by omega) (by omega) ho
theorem Drawn.pushI {c kc a k n0 n : Nat} {H0 H : Heap} (h : Drawn c kc a k n0 H0 H n) (hc : c < n0 ∧ kc < n0 ∧ kc ≠ c) {L : List Int} {e : Nat} : Drawn c kc a k n0 H0 ((n, .ints L e) :: H) (n + 1) := h.push hc _ trivial
theorem Drawn.putI {c kc a k n0 n k0 : Nat} {H0 H : Heap} (h : Drawn c kc a k n0 H0 H n) (hc : c < n0 ∧ kc < n0 ∧ kc ≠ c) {L : List Int} {e : Nat} (h0 : n0 ≤ k0) (hk : k0 < n) : Drawn c kc a k n0 H0 ((k0, .ints L e) :: H) n := h.put hc _ h0 hk (Nat.le_refl _) trivial
/-- What is kept of one's own blocks. -/
def Fr (n0 n : Nat) (H H' : Heap) : Prop := ∀ j o, n0 ≤ j → j < n → hget H j = some o → hget H' j = some o
theorem Fr.use {n0 n j : Nat} {H H' : Heap} {o : SObj} (h : Fr n0 n H H') (h1 : n0 ≤ j) (h2 : j < n) (h3 : hget H j = some o) : hget H' j = some o := h j o h1 h2 h3
theorem Drawn.own {c kc a k n0 n n' : Nat} {H H' : Heap} (h : Drawn c kc a k n H H' n') (hc : c < n0) : Fr n0 n H H' := fun j o h1 h2 h3 => h.fr j o h2 (by omega) h3
theorem among_use {c kc a k n0 n m b len cap e : Nat} {H0 H : Heap} {κ : K1} {L : List Int} (h : Drawn c kc a k n0 H0 H n) (hc : c < n0 ∧ kc < n0 ∧ kc ≠ c) (hm : m ≤ c) (ha : a + k ≤ 999980) (hb : hget H b = some (.ints L e)) (h0 : n0 ≤ b) (hl : 0 < len ∧ len ≤ L.length ∧ len ≤ 1000)
    (hκ : ∀ (x : Int) H', x ∈ L → Drawn c kc a (k + 2) n0 H0 H' n → Fr n0 n H H' → κ (.int x) H' n) : among_F [.ptr c 0, .slice b 0 len cap] H n m κ := by
  obtain ⟨b', g1, g2, g3⟩ := h.cur
  have hbn := (h.wf _ _ hb).1
  simp only [among_F, hb]
  refine ⟨hl.1, hl.2.1, hl.2.2, hbn, by omega, kc, b', g3, hm, by omega, fun i H' hi hd => hκ _ H' ?_ (h.trans hd g2 g1) (hd.own hc.1)⟩
  rw [List.getD_eq_getElem?_getD, List.getElem?_eq_getElem (by omega)]
  exact List.getElem_mem _
theorem pick_use {c kc a k n0 n m : Nat} {H0 H : Heap} {κ : K1} (h : Drawn c kc a k n0 H0 H n) (hc : c < n0 ∧ kc < n0 ∧ kc ≠ c) (hm : m ≤ c) (ha : a + k ≤ 999980) {z : Int}
    (hκ : ∀ (x : Int) H', 0 ≤ x → (x < z ∨ x = 0) → Drawn c kc a (k + 2) n0 H0 H' n → Fr n0 n H H' → κ (.int x) H' n) : pick_F [.ptr c 0, .int z] H n m κ := by
  obtain ⟨b', g1, g2, g3⟩ := h.cur
  exact ⟨kc, b', g3, hm, by omega, fun x H' h1 h2 hd => hκ x H' h1 h2 (h.trans hd g2 g1) (hd.own hc.1)⟩
theorem one_use {c kc a k n0 n m : Nat} {H0 H : Heap} {κ : K1} (h : Drawn c kc a k n0 H0 H n) (hc : c < n0 ∧ kc < n0 ∧ kc ≠ c) (hm : m ≤ c) (ha : a + k ≤ 999980) {z : Int}
    (hκ : ∀ (x : Bool) H', Drawn c kc a (k + 2) n0 H0 H' n → Fr n0 n H H' → κ (.bool x) H' n) : one_F [.ptr c 0, .int z] H n m κ := by
  obtain ⟨b', g1, g2, g3⟩ := h.cur
  exact ⟨kc, b', g3, hm, by omega, fun x H' hd => hκ x H' (h.trans hd g2 g1) (hd.own hc.1)⟩
theorem place_use {c kc a k n0 n m : Nat} {H0 H : Heap} {κ : K1} (h : Drawn c kc a k n0 H0 H n) (hc : c < n0 ∧ kc < n0 ∧ kc ≠ c) (hm : m ≤ c) (ha : a + k ≤ 999900)
    (hκ : ∀ (x : Int) H' n', In64 x → Drawn c kc a (k + 4) n0 H0 H' n' → n ≤ n' → Fr n0 n H H' → κ (.int x) H' n') : place_F [.ptr c 0] H n m κ := by
  obtain ⟨b', g1, g2, g3⟩ := h.cur
  exact ⟨kc, b', g3, hm, by omega, fun x H' n' hI hd => hκ x H' n' hI (h.trans hd g2 g1) hd.le (hd.own hc.1)⟩
end Go.Proofs.Ytnlbljikbonioaa
