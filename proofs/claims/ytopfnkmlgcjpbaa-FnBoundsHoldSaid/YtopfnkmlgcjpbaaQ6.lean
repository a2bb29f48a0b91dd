/- Texts of this claim, joined (Del, Use, Sort, Sl, UPours, FP1, GL, FP0, BH0, BH1, BH2). -/
import Derived.Test.YtopfnkmlgcjpbaaQ1
import Derived.Test.YtopfnkmlgcjpbaaQ2
import Derived.Test.YtopfnkmlgcjpbaaQ3
import Derived.Test.YtopfnkmlgcjpbaaQ4
import Derived.Test.YtopfnkmlgcjpbaaQ5
/- Walks: slices.IndexFunc and slices.DeleteFunc over pairs. -/
set_option maxRecDepth 100000
set_option linter.unusedSimpArgs false
set_option linter.unusedVariables false
namespace Go.Proofs.Ytopfnkmlgcjpbaa
open Go Go.RowKit
def chk (L : List Int) (off len : Nat) : List (List Int) := (List.range len).map fun i => (L.drop (off + i * 2)).take 2
theorem chk_len (L : List Int) (off len : Nat) : (chk L off len).length = len := by simp [chk]
theorem chk_getD (L : List Int) (off len k : Nat) (h : k < len) : (chk L off len).getD k [] = (L.drop (off + k * 2)).take 2 := by simp [chk, List.getD, h]
theorem chk_take (L : List Int) (off len k : Nat) (h : k ≤ len) : (chk L off len).take k = chk L off k := by
  unfold chk
  rw [← List.map_take, List.take_range, Nat.min_eq_left h]
theorem chk_succ (L : List Int) (off k : Nat) : chk L off (k + 1) = chk L off k ++ [(L.drop (off + k * 2)).take 2] := by
  unfold chk
  rw [List.range_succ, List.map_append]; rfl
theorem chk_mem {L : List Int} {off len : Nat} (h : off + len * 2 ≤ L.length) {x : List Int} (hx : x ∈ chk L off len) : x.length = 2 := by
  obtain ⟨i, hi, rfl⟩ := List.mem_map.1 hx
  have := List.mem_range.1 hi
  rw [List.length_take, List.length_drop]; omega
theorem chk_flat (L : List Int) : ∀ k, k * 2 ≤ L.length → (chk L 0 k).flatten = L.take (k * 2)
  | 0, _ => by simp [chk]
  | k + 1, h => by
    rw [chk_succ, List.flatten_append, chk_flat L k (by omega), Nat.zero_add, show (k + 1) * 2 = k * 2 + 2 by omega, List.take_add]
    simp
/-- What is kept. -/
def kept (np : List Int → Bool) (L : List Int) (k : Nat) : List Int := ((chk L 0 k).filter np).flatten
theorem kept_zero (np : List Int → Bool) (L : List Int) : kept np L 0 = [] := rfl
theorem kept_succ (np : List Int → Bool) (L : List Int) (k : Nat) : kept np L (k + 1) = kept np L k ++ if np ((L.drop (k * 2)).take 2) = true then (L.drop (k * 2)).take 2 else [] := by
  unfold kept
  rw [chk_succ, List.filter_append, List.flatten_append, Nat.zero_add]
  congr 1
  simp only [List.filter_cons, List.filter_nil]
  split <;> simp
theorem kept_even (np : List Int → Bool) (L : List Int) : ∀ k, k * 2 ≤ L.length → ∃ i, (kept np L k).length = i * 2 ∧ i ≤ k
  | 0, _ => ⟨0, rfl, by omega⟩
  | k + 1, h => by
    obtain ⟨i, h1, h2⟩ := kept_even np L k (by omega)
    rw [kept_succ, List.length_append, h1]
    split
    · exact ⟨i + 1, by rw [List.length_take, List.length_drop]; omega, by omega⟩
    · exact ⟨i, by simp, by omega⟩
theorem kept_all {np : List Int → Bool} {L : List Int} : ∀ k, k * 2 ≤ L.length → (∀ i, i < k → np ((L.drop (i * 2)).take 2) = true) → kept np L k = L.take (k * 2)
  | 0, _, _ => by simp [kept_zero]
  | k + 1, h, hn => by
    rw [kept_succ, if_pos (hn k (by omega)), kept_all k (by omega) fun i hi => hn i (by omega), show (k + 1) * 2 = k * 2 + 2 by omega, List.take_add]
theorem kept_app (np : List Int → Bool) (L M : List Int) : ∀ k, k * 2 ≤ L.length → kept np (L ++ M) k = kept np L k
  | 0, _ => rfl
  | k + 1, h => by
    have e : ((L ++ M).drop (k * 2)).take 2 = (L.drop (k * 2)).take 2 := by
      rw [List.drop_append_of_le_length (by omega), List.take_append_of_le_length (by rw [List.length_drop]; omega)]
    rw [kept_succ, kept_succ, kept_app np L M k (by omega), e]

theorem indexFuncP_ok (g : Nat) (caps : List SV) (H Hc : Heap) (pr : List Int → Bool) (n0 b : Nat) (L : List Int) (e len cap : Nat) (hb : hget H b = some (.ints L e)) (hl : len * 2 ≤ L.length) (hm : len ≤ 9223372036854775806)
    (Q : List Int → Prop) (hQ : ∀ i, i < len → Q ((L.drop (i * 2)).take 2)) (hc : ∀ x : List Int, Q x → PureH Try.prog g (.arr x :: caps) Hc (.bool (pr x))) (hE : Ext Hc H) (hw : wfL n0 caps) (hwH : hwf n0 H) :
    PureH Try.prog 150 [.slice b 0 len cap, .fn g caps] H (.int (idxG pr (chk L 0 len))) := by
  have hE2 := chk_len L 0 len
  have h00 : b < n0 := (hwH b _ hb).1
  refine pure_of_vc (X := ⟨Try.prog, tys, [(g, fun args H' => match args with | .arr x :: r => some (r = caps ∧ Ext Hc H' ∧ Q x, .bool (pr x)) | _ => none)], [], true, true, n0, [], []⟩) fn_150
    ⟨tys_ok, .cons (fun args H' p v h hp => ?_) .nil, .nil, mixed⟩ (n0 := n0) (Nat.le_of_ble_eq_true rfl) ⟨by simpa [SV.wf] using h00, by simpa [SV.wf] using hw, trivial⟩ hwH (Nat.le_refl _) (fun _ => trivial) ?_
  · split at h
    · cases h
      obtain ⟨rfl, hx1, hx⟩ := hp
      exact (hc _ hx).weaken hx1 (fun _ => trivial)
    · cases h
  simp -implicitDefEqProofs only [Try.f150, Option.getD_some, argS, hb, SB, SV.known, packR, ne_eq, reduceCtorEq, Nat.reduceEqDiff, ↓reduceIte, if_true, if_false, eq_self, Nat.reduceAdd, Nat.reduceMul, Nat.reduceSub, forall_const, oneCellS, litOne, flat1, Kd.isSca, flat, TYB]
  refine loop_intro (fun i : Nat => [(0, .slice b 0 len cap), (1, .fn g caps), (7, .int len), (8, .int i)]) (fun i => H) n0 (fun i => i ≤ len ∧ ∀ k, k < i → pr ((chk L 0 len).getD k []) = false) (fun i => len - i) ?_ ?_
  · refine ⟨0, ⟨by omega, by simp⟩, Sub.same ?_ ?_ hwH (Nat.le_refl _)⟩
    · simp [subS, subH, wfS, wfH, SV.ren, renL, SObj.ren, SV.wf, SObj.wf, wfL, sget_cons, hget_cons, SV.known, renL_id]
    · simp [subS, subH, wfS, wfH, SV.ren, renL, SObj.ren, SV.wf, SObj.wf, wfL, sget_cons, hget_cons, hw, h00]
  · intro i hi
    obtain ⟨hi1, hi2⟩ := hi
    simp -implicitDefEqProofs only [lk_normal, hb, SB, SV.known, packR, ne_eq, reduceCtorEq, Nat.reduceEqDiff, ↓reduceIte, if_true, if_false, eq_self, Nat.reduceAdd, Nat.reduceMul, Nat.reduceSub, forall_const, oneCellS, litOne, flat1, Kd.isSca, flat, TYB]
    refine ⟨fun h => ?_, fun h => ?_⟩
    · have hlt : i < len := by omega
      have e1 : 0 + (i : Int).toNat * 2 = i * 2 := by simp
      have e2 : (L.drop (i * 2)).take 2 = (chk L 0 len).getD i [] := by rw [chk_getD L 0 len i hlt, Nat.zero_add]
      have e3 : Q ((chk L 0 len).getD i []) := by rw [← e2]; exact hQ i hlt
      simp only [Int.toNat_natCast, Nat.zero_add, e2]
      refine ⟨by omega, by omega, by omega, ⟨hE, e3⟩, ?_⟩
      cases hp : pr ((chk L 0 len).getD i []) with
      | true =>
        simp -implicitDefEqProofs only [SB, SV.known, packR, ne_eq, reduceCtorEq, Nat.reduceEqDiff, ↓reduceIte, if_true, if_false, eq_self, Nat.reduceAdd, Nat.reduceMul, Nat.reduceSub, forall_const, oneCellS, litOne, flat1, Kd.isSca, flat, TYB]
        rw [idxG_hit (by omega) hp hi2]
      | false =>
        simp -implicitDefEqProofs only [lk_normal, SB, SV.known, packR, ne_eq, reduceCtorEq, Nat.reduceEqDiff, ↓reduceIte, if_true, if_false, eq_self, Nat.reduceAdd, Nat.reduceMul, Nat.reduceSub, forall_const, oneCellS, litOne, flat1, Kd.isSca, flat, TYB]
        refine ⟨by unfold In64; omega, i + 1, ⟨by omega, fun k hk => ?_⟩, by omega, Sub.same ?_ ?_ hwH (Nat.le_refl _)⟩
        · by_cases hki : k = i
          · subst hki; exact hp
          · exact hi2 k (by omega)
        · simp [subS, subH, wfS, wfH, SV.ren, renL, SObj.ren, SV.wf, SObj.wf, wfL, sget_cons, hget_cons, SV.known, renL_id]
        · simp [subS, subH, wfS, wfH, SV.ren, renL, SObj.ren, SV.wf, SObj.wf, wfL, sget_cons, hget_cons, hw, h00]
    · obtain rfl : i = len := by omega
      rw [idxG_none (by rw [hE2]; exact hi2)]
theorem idxG_none' {α : Type} {pr : α → Bool} {l : List α} (d : α) (h : idxG pr l < 0) : idxG pr l = -1 ∧ ∀ k, k < l.length → pr (l.getD k d) = false := by
  unfold idxG at h ⊢
  cases hf : l.findIdx? pr with
  | none =>
    refine ⟨rfl, fun k hk => ?_⟩
    have := (List.findIdx?_eq_none_iff).1 hf l[k] (List.getElem_mem hk)
    simpa [List.getD, List.getElem?_eq_getElem hk] using this
  | some k => rw [hf] at h; simp at h; omega
theorem idxG_some' {α : Type} {pr : α → Bool} {l : List α} (d : α) (h : ¬ idxG pr l < 0) : ∃ i : Nat, idxG pr l = (i : Int) ∧ i < l.length ∧ pr (l.getD i d) = true ∧ ∀ k : Nat, k < i → pr (l.getD k d) = false := by
  unfold idxG at h ⊢
  cases hf : l.findIdx? pr with
  | none => rw [hf] at h; simp at h
  | some k =>
    obtain ⟨hk, hp, hn⟩ := List.findIdx?_eq_some_iff_getElem.1 hf
    refine ⟨k, rfl, hk, by simpa [List.getD, List.getElem?_eq_getElem hk] using hp, fun j hj => ?_⟩
    have := hn j hj
    simpa [List.getD, List.getElem?_eq_getElem (show j < l.length by omega)] using this
theorem deleteFunc_ok (g : Nat) (hg : g ≠ 150) (caps : List SV) (Hc : Heap) (pr : List Int → Bool) (b : Nat) (L : List Int) (e len cap : Nat) (hlen : L.length = cap * 2) (hlc : len ≤ cap) (hm : len ≤ 4611686018427387903)
    (Q : List Int → Prop) (hQ : ∀ i, i < len → Q ((L.drop (i * 2)).take 2)) (hc : ∀ x : List Int, Q x → PureH Try.prog g (.arr x :: caps) Hc (.bool (pr x))) (hw : wfL b caps) (hwH : hwf b Hc) :
    UpdP Try.prog 110 [.slice b 0 len cap, .fn g caps] b Hc (.ints L e)
      (.ints (kept (fun x => !pr x) L len ++ List.replicate (len * 2 - (kept (fun x => !pr x) L len).length) 0 ++ L.drop (len * 2)) e) (.slice b 0 ((kept (fun x => !pr x) L len).length / 2) cap) := by
  have hl2 : len * 2 ≤ L.length := by omega
  have hb0 : hget ((b, SObj.ints L e) :: Hc) b = some (.ints L e) := by rw [hget_cons, if_pos rfl]
  have hwf1 : ∀ o : SObj, (∀ n, o.wf n) → hwf (b + 1) ((b, o) :: Hc) := fun o ho => hwf_cons (hwf_mono (by omega) hwH) (by omega) (ho _)
  have hw1 : wfL (b + 1) caps := wfL_mono (by omega) caps hw
  have hE : ∀ o : SObj, Ext Hc ((b, o) :: Hc) := fun o => Ext.cons hwH (Nat.le_refl _) (Ext.refl Hc)
  refine upd_of_vc (X := ⟨Try.prog, tys, [(150, fun args H' => some (args = [.slice b 0 len cap, .fn g caps] ∧ H' = (b, .ints L e) :: Hc, .int (idxG pr (chk L 0 len)))),
      (g, fun args H' => match args with | .arr x :: r => some (r = caps ∧ Ext Hc H' ∧ Q x, .bool (pr x)) | _ => none)], [], true, true, b, [], []⟩) fn_110
    ⟨tys_ok, .cons (fun args H' p v h hp => ?_) (.cons (fun args H' p v h hp => ?_) .nil), .nil, mixed⟩ (n0 := b + 1) (by omega) (Nat.le_of_ble_eq_true rfl) ⟨by simp [SV.wf], by simpa [SV.wf] using hw1, trivial⟩ (hwf1 _ fun _ => trivial) (fun k o1 hk => (hwH k o1 hk).1) rfl rfl (fun _ => trivial) (by simp [SV.wf]) ?_
  · cases h
    obtain ⟨rfl, rfl⟩ := hp
    exact indexFuncP_ok g caps _ Hc pr (b + 1) b L e len cap hb0 hl2 (by omega) Q hQ hc (hE _) hw1 (hwf1 _ fun _ => trivial)
  · split at h
    · cases h
      obtain ⟨rfl, hx1, hx⟩ := hp
      exact (hc _ hx).weaken hx1 (fun _ => trivial)
    · cases h
  simp -implicitDefEqProofs only [Try.f110, Option.getD_some, argS, hb0, hg, SB, SV.known, packR, ne_eq, reduceCtorEq, Nat.reduceEqDiff, ↓reduceIte, if_true, if_false, eq_self, Nat.reduceAdd, Nat.reduceMul, Nat.reduceSub, forall_const, oneCellS, litOne, flat1, Kd.isSca, flat, TYB]
  have hkl := kept_even (fun x => !pr x) L len hl2
  have hwc : hwf (b + 1) Hc := hwf_mono (by omega) hwH
  by_cases hneg : idxG pr (chk L 0 len) < 0
  · obtain ⟨h1, h2⟩ := idxG_none' [] hneg
    have hk : kept (fun x => !pr x) L len = L.take (len * 2) := kept_all len hl2 fun i hi => by
      have := h2 i (by rw [chk_len]; exact hi)
      rw [chk_getD L 0 len i hi, Nat.zero_add] at this
      simp [this]
    have hkl : (L.take (len * 2)).length = len * 2 := by rw [List.length_take]; omega
    rw [h1, hk, hkl]
    refine ⟨fun _ => ⟨?_, ?_⟩, fun hx => absurd rfl hx⟩
    · rw [show len * 2 / 2 = len by omega]
    · simp
  · obtain ⟨i0, h1, h2, h3, h4⟩ := idxG_some' [] hneg
    rw [chk_len] at h2
    rw [chk_getD L 0 len i0 h2, Nat.zero_add] at h3
    have hk0 : kept (fun x => !pr x) L i0 = L.take (i0 * 2) := kept_all i0 (by omega) fun i hi => by
      have := h4 i hi
      rw [chk_getD L 0 len i (by omega), Nat.zero_add] at this
      simp [this]
    have hk1 : kept (fun x => !pr x) L (i0 + 1) = L.take (i0 * 2) := by
      rw [kept_succ, hk0, h3]; simp
    rw [h1]
    refine ⟨fun hx => absurd hx (by omega), fun _ => ?_⟩
    (try (and_intros <;> try (first | omega | (unfold In64; omega) | trivial | assumption)))
    refine loop_intro (fun s : Nat × Nat × List Int => [(6, .int s.1), (5, .int s.2.1), (0, .slice b 0 len cap), (1, .fn g caps)]) (fun s => [(b, .ints (kept (fun x => !pr x) L s.1 ++ s.2.2 ++ L.drop (s.1 * 2)) e)] ++ Hc) (b + 1)
      (fun s => s.1 ≤ len ∧ (kept (fun x => !pr x) L s.1).length = s.2.1 * 2 ∧ s.2.1 < s.1 ∧ s.2.2.length + s.2.1 * 2 = s.1 * 2) (fun s => len - s.1) ?_ ?_
    · have e1 : (L.drop (i0 * 2)).take 2 ++ L.drop ((i0 + 1) * 2) = L.drop (i0 * 2) := by
        rw [show (i0 + 1) * 2 = i0 * 2 + 2 by omega, ← List.drop_drop]; exact List.take_append_drop 2 _
      refine ⟨(i0 + 1, i0, (L.drop (i0 * 2)).take 2), ⟨by simp only; omega, by simp only; rw [hk1, List.length_take]; omega, by simp only; omega, by simp only; rw [List.length_take, List.length_drop]; omega⟩, Sub.mk_ext ?_ ?_ ?_ ?_ (Nat.le_refl _) (hE _) hwc⟩
      · simp [subS, subH, wfS, wfH, SV.ren, renL, SObj.ren, SV.wf, SObj.wf, wfL, sget_cons, hget_cons, SV.known, renL_id]
      · rw [hk1, List.append_assoc, e1, List.take_append_drop]
        simp [subS, subH, wfS, wfH, SV.ren, renL, SObj.ren, SV.wf, SObj.wf, wfL, sget_cons, hget_cons]
      · simp [subS, subH, wfS, wfH, SV.ren, renL, SObj.ren, SV.wf, SObj.wf, wfL, sget_cons, hget_cons, hw1]
      · simp [subS, subH, wfS, wfH, SV.ren, renL, SObj.ren, SV.wf, SObj.wf, wfL, sget_cons, hget_cons]
    · rintro ⟨j, i, mid⟩ ⟨g1, g2, g3, g4⟩
      simp only at g1 g2 g3 g4
      have lenL : (kept (fun x => !pr x) L j ++ mid ++ L.drop (j * 2)).length = cap * 2 := by
        rw [List.length_append, List.length_append, List.length_drop]; omega
      by_cases hlt : j < len
      · have ex : ((kept (fun x => !pr x) L j ++ mid ++ L.drop (j * 2)).drop (j * 2)).take 2 = (L.drop (j * 2)).take 2 := by
          rw [List.drop_left' (by rw [List.length_append]; omega)]
        have l2 : ((L.drop (j * 2)).take 2).length = 2 := by rw [List.length_take, List.length_drop]; omega
        have es := kept_succ (fun x => !pr x) L j
        have tt : List.take 2 ((L.drop (j * 2)).take 2) = (L.drop (j * 2)).take 2 := by simp [List.take_take]
        have hjl : (j : Int) < len := by omega
        have hQj := hQ j hlt
        have dl : (L.drop (j * 2)).take 2 ++ L.drop ((j + 1) * 2) = L.drop (j * 2) := by
          rw [show (j + 1) * 2 = j * 2 + 2 by omega, ← List.drop_drop]; exact List.take_append_drop 2 _
        have hE2 : ∀ o1 o2 o3 : SObj, Ext Hc ((b + 1, o1) :: (b + 1, o2) :: (b, o3) :: Hc) := fun o1 o2 o3 => Ext.cons hwH (by omega) (Ext.cons hwH (by omega) (hE _))
        cases hp : pr ((L.drop (j * 2)).take 2) with
        | true =>
          rw [hp] at es
          simp only [Bool.not_true, Bool.false_eq_true, if_false, List.append_nil] at es
          simp -implicitDefEqProofs only [lk_normal, hget_cons, List.cons_append, List.nil_append, hg, lenL, ex, l2, tt, hp, hjl, hE2, hQj, ZB, Int.reduceToNat, Nat.reduceLT, Nat.reduceLeDiff, Int.reduceLE, Int.reduceLT, Nat.reduceEqDiff, Nat.reduceSub, SB, SV.known, packR, ne_eq, reduceCtorEq, Nat.reduceEqDiff, ↓reduceIte, if_true, if_false, eq_self, Nat.reduceAdd, Nat.reduceMul, Nat.reduceSub, forall_const, oneCellS, litOne, flat1, Kd.isSca, flat, TYB]
          (try (and_intros <;> try (first | omega | (unfold In64; omega) | trivial | assumption)))
          refine ⟨(j + 1, i, mid ++ (L.drop (j * 2)).take 2), ⟨by simp only; omega, by simp only; rw [es]; exact g2, by simp only; omega, by simp only; rw [List.length_append, l2]; omega⟩, by simp only; omega, Sub.mk_ext (l := [(b, _)]) ?_ ?_ ?_ ?_ (Nat.le_refl _) (hE2 _ _ _) hwc⟩
          · simp [subS, subH, wfS, wfH, SV.ren, renL, SObj.ren, SV.wf, SObj.wf, wfL, sget_cons, hget_cons, SV.known, renL_id]
          · rw [es]
            simp only [List.append_assoc, dl]
            simp [subS, subH, wfS, wfH, SV.ren, renL, SObj.ren, SV.wf, SObj.wf, wfL, sget_cons, hget_cons]
          · simp [subS, subH, wfS, wfH, SV.ren, renL, SObj.ren, SV.wf, SObj.wf, wfL, sget_cons, hget_cons, hw1]
          · simp [subS, subH, wfS, wfH, SV.ren, renL, SObj.ren, SV.wf, SObj.wf, wfL, sget_cons, hget_cons]
        | false =>
          rw [hp] at es
          simp only [Bool.not_false, if_true] at es
          have hbb : ¬ b = b + 1 := by omega
          have st : List.take (i * 2) (kept (fun x => !pr x) L j ++ mid ++ L.drop (j * 2)) ++ (L.drop (j * 2)).take 2 ++ List.drop (i * 2 + 2) (kept (fun x => !pr x) L j ++ mid ++ L.drop (j * 2)) = kept (fun x => !pr x) L (j + 1) ++ (mid.drop 2 ++ (L.drop (j * 2)).take 2) ++ L.drop ((j + 1) * 2) := by
            rw [es, ← List.drop_drop, List.append_assoc (kept (fun x => !pr x) L j), List.take_left' g2, List.drop_left' g2, List.drop_append_of_le_length (by omega)]
            simp only [List.append_assoc, dl]
          simp -implicitDefEqProofs only [lk_normal, hget_cons, List.cons_append, List.nil_append, hg, lenL, ex, l2, tt, hp, hjl, hE2, hQj, hbb, st, ZB, Int.reduceToNat, Nat.reduceLT, Nat.reduceLeDiff, Int.reduceLE, Int.reduceLT, Nat.reduceEqDiff, Nat.reduceSub, SB, SV.known, packR, ne_eq, reduceCtorEq, Nat.reduceEqDiff, ↓reduceIte, if_true, if_false, eq_self, Nat.reduceAdd, Nat.reduceMul, Nat.reduceSub, forall_const, oneCellS, litOne, flat1, Kd.isSca, flat, TYB]
          (try (and_intros <;> try (first | omega | (unfold In64; omega) | trivial | assumption)))
          refine ⟨(j + 1, i + 1, mid.drop 2 ++ (L.drop (j * 2)).take 2), ⟨by simp only; omega, by simp only; rw [es, List.length_append, g2, l2]; omega, by simp only; omega, by simp only; rw [List.length_append, l2, List.length_drop]; omega⟩, by simp only; omega, Sub.mk_ext (l := [(b, _)]) ?_ ?_ ?_ ?_ (Nat.le_refl _) (Ext.cons hwH (Nat.le_refl _) (hE2 _ _ _)) hwc⟩
          · simp [subS, subH, wfS, wfH, SV.ren, renL, SObj.ren, SV.wf, SObj.wf, wfL, sget_cons, hget_cons, SV.known, renL_id]
          · simp [subS, subH, wfS, wfH, SV.ren, renL, SObj.ren, SV.wf, SObj.wf, wfL, sget_cons, hget_cons]
          · simp [subS, subH, wfS, wfH, SV.ren, renL, SObj.ren, SV.wf, SObj.wf, wfL, sget_cons, hget_cons, hw1]
          · simp [subS, subH, wfS, wfH, SV.ren, renL, SObj.ren, SV.wf, SObj.wf, wfL, sget_cons, hget_cons]
      · have hjl : ¬ (j : Int) < len := by omega
        obtain rfl : j = len := by omega
        simp -implicitDefEqProofs only [lk_normal, hget_cons, List.cons_append, List.nil_append, hg, lenL, hjl, ZB, Int.reduceToNat, Nat.reduceLT, Nat.reduceLeDiff, Int.reduceLE, Int.reduceLT, Nat.reduceEqDiff, Nat.reduceSub, SB, SV.known, packR, ne_eq, reduceCtorEq, Nat.reduceEqDiff, ↓reduceIte, if_true, if_false, eq_self, Nat.reduceAdd, Nat.reduceMul, Nat.reduceSub, forall_const, oneCellS, litOne, flat1, Kd.isSca, flat, TYB]
        have c1 : cutOff cap i 0 2 = i * 2 := by unfold cutOff; rw [if_neg (by omega)]; omega
        have c2 : i * 2 + (j - i) * 2 = j * 2 := by omega
        rw [c1, c2, g2]
        refine ⟨by omega, by omega, by omega, by omega, by omega, by omega, ?_, ?_⟩
        · rw [show i * 2 / 2 = i by omega]
        · rw [List.append_assoc (kept (fun x => !pr x) L j), List.take_left' g2, ← List.append_assoc, List.drop_left' (by rw [List.length_append]; omega), show (j - i) * 2 = j * 2 - i * 2 by omega]
/-- On a slice that is nil. -/
theorem deleteFunc_nil (g : Nat) (caps : List SV) (H : Heap) (n0 : Nat) (hw : wfL n0 caps) (hwH : hwf n0 H) : PureH Try.prog 110 [.nils, .fn g caps] H .nils := by
  have h1 : PureH Try.prog 150 [.nils, .fn g caps] H (.int (-1)) := by
    refine pure_of_vc (X := ⟨Try.prog, tys, [], [], true, true, n0, [], []⟩) fn_150 ⟨tys_ok, .nil, .nil, mixed⟩ (n0 := n0) (Nat.le_of_ble_eq_true rfl) ⟨trivial, by simpa [SV.wf] using hw, trivial⟩ hwH (Nat.le_refl _) (fun _ => trivial) ?_
    simp -implicitDefEqProofs only [Try.f150, Option.getD_some, argS, SB, SV.known, packR, ne_eq, reduceCtorEq, Nat.reduceEqDiff, ↓reduceIte, if_true, if_false, eq_self, Nat.reduceAdd, Nat.reduceMul, Nat.reduceSub, forall_const, oneCellS, litOne, flat1, Kd.isSca, flat, TYB]
    refine loop_intro (fun i : Unit => [(0, .nils), (1, .fn g caps), (7, .int 0), (8, .int 0)]) (fun i => H) n0 (fun i => True) (fun i => 0) ?_ ?_
    · refine ⟨(), trivial, Sub.same ?_ ?_ hwH (Nat.le_refl _)⟩
      · simp [subS, subH, wfS, wfH, SV.ren, renL, SObj.ren, SV.wf, SObj.wf, wfL, sget_cons, hget_cons, SV.known, renL_id]
      · simp [subS, subH, wfS, wfH, SV.ren, renL, SObj.ren, SV.wf, SObj.wf, wfL, sget_cons, hget_cons, hw]
    · intro _ _
      simp -implicitDefEqProofs only [lk_normal, SB, SV.known, packR, ne_eq, reduceCtorEq, Nat.reduceEqDiff, ↓reduceIte, if_true, if_false, eq_self, Nat.reduceAdd, Nat.reduceMul, Nat.reduceSub, forall_const, oneCellS, litOne, flat1, Kd.isSca, flat, TYB]
      simp
  refine pure_of_vc (X := ⟨Try.prog, tys, [(150, fun args H' => some (args = [.nils, .fn g caps] ∧ H' = H, .int (-1)))], [], true, true, n0, [], []⟩) fn_110 ⟨tys_ok, .cons (fun args H' p v h hp => ?_) .nil, .nil, mixed⟩ (n0 := n0) (Nat.le_of_ble_eq_true rfl) ⟨trivial, by simpa [SV.wf] using hw, trivial⟩ hwH (Nat.le_refl _) (fun _ => trivial) ?_
  · cases h
    obtain ⟨rfl, rfl⟩ := hp
    exact h1
  simp -implicitDefEqProofs only [Try.f110, Option.getD_some, argS, SB, SV.known, packR, ne_eq, reduceCtorEq, Nat.reduceEqDiff, ↓reduceIte, if_true, if_false, eq_self, Nat.reduceAdd, Nat.reduceMul, Nat.reduceSub, forall_const, oneCellS, litOne, flat1, Kd.isSca, flat, TYB]
theorem kept_pair {np : List Int → Bool} {L : List Int} : ∀ k, k * 2 ≤ L.length → ∀ i, i * 2 + 2 ≤ (kept np L k).length → ∃ j, j < k ∧ ((kept np L k).drop (i * 2)).take 2 = (L.drop (j * 2)).take 2 ∧ np ((L.drop (j * 2)).take 2) = true
  | 0, _, i, h => by simp [kept_zero] at h
  | k + 1, hk, i, h => by
    obtain ⟨n, hn, _⟩ := kept_even np L k (by omega)
    have l2 : ((L.drop (k * 2)).take 2).length = 2 := by rw [List.length_take, List.length_drop]; omega
    rw [kept_succ] at h ⊢
    by_cases hi : i * 2 + 2 ≤ n * 2
    · obtain ⟨j, h1, h2, h3⟩ := kept_pair (np := np) (L := L) k (by omega) i (by omega)
      refine ⟨j, by omega, ?_, h3⟩
      rw [List.drop_append_of_le_length (by omega), List.take_append_of_le_length (by rw [List.length_drop]; omega)]
      exact h2
    · split at h
      · rename_i hc
        rw [List.length_append, hn, l2] at h
        have : i = n := by omega
        subst this
        refine ⟨k, by omega, ?_, hc⟩
        rw [if_pos hc, List.drop_left' hn, List.take_of_length_le (by omega)]
      · simp at h; omega
end Go.Proofs.Ytopfnkmlgcjpbaa
/- Walks: useful pours. -/
set_option maxRecDepth 100000
set_option linter.unusedSimpArgs false
set_option linter.unusedVariables false
namespace Go.Proofs.Ytopfnkmlgcjpbaa
open Go Go.RowKit
def idleF (R p : List Int) : Bool := decide ((runsL (tubeAt R (p.getD 0 0).toNat)).length / 2 = 1) && decide (layN (tubeAt R (p.getD 1 0).toNat) = 0)
def okP (p : List Int) : Prop := p.length = 2 ∧ (0 ≤ p.getD 0 0 ∧ p.getD 0 0 ≤ 5) ∧ (0 ≤ p.getD 1 0 ∧ p.getD 1 0 ≤ 5)
theorem okP_take {p : List Int} (h : okP p) : p.take 2 = p := List.take_of_length_le (by have := h.1; omega)
--@tbl isIdle = impl.isIdle
/-! DeleteFunc with a closure over one rack. -/
--@tbl delR = slices.DeleteFunc[[][2]int,[2]int]
def delR_F (g : Nat) (pr : List Int → List Int → Bool) (Q : List Int → List Int → Prop) : List SV → Heap → Nat → Nat → K1 → Prop
  | [.slice b 0 len cap, .fn f [.ptr k 0]], H, n, m, κ => match hget H b, hget H k with
    | some (.ints L e), some (.ints R _) => f = g ∧ R.length = 24 ∧ L.length = cap * 2 ∧ len ≤ cap ∧ len ≤ 4611686018427387903 ∧ b ≠ k ∧ m ≤ b ∧ (∀ i, i < len → Q R ((L.drop (i * 2)).take 2)) ∧
        κ (.slice b 0 ((kept (fun x => !pr R x) L len).length / 2) cap) ((b, .ints (kept (fun x => !pr R x) L len ++ List.replicate (len * 2 - (kept (fun x => !pr R x) L len).length) 0 ++ L.drop (len * 2)) e) :: H) n
    | _, _ => False
  | [.nils, .fn _ [.ptr k 0]], H, n, _, κ => match hget H k with
    | some (.ints _ _) => κ .nils H n
    | _ => False
  | _, _, _, _, _ => False
theorem delR_T (g : Nat) (pr : List Int → List Int → Bool) (Q : List Int → List Int → Prop) (hg : g ≠ 150) (hc : ∀ (R : List Int) (e : Nat) (p : List Int), R.length = 24 → Q R p → PureH Try.prog g [.arr p, .ptr 0 0] [(0, .ints R e)] (.bool (pr R p))) :
    ∀ args H n m κ, delR_F g pr Q args H n m κ → GenOK Try.prog 110 args H n m κ := by
  intro args H n m κ h
  unfold delR_F at h
  split at h
  · rename_i b len cap f k
    split at h
    · rename_i L e R e2 h1 h2
      obtain ⟨rfl, hR, hL, hlc, hm, hbk, hmb, hQ, h⟩ := h
      have hu := deleteFunc_ok f hg [.ptr 0 0] [(0, .ints R e2)] (pr R) 1 L e len cap hL hlc hm (Q R) hQ (fun x hx => hc R e2 x hR hx) (by simp [wfL, SV.wf]) (wfH_spec (by simp [wfH, SObj.wf]))
      have := gen_of_upd (H := H) (n := n) (m := m) (κ := κ) hu (fun j => if j = 1 then b else k) (fun j o1 hj => by
        simp only [hget_cons] at hj
        split at hj
        · rename_i hj1; cases hj; rw [if_pos hj1]; exact h1
        · rename_i hj1
          split at hj
          · cases hj; rw [if_neg hj1]; exact h2
          · cases hj) (fun j1 o1 j2 o2 g1 g2 he => by
        simp only [hget_cons] at g1 g2
        by_cases q1 : j1 = 1
        · by_cases q2 : j2 = 1
          · omega
          · simp only [q1, q2, if_true, if_false] at he; omega
        · by_cases q2 : j2 = 1
          · simp only [q1, q2, if_true, if_false] at he; omega
          · rw [if_neg q1] at g1
            rw [if_neg q2] at g2
            split at g1
            · split at g2
              · omega
              · cases g2
            · cases g1) (by simpa using hmb) rfl (fun n hn => by simpa [SV.wf, SV.ren] using hn) (by simpa [SV.ren] using h)
      simpa [renL, SV.ren] using this
    · exact h.elim
  · rename_i f k
    split at h
    · rename_i R e2 h2
      refine ⟨(deleteFunc_nil f [.ptr k 0] [] (k + 1) (by simp [wfL, SV.wf]) (hwf_nil _)).ent, fun B M w hH hwH hwa hown hM => ?_⟩
      have hp := deleteFunc_nil f [.ptr k 0] [] (k + 1) (by simp [wfL, SV.wf]) (hwf_nil _)
      refine (hp.call B w (HR.nil B w)).mono fun e w' hh => ?_
      exact ⟨.nils, H, n, B, hh.1, h, Nat.le_refl _, trivial, hwH, fun _ _ => rfl, hH.of_below hh.2, hown, Kept.of_below hh.2⟩
    · exact h.elim
  · exact h.elim
--@tbl useful = impl.useful
--@tbl uDel = slices.DeleteFunc[[][2]int,[2]int]
def ulF (R : List Int) : List Int := kept (fun p => !idleF R p) (PL R 36) ((PL R 36).length / 2)
theorem PL_okP (R : List Int) (i : Nat) (junk : List Int) (h : i * 2 + 2 ≤ (PL R 36).length) : okP (List.take 2 (List.drop (i * 2) (PL R 36 ++ junk))) := by
  have hbd : Bd 0 5 (PL R 36) := PL_bd R 36 (by omega)
  rw [take2_drop _ _ (by rw [List.length_append]; omega), getD_app _ _ _ (by omega), getD_app _ _ _ (by omega)]
  exact ⟨rfl, hbd.getD (by omega), hbd.getD (by omega)⟩
def useful_F : List SV → Heap → Nat → Nat → K1 → Prop
  | [.arr R], H, n, _, κ => R.length = 24 ∧ freshK .one (ulF R) ((ulF R).length / 2) 2 44 (decide (PL R 36 = [])) H n κ
  | _, _, _, _, _ => False
/-! The model's. -/
--@tbl l2Idle = spec.l2Idle
--@tbl l2Useful = spec.l2Useful
def l2Useful_F : List SV → Heap → Nat → Nat → K1 → Prop
  | [.arr R], H, n, _, κ => (R.length = 24 ∧ rackB R = true) ∧ freshK .one (ulF R) ((ulF R).length / 2) 2 44 false H n κ
  | _, _, _, _, _ => False
theorem ulF_even (R : List Int) : ∃ k, (ulF R).length = k * 2 ∧ k ≤ 36 := by
  obtain ⟨m, hm, hm36⟩ := PL_even R 36
  obtain ⟨k, hk, hkm⟩ := kept_even (fun p => !idleF R p) (PL R 36) m (by omega)
  have e2 : (PL R 36).length / 2 = m := by omega
  exact ⟨k, by unfold ulF; rw [e2]; exact hk, by omega⟩
theorem ulF_zero (R : List Int) : decide ((((ulF R).length / 2 : Nat) : Int) = 0) = decide (ulF R = []) := by
  obtain ⟨k, hk, _⟩ := ulF_even R
  by_cases h : ulF R = []
  · simp [h]
  · have : ¬ k = 0 := fun h0 => h (List.length_eq_zero_iff.1 (by rw [hk, h0]))
    have h2 : ¬ (((ulF R).length / 2 : Nat) : Int) = 0 := by omega
    simp only [h, h2]
end Go.Proofs.Ytopfnkmlgcjpbaa
/- Walks: sorted racks. -/
set_option maxRecDepth 100000
set_option linter.unusedSimpArgs false
set_option linter.unusedVariables false
namespace Go.Proofs.Ytopfnkmlgcjpbaa
open Go Go.RowKit
theorem runs_head (t : List Int) (ht : t.length = 4) (h : 0 < layN t) : (runsL t).getD 0 0 = t.getD 0 0 := by
  have key : ∀ i, 0 < i → i ≤ 4 → (RL t i).getD 0 0 = t.getD 0 0 ∧ 2 ≤ (RL t i).length := by
    intro i
    induction i with
    | zero => intro h; omega
    | succ i ih =>
      intro _ hi
      rw [RL_succ t i (by omega)]
      by_cases hi0 : i = 0
      · subst hi0
        rw [RL_zero]
        simp [stepR]
      · obtain ⟨h1, h2⟩ := ih (by omega) (by omega)
        unfold stepR
        split
        · refine ⟨?_, by simpa using h2⟩
          rw [getD_set' _ _ _ _ (by omega), if_neg (by omega), h1]
        · refine ⟨?_, by rw [List.length_append]; omega⟩
          rw [getD_app _ _ _ (by omega), h1]
  exact (key (layN t) h (lay_le t ht)).1
def rcN (R : List Int) (k : Nat) : Nat := (runsL (tubeAt R k)).length / 2
def rcC (R : List Int) (k : Nat) : Int := (runsL (tubeAt R k)).getD 0 0
def srtF (R : List Int) : Nat → Option (List Int)
  | 0 => some []
  | k + 1 => match srtF R k with
    | none => none
    | some s => if rcN R k = 0 then some s else if 1 < rcN R k ∨ rcC R k ∈ s then none else some (s ++ [rcC R k])
def sortB (R : List Int) : Bool := (srtF R 6).isSome
theorem srt_none {R : List Int} {k : Nat} (h : srtF R k = none) : ∀ j, srtF R (k + j) = none
  | 0 => h
  | j + 1 => by
    have := srt_none h j
    show srtF R (k + j + 1) = none
    simp only [srtF, this]
theorem sort_false {R : List Int} {k : Nat} (h : srtF R k = none) (hk : k ≤ 6) : sortB R = false := by
  have := srt_none h (6 - k)
  rw [show k + (6 - k) = 6 by omega] at this
  simp [sortB, this]
theorem srt_step {R : List Int} {k : Nat} {s : List Int} (h : srtF R k = some s) : srtF R (k + 1) = if rcN R k = 0 then some s else if 1 < rcN R k ∨ rcC R k ∈ s then none else some (s ++ [rcC R k]) := by
  simp only [srtF, h]
theorem srt_len {R : List Int} : ∀ {k : Nat} {s : List Int}, srtF R k = some s → s.length ≤ k
  | 0, s, h => by cases h; simp
  | k + 1, s, h => by
    cases hk : srtF R k with
    | none => simp [srtF, hk] at h
    | some s' =>
      have := srt_len hk
      rw [srt_step hk] at h
      split at h
      · cases h; omega
      · split at h
        · cases h
        · cases h; simp; omega
def seenL (s : List Int) : List Bool := (List.range 6).map fun c : Nat => decide ((c : Int) ∈ s)
theorem seenL_len (s : List Int) : (seenL s).length = 6 := by simp [seenL]
theorem seenL_nil : seenL [] = List.replicate 6 false := by simp [seenL, List.range, List.range.loop]
theorem seenL_getD (s : List Int) (c : Int) (h : 0 ≤ c ∧ c ≤ 5) : (seenL s).getD c.toNat false = decide (c ∈ s) := by
  have : ((c.toNat : Nat) : Int) = c := by omega
  simp [seenL, List.getD, show c.toNat < 6 by omega, this]
theorem seenL_set (s : List Int) (c : Int) (h : 0 ≤ c ∧ c ≤ 5) : (seenL s).set c.toNat true = seenL (s ++ [c]) := by
  apply List.ext_getElem (by simp [seenL])
  intro k h1 h2
  simp only [List.getElem_set, seenL, List.getElem_map, List.getElem_range]
  by_cases hk : c.toNat = k
  · rw [if_pos hk]
    have : (k : Int) = c := by omega
    simp [this]
  · rw [if_neg hk]
    have : ¬ (k : Int) = c := by omega
    simp [this]
theorem rc_facts {R : List Int} (hR : R.length = 24) (hr : rackB R = true) {k : Nat} (hk : k < 6) (h : 0 < rcN R k) : 0 ≤ rcC R k ∧ rcC R k ≤ 5 := by
  have hl := tubeAt_len hR hk
  have hb := tubeAt_ok hr hk
  have h0 : 0 < layN (tubeAt R k) := (runs_bottom _ hl hb).1.2 (by unfold crN; unfold rcN at h; omega)
  unfold rcC
  rw [runs_head _ hl h0]
  have := (tube_cells hl hb).1 0 h0
  omega
--@tbl isSorted = impl.isSorted
theorem isSorted_ok (R : List Int) (hR : R.length = 24) (hr : rackB R = true) : PureH Try.prog 116 [.arr R] [] (.bool (sortB R)) := by
  have tkR : R.take 24 = R := List.take_of_length_le (by omega)
  refine pure_of_vc (X := ⟨Try.prog, tys, [], [(152, runs_F)], true, true, 0, [], []⟩) fn_116 ⟨tys_ok, .nil, (.cons runs_T .nil), mixed⟩ (n0 := 0) (Nat.le_of_ble_eq_true rfl) (by simp [wfL, SV.wf]) (wfH_spec (by simp [wfH, SObj.wf])) (Nat.le_refl _) (fun _ => by simp [SV.wf, wfL]) ?_
  simp -implicitDefEqProofs only [Try.f116, Option.getD_some, argS, runs_F, hR, tkR, ZB, Int.reduceToNat, Nat.reduceLT, Nat.reduceLeDiff, Int.reduceLE, Int.reduceLT, Nat.reduceEqDiff, Nat.reduceSub, SB, SV.known, packR, ne_eq, reduceCtorEq, Nat.reduceEqDiff, ↓reduceIte, if_true, if_false, eq_self, Nat.reduceAdd, Nat.reduceMul, Nat.reduceSub, forall_const, oneCellS, litOne, flat1, Kd.isSca, flat, TYB]
  refine loop_intro (fun s : Nat × List Int => [(9, .int s.1), (8, .arr R), (3, .ptr 1 0), (2, .bool false), (1, .ptr 0 0)]) (fun s => [(1, .bls (seenL s.2) 122), (0, .ints R 27)]) 2 (fun s => s.1 ≤ 6 ∧ srtF R s.1 = some s.2) (fun s => 6 - s.1) ?_ ?_
  · refine ⟨(0, []), ⟨by omega, rfl⟩, Sub.mk_id ?_ ?_ ?_ ?_ ?_⟩
    all_goals simp only [seenL_nil, LB, subS, subH, wfS, wfH, SV.ren, renL, SObj.ren, SV.wf, SObj.wf, wfL, SV.known, Nat.reduceEqDiff, ↓reduceIte, if_true, if_false, eq_self, Nat.reduceAdd, Nat.reduceLT, Nat.reduceLeDiff, implies_true, reduceCtorEq, forall_const]
  · rintro ⟨i, s⟩ ⟨hi, hs⟩
    simp only at hi hs
    have eT : List.take 4 (List.drop (i * 4) R) = tubeAt R i := rfl
    have sl := seenL_len s
    by_cases hlt : i < 6
    · have hil : (i : Int) < 6 := by omega
      have hl := tubeAt_len hR hlt
      have tk4 : (tubeAt R i).take 4 = tubeAt R i := List.take_of_length_le (by omega)
      have es := srt_step hs
      have en : (runsL (tubeAt R i)).length / 2 = rcN R i := rfl
      obtain ⟨n, hn, hn4, _⟩ := runsL_even _ hl
      have ern : rcN R i = n := by unfold rcN; omega
      have gd : ∀ J : List Int, 0 < rcN R i → (runsL (tubeAt R i) ++ J).getD 0 0 = rcC R i := fun J h => getD_app _ _ _ (by omega)
      simp -implicitDefEqProofs only [lk_normal, runs_F, freshK, Wrap.ap, hil, hR, eT, hl, tk4, en, sl, ZB, Int.reduceToNat, Nat.reduceLT, Nat.reduceLeDiff, Int.reduceLE, Int.reduceLT, Nat.reduceEqDiff, Nat.reduceSub, SB, SV.known, packR, ne_eq, reduceCtorEq, Nat.reduceEqDiff, ↓reduceIte, if_true, if_false, eq_self, Nat.reduceAdd, Nat.reduceMul, Nat.reduceSub, forall_const, oneCellS, litOne, flat1, Kd.isSca, flat, TYB]
      refine ⟨by omega, fun h0 => ?_, fun h0 cap junk hj => ?_⟩
      · have hz : rcN R i = 0 := by rw [ern]; rw [h0] at hn; simp at hn; omega
        rw [if_pos hz] at es
        (try (and_intros <;> try (first | omega | (unfold In64; omega) | trivial | assumption)))
        refine ⟨(i + 1, s), ?_, ?_, Sub.mk_id ?_ ?_ ?_ ?_ ?_⟩
        all_goals (try (simp only [es, LB, subS, subH, wfS, wfH, SV.ren, renL, SObj.ren, SV.wf, SObj.wf, wfL, SV.known, Nat.reduceEqDiff, ↓reduceIte, if_true, if_false, eq_self, Nat.reduceAdd, Nat.reduceLT, Nat.reduceLeDiff, implies_true, reduceCtorEq, forall_const]; done))
        all_goals (try (simp only [es, LB, subS, subH, wfS, wfH, SV.ren, renL, SObj.ren, SV.wf, SObj.wf, wfL, SV.known, Nat.reduceEqDiff, ↓reduceIte, if_true, if_false, eq_self, Nat.reduceAdd, Nat.reduceLT, Nat.reduceLeDiff, implies_true, reduceCtorEq, forall_const]; simp; done))
        all_goals (try (simp only [es, LB, subS, subH, wfS, wfH, SV.ren, renL, SObj.ren, SV.wf, SObj.wf, wfL, SV.known, Nat.reduceEqDiff, ↓reduceIte, if_true, if_false, eq_self, Nat.reduceAdd, Nat.reduceLT, Nat.reduceLeDiff, implies_true, reduceCtorEq, forall_const]; (and_intros <;> (first | omega | rfl | (simp; done) | (simp; omega))); done))
        all_goals (try dsimp only)
        all_goals (and_intros <;> try (first | omega | (unfold In64; omega) | trivial | assumption))
        all_goals (try exact es)
      · have hp : 0 < rcN R i := by
          rcases Nat.eq_zero_or_pos n with hz | hz
          · exact absurd (List.length_eq_zero_iff.1 (by rw [hn, hz])) h0
          · omega
        rw [if_neg (by omega)] at es
        have rc := rc_facts hR hr hlt hp
        have g0 := gd junk hp
        have sg := seenL_getD s (rcC R i) rc
        have sw := seenL_set s (rcC R i) rc
        have lj : 0 < (runsL (tubeAt R i) ++ junk).length := by rw [List.length_append]; omega
        refine ⟨fun hz => absurd hz (by omega), fun _ => ⟨fun h1 => ?_, fun h1 => ?_⟩⟩
        · rw [if_pos (by omega)] at es
          rw [sort_false es (by omega)]
        · cases hd : decide (rcC R i ∈ s)
          · rw [if_neg (fun hx => hx.elim (fun h => by omega) (of_decide_eq_false hd))] at es
            simp -implicitDefEqProofs only [lk_normal, g0, sg, sw, hd, sl, lj, ZB, Int.reduceToNat, Nat.reduceLT, Nat.reduceLeDiff, Int.reduceLE, Int.reduceLT, Nat.reduceEqDiff, Nat.reduceSub, SB, SV.known, packR, ne_eq, reduceCtorEq, Nat.reduceEqDiff, ↓reduceIte, if_true, if_false, eq_self, Nat.reduceAdd, Nat.reduceMul, Nat.reduceSub, forall_const, oneCellS, litOne, flat1, Kd.isSca, flat, TYB]
            (try (and_intros <;> try (first | omega | (unfold In64; omega) | trivial | assumption)))
            refine ⟨(i + 1, s ++ [rcC R i]), ?_, ?_, Sub.mk_id ?_ ?_ ?_ ?_ ?_⟩
            all_goals (try (simp only [es, LB, subS, subH, wfS, wfH, SV.ren, renL, SObj.ren, SV.wf, SObj.wf, wfL, SV.known, Nat.reduceEqDiff, ↓reduceIte, if_true, if_false, eq_self, Nat.reduceAdd, Nat.reduceLT, Nat.reduceLeDiff, implies_true, reduceCtorEq, forall_const]; done))
            all_goals (try (simp only [es, LB, subS, subH, wfS, wfH, SV.ren, renL, SObj.ren, SV.wf, SObj.wf, wfL, SV.known, Nat.reduceEqDiff, ↓reduceIte, if_true, if_false, eq_self, Nat.reduceAdd, Nat.reduceLT, Nat.reduceLeDiff, implies_true, reduceCtorEq, forall_const]; simp; done))
            all_goals (try (simp only [es, LB, subS, subH, wfS, wfH, SV.ren, renL, SObj.ren, SV.wf, SObj.wf, wfL, SV.known, Nat.reduceEqDiff, ↓reduceIte, if_true, if_false, eq_self, Nat.reduceAdd, Nat.reduceLT, Nat.reduceLeDiff, implies_true, reduceCtorEq, forall_const]; (and_intros <;> (first | omega | rfl | (simp; done) | (simp; omega))); done))
            all_goals (try dsimp only)
            all_goals (and_intros <;> try (first | omega | (unfold In64; omega) | trivial | assumption))
          · rw [if_pos (.inr (of_decide_eq_true hd))] at es
            simp -implicitDefEqProofs only [lk_normal, g0, sg, sw, hd, sl, lj, ZB, Int.reduceToNat, Nat.reduceLT, Nat.reduceLeDiff, Int.reduceLE, Int.reduceLT, Nat.reduceEqDiff, Nat.reduceSub, SB, SV.known, packR, ne_eq, reduceCtorEq, Nat.reduceEqDiff, ↓reduceIte, if_true, if_false, eq_self, Nat.reduceAdd, Nat.reduceMul, Nat.reduceSub, forall_const, oneCellS, litOne, flat1, Kd.isSca, flat, TYB]
            rw [sort_false es (by omega)]
            (try (and_intros <;> try (first | omega | (unfold In64; omega) | trivial | assumption)))
    · have hil : ¬ (i : Int) < 6 := by omega
      obtain rfl : i = 6 := by omega
      simp -implicitDefEqProofs only [lk_normal, hil, ZB, Int.reduceToNat, Nat.reduceLT, Nat.reduceLeDiff, Int.reduceLE, Int.reduceLT, Nat.reduceEqDiff, Nat.reduceSub, SB, SV.known, packR, ne_eq, reduceCtorEq, Nat.reduceEqDiff, ↓reduceIte, if_true, if_false, eq_self, Nat.reduceAdd, Nat.reduceMul, Nat.reduceSub, forall_const, oneCellS, litOne, flat1, Kd.isSca, flat, TYB]
      simp [sortB, hs]
def isSorted_F : List SV → Heap → Option (Prop × SV)
  | [.arr R], _ => some (R.length = 24 ∧ rackB R = true, .bool (sortB R))
  | _, _ => none
theorem isSorted_T : ∀ args H p v, isSorted_F args H = some (p, v) → p → PureH Try.prog 116 args H v := by
  intro args H p v h hp
  unfold isSorted_F at h
  split at h
  · cases h; exact (isSorted_ok _ hp.1 hp.2).any _
  · cases h
--@tbl l1Has = spec.l1Has
theorem l1Has_ok (L : List Int) (e cap len : Nat) (c : Int) (hl : len ≤ L.length) (hm : len ≤ 1000000) : PureH Try.prog 160 [.slice 0 0 len cap, .int c] [(0, .ints L e)] (.bool (decide (c ∈ L.take len))) := by
  refine pure_of_vc (X := ⟨Try.prog, tys, [], [], true, true, 1, [], []⟩) fn_160 ⟨tys_ok, .nil, .nil, mixed⟩ (n0 := 1) (Nat.le_of_ble_eq_true rfl) (by simp [wfL, SV.wf]) (wfH_spec (by simp [wfH, SObj.wf])) (Nat.le_refl _) (fun _ => by simp [SV.wf, wfL]) ?_
  simp -implicitDefEqProofs only [Try.f160, Option.getD_some, argS, ZB, Int.reduceToNat, Nat.reduceLT, Nat.reduceLeDiff, Int.reduceLE, Int.reduceLT, Nat.reduceEqDiff, Nat.reduceSub, SB, SV.known, packR, ne_eq, reduceCtorEq, Nat.reduceEqDiff, ↓reduceIte, if_true, if_false, eq_self, Nat.reduceAdd, Nat.reduceMul, Nat.reduceSub, forall_const, oneCellS, litOne, flat1, Kd.isSca, flat, TYB]
  refine loop_intro (fun i : Nat => [(5, .int i), (0, .slice 0 0 len cap), (1, .int c)]) (fun _ => [(0, .ints L e)]) 1 (fun i => i ≤ len ∧ ∀ k, k < i → ¬ L.getD k 0 = c) (fun i => len - i) ?_ ?_
  · refine ⟨0, ?_, Sub.mk_id ?_ ?_ ?_ ?_ ?_⟩
    all_goals (try (simp only [LB, subS, subH, wfS, wfH, SV.ren, renL, SObj.ren, SV.wf, SObj.wf, wfL, SV.known, Nat.reduceEqDiff, ↓reduceIte, if_true, if_false, eq_self, Nat.reduceAdd, Nat.reduceLT, Nat.reduceLeDiff, implies_true, reduceCtorEq, forall_const]; done))
    all_goals (try (simp only [LB, subS, subH, wfS, wfH, SV.ren, renL, SObj.ren, SV.wf, SObj.wf, wfL, SV.known, Nat.reduceEqDiff, ↓reduceIte, if_true, if_false, eq_self, Nat.reduceAdd, Nat.reduceLT, Nat.reduceLeDiff, implies_true, reduceCtorEq, forall_const]; simp; done))
    all_goals (try (simp only [LB, subS, subH, wfS, wfH, SV.ren, renL, SObj.ren, SV.wf, SObj.wf, wfL, SV.known, Nat.reduceEqDiff, ↓reduceIte, if_true, if_false, eq_self, Nat.reduceAdd, Nat.reduceLT, Nat.reduceLeDiff, implies_true, reduceCtorEq, forall_const]; (and_intros <;> (first | omega | rfl | (simp; done) | (simp; omega))); done))
    all_goals (try dsimp only)
    all_goals (and_intros <;> try (first | omega | (unfold In64; omega) | trivial | assumption))
  · rintro i ⟨hi, hn⟩
    by_cases hlt : i < len
    · have hil : (i : Int) < len := by omega
      simp -implicitDefEqProofs only [lk_normal, hil, ZB, Int.reduceToNat, Nat.reduceLT, Nat.reduceLeDiff, Int.reduceLE, Int.reduceLT, Nat.reduceEqDiff, Nat.reduceSub, SB, SV.known, packR, ne_eq, reduceCtorEq, Nat.reduceEqDiff, ↓reduceIte, if_true, if_false, eq_self, Nat.reduceAdd, Nat.reduceMul, Nat.reduceSub, forall_const, oneCellS, litOne, flat1, Kd.isSca, flat, TYB]
      refine ⟨by omega, by omega, fun h => ?_, fun h => ?_⟩
      · have : c ∈ L.take len := List.mem_take_iff_getElem.2 ⟨i, by omega, by rw [← h]; simp [List.getD, List.getElem?_eq_getElem (show i < L.length by omega)]⟩
        simp [this]
      · (try (and_intros <;> try (first | omega | (unfold In64; omega) | trivial | assumption)))
        refine ⟨i + 1, ?_, ?_, Sub.mk_id ?_ ?_ ?_ ?_ ?_⟩
        all_goals (try (simp only [LB, subS, subH, wfS, wfH, SV.ren, renL, SObj.ren, SV.wf, SObj.wf, wfL, SV.known, Nat.reduceEqDiff, ↓reduceIte, if_true, if_false, eq_self, Nat.reduceAdd, Nat.reduceLT, Nat.reduceLeDiff, implies_true, reduceCtorEq, forall_const]; done))
        all_goals (try (simp only [LB, subS, subH, wfS, wfH, SV.ren, renL, SObj.ren, SV.wf, SObj.wf, wfL, SV.known, Nat.reduceEqDiff, ↓reduceIte, if_true, if_false, eq_self, Nat.reduceAdd, Nat.reduceLT, Nat.reduceLeDiff, implies_true, reduceCtorEq, forall_const]; simp; done))
        all_goals (try (simp only [LB, subS, subH, wfS, wfH, SV.ren, renL, SObj.ren, SV.wf, SObj.wf, wfL, SV.known, Nat.reduceEqDiff, ↓reduceIte, if_true, if_false, eq_self, Nat.reduceAdd, Nat.reduceLT, Nat.reduceLeDiff, implies_true, reduceCtorEq, forall_const]; (and_intros <;> (first | omega | rfl | (simp; done) | (simp; omega))); done))
        all_goals (try dsimp only)
        all_goals (and_intros <;> try (first | omega | (unfold In64; omega) | trivial | assumption))
        intro k hk
        by_cases hki : k = i
        · subst hki; exact h
        · exact hn k (by omega)
    · have hil : ¬ (i : Int) < len := by omega
      obtain rfl : i = len := by omega
      simp -implicitDefEqProofs only [lk_normal, hil, ZB, Int.reduceToNat, Nat.reduceLT, Nat.reduceLeDiff, Int.reduceLE, Int.reduceLT, Nat.reduceEqDiff, Nat.reduceSub, SB, SV.known, packR, ne_eq, reduceCtorEq, Nat.reduceEqDiff, ↓reduceIte, if_true, if_false, eq_self, Nat.reduceAdd, Nat.reduceMul, Nat.reduceSub, forall_const, oneCellS, litOne, flat1, Kd.isSca, flat, TYB]
      have : ¬ c ∈ L.take i := fun hc => by
        obtain ⟨k, hk, he⟩ := List.mem_take_iff_getElem.1 hc
        refine hn k (by omega) ?_
        simp only [List.getD, List.getElem?_eq_getElem (show k < L.length by omega), Option.getD_some]
        exact he
      simp [this]
def l1Has_F : List SV → Heap → Option (Prop × SV)
  | [.slice b 0 len _, .int c], H => match hget H b with
    | some (.ints L _) => some (len ≤ L.length ∧ len ≤ 1000000, .bool (decide (c ∈ L.take len)))
    | _ => none
  | _, _ => none
theorem l1Has_T : ∀ args H p v, l1Has_F args H = some (p, v) → p → PureH Try.prog 160 args H v := by
  intro args H p v h hp
  unfold l1Has_F at h
  split at h
  · rename_i b len cap c
    split at h
    · rename_i L e hb
      cases h
      exact one_block (l1Has_ok L e cap len c hp.1 hp.2) hb rfl (fun _ => trivial)
    · cases h
  · cases h
--@tbl l2Sorted = spec.l2Sorted
theorem l2Sorted_ok (R : List Int) (hR : R.length = 24) (hr : rackB R = true) : PureH Try.prog 153 [.arr R] [] (.bool (sortB R)) := by
  have tkR : R.take 24 = R := List.take_of_length_le (by omega)
  refine pure_of_vc (X := ⟨Try.prog, tys, [(160, l1Has_F)], [(154, l2Runs_F)], true, true, 0, [], []⟩) fn_153 ⟨tys_ok, (.cons l1Has_T .nil), (.cons l2Runs_T .nil), mixed⟩ (n0 := 0) (Nat.le_of_ble_eq_true rfl) (by simp [wfL, SV.wf]) (wfH_spec (by simp [wfH, SObj.wf])) (Nat.le_refl _) (fun _ => by simp [SV.wf, wfL]) ?_
  simp -implicitDefEqProofs only [Try.f153, Option.getD_some, argS, l1Has_F, l2Runs_F, hR, tkR, ZB, Int.reduceToNat, Nat.reduceLT, Nat.reduceLeDiff, Int.reduceLE, Int.reduceLT, Nat.reduceEqDiff, Nat.reduceSub, SB, SV.known, packR, ne_eq, reduceCtorEq, Nat.reduceEqDiff, ↓reduceIte, if_true, if_false, eq_self, Nat.reduceAdd, Nat.reduceMul, Nat.reduceSub, forall_const, oneCellS, litOne, flat1, Kd.isSca, flat, TYB]
  refine loop_intro (fun s : Nat × List Int × Nat × List Int => [(4, .int s.1), (3, .slice 1 0 s.2.1.length s.2.2.1), (2, .bool false), (1, .ptr 0 0)]) (fun s => [(1, .ints (s.2.1 ++ s.2.2.2) 3), (0, .ints R 27)]) 2 (fun s => s.1 ≤ 6 ∧ srtF R s.1 = some s.2.1 ∧ s.2.2.2.length + s.2.1.length = s.2.2.1) (fun s => 6 - s.1) ?_ ?_
  · refine ⟨(0, [], 0, []), ⟨by omega, rfl, rfl⟩, Sub.mk_id ?_ ?_ ?_ ?_ ?_⟩
    all_goals simp only [LB, subS, subH, wfS, wfH, SV.ren, renL, SObj.ren, SV.wf, SObj.wf, wfL, SV.known, Nat.reduceEqDiff, ↓reduceIte, if_true, if_false, eq_self, Nat.reduceAdd, Nat.reduceLT, Nat.reduceLeDiff, implies_true, reduceCtorEq, forall_const]
    all_goals simp
  · rintro ⟨i, s, cap, junk⟩ ⟨hi, hs, hj⟩
    simp only at hi hs hj
    have eT : List.take 4 (List.drop (i * 4) R) = tubeAt R i := rfl
    have sle := srt_len hs
    have tks : (s ++ junk).take s.length = s := List.take_left' rfl
    have lsj : (s ++ junk).length = cap := by rw [List.length_append]; omega
    by_cases hlt : i < 6
    · have hil : (i : Int) < 6 := by omega
      have hl := tubeAt_len hR hlt
      have hb := tubeAt_ok hr hlt
      have es := srt_step hs
      have en : (runsL (tubeAt R i)).length / 2 = rcN R i := rfl
      obtain ⟨n, hn, hn4, _⟩ := runsL_even _ hl
      have ern : rcN R i = n := by unfold rcN; omega
      have gd : ∀ J : List Int, 0 < rcN R i → (runsL (tubeAt R i) ++ J).getD 0 0 = rcC R i := fun J h => getD_app _ _ _ (by omega)
      simp -implicitDefEqProofs only [lk_normal, l1Has_F, l2Runs_F, freshK, Wrap.ap, hil, hR, eT, hl, hb, en, tks, lsj, ZB, Int.reduceToNat, Nat.reduceLT, Nat.reduceLeDiff, Int.reduceLE, Int.reduceLT, Nat.reduceEqDiff, Nat.reduceSub, SB, SV.known, packR, ne_eq, reduceCtorEq, Nat.reduceEqDiff, ↓reduceIte, if_true, if_false, eq_self, Nat.reduceAdd, Nat.reduceMul, Nat.reduceSub, forall_const, oneCellS, litOne, flat1, Kd.isSca, flat, TYB]
      have r1 : (List.replicate 1 (0 : Int)) = [0] := rfl
      refine ⟨by omega, by omega, fun cap1 junk1 hj1 => ⟨fun h1 => ?_, fun h1 => ?_⟩⟩
      · rw [if_neg (by omega), if_pos (.inl (by omega))] at es
        rw [sort_false es (by omega)]
      · refine ⟨fun h2 => ?_, fun h2 => ?_⟩
        · rw [gd junk1 (by omega)]
          rw [if_neg (by omega)] at es
          refine ⟨by omega, by rw [List.length_append]; omega, ⟨by omega, by omega⟩, fun hm => ?_, fun hm => ⟨fun _ => ?_, fun hx => absurd h2 hx⟩⟩
          · rw [if_pos (.inr hm)] at es
            rw [sort_false es (by omega)]
          · rw [if_neg (fun hx => hx.elim (fun h => by omega) hm)] at es
            refine ⟨by omega, by rw [List.length_append]; omega, by omega, by omega, by omega, fun junk2 cap2 hj2 => ?_⟩
            (try (and_intros <;> try (first | omega | (unfold In64; omega) | trivial | assumption)))
            refine ⟨(i + 1, s ++ [rcC R i], cap2, junk2), ?_, ?_, Sub.mk_to 1 4 ?_ ?_ ?_ ?_ ?_ ?_ ?_⟩
            all_goals (try (simp only [es, r1, List.set_cons_zero, List.take_succ_cons, List.take_zero, List.length_append, List.length_cons, List.length_nil, List.append_nil, LB, subS, subH, wfS, wfH, SV.ren, renL, SObj.ren, SV.wf, SObj.wf, wfL, SV.known, Nat.reduceEqDiff, ↓reduceIte, if_true, if_false, eq_self, Nat.reduceAdd, Nat.reduceLT, Nat.reduceLeDiff, implies_true, reduceCtorEq, forall_const]; done))
            all_goals (try (simp only [es, r1, List.set_cons_zero, List.take_succ_cons, List.take_zero, List.length_append, List.length_cons, List.length_nil, List.append_nil, LB, subS, subH, wfS, wfH, SV.ren, renL, SObj.ren, SV.wf, SObj.wf, wfL, SV.known, Nat.reduceEqDiff, ↓reduceIte, if_true, if_false, eq_self, Nat.reduceAdd, Nat.reduceLT, Nat.reduceLeDiff, implies_true, reduceCtorEq, forall_const]; simp; done))
            all_goals (try (simp only [es, r1, List.set_cons_zero, List.take_succ_cons, List.take_zero, List.length_append, List.length_cons, List.length_nil, List.append_nil, LB, subS, subH, wfS, wfH, SV.ren, renL, SObj.ren, SV.wf, SObj.wf, wfL, SV.known, Nat.reduceEqDiff, ↓reduceIte, if_true, if_false, eq_self, Nat.reduceAdd, Nat.reduceLT, Nat.reduceLeDiff, implies_true, reduceCtorEq, forall_const]; (and_intros <;> (first | omega | rfl | (simp; done) | (simp; omega))); done))
            all_goals (try dsimp only)
            all_goals (and_intros <;> try (first | omega | (unfold In64; omega) | trivial | assumption))
            all_goals (try simp)
            all_goals (try omega)
        · refine ⟨fun hx => absurd hx h2, fun _ => ?_⟩
          rw [if_pos (by omega)] at es
          (try (and_intros <;> try (first | omega | (unfold In64; omega) | trivial | assumption)))
          refine ⟨(i + 1, s, cap, junk), ?_, ?_, Sub.mk_id ?_ ?_ ?_ ?_ ?_⟩
          all_goals (try (simp only [es, LB, subS, subH, wfS, wfH, SV.ren, renL, SObj.ren, SV.wf, SObj.wf, wfL, SV.known, Nat.reduceEqDiff, ↓reduceIte, if_true, if_false, eq_self, Nat.reduceAdd, Nat.reduceLT, Nat.reduceLeDiff, implies_true, reduceCtorEq, forall_const]; done))
          all_goals (try (simp only [es, LB, subS, subH, wfS, wfH, SV.ren, renL, SObj.ren, SV.wf, SObj.wf, wfL, SV.known, Nat.reduceEqDiff, ↓reduceIte, if_true, if_false, eq_self, Nat.reduceAdd, Nat.reduceLT, Nat.reduceLeDiff, implies_true, reduceCtorEq, forall_const]; simp; done))
          all_goals (try (simp only [es, LB, subS, subH, wfS, wfH, SV.ren, renL, SObj.ren, SV.wf, SObj.wf, wfL, SV.known, Nat.reduceEqDiff, ↓reduceIte, if_true, if_false, eq_self, Nat.reduceAdd, Nat.reduceLT, Nat.reduceLeDiff, implies_true, reduceCtorEq, forall_const]; (and_intros <;> (first | omega | rfl | (simp; done) | (simp; omega))); done))
          all_goals (try dsimp only)
          all_goals (and_intros <;> try (first | omega | (unfold In64; omega) | trivial | assumption))
    · have hil : ¬ (i : Int) < 6 := by omega
      obtain rfl : i = 6 := by omega
      simp -implicitDefEqProofs only [lk_normal, hil, ZB, Int.reduceToNat, Nat.reduceLT, Nat.reduceLeDiff, Int.reduceLE, Int.reduceLT, Nat.reduceEqDiff, Nat.reduceSub, SB, SV.known, packR, ne_eq, reduceCtorEq, Nat.reduceEqDiff, ↓reduceIte, if_true, if_false, eq_self, Nat.reduceAdd, Nat.reduceMul, Nat.reduceSub, forall_const, oneCellS, litOne, flat1, Kd.isSca, flat, TYB]
      simp [sortB, hs]
def l2Sorted_F : List SV → Heap → Option (Prop × SV)
  | [.arr R], _ => some (R.length = 24 ∧ rackB R = true, .bool (sortB R))
  | _, _ => none
theorem l2Sorted_T : ∀ args H p v, l2Sorted_F args H = some (p, v) → p → PureH Try.prog 153 args H v := by
  intro args H p v h hp
  unfold l2Sorted_F at h
  split at h
  · cases h; exact (l2Sorted_ok _ hp.1 hp.2).any _
  · cases h
/-! IsStuck. -/
def stuckB (R : List Int) : Bool := !sortB R && decide (ulF R = [])
--@tbl isStuck = impl.isStuck
--@tbl IsStuck = impl.IsStuck
--@tbl sIsStuck = spec.IsStuck
end Go.Proofs.Ytopfnkmlgcjpbaa
/- Walks: what the laws do with lists of pairs. -/
set_option maxRecDepth 100000
set_option linter.unusedSimpArgs false
set_option linter.unusedVariables false
namespace Go.Proofs.Ytopfnkmlgcjpbaa
open Go Go.RowKit
--@tbl eqS2 = laws.eqIntA2S
def eqS2_F : List SV → Heap → Option (Prop × SV)
  | [.slice a 0 l1 _, .slice b 0 l2 _], H => match hget H a, hget H b with
    | some (.ints L1 _), some (.ints L2 _) => some (a ≠ b ∧ l1 = l2 ∧ l1 * 2 ≤ L1.length ∧ l2 * 2 ≤ L2.length ∧ L1.take (l1 * 2) = L2.take (l2 * 2) ∧ l1 ≤ 4611686018427387903, .bool true)
    | _, _ => none
  | [.nils, .slice b 0 l2 _], H => match hget H b with
    | some (.ints _ _) => some (l2 = 0, .bool true)
    | _ => none
  | [.nils, .nils], _ => some (True, .bool true)
  | _, _ => none
/-! Marks. -/
def mkL (k : Int) (t : Nat) : List Int := (List.range t).map fun i : Nat => k + (i : Int)
theorem mkL_len (k : Int) (t : Nat) : (mkL k t).length = t := by simp [mkL]
theorem mkL_zero (k : Int) : mkL k 0 = [] := rfl
theorem mkL_succ (k : Int) (t : Nat) : mkL k (t + 1) = mkL k t ++ [k + (t : Int)] := by simp [mkL, List.range_succ]
theorem mkL_getD (k : Int) (t i : Nat) (h : i < t) : (mkL k t).getD i 0 = k + (i : Int) := by simp [mkL, List.getD, h]
theorem mkL_set (k : Int) (L : List Int) (t : Nat) (h : t < L.length) : (mkL k t ++ L.drop t).set t (k + (t : Int)) = mkL k (t + 1) ++ L.drop (t + 1) := by
  rw [mkL_succ, List.set_append_right _ _ (by rw [mkL_len]; omega), mkL_len, Nat.sub_self, List.drop_eq_getElem_cons h, List.set_cons_zero]
  simp
--@tbl mark2 = laws.markIntA2S
--@tbl held2 = laws.heldIntA2S
theorem gen_of_pure {P : Program} {f : FuncId} {args : List SV} {H : Heap} {n m : Nat} {v : SV} {κ : K1} (h : PureH P f args H v) (hk : κ v H n) : GenOK P f args H n m κ :=
  ⟨h.ent, fun B M w hH hwH hwa hown hM => (h.call B w hH).mono fun e w' hh => ⟨v, H, n, B, hh.1, hk, Nat.le_refl _, h.wf n hwa hwH, hwH, fun _ _ => rfl, hH.of_below hh.2, hown, Kept.of_below hh.2⟩⟩
def mark2_F : List SV → Heap → Nat → Nat → K1 → Prop
  | [.slice b 0 l _, .int k], H, n, m, κ => match hget H b with
    | some (.ints L e) => m ≤ b ∧ l * 2 ≤ L.length ∧ l ≤ 2000000 ∧ (0 ≤ k ∧ k ≤ 1000000) ∧ κ (.int (k + (l * 2 : Nat))) ((b, .ints (mkL k (l * 2) ++ L.drop (l * 2)) e) :: H) n
    | _ => False
  | [.nils, .int k], H, n, _, κ => κ (.int k) H n
  | _, _, _, _, _ => False
def held2_F : List SV → Heap → Option (Prop × SV)
  | [.slice b 0 l _, .int k], H => match hget H b with
    | some (.ints M _) => some (l ≤ 2000000 ∧ (0 ≤ k ∧ k ≤ 1000000) ∧ M.take (l * 2) = mkL k (l * 2), .int (k + (l * 2 : Nat)))
    | _ => none
  | [.nils, .int k], _ => some (True, .int k)
  | _, _ => none
theorem mkL_take (k : Int) (t : Nat) (M : List Int) : (mkL k t ++ M).take t = mkL k t := List.take_left' (mkL_len k t)
/-- What is left of a law that compares lists, marks one, and asks again. -/
theorem lawS2 {L : List Int} {m : Nat} (nl : Bool) (hm : L.length = m * 2) (hb : m ≤ 2000000) : ∀ (cap : Nat) (junk : List Int), junk.length + L.length = cap * 2 →
    (nl = true → L = [] → m = 0 ∧ (nl = true → L = [] → m = 0) ∧ ((nl = true → ¬L = []) → ∀ (cap : Nat) (junk_1 : List Int), junk_1.length + L.length = cap * 2 → m * 2 ≤ (L ++ junk_1).length ∧ m * 2 ≤ (L ++ junk).length ∧ List.take (m * 2) (L ++ junk_1) = List.take (m * 2) (L ++ junk) ∧ m ≤ 4611686018427387903)) ∧
    ((nl = true → ¬L = []) → ∀ (cap : Nat) (junk_1 : List Int), junk_1.length + L.length = cap * 2 →
      (m * 2 ≤ (L ++ junk_1).length ∧ m * 2 ≤ (L ++ junk).length ∧ List.take (m * 2) (L ++ junk_1) = List.take (m * 2) (L ++ junk) ∧ m ≤ 4611686018427387903) ∧ m * 2 ≤ (L ++ junk_1).length ∧ m ≤ 2000000 ∧
      (m ≤ 2000000 ∧ List.take (m * 2) (mkL 1 (m * 2) ++ List.drop (m * 2) (L ++ junk_1)) = mkL 1 (m * 2)) ∧ (1 + ((m * 2 : Nat) : Int) < 0 → False) ∧
      (¬1 + ((m * 2 : Nat) : Int) < 0 → (nl = true → L = [] → m = 0 ∧ (m ≤ 2000000 ∧ List.take (m * 2) (mkL 1 (m * 2) ++ List.drop (m * 2) (L ++ junk_1)) = mkL 1 (m * 2)) ∧ (1 + ((m * 2 : Nat) : Int) < 0 → False) ∧ (¬1 + ((m * 2 : Nat) : Int) < 0 → True)) ∧
        ((nl = true → ¬L = []) → ∀ (cap : Nat) (junk_2 : List Int), junk_2.length + L.length = cap * 2 → (m * 2 ≤ (L ++ junk_2).length ∧ m * 2 ≤ (L ++ junk).length ∧ List.take (m * 2) (L ++ junk_2) = List.take (m * 2) (L ++ junk) ∧ m ≤ 4611686018427387903) ∧
          (m ≤ 2000000 ∧ List.take (m * 2) (mkL 1 (m * 2) ++ List.drop (m * 2) (L ++ junk_1)) = mkL 1 (m * 2)) ∧ (1 + ((m * 2 : Nat) : Int) < 0 → False) ∧ (¬1 + ((m * 2 : Nat) : Int) < 0 → True)))) := by
  have tL : ∀ J : List Int, List.take (m * 2) (L ++ J) = L := fun J => List.take_left' hm
  have lL : ∀ J : List Int, m * 2 ≤ (L ++ J).length := fun J => by rw [List.length_append]; omega
  have l0 : L = [] → m = 0 := fun h => by rw [h] at hm; simp at hm; omega
  have nn : ¬ (1 + ((m * 2 : Nat) : Int) < 0) := by omega
  have e1 : ∀ J : List Int, List.take (m * 2) (mkL 1 (m * 2) ++ J) = mkL 1 (m * 2) := fun J => mkL_take _ _ _
  intro cap junk hj
  refine ⟨fun _ h => ⟨l0 h, fun _ h => l0 h, fun _ cap1 junk1 hj1 => ⟨lL _, lL _, by rw [tL, tL], by omega⟩⟩, fun _ cap1 junk1 hj1 => ⟨⟨lL _, lL _, by rw [tL, tL], by omega⟩, lL _, hb, ⟨hb, e1 _⟩, fun h => nn h, fun _ => ⟨fun _ h => ⟨l0 h, ⟨hb, e1 _⟩, fun h => nn h, fun _ => trivial⟩, fun _ cap2 junk2 hj2 => ⟨⟨lL _, lL _, by rw [tL, tL], by omega⟩, ⟨hb, e1 _⟩, fun h => nn h, fun _ => trivial⟩⟩⟩⟩
/-- The same where the list is nil if it is empty. -/
theorem lawS2' {L : List Int} {m : Nat} (hm : L.length = m * 2) (hb : m ≤ 2000000) : ∀ (cap : Nat) (junk : List Int), junk.length + L.length = cap * 2 →
    (L = [] → m = 0 ∧ (L = [] → m = 0) ∧ (¬L = [] → ∀ (cap : Nat) (junk_1 : List Int), junk_1.length + L.length = cap * 2 → m * 2 ≤ (L ++ junk_1).length ∧ m * 2 ≤ (L ++ junk).length ∧ List.take (m * 2) (L ++ junk_1) = List.take (m * 2) (L ++ junk) ∧ m ≤ 4611686018427387903)) ∧
    (¬L = [] → ∀ (cap : Nat) (junk_1 : List Int), junk_1.length + L.length = cap * 2 →
      (m * 2 ≤ (L ++ junk_1).length ∧ m * 2 ≤ (L ++ junk).length ∧ List.take (m * 2) (L ++ junk_1) = List.take (m * 2) (L ++ junk) ∧ m ≤ 4611686018427387903) ∧ m * 2 ≤ (L ++ junk_1).length ∧ m ≤ 2000000 ∧
      (m ≤ 2000000 ∧ List.take (m * 2) (mkL 1 (m * 2) ++ List.drop (m * 2) (L ++ junk_1)) = mkL 1 (m * 2)) ∧ (1 + ((m * 2 : Nat) : Int) < 0 → False) ∧
      (¬1 + ((m * 2 : Nat) : Int) < 0 → (L = [] → m = 0 ∧ (m ≤ 2000000 ∧ List.take (m * 2) (mkL 1 (m * 2) ++ List.drop (m * 2) (L ++ junk_1)) = mkL 1 (m * 2)) ∧ (1 + ((m * 2 : Nat) : Int) < 0 → False) ∧ (¬1 + ((m * 2 : Nat) : Int) < 0 → True)) ∧
        (¬L = [] → ∀ (cap : Nat) (junk_2 : List Int), junk_2.length + L.length = cap * 2 → (m * 2 ≤ (L ++ junk_2).length ∧ m * 2 ≤ (L ++ junk).length ∧ List.take (m * 2) (L ++ junk_2) = List.take (m * 2) (L ++ junk) ∧ m ≤ 4611686018427387903) ∧
          (m ≤ 2000000 ∧ List.take (m * 2) (mkL 1 (m * 2) ++ List.drop (m * 2) (L ++ junk_1)) = mkL 1 (m * 2)) ∧ (1 + ((m * 2 : Nat) : Int) < 0 → False) ∧ (¬1 + ((m * 2 : Nat) : Int) < 0 → True)))) := by
  have := lawS2 true hm hb
  simpa only [true_implies, forall_const] using this
end Go.Proofs.Ytopfnkmlgcjpbaa
/- Walks: UsefulPours. -/
set_option maxRecDepth 100000
set_option linter.unusedSimpArgs false
set_option linter.unusedVariables false
namespace Go.Proofs.Ytopfnkmlgcjpbaa
open Go Go.RowKit
def upF (R : List Int) : List Int := if rackB R = true then ulF R else []
theorem upF_even (R : List Int) : ∃ k, (upF R).length = k * 2 ∧ k ≤ 36 := by
  unfold upF
  split
  · exact ulF_even R
  · exact ⟨0, rfl, by omega⟩
--@tbl UsefulPours = impl.UsefulPours
--@tbl sUsefulPours = spec.UsefulPours
def UsefulPours_F : List SV → Heap → Nat → Nat → K1 → Prop
  | [.arr R], H, n, _, κ => R.length = 24 ∧ freshK (.more [.bool (rackB R)]) (upF R) ((upF R).length / 2) 2 44 (decide (rackB R = false ∨ PL R 36 = [])) H n κ
  | _, _, _, _, _ => False
def sUsefulPours_F : List SV → Heap → Nat → Nat → K1 → Prop
  | [.arr R], H, n, _, κ => R.length = 24 ∧ freshK (.more [.bool (rackB R)]) (upF R) ((upF R).length / 2) 2 44 false H n κ
  | _, _, _, _, _ => False
end Go.Proofs.Ytopfnkmlgcjpbaa
/- Walks: what the law of pours asks for. -/
set_option maxRecDepth 100000
set_option linter.unusedSimpArgs false
set_option linter.unusedVariables false
namespace Go.Proofs.Ytopfnkmlgcjpbaa
open Go Go.RowKit
def cpO (R : List Int) (i j : Int) : Bool := rackB R && plF i && plF j && !decide (i = j)
def cpC (R : List Int) (i j : Int) : Bool := cpO R i j && canF R i j
--@tbl CanPour = impl.CanPour
--@tbl sCanPour = spec.CanPour
--@tbl IsSorted = impl.IsSorted
--@tbl sIsSorted = spec.IsSorted
theorem IsSorted_ok (R : List Int) (hR : R.length = 24) : PureH Try.prog 51 [.arr R] [] (.tup [.bool (rackB R && sortB R), .bool (rackB R)]) := by
  have tkR : R.take 24 = R := List.take_of_length_le (by omega)
  cases hr : rackB R
  all_goals
    refine pure_of_vc (X := ⟨Try.prog, tys, [(11, IsRack_F), (116, isSorted_F)], [], true, true, 0, [], []⟩) fn_51 ⟨tys_ok, (.cons IsRack_T (.cons isSorted_T .nil)), .nil, mixed⟩ (n0 := 0) (Nat.le_of_ble_eq_true rfl) (by simp [wfL, SV.wf]) (wfH_spec (by simp [wfH, SObj.wf])) (Nat.le_refl _) (fun _ => by simp [SV.wf, wfL]) ?_
    simp -implicitDefEqProofs only [Try.f51, Option.getD_some, argS, IsRack_F, isSorted_F, hR, tkR, hr, ZB, Int.reduceToNat, Nat.reduceLT, Nat.reduceLeDiff, Int.reduceLE, Int.reduceLT, Nat.reduceEqDiff, Nat.reduceSub, SB, SV.known, packR, ne_eq, reduceCtorEq, Nat.reduceEqDiff, ↓reduceIte, if_true, if_false, eq_self, Nat.reduceAdd, Nat.reduceMul, Nat.reduceSub, forall_const, oneCellS, litOne, flat1, Kd.isSca, flat, TYB]
def IsSorted_F : List SV → Heap → Option (Prop × SV)
  | [.arr R], _ => some (R.length = 24, .tup [.bool (rackB R && sortB R), .bool (rackB R)])
  | _, _ => none
theorem IsSorted_T : ∀ args H p v, IsSorted_F args H = some (p, v) → p → PureH Try.prog 51 args H v := by
  intro args H p v h hp
  unfold IsSorted_F at h
  split at h
  · cases h; exact (IsSorted_ok _ hp).any _
  · cases h
def ccF (R : List Int) : List Int := if rackB R = true then cntL R else List.replicate 6 0
--@tbl CountColors = impl.CountColors
--@tbl sCountColors = spec.CountColors
def poF (R : List Int) : List Int := if rackB R = true then PL R 36 else []
theorem poF_even (R : List Int) : ∃ k, (poF R).length = k * 2 ∧ k ≤ 36 := by
  unfold poF
  split
  · exact PL_even R 36
  · exact ⟨0, rfl, by omega⟩
--@tbl PoursOf = impl.PoursOf
--@tbl sPoursOf = spec.PoursOf
def PoursOf_F : List SV → Heap → Nat → Nat → K1 → Prop
  | [.arr R], H, n, _, κ => R.length = 24 ∧ freshK (.more [.bool (rackB R)]) (poF R) ((poF R).length / 2) 2 44 (decide (rackB R = false ∨ PL R 36 = [])) H n κ
  | _, _, _, _, _ => False
def sPoursOf_F : List SV → Heap → Nat → Nat → K1 → Prop
  | [.arr R], H, n, _, κ => R.length = 24 ∧ freshK (.more [.bool (rackB R)]) (poF R) ((poF R).length / 2) 2 44 false H n κ
  | _, _, _, _, _ => False
def loF (R : List Int) (i : Int) : Int := if (rackB R && plF i) = true then (layN (tubeAt R i.toNat) : Int) else 0
--@tbl LayersOf = impl.LayersOf
def tpO (R : List Int) (i : Int) : Bool := rackB R && plF i && !decide (layN (tubeAt R i.toNat) = 0)
--@tbl TopOf = impl.TopOf
end Go.Proofs.Ytopfnkmlgcjpbaa
/- Plain: lists of pairs of places, by a condition. -/
set_option maxRecDepth 100000
set_option linter.unusedSimpArgs false
set_option linter.unusedVariables false
namespace Go.Proofs.Ytopfnkmlgcjpbaa
open Go Go.RowKit
def prG (c : Nat → Nat → Bool) (k : Nat) : List Int := if c (k / 6) (k % 6) = true then [((k / 6 : Nat) : Int), ((k % 6 : Nat) : Int)] else []
def GL (c : Nat → Nat → Bool) (m : Nat) : List Int := (List.range m).flatMap (prG c)
theorem GL_zero (c : Nat → Nat → Bool) : GL c 0 = [] := rfl
theorem GL_succ (c : Nat → Nat → Bool) (m : Nat) : GL c (m + 1) = GL c m ++ prG c m := by simp [GL, List.range_succ]
theorem GL_at (c : Nat → Nat → Bool) (i j : Nat) (hj : j < 6) : GL c (i * 6 + j + 1) = GL c (i * 6 + j) ++ if c i j = true then [(i : Int), (j : Int)] else [] := by
  rw [GL_succ]
  have e1 : (i * 6 + j) / 6 = i := by omega
  have e2 : (i * 6 + j) % 6 = j := by omega
  simp only [prG, e1, e2]
theorem GL_mem {c : Nat → Nat → Bool} {m : Nat} (hm : m ≤ 36) : ∀ x ∈ GL c m, 0 ≤ x ∧ x ≤ 5 := by
  intro x hx
  unfold GL at hx
  obtain ⟨k, hk, hx⟩ := List.mem_flatMap.1 hx
  have := List.mem_range.1 hk
  unfold prG at hx
  split at hx
  · simp at hx; omega
  · simp at hx
theorem GL_even (c : Nat → Nat → Bool) : ∀ m, ∃ n, (GL c m).length = n * 2 ∧ n ≤ m
  | 0 => ⟨0, rfl, by omega⟩
  | m + 1 => by
    obtain ⟨n, h1, h2⟩ := GL_even c m
    rw [GL_succ, List.length_append, h1]
    unfold prG
    split
    · exact ⟨n + 1, by simp; omega, by omega⟩
    · exact ⟨n, by simp, by omega⟩
theorem GL_okP (c : Nat → Nat → Bool) (i : Nat) (junk : List Int) (h : i * 2 + 2 ≤ (GL c 36).length) : okP (List.take 2 (List.drop (i * 2) (GL c 36 ++ junk))) := by
  have hbd : Bd 0 5 (GL c 36) := GL_mem (by omega)
  rw [take2_drop _ _ (by rw [List.length_append]; omega), getD_app _ _ _ (by omega), getD_app _ _ _ (by omega)]
  exact ⟨rfl, hbd.getD (by omega), hbd.getD (by omega)⟩
theorem PL_GL (R : List Int) (m : Nat) : PL R m = GL (fun i j => canF R i j) m := rfl
/-- Pairs that are kept out of pairs by a condition: pairs by both. -/
theorem kept_GL (c d : Nat → Nat → Bool) (np : List Int → Bool) (h : ∀ i j, i < 6 → j < 6 → c i j = true → np [(i : Int), (j : Int)] = d i j) (hd : ∀ i j, i < 6 → j < 6 → d i j = true → c i j = true) :
    ∀ m, m ≤ 36 → ∃ n, (GL c m).length = n * 2 ∧ kept np (GL c m) n = GL d m
  | 0, _ => ⟨0, rfl, rfl⟩
  | m + 1, hm => by
    obtain ⟨n, h1, h2⟩ := kept_GL c d np h hd m (by omega)
    have a1 : m / 6 < 6 := by omega
    have a2 : m % 6 < 6 := by omega
    rw [GL_succ c, GL_succ d]
    unfold prG
    cases hc : c (m / 6) (m % 6) with
    | false =>
      have : d (m / 6) (m % 6) = false := by
        cases hdd : d (m / 6) (m % 6) with
        | false => rfl
        | true => rw [hd _ _ a1 a2 hdd] at hc; cases hc
      rw [this]
      exact ⟨n, by simpa using h1, by simpa using h2⟩
    | true =>
      refine ⟨n + 1, by simp [h1]; omega, ?_⟩
      have e0 : (((GL c m ++ [((m / 6 : Nat) : Int), ((m % 6 : Nat) : Int)]).drop (n * 2)).take 2) = [((m / 6 : Nat) : Int), ((m % 6 : Nat) : Int)] := by rw [List.drop_left' h1]; rfl
      simp only [if_true]
      rw [kept_succ, kept_app _ _ _ _ (by omega), h2, e0, h _ _ a1 a2 hc]
/-- A slice that grows: nothing yet, or block b. -/
def outVn (b i len cap : Nat) : SV := match i with
  | 0 => .nils
  | _ + 1 => .slice b 0 len cap
def outHn (b i : Nat) (L : List Int) (e : Nat) (base : Heap) : Heap := match i with
  | 0 => base
  | _ + 1 => (b, .ints L e) :: base
theorem outVn_zero (b len cap : Nat) : outVn b 0 len cap = .nils := rfl
theorem outVn_succ (b i len cap : Nat) : outVn b (i + 1) len cap = .slice b 0 len cap := rfl
theorem outHn_zero (b : Nat) (L : List Int) (e : Nat) (base : Heap) : outHn b 0 L e base = base := rfl
theorem outHn_succ (b i : Nat) (L : List Int) (e : Nat) (base : Heap) : outHn b (i + 1) L e base = (b, .ints L e) :: base := rfl
theorem hget_outHn (b n : Nat) (L : List Int) (e : Nat) (base : Heap) (k : Nat) : hget (outHn b n L e base) k = if k = b then (if n = 0 then hget base k else some (.ints L e)) else hget base k := by
  cases n with
  | zero => rw [outHn_zero]; simp
  | succ n => rw [outHn_succ, hget_cons]; simp
theorem known_outVn (b n l c : Nat) : (outVn b n l c).known = true := by cases n <;> rfl
theorem GL_pair (c : Nat → Nat → Bool) : ∀ m, m ≤ 36 → ∀ i, i * 2 + 2 ≤ (GL c m).length → ∃ a b : Nat, a < 6 ∧ b < 6 ∧ c a b = true ∧ ((GL c m).drop (i * 2)).take 2 = [(a : Int), (b : Int)]
  | 0, _, i, h => by simp [GL_zero] at h
  | m + 1, hm, i, h => by
    obtain ⟨n, hn, _⟩ := GL_even c m
    rw [GL_succ, List.length_append, hn] at h
    by_cases hi : i * 2 + 2 ≤ n * 2
    · obtain ⟨a, b, h1, h2, h3, h4⟩ := GL_pair c m (by omega) i (by omega)
      refine ⟨a, b, h1, h2, h3, ?_⟩
      rw [GL_succ, List.drop_append_of_le_length (by omega), List.take_append_of_le_length (by rw [List.length_drop]; omega)]
      exact h4
    · unfold prG at h
      split at h
      · rename_i hc
        simp at h
        have : i = n := by omega
        subst this
        refine ⟨m / 6, m % 6, by omega, by omega, hc, ?_⟩
        rw [GL_succ, List.drop_left' hn]
        unfold prG
        rw [if_pos hc]; rfl
      · simp at h; omega
end Go.Proofs.Ytopfnkmlgcjpbaa
/- Plain: what a pour keeps. -/
set_option maxRecDepth 100000
set_option linter.unusedSimpArgs false
set_option linter.unusedVariables false
namespace Go.Proofs.Ytopfnkmlgcjpbaa
open Go Go.RowKit
/-- Is a pair among these? -/
def inP (L : List Int) (m : Nat) (p : List Int) : Bool := (List.range m).any fun i => decide ((L.drop (i * 2)).take 2 = p)
theorem inP_zero (L p : List Int) : inP L 0 p = false := rfl
theorem inP_of {L p : List Int} {m i : Nat} (hi : i < m) (h : (L.drop (i * 2)).take 2 = p) : inP L m p = true := List.any_eq_true.2 ⟨i, List.mem_range.2 hi, by simp [h]⟩
theorem inP_not {L p : List Int} {m : Nat} (h : ∀ i, i < m → (L.drop (i * 2)).take 2 ≠ p) : inP L m p = false := List.any_eq_false.2 fun i hi => by simpa using h i (List.mem_range.1 hi)
theorem ulF_nil {R : List Int} (h : PL R 36 = []) : ulF R = [] := by
  unfold ulF
  rw [h]; rfl
theorem part_ok {R : List Int} (_ : rackB R = true) {np nu : Nat} (hnp : (PL R 36).length = np * 2) (hnu : (ulF R).length = nu * 2) (j1 j3 : List Int) : ∀ i, i < nu → inP (PL R 36 ++ j1) np (((ulF R ++ j3).drop (i * 2)).take 2) = true := by
  intro i hi
  have e : (PL R 36).length / 2 = np := by omega
  obtain ⟨j, g1, g2, _⟩ := kept_pair (np := fun p => !idleF R p) (L := PL R 36) np (by omega) i (by
    have : (kept (fun p => !idleF R p) (PL R 36) np).length = nu * 2 := by rw [← hnu]; unfold ulF; rw [e]
    omega)
  have g2' : ((ulF R).drop (i * 2)).take 2 = ((PL R 36).drop (j * 2)).take 2 := by unfold ulF; rw [e]; exact g2
  refine inP_of g1 ?_
  rw [List.drop_append_of_le_length (by omega), List.take_append_of_le_length (by rw [List.length_drop]; omega), List.drop_append_of_le_length (by omega), List.take_append_of_le_length (by rw [List.length_drop]; omega), g2']
theorem PL_pre (R : List Int) (m : Nat) : ∀ k, ∃ r, PL R (m + k) = PL R m ++ r
  | 0 => ⟨[], by simp⟩
  | k + 1 => by
    obtain ⟨r, h⟩ := PL_pre R m k
    exact ⟨r ++ prK R (m + k), by rw [show m + (k + 1) = m + k + 1 by omega, PL_succ, h, List.append_assoc]⟩
theorem pl_of {R : List Int} {x y : Int} (h : cpO R x y = true) : rackB R = true ∧ (0 ≤ x ∧ x ≤ 5) ∧ (0 ≤ y ∧ y ≤ 5) ∧ x ≠ y := by
  unfold cpO at h
  simp only [Bool.and_eq_true, Bool.not_eq_true', decide_eq_false_iff_not] at h
  exact ⟨h.1.1.1, pl_bd h.1.1.2, pl_bd h.1.2, h.2⟩
theorem in_ok {R : List Int} {x y : Int} (h : cpO R x y = true) {np : Nat} (hnp : (PL R 36).length = np * 2) : ∀ j : List Int, inP (PL R 36 ++ j) np [x, y] = canF R x y := by
  intro j
  obtain ⟨_, hx, hy, hxy⟩ := pl_of h
  obtain ⟨a, rfl⟩ : ∃ a : Nat, x = a := ⟨x.toNat, by omega⟩
  obtain ⟨b, rfl⟩ : ∃ b : Nat, y = b := ⟨y.toNat, by omega⟩
  have cut : ∀ i, i < np → ((PL R 36 ++ j).drop (i * 2)).take 2 = ((PL R 36).drop (i * 2)).take 2 := fun i hi => by
    rw [List.drop_append_of_le_length (by omega), List.take_append_of_le_length (by rw [List.length_drop]; omega)]
  cases hc : canF R a b
  · refine inP_not fun i hi he => ?_
    rw [cut i hi] at he
    obtain ⟨p, q, h1, h2, h3, h4⟩ := GL_pair (fun i j => canF R i j) 36 (Nat.le_refl _) i (by rw [← PL_GL]; omega)
    rw [← PL_GL, he] at h4
    simp only [List.cons.injEq, and_true] at h4
    have : canF R a b = true := by rw [h4.1, h4.2]; exact h3
    rw [hc] at this; cases this
  · obtain ⟨n, hn, _⟩ := PL_even R (a * 6 + b)
    have e1 := PL_at R a b (by omega)
    rw [if_pos hc] at e1
    obtain ⟨r, hr⟩ := PL_pre R (a * 6 + b + 1) (36 - (a * 6 + b + 1))
    rw [show a * 6 + b + 1 + (36 - (a * 6 + b + 1)) = 36 by omega, e1] at hr
    have hl : n < np := by
      have := congrArg List.length hr
      rw [List.length_append, List.length_append, hn, hnp] at this
      simp at this; omega
    refine inP_of hl ?_
    rw [cut n hl, hr, List.append_assoc, List.drop_left' hn]; rfl
theorem can_top {R : List Int} (hR : R.length = 24) {x y : Int} (ho : cpO R x y = true) (hc : canF R x y = true) : tpO R x = true := by
  obtain ⟨hr, hx, hy, _⟩ := pl_of ho
  have := (can_facts hR hr hx hy hc).2.1
  unfold cpO at ho
  simp only [Bool.and_eq_true] at ho
  unfold tpO
  rw [ho.1.1.1, ho.1.1.2]
  have e : decide (layN (tubeAt R x.toNat) = 0) = false := decide_eq_false (by omega)
  rw [e]; rfl
/-! A pour exchanges cells. -/
theorem cnt_swap (L : List Int) (p q : Nat) (hp : p < L.length) (hq : q < L.length) (hpq : p ≠ q) (c : Int) (h1 : L.getD p 0 = c) (h2 : L.getD q 0 = 0) : ((L.set p 0).set q c).Perm L := by
  rw [List.perm_iff_count]
  intro a
  rw [List.getD_eq_getElem?_getD, List.getElem?_eq_getElem hp] at h1
  rw [List.getD_eq_getElem?_getD, List.getElem?_eq_getElem hq] at h2
  simp only [Option.getD_some] at h1 h2
  have hq' : q < (L.set p 0).length := by rw [List.length_set]; exact hq
  rw [List.count_set hq', List.count_set hp, List.getElem_set_ne hpq, h1, h2]
  have g1 : 0 < L.count c := List.count_pos_iff.2 (h1 ▸ List.getElem_mem hp)
  have g2 : 0 < L.count 0 := List.count_pos_iff.2 (h2 ▸ List.getElem_mem hq)
  by_cases ha : c = a
  · subst ha
    by_cases h0 : (0 : Int) = c
    · subst h0; simp; omega
    · simp [h0]; omega
  · by_cases h0 : (0 : Int) = a
    · subst h0; simp [ha]
    · simp [ha, h0]
theorem incr_comm (L : List Int) (a b : Nat) : incr (incr L a) b = incr (incr L b) a := by
  apply List.ext_getElem (by simp [incr])
  intro k h1 h2
  simp only [incr, List.length_set] at h1
  simp only [incr, List.getElem_set, List.getD_eq_getElem?_getD, List.getElem?_set]
  by_cases hab : a = b
  · subst hab; rfl
  · by_cases hak : a = k
    · subst hak
      by_cases hbk : b = a
      · exact absurd hbk.symm hab
      · simp [hbk, Ne.symm hbk, h1]
    · by_cases hbk : b = k
      · subst hbk; simp [hab, h1]
      · simp [hak, hbk]
theorem cntL_perm {L M : List Int} (h : L.Perm M) : cntL L = cntL M := by
  unfold cntL
  refine List.Perm.foldl_eq' h (fun x _ y _ z => incr_comm _ _ _) _
theorem pm_perm {R : List Int} (hR : R.length = 24) (hr : rackB R = true) {i j : Nat} (hi : i < 6) (hj : j < 6) (hij : i ≠ j) {r : Nat} (hrun : isRun (tubeAt R i) (layN (tubeAt R i)) r) (ht : (topF (tubeAt R i)).1 = (tubeAt R i).getD (layN (tubeAt R i) - 1) 0) :
    ∀ m, m ≤ r → m + layN (tubeAt R j) ≤ 4 → (pmR R i j m).Perm R
  | 0, _, _ => List.Perm.refl _
  | m + 1, hm, hm2 => by
    have ih := pm_perm hR hr hi hj hij hrun ht m (by omega) (by omega)
    have li := lay_le _ (tubeAt_len hR hi)
    have hr1 := hrun.2.1
    have cell := pmR_cell hR hi hj hij m (by omega) (by omega)
    have hP : (pmR R i j m).length = 24 := by rw [pmR_len, hR]
    have cj := tube_cells (tubeAt_len hR hj) (tubeAt_ok hr hj)
    refine List.Perm.trans (cnt_swap (pmR R i j m) _ _ (by omega) (by omega) (by omega) _ ?_ ?_) ih
    · rw [cell i _ hi (by omega), if_neg (by omega), if_neg (by omega), ← tubeAt_getD _ _ _ (by omega), show layN (tubeAt R i) - 1 - m = layN (tubeAt R i) - 1 - m by rfl, hrun.2.2.1 m (by omega), ht]
    · rw [cell j _ hj (by omega), if_neg (by omega), if_neg (by omega), ← tubeAt_getD _ _ _ (by omega)]
      exact cj.2 _ (by omega)
theorem pour_facts {R : List Int} (hR : R.length = 24) (hr : rackB R = true) {x y : Int} (ho : cpO R x y = true) (hc : canF R x y = true) : rackB (pourT R x y) = true ∧ cntL (pourT R x y) = cntL R ∧ 1 ≤ pourM R x y ∧ pourM R x y ≤ (topF (tubeAt R x.toNat)).2 ∧ (¬ pourM R x y < (topF (tubeAt R x.toNat)).2 → canF (pourT R x y) y x = decide (loF (pourT R x y) x = 0)) := by
  obtain ⟨_, hx, hy, hxy⟩ := pl_of ho
  obtain ⟨g1, g2, g3, g4, g5, g6, g7⟩ := can_facts hR hr hx hy hc
  have hi : x.toNat < 6 := by omega
  have hj : y.toNat < 6 := by omega
  have hij : x.toNat ≠ y.toNat := by omega
  have ho' := ho
  unfold cpO at ho'
  simp only [Bool.and_eq_true] at ho'
  have hp : pourB R x y = true := by unfold pourB; rw [ho'.1.1.1, ho'.1.1.2, ho'.1.2, hc]; rfl
  have eT : pourT R x y = pourF R x.toNat y.toNat := by unfold pourT; rw [if_pos hp]
  have eM : pourM R x y = pmN R x.toNat y.toNat := by unfold pourM; rw [if_pos hp]
  have li := tubeAt_len hR hi
  have lj := tubeAt_len hR hj
  obtain ⟨r, e1, e2⟩ := topF_run _ li g2
  have hrN := pour_rack hR hr hx hy hc
  have et1 : (topF (tubeAt R x.toNat)).1 = (tubeAt R x.toNat).getD (layN (tubeAt R x.toNat) - 1) 0 := by rw [e1]
  have et2 : (topF (tubeAt R x.toNat)).2 = (r : Int) := by rw [e1]
  have hmr : pmN R x.toNat y.toNat ≤ (r : Int) := by unfold pmN; rw [et2]; omega
  obtain ⟨M, hM⟩ : ∃ M : Nat, pmN R x.toNat y.toNat = M := ⟨(pmN R x.toNat y.toNat).toNat, by omega⟩
  have eM' : (pmN R x.toNat y.toNat).toNat = M := by omega
  rw [eT, eM, et2]
  refine ⟨hrN, cntL_perm ?_, by omega, hmr, fun hnlt => ?_⟩
  · unfold pourF
    rw [eM']
    exact pm_perm hR hr hi hj hij e2 et1 M (by omega) (by omega)
  · have hMr : M = r := by omega
    have hMi : M ≤ layN (tubeAt R x.toNat) := by omega
    have hMj : M + layN (tubeAt R y.toNat) ≤ 4 := by omega
    obtain ⟨⟨p1, p2⟩, ⟨p3, p4⟩, _⟩ := pm_facts hR hr hi hj hij hMi hMj
    have cell := pmR_cell hR hi hj hij M hMi hMj
    have eN : pourF R x.toNat y.toNat = pmR R x.toNat y.toNat M := by unfold pourF; rw [eM']
    rw [eN] at hrN ⊢
    have hN : (pmR R x.toNat y.toNat M).length = 24 := by rw [pmR_len, hR]
    have nli := tubeAt_len hN hi
    have nlj := tubeAt_len hN hj
    have lo : loF (pmR R x.toNat y.toNat M) x = (layN (tubeAt (pmR R x.toNat y.toNat M) x.toNat) : Int) := by
      unfold loF
      rw [hrN, ho'.1.1.2]; rfl
    have hlayi := lay_le _ li
    obtain ⟨s, f1, f2⟩ := topF_run _ nlj (by omega)
    have tc : (topF (tubeAt (pmR R x.toNat y.toNat M) y.toNat)).1 = (topF (tubeAt R x.toNat)).1 := by
      rw [f1, p4, tubeAt_getD _ _ _ (by omega), cell y.toNat _ hj (by omega), if_neg (by omega), if_pos (by omega)]
    have tpos := (top_co li (tubeAt_ok hr hi) g2).1
    unfold canF
    rw [tc, lo, p2]
    have d1 : decide (y = x) = false := decide_eq_false (fun e => hxy e.symm)
    have d2 : decide (0 < (topF (tubeAt R x.toNat)).1) = true := decide_eq_true (by omega)
    have d3 : decide (((layN (tubeAt R x.toNat) - M : Nat) : Int) < 4) = true := decide_eq_true (by omega)
    rw [d1, d2, d3]
    by_cases h0 : layN (tubeAt R x.toNat) - M = 0
    · have t0 : (topF (tubeAt (pmR R x.toNat y.toNat M) x.toNat)).1 = 0 := by
        have hl0 : layN (tubeAt (pmR R x.toNat y.toNat M) x.toNat) = 0 := by rw [p2]; exact h0
        have : topF (tubeAt (pmR R x.toNat y.toNat M) x.toNat) = (0, 0) := by simp [topF, runsL, hl0]
        rw [this]
      rw [t0, h0]; simp
    · obtain ⟨s2, k1, k2⟩ := topF_run _ nli (by omega)
      have tx : (topF (tubeAt (pmR R x.toNat y.toNat M) x.toNat)).1 = (tubeAt R x.toNat).getD (layN (tubeAt R x.toNat) - M - 1) 0 := by
        rw [k1, p2, tubeAt_getD _ _ _ (by omega), cell x.toNat _ hi (by omega), if_neg (by omega), if_neg (by omega), ← tubeAt_getD _ _ _ (by omega)]
      have hne : ¬ (tubeAt R x.toNat).getD (layN (tubeAt R x.toNat) - M - 1) 0 = (topF (tubeAt R x.toNat)).1 := by
        rw [et1]
        rcases e2.2.2.2 with h | h
        · omega
        · rw [← hMr, show layN (tubeAt R x.toNat) - 1 - M = layN (tubeAt R x.toNat) - M - 1 by omega] at h
          exact h
      have hpos := ((tube_cells li (tubeAt_ok hr hi)).1 (layN (tubeAt R x.toNat) - M - 1) (by omega)).1
      rw [tx]
      have d4 : decide ((tubeAt R x.toNat).getD (layN (tubeAt R x.toNat) - M - 1) 0 = 0) = false := decide_eq_false (by omega)
      have d5 : decide ((tubeAt R x.toNat).getD (layN (tubeAt R x.toNat) - M - 1) 0 = (topF (tubeAt R x.toNat)).1) = false := decide_eq_false hne
      have d6 : decide (((layN (tubeAt R x.toNat) - M : Nat) : Int) = 0) = false := decide_eq_false (by omega)
      rw [d4, d5, d6]; rfl
/-! Sorted racks. -/
theorem srt_facts {R : List Int} : ∀ (k : Nat) (s : List Int), srtF R k = some s → (∀ i, i < k → rcN R i = 0 ∨ (rcN R i = 1 ∧ rcC R i ∈ s)) ∧ (∀ i j, i < j → j < k → rcN R i = 1 → rcN R j = 1 → rcC R i ≠ rcC R j)
  | 0, s, h => ⟨fun i hi => absurd hi (by omega), fun i j _ hj => absurd hj (by omega)⟩
  | k + 1, s, h => by
    cases hk : srtF R k with
    | none => simp [srtF, hk] at h
    | some s' =>
      obtain ⟨h1, h2⟩ := srt_facts k s' hk
      rw [srt_step hk] at h
      by_cases h0 : rcN R k = 0
      · rw [if_pos h0] at h
        cases h
        refine ⟨fun i hi => ?_, fun i j hij hj hi1 hj1 => ?_⟩
        · by_cases hik : i = k
          · subst hik; exact .inl h0
          · exact h1 i (by omega)
        · by_cases hjk : j = k
          · subst hjk; omega
          · exact h2 i j hij (by omega) hi1 hj1
      · rw [if_neg h0] at h
        by_cases h3 : 1 < rcN R k ∨ rcC R k ∈ s'
        · rw [if_pos h3] at h; cases h
        · rw [if_neg h3] at h
          cases h
          have h4 : ¬ 1 < rcN R k := fun h => h3 (.inl h)
          have h5 : rcC R k ∉ s' := fun h => h3 (.inr h)
          refine ⟨fun i hi => ?_, fun i j hij hj hi1 hj1 => ?_⟩
          · by_cases hik : i = k
            · subst hik
              exact .inr ⟨by omega, List.mem_append_right _ (List.mem_singleton.2 rfl)⟩
            · rcases h1 i (by omega) with h | h
              · exact .inl h
              · exact .inr ⟨h.1, List.mem_append_left _ h.2⟩
          · by_cases hjk : j = k
            · subst hjk
              intro he
              rcases h1 i hij with h | h
              · omega
              · exact h5 (he ▸ h.2)
            · exact h2 i j hij (by omega) hi1 hj1
theorem kept_none {np : List Int → Bool} {L : List Int} : ∀ k, (∀ i, i < k → np ((L.drop (i * 2)).take 2) = false) → kept np L k = []
  | 0, _ => rfl
  | k + 1, h => by
    rw [kept_succ, kept_none k fun i hi => h i (by omega), if_neg (by rw [h k (by omega)]; simp)]; rfl
theorem sort_ul {R : List Int} (hR : R.length = 24) (hr : rackB R = true) (h : sortB R = true) : ulF R = [] := by
  unfold sortB at h
  obtain ⟨s, hs⟩ := Option.isSome_iff_exists.1 h
  obtain ⟨h1, h2⟩ := srt_facts 6 s hs
  obtain ⟨np, hnp, _⟩ := PL_even R 36
  unfold ulF
  rw [show (PL R 36).length / 2 = np by omega]
  refine kept_none np fun i hi => ?_
  obtain ⟨a, b, ha, hb, hc, he⟩ := GL_pair (fun i j => canF R i j) 36 (Nat.le_refl _) i (by rw [← PL_GL]; omega)
  rw [← PL_GL] at he
  rw [he]
  have hc : canF R (a : Int) (b : Int) = true := hc
  have la := tubeAt_len hR ha
  have lb := tubeAt_len hR hb
  simp only [canF, Int.toNat_natCast, Bool.and_eq_true, Bool.not_eq_true', decide_eq_false_iff_not, decide_eq_true_eq, Bool.or_eq_true] at hc
  obtain ⟨⟨⟨c1, c2⟩, c3⟩, c4⟩ := hc
  have hlay : ∀ k, k < 6 → 0 < layN (tubeAt R k) → rcN R k = 1 ∧ (topF (tubeAt R k)).1 = rcC R k := fun k hk h0 => by
    obtain ⟨n, g1, _, g2⟩ := runsL_even _ (tubeAt_len hR hk)
    have g3 := g2 h0
    have e1 : rcN R k = n := by unfold rcN; omega
    have e2 : rcN R k = 1 := by
      rcases h1 k hk with h | h
      · omega
      · exact h.1
    refine ⟨e2, ?_⟩
    have g4 : (runsL (tubeAt R k)).length = 2 := by omega
    have g5 : runsL (tubeAt R k) ≠ [] := fun h => by rw [h] at g4; simp at g4
    unfold topF rcC
    rw [if_neg g5, g4]
  have la0 : 0 < layN (tubeAt R a) := (top_pos _ la (tubeAt_ok hr ha)).1.1 c2
  obtain ⟨a1, a2⟩ := hlay a ha la0
  have lb0 : layN (tubeAt R b) = 0 := by
    rcases Nat.eq_zero_or_pos (layN (tubeAt R b)) with h | h
    · exact h
    · obtain ⟨b1, b2⟩ := hlay b hb h
      have bp := (top_co lb (tubeAt_ok hr hb) h).1
      have hab : a ≠ b := fun e => c1 (by rw [e])
      have heq : rcC R a = rcC R b := by
        rcases c4 with c4 | c4
        · omega
        · rw [← a2, ← b2, c4]
      rcases Nat.lt_or_gt_of_ne hab with hlt | hlt
      · exact absurd heq (h2 a b hlt hb a1 b1)
      · exact absurd heq.symm (h2 b a hlt ha b1 a1)
  have ia : (runsL (tubeAt R a)).length / 2 = 1 := a1
  simp [idleF, ia, lb0]
end Go.Proofs.Ytopfnkmlgcjpbaa
/- Plain: bounds. -/
set_option maxRecDepth 100000
set_option linter.unusedSimpArgs false
set_option linter.unusedVariables false
namespace Go.Proofs.Ytopfnkmlgcjpbaa
open Go Go.RowKit
theorem incr_getD0 (L : List Int) (j : Nat) (hL : 0 < L.length) : (incr L j).getD 0 0 = L.getD 0 0 + if j = 0 then 1 else 0 := by
  unfold incr
  by_cases hj : j = 0
  · subst hj
    rw [getD_set_self _ _ _ hL]; simp
  · rw [if_neg hj, Int.add_zero]
    simp only [List.getD_eq_getElem?_getD, List.getElem?_set]
    rw [if_neg hj]
theorem edges_eq {R : List Int} (hR : R.length = 24) (hr : rackB R = true) : ∀ k, k ≤ 6 → sumT cbN R k = sumT crN R k - k + (cntL ((botL R).take k)).getD 0 0
  | 0, _ => by simp [sumT, cntL]
  | k + 1, hk => by
    have ih := edges_eq hR hr k (by omega)
    have hl := tubeAt_len hR (show k < 6 by omega)
    have hb := tubeAt_ok hr (show k < 6 by omega)
    have tc := tube_cells hl hb
    have e0 : (botL R).getD k 0 = (tubeAt R k).getD 0 0 := by rw [botL_getD _ _ (by omega), tubeAt_getD _ _ _ (by omega)]; rfl
    rw [sumT_succ, sumT_succ, ih, cntL_take_succ _ _ (by rw [botL_len]; omega), incr_getD0 _ _ (by rw [cntL_len]; omega), e0]
    have hbd := crN_bd _ hl
    obtain ⟨n, n1, n2, n3⟩ := runsL_even _ hl
    have en : crN (tubeAt R k) = n := by unfold crN; rw [n1]; omega
    rcases Nat.eq_zero_or_pos (layN (tubeAt R k)) with h0 | h0
    · have z := tc.2 0 (by omega)
      have hn : crN (tubeAt R k) = 0 := by simp [crN, runsL, h0]
      rw [z]
      unfold cbN
      rw [hn]
      simp
      omega
    · have z := (tc.1 0 h0).1
      have hn := n3 h0
      have hz : ¬ ((tubeAt R k).getD 0 0).toNat = 0 := by omega
      rw [if_neg hz]
      unfold cbN
      omega
theorem bnd_edges {R : List Int} (hR : R.length = 24) : sumT cbN R 6 ≤ bndF R := by
  have h2 := besF_bd _ 6 (by omega) (bots_bd R)
  unfold bndF
  omega
def sum6 (L : List Int) : Int := L.getD 0 0 + L.getD 1 0 + L.getD 2 0 + L.getD 3 0 + L.getD 4 0 + L.getD 5 0
theorem sum6_incr (L : List Int) (hL : L.length = 6) {j : Nat} (hj : j < 6) : sum6 (incr L j) = sum6 L + 1 := by
  have g : ∀ k, k < 6 → (incr L j).getD k 0 = L.getD k 0 + if j = k then 1 else 0 := fun k hk => by
    unfold incr
    by_cases hjk : j = k
    · subst hjk
      rw [getD_set_self _ _ _ (by omega)]; simp
    · rw [if_neg hjk, Int.add_zero]
      simp only [List.getD_eq_getElem?_getD, List.getElem?_set]
      rw [if_neg hjk]
  unfold sum6
  rw [g 0 (by omega), g 1 (by omega), g 2 (by omega), g 3 (by omega), g 4 (by omega), g 5 (by omega)]
  match j, hj with
  | 0, _ => simp; omega
  | 1, _ => simp; omega
  | 2, _ => simp; omega
  | 3, _ => simp; omega
  | 4, _ => simp; omega
  | 5, _ => simp; omega
theorem bots_sum {R : List Int} (hR : R.length = 24) (hr : rackB R = true) : ∀ k, k ≤ 6 → sum6 (cntL ((botL R).take k)) = k
  | 0, _ => by simp [sum6, cntL]
  | k + 1, hk => by
    have ih := bots_sum hR hr k (by omega)
    have rc := rack_cell hR hr (k := k * 4) (by omega)
    rw [cntL_take_succ _ _ (by rw [botL_len]; omega), sum6_incr _ (cntL_len _) (by rw [botL_getD _ _ (by omega)]; omega), ih]
    omega
theorem incr_getD (L : List Int) (j k : Nat) (hj : j < L.length) : (incr L j).getD k 0 = L.getD k 0 + if j = k then 1 else 0 := by
  unfold incr
  by_cases hjk : j = k
  · subst hjk
    rw [getD_set_self _ _ _ hj]; simp
  · rw [if_neg hjk, Int.add_zero]
    simp only [List.getD_eq_getElem?_getD, List.getElem?_set]
    rw [if_neg hjk]
theorem bot_step {R : List Int} (hR : R.length = 24) (hr : rackB R = true) {k : Nat} (hk : k < 6) (c : Nat) : (cntL ((botL R).take (k + 1))).getD c 0 = (cntL ((botL R).take k)).getD c 0 + if ((tubeAt R k).getD 0 0).toNat = c then 1 else 0 := by
  have rc := rack_cell hR hr (k := k * 4) (by omega)
  have e0 : (botL R).getD k 0 = (tubeAt R k).getD 0 0 := by rw [botL_getD _ _ hk, tubeAt_getD _ _ _ (by omega)]; rfl
  have e1 : (botL R).getD k 0 = R.getD (k * 4) 0 := botL_getD _ _ hk
  rw [cntL_take_succ _ _ (by rw [botL_len]; omega), incr_getD _ _ _ (by rw [cntL_len, e1]; omega), e0]
theorem bot_mono {R : List Int} (hR : R.length = 24) (hr : rackB R = true) (c : Nat) : ∀ k d, k + d ≤ 6 → (cntL ((botL R).take k)).getD c 0 ≤ (cntL ((botL R).take (k + d))).getD c 0
  | k, 0, _ => Int.le_refl _
  | k, d + 1, h => by
    have := bot_mono hR hr c k d (by omega)
    rw [show k + (d + 1) = k + d + 1 by omega, bot_step hR hr (by omega)]
    split <;> omega
/-- While a rack is sorted, a color is at the bottom once if it was seen, else never. -/
theorem srt_bots {R : List Int} (hR : R.length = 24) (hr : rackB R = true) : ∀ (k : Nat) (s : List Int), k ≤ 6 → srtF R k = some s → ∀ c : Nat, 1 ≤ c → (cntL ((botL R).take k)).getD c 0 = if (c : Int) ∈ s then 1 else 0
  | 0, s, _, h, c, hc => by
    cases h
    have z : (List.replicate 6 (0 : Int)).getD c 0 = 0 := by
      rw [List.getD_eq_getElem?_getD, List.getElem?_replicate]
      split <;> rfl
    rw [List.take_zero, cntL_nil, z]
    simp
  | k + 1, s, hk, h, c, hc => by
    have hl := tubeAt_len hR (show k < 6 by omega)
    have hb := tubeAt_ok hr (show k < 6 by omega)
    have rb := runs_bottom _ hl hb
    cases hq : srtF R k with
    | none => simp [srtF, hq] at h
    | some s' =>
      have ih := srt_bots hR hr k s' (by omega) hq c hc
      rw [srt_step hq] at h
      rw [bot_step hR hr (by omega), ih]
      by_cases h0 : rcN R k = 0
      · rw [if_pos h0] at h
        cases h
        have hl0 : layN (tubeAt R k) = 0 := by
          rcases Nat.eq_zero_or_pos (layN (tubeAt R k)) with q | q
          · exact q
          · have := rb.1.1 q; unfold crN at this; unfold rcN at h0; omega
        rw [rb.2.2 hl0]
        simp
        omega
      · rw [if_neg h0] at h
        have hl0 : 0 < layN (tubeAt R k) := rb.1.2 (by unfold crN; unfold rcN at h0; omega)
        have hc0 : rcC R k = (tubeAt R k).getD 0 0 := runs_head _ hl hl0
        have hp := ((tube_cells hl hb).1 0 hl0)
        by_cases h3 : 1 < rcN R k ∨ rcC R k ∈ s'
        · rw [if_pos h3] at h; cases h
        · rw [if_neg h3] at h
          cases h
          have h5 : rcC R k ∉ s' := fun h => h3 (.inr h)
          rw [← hc0]
          have hcc : (rcC R k).toNat = c ↔ (c : Int) = rcC R k := by omega
          by_cases he : (c : Int) = rcC R k
          · rw [if_pos (hcc.2 he), he, if_neg h5]
            simp
          · rw [if_neg (fun q => he (hcc.1 q))]
            simp [he]
theorem bes_nn : ∀ l : List Int, 0 ≤ besF l
  | [] => by simp [besF]
  | x :: l => by
    have e : besF (x :: l) = max (x - 1) 0 + besF l := by simp [besF]
    have := bes_nn l
    omega
theorem bes_zero : ∀ l : List Int, besF l = 0 ↔ ∀ x ∈ l, x ≤ 1
  | [] => by simp [besF]
  | x :: l => by
    have e : besF (x :: l) = max (x - 1) 0 + besF l := by simp [besF]
    have h0 := bes_nn l
    have ih := bes_zero l
    constructor
    · intro h y hy
      have h1 : besF l = 0 := by omega
      rcases List.mem_cons.1 hy with rfl | hy
      · omega
      · exact ih.1 h1 y hy
    · intro h
      have h1 := ih.2 fun y hy => h y (List.mem_cons_of_mem _ hy)
      have h2 := h x (List.mem_cons_self ..)
      omega
theorem cb_zero {R : List Int} (hR : R.length = 24) : ∀ k, k ≤ 6 → (sumT cbN R k = 0 ↔ ∀ i, i < k → rcN R i ≤ 1)
  | 0, _ => by simp [sumT]
  | k + 1, hk => by
    have ih := cb_zero hR k (by omega)
    have b1 := sumT_bd hR cbN_bd k (by omega)
    have b2 := cbN_bd _ (tubeAt_len hR (show k < 6 by omega))
    have e : cbN (tubeAt R k) = max ((rcN R k : Int) - 1) 0 := rfl
    rw [sumT_succ]
    constructor
    · intro h i hi
      by_cases hik : i = k
      · subst hik; omega
      · exact ih.1 (by omega) i (by omega)
    · intro h
      have h1 := ih.2 fun i hi => h i (by omega)
      have h2 := h k (by omega)
      omega
theorem bots_mem {R : List Int} {x : Int} (h : x ∈ (cntL (botL R)).drop 1) : ∃ c : Nat, 1 ≤ c ∧ c < 6 ∧ (cntL (botL R)).getD c 0 = x := by
  obtain ⟨i, hi, rfl⟩ := List.getElem_of_mem h
  rw [List.length_drop, cntL_len] at hi
  refine ⟨1 + i, by omega, by omega, ?_⟩
  rw [List.getElem_drop, List.getD_eq_getElem?_getD, List.getElem?_eq_getElem (by rw [cntL_len]; omega)]; rfl
/-- A rack is sorted exactly if its bound is 0. -/
theorem sorted_bound {R : List Int} (hR : R.length = 24) (hr : rackB R = true) : sortB R = decide (bndF R = 0) := by
  have tk6 : (botL R).take 6 = botL R := List.take_of_length_le (by rw [botL_len]; omega)
  have b1 := sumT_bd hR cbN_bd 6 (by omega)
  have b2 := bes_nn ((cntL (botL R)).drop 1)
  cases hs : srtF R 6 with
  | some s =>
    have e1 : sortB R = true := by unfold sortB; rw [hs]; rfl
    obtain ⟨g1, _⟩ := srt_facts 6 s hs
    have h1 := (cb_zero hR 6 (Nat.le_refl _)).2 fun i hi => by
      rcases g1 i hi with h | h <;> omega
    have h2 := (bes_zero ((cntL (botL R)).drop 1)).2 fun x hx => by
      obtain ⟨c, c1, c2, rfl⟩ := bots_mem hx
      have := srt_bots hR hr 6 s (Nat.le_refl _) hs c c1
      rw [tk6] at this
      rw [this]; split <;> omega
    rw [e1]
    exact (decide_eq_true (by unfold bndF; omega)).symm
  | none =>
    have e1 : sortB R = false := by unfold sortB; rw [hs]; rfl
    rw [e1]
    refine (decide_eq_false fun hb => ?_).symm
    have h1 := (cb_zero hR 6 (Nat.le_refl _)).1 (by unfold bndF at hb; omega)
    have h2 := (bes_zero ((cntL (botL R)).drop 1)).1 (by unfold bndF at hb; omega)
    have all : ∀ k, k ≤ 6 → ∃ s, srtF R k = some s := by
      intro k
      induction k with
      | zero => exact fun _ => ⟨[], rfl⟩
      | succ k ih =>
        intro hk
        obtain ⟨s, hq⟩ := ih (by omega)
        rw [srt_step hq]
        by_cases h0 : rcN R k = 0
        · rw [if_pos h0]; exact ⟨s, rfl⟩
        · rw [if_neg h0]
          have hl := tubeAt_len hR (show k < 6 by omega)
          have hbk := tubeAt_ok hr (show k < 6 by omega)
          have rb := runs_bottom _ hl hbk
          have hl0 : 0 < layN (tubeAt R k) := rb.1.2 (by unfold crN; unfold rcN at h0; omega)
          have hc0 : rcC R k = (tubeAt R k).getD 0 0 := runs_head _ hl hl0
          have hp := (tube_cells hl hbk).1 0 hl0
          have h3 : ¬ (1 < rcN R k ∨ rcC R k ∈ s) := by
            rintro (h | h)
            · have := h1 k (by omega); omega
            · obtain ⟨c, hc⟩ : ∃ c : Nat, rcC R k = c := ⟨(rcC R k).toNat, by omega⟩
              have q1 := srt_bots hR hr k s (by omega) hq c (by omega)
              rw [if_pos (hc ▸ h)] at q1
              have q2 := bot_step hR hr (show k < 6 by omega) c
              rw [if_pos (by omega), q1] at q2
              have q3 := bot_mono hR hr c (k + 1) (6 - (k + 1)) (by omega)
              rw [show k + 1 + (6 - (k + 1)) = 6 by omega, tk6, q2] at q3
              have q4 := h2 ((cntL (botL R)).getD c 0) (by
                rw [List.getD_eq_getElem?_getD, List.getElem?_eq_getElem (show c < (cntL (botL R)).length by rw [cntL_len]; omega)]
                refine List.mem_iff_getElem.2 ⟨c - 1, by rw [List.length_drop, cntL_len]; omega, ?_⟩
                rw [List.getElem_drop]
                simp only [show 1 + (c - 1) = c by omega]; rfl)
              omega
          rw [if_neg h3]
          exact ⟨_, rfl⟩
    obtain ⟨s, h⟩ := all 6 (Nat.le_refl _)
    rw [hs] at h; cases h
end Go.Proofs.Ytopfnkmlgcjpbaa
/- Walks: what the law of bounds asks for. -/
set_option maxRecDepth 100000
set_option linter.unusedSimpArgs false
set_option linter.unusedVariables false
namespace Go.Proofs.Ytopfnkmlgcjpbaa
open Go Go.RowKit
def boF (R : List Int) : Int := if rackB R = true then bndF R else 0
def crT (R : List Int) : Int := if rackB R = true then sumT crN R 6 else 0
def cbT (R : List Int) : Int := if rackB R = true then sumT cbN R 6 else 0
def btT (R : List Int) : List Int := if rackB R = true then cntL (botL R) else List.replicate 6 0
--@tbl BoundOf = impl.BoundOf
--@tbl sBoundOf = spec.BoundOf
--@tbl CountRuns = impl.CountRuns
--@tbl sCountRuns = spec.CountRuns
--@tbl CountBoundaries = impl.CountBoundaries
--@tbl sCountBoundaries = spec.CountBoundaries
--@tbl BottomCounts = impl.BottomCounts
--@tbl sBottomCounts = spec.BottomCounts
theorem BoundOf_ok (R : List Int) (hR : R.length = 24) : PureH Try.prog 24 [.arr R] [] (.tup [.int (boF R), .bool (rackB R)]) := by
  have tkR : R.take 24 = R := List.take_of_length_le (by omega)
  unfold boF
  cases hr : rackB R
  all_goals
    refine pure_of_vc (X := ⟨Try.prog, tys, [(11, IsRack_F), (83, bound_F)], [], true, true, 0, [], []⟩) fn_24 ⟨tys_ok, (.cons IsRack_T (.cons bound_T .nil)), .nil, mixed⟩ (n0 := 0) (Nat.le_of_ble_eq_true rfl) (by simp [wfL, SV.wf]) (wfH_spec (by simp [wfH, SObj.wf])) (Nat.le_refl _) (fun _ => by simp [SV.wf, wfL]) ?_
    simp -implicitDefEqProofs only [Try.f24, Option.getD_some, argS, IsRack_F, bound_F, hR, tkR, hr, ZB, Int.reduceToNat, Nat.reduceLT, Nat.reduceLeDiff, Int.reduceLE, Int.reduceLT, Nat.reduceEqDiff, Nat.reduceSub, SB, SV.known, packR, ne_eq, reduceCtorEq, Nat.reduceEqDiff, ↓reduceIte, if_true, if_false, eq_self, Nat.reduceAdd, Nat.reduceMul, Nat.reduceSub, forall_const, oneCellS, litOne, flat1, Kd.isSca, flat, TYB]
theorem sBoundOf_ok (R : List Int) (hR : R.length = 24) : PureH Try.prog 55 [.arr R] [] (.tup [.int (boF R), .bool (rackB R)]) := by
  have tkR : R.take 24 = R := List.take_of_length_le (by omega)
  unfold boF
  cases hr : rackB R
  all_goals
    refine pure_of_vc (X := ⟨Try.prog, tys, [(72, l2Rack_F), (82, l6Bound_F)], [], true, true, 0, [], []⟩) fn_55 ⟨tys_ok, (.cons l2Rack_T (.cons l6Bound_T .nil)), .nil, mixed⟩ (n0 := 0) (Nat.le_of_ble_eq_true rfl) (by simp [wfL, SV.wf]) (wfH_spec (by simp [wfH, SObj.wf])) (Nat.le_refl _) (fun _ => by simp [SV.wf, wfL]) ?_
    simp -implicitDefEqProofs only [Try.f55, Option.getD_some, argS, l2Rack_F, l6Bound_F, hR, tkR, hr, ZB, Int.reduceToNat, Nat.reduceLT, Nat.reduceLeDiff, Int.reduceLE, Int.reduceLT, Nat.reduceEqDiff, Nat.reduceSub, SB, SV.known, packR, ne_eq, reduceCtorEq, Nat.reduceEqDiff, ↓reduceIte, if_true, if_false, eq_self, Nat.reduceAdd, Nat.reduceMul, Nat.reduceSub, forall_const, oneCellS, litOne, flat1, Kd.isSca, flat, TYB]
theorem CountRuns_ok (R : List Int) (hR : R.length = 24) : PureH Try.prog 56 [.arr R] [] (.tup [.int (crT R), .bool (rackB R)]) := by
  have tkR : R.take 24 = R := List.take_of_length_le (by omega)
  unfold crT
  cases hr : rackB R
  all_goals
    refine pure_of_vc (X := ⟨Try.prog, tys, [(11, IsRack_F), (123, countRuns_F)], [], true, true, 0, [], []⟩) fn_56 ⟨tys_ok, (.cons IsRack_T (.cons countRuns_T .nil)), .nil, mixed⟩ (n0 := 0) (Nat.le_of_ble_eq_true rfl) (by simp [wfL, SV.wf]) (wfH_spec (by simp [wfH, SObj.wf])) (Nat.le_refl _) (fun _ => by simp [SV.wf, wfL]) ?_
    simp -implicitDefEqProofs only [Try.f56, Option.getD_some, argS, IsRack_F, countRuns_F, hR, tkR, hr, ZB, Int.reduceToNat, Nat.reduceLT, Nat.reduceLeDiff, Int.reduceLE, Int.reduceLT, Nat.reduceEqDiff, Nat.reduceSub, SB, SV.known, packR, ne_eq, reduceCtorEq, Nat.reduceEqDiff, ↓reduceIte, if_true, if_false, eq_self, Nat.reduceAdd, Nat.reduceMul, Nat.reduceSub, forall_const, oneCellS, litOne, flat1, Kd.isSca, flat, TYB]
theorem sCountRuns_ok (R : List Int) (hR : R.length = 24) : PureH Try.prog 57 [.arr R] [] (.tup [.int (crT R), .bool (rackB R)]) := by
  have tkR : R.take 24 = R := List.take_of_length_le (by omega)
  unfold crT
  cases hr : rackB R
  all_goals
    refine pure_of_vc (X := ⟨Try.prog, tys, [(72, l2Rack_F), (126, l6Runs_F)], [], true, true, 0, [], []⟩) fn_57 ⟨tys_ok, (.cons l2Rack_T (.cons l6Runs_T .nil)), .nil, mixed⟩ (n0 := 0) (Nat.le_of_ble_eq_true rfl) (by simp [wfL, SV.wf]) (wfH_spec (by simp [wfH, SObj.wf])) (Nat.le_refl _) (fun _ => by simp [SV.wf, wfL]) ?_
    simp -implicitDefEqProofs only [Try.f57, Option.getD_some, argS, l2Rack_F, l6Runs_F, hR, tkR, hr, ZB, Int.reduceToNat, Nat.reduceLT, Nat.reduceLeDiff, Int.reduceLE, Int.reduceLT, Nat.reduceEqDiff, Nat.reduceSub, SB, SV.known, packR, ne_eq, reduceCtorEq, Nat.reduceEqDiff, ↓reduceIte, if_true, if_false, eq_self, Nat.reduceAdd, Nat.reduceMul, Nat.reduceSub, forall_const, oneCellS, litOne, flat1, Kd.isSca, flat, TYB]
theorem CountBoundaries_ok (R : List Int) (hR : R.length = 24) : PureH Try.prog 58 [.arr R] [] (.tup [.int (cbT R), .bool (rackB R)]) := by
  have tkR : R.take 24 = R := List.take_of_length_le (by omega)
  unfold cbT
  cases hr : rackB R
  all_goals
    refine pure_of_vc (X := ⟨Try.prog, tys, [(11, IsRack_F), (124, countBoundaries_F)], [], true, true, 0, [], []⟩) fn_58 ⟨tys_ok, (.cons IsRack_T (.cons countBoundaries_T .nil)), .nil, mixed⟩ (n0 := 0) (Nat.le_of_ble_eq_true rfl) (by simp [wfL, SV.wf]) (wfH_spec (by simp [wfH, SObj.wf])) (Nat.le_refl _) (fun _ => by simp [SV.wf, wfL]) ?_
    simp -implicitDefEqProofs only [Try.f58, Option.getD_some, argS, IsRack_F, countBoundaries_F, hR, tkR, hr, ZB, Int.reduceToNat, Nat.reduceLT, Nat.reduceLeDiff, Int.reduceLE, Int.reduceLT, Nat.reduceEqDiff, Nat.reduceSub, SB, SV.known, packR, ne_eq, reduceCtorEq, Nat.reduceEqDiff, ↓reduceIte, if_true, if_false, eq_self, Nat.reduceAdd, Nat.reduceMul, Nat.reduceSub, forall_const, oneCellS, litOne, flat1, Kd.isSca, flat, TYB]
theorem sCountBoundaries_ok (R : List Int) (hR : R.length = 24) : PureH Try.prog 59 [.arr R] [] (.tup [.int (cbT R), .bool (rackB R)]) := by
  have tkR : R.take 24 = R := List.take_of_length_le (by omega)
  unfold cbT
  cases hr : rackB R
  all_goals
    refine pure_of_vc (X := ⟨Try.prog, tys, [(72, l2Rack_F), (127, l6Boundaries_F)], [], true, true, 0, [], []⟩) fn_59 ⟨tys_ok, (.cons l2Rack_T (.cons l6Boundaries_T .nil)), .nil, mixed⟩ (n0 := 0) (Nat.le_of_ble_eq_true rfl) (by simp [wfL, SV.wf]) (wfH_spec (by simp [wfH, SObj.wf])) (Nat.le_refl _) (fun _ => by simp [SV.wf, wfL]) ?_
    simp -implicitDefEqProofs only [Try.f59, Option.getD_some, argS, l2Rack_F, l6Boundaries_F, hR, tkR, hr, ZB, Int.reduceToNat, Nat.reduceLT, Nat.reduceLeDiff, Int.reduceLE, Int.reduceLT, Nat.reduceEqDiff, Nat.reduceSub, SB, SV.known, packR, ne_eq, reduceCtorEq, Nat.reduceEqDiff, ↓reduceIte, if_true, if_false, eq_self, Nat.reduceAdd, Nat.reduceMul, Nat.reduceSub, forall_const, oneCellS, litOne, flat1, Kd.isSca, flat, TYB]
theorem BottomCounts_ok (R : List Int) (hR : R.length = 24) : PureH Try.prog 62 [.arr R] [] (.tup [.arr (btT R), .bool (rackB R)]) := by
  have tkR : R.take 24 = R := List.take_of_length_le (by omega)
  have lc := cntL_len (botL R)
  have tkc : (cntL (botL R)).take 6 = cntL (botL R) := List.take_of_length_le (by omega)
  have r6 : List.take 6 (List.replicate 6 (0 : Int)) = List.replicate 6 0 := rfl
  unfold btT
  cases hr : rackB R
  all_goals
    refine pure_of_vc (X := ⟨Try.prog, tys, [(11, IsRack_F), (130, bottoms_F)], [], true, true, 0, [], []⟩) fn_62 ⟨tys_ok, (.cons IsRack_T (.cons bottoms_T .nil)), .nil, mixed⟩ (n0 := 0) (Nat.le_of_ble_eq_true rfl) (by simp [wfL, SV.wf]) (wfH_spec (by simp [wfH, SObj.wf])) (Nat.le_refl _) (fun _ => by simp [SV.wf, wfL]) ?_
    simp -implicitDefEqProofs only [Try.f62, Option.getD_some, argS, IsRack_F, bottoms_F, hR, tkR, hr, lc, tkc, r6, ZB, Int.reduceToNat, Nat.reduceLT, Nat.reduceLeDiff, Int.reduceLE, Int.reduceLT, Nat.reduceEqDiff, Nat.reduceSub, SB, SV.known, packR, ne_eq, reduceCtorEq, Nat.reduceEqDiff, ↓reduceIte, if_true, if_false, eq_self, Nat.reduceAdd, Nat.reduceMul, Nat.reduceSub, forall_const, oneCellS, litOne, flat1, Kd.isSca, flat, TYB]
theorem sBottomCounts_ok (R : List Int) (hR : R.length = 24) : PureH Try.prog 63 [.arr R] [] (.tup [.arr (btT R), .bool (rackB R)]) := by
  have tkR : R.take 24 = R := List.take_of_length_le (by omega)
  have lc := cntL_len (botL R)
  have tkc : (cntL (botL R)).take 6 = cntL (botL R) := List.take_of_length_le (by omega)
  have r6 : List.take 6 (List.replicate 6 (0 : Int)) = List.replicate 6 0 := rfl
  unfold btT
  cases hr : rackB R
  all_goals
    refine pure_of_vc (X := ⟨Try.prog, tys, [(72, l2Rack_F), (131, l6Bottoms_F)], [], true, true, 0, [], []⟩) fn_63 ⟨tys_ok, (.cons l2Rack_T (.cons l6Bottoms_T .nil)), .nil, mixed⟩ (n0 := 0) (Nat.le_of_ble_eq_true rfl) (by simp [wfL, SV.wf]) (wfH_spec (by simp [wfH, SObj.wf])) (Nat.le_refl _) (fun _ => by simp [SV.wf, wfL]) ?_
    simp -implicitDefEqProofs only [Try.f63, Option.getD_some, argS, l2Rack_F, l6Bottoms_F, hR, tkR, hr, lc, tkc, r6, ZB, Int.reduceToNat, Nat.reduceLT, Nat.reduceLeDiff, Int.reduceLE, Int.reduceLT, Nat.reduceEqDiff, Nat.reduceSub, SB, SV.known, packR, ne_eq, reduceCtorEq, Nat.reduceEqDiff, ↓reduceIte, if_true, if_false, eq_self, Nat.reduceAdd, Nat.reduceMul, Nat.reduceSub, forall_const, oneCellS, litOne, flat1, Kd.isSca, flat, TYB]
def BoundOf_F : List SV → Heap → Option (Prop × SV)
  | [.arr R], _ => some (R.length = 24, .tup [.int (boF R), .bool (rackB R)])
  | _, _ => none
theorem BoundOf_T : ∀ args H p v, BoundOf_F args H = some (p, v) → p → PureH Try.prog 24 args H v := by
  intro args H p v h hp
  unfold BoundOf_F at h
  split at h
  · cases h; exact (BoundOf_ok _ hp).any _
  · cases h
def sBoundOf_F : List SV → Heap → Option (Prop × SV)
  | [.arr R], _ => some (R.length = 24, .tup [.int (boF R), .bool (rackB R)])
  | _, _ => none
theorem sBoundOf_T : ∀ args H p v, sBoundOf_F args H = some (p, v) → p → PureH Try.prog 55 args H v := by
  intro args H p v h hp
  unfold sBoundOf_F at h
  split at h
  · cases h; exact (sBoundOf_ok _ hp).any _
  · cases h
def CountRuns_F : List SV → Heap → Option (Prop × SV)
  | [.arr R], _ => some (R.length = 24, .tup [.int (crT R), .bool (rackB R)])
  | _, _ => none
theorem CountRuns_T : ∀ args H p v, CountRuns_F args H = some (p, v) → p → PureH Try.prog 56 args H v := by
  intro args H p v h hp
  unfold CountRuns_F at h
  split at h
  · cases h; exact (CountRuns_ok _ hp).any _
  · cases h
def sCountRuns_F : List SV → Heap → Option (Prop × SV)
  | [.arr R], _ => some (R.length = 24, .tup [.int (crT R), .bool (rackB R)])
  | _, _ => none
theorem sCountRuns_T : ∀ args H p v, sCountRuns_F args H = some (p, v) → p → PureH Try.prog 57 args H v := by
  intro args H p v h hp
  unfold sCountRuns_F at h
  split at h
  · cases h; exact (sCountRuns_ok _ hp).any _
  · cases h
def CountBoundaries_F : List SV → Heap → Option (Prop × SV)
  | [.arr R], _ => some (R.length = 24, .tup [.int (cbT R), .bool (rackB R)])
  | _, _ => none
theorem CountBoundaries_T : ∀ args H p v, CountBoundaries_F args H = some (p, v) → p → PureH Try.prog 58 args H v := by
  intro args H p v h hp
  unfold CountBoundaries_F at h
  split at h
  · cases h; exact (CountBoundaries_ok _ hp).any _
  · cases h
def sCountBoundaries_F : List SV → Heap → Option (Prop × SV)
  | [.arr R], _ => some (R.length = 24, .tup [.int (cbT R), .bool (rackB R)])
  | _, _ => none
theorem sCountBoundaries_T : ∀ args H p v, sCountBoundaries_F args H = some (p, v) → p → PureH Try.prog 59 args H v := by
  intro args H p v h hp
  unfold sCountBoundaries_F at h
  split at h
  · cases h; exact (sCountBoundaries_ok _ hp).any _
  · cases h
def BottomCounts_F : List SV → Heap → Option (Prop × SV)
  | [.arr R], _ => some (R.length = 24, .tup [.arr (btT R), .bool (rackB R)])
  | _, _ => none
theorem BottomCounts_T : ∀ args H p v, BottomCounts_F args H = some (p, v) → p → PureH Try.prog 62 args H v := by
  intro args H p v h hp
  unfold BottomCounts_F at h
  split at h
  · cases h; exact (BottomCounts_ok _ hp).any _
  · cases h
def sBottomCounts_F : List SV → Heap → Option (Prop × SV)
  | [.arr R], _ => some (R.length = 24, .tup [.arr (btT R), .bool (rackB R)])
  | _, _ => none
theorem sBottomCounts_T : ∀ args H p v, sBottomCounts_F args H = some (p, v) → p → PureH Try.prog 63 args H v := by
  intro args H p v h hp
  unfold sBottomCounts_F at h
  split at h
  · cases h; exact (sBottomCounts_ok _ hp).any _
  · cases h
/-- How many of the first numbers are positive. -/
def spN (l : List Int) : Nat → Int
  | 0 => 0
  | k + 1 => spN l k + if 0 < l.getD k 0 then 1 else 0
theorem spN_bd (l : List Int) : ∀ k, 0 ≤ spN l k ∧ spN l k ≤ k
  | 0 => by simp [spN]
  | k + 1 => by
    have := spN_bd l k
    unfold spN
    split <;> omega
def spT (R : List Int) : Int := if rackB R = true then sumT crN R 6 - spN ((cntL R).drop 1) 5 else 0
--@tbl SpareRuns = impl.SpareRuns
--@tbl sSpareRuns = spec.SpareRuns
theorem SpareRuns_ok (R : List Int) (hR : R.length = 24) : PureH Try.prog 60 [.arr R] [] (.tup [.int (spT R), .bool (rackB R)]) := by
  have tkR : R.take 24 = R := List.take_of_length_le (by omega)
  have cl := cntL_len R
  have tkc : (cntL R).take 6 = cntL R := List.take_of_length_le (by omega)
  have c6 : cutOff 6 1 0 1 = 1 := rfl
  have d1 : ∀ k, (cntL R).getD (1 + k) 0 = ((cntL R).drop 1).getD k 0 := fun k => by simp [List.getD, Nat.add_comm]
  have sb := sumT_bd hR crN_bd 6 (by omega)
  unfold spT
  cases hr : rackB R
  · refine pure_of_vc (X := ⟨Try.prog, tys, [(11, IsRack_F), (123, countRuns_F), (128, countColors_F)], [], true, true, 0, [], []⟩) fn_60 ⟨tys_ok, (.cons IsRack_T (.cons countRuns_T (.cons countColors_T .nil))), .nil, mixed⟩ (n0 := 0) (Nat.le_of_ble_eq_true rfl) (by simp [wfL, SV.wf]) (wfH_spec (by simp [wfH, SObj.wf])) (Nat.le_refl _) (fun _ => by simp [SV.wf, wfL]) ?_
    simp -implicitDefEqProofs only [Try.f60, Option.getD_some, argS, IsRack_F, countRuns_F, countColors_F, hR, tkR, hr, ZB, Int.reduceToNat, Nat.reduceLT, Nat.reduceLeDiff, Int.reduceLE, Int.reduceLT, Nat.reduceEqDiff, Nat.reduceSub, SB, SV.known, packR, ne_eq, reduceCtorEq, Nat.reduceEqDiff, ↓reduceIte, if_true, if_false, eq_self, Nat.reduceAdd, Nat.reduceMul, Nat.reduceSub, forall_const, oneCellS, litOne, flat1, Kd.isSca, flat, TYB]
  · refine pure_of_vc (X := ⟨Try.prog, tys, [(11, IsRack_F), (123, countRuns_F), (128, countColors_F)], [], true, true, 0, [], []⟩) fn_60 ⟨tys_ok, (.cons IsRack_T (.cons countRuns_T (.cons countColors_T .nil))), .nil, mixed⟩ (n0 := 0) (Nat.le_of_ble_eq_true rfl) (by simp [wfL, SV.wf]) (wfH_spec (by simp [wfH, SObj.wf])) (Nat.le_refl _) (fun _ => by simp [SV.wf, wfL]) ?_
    simp -implicitDefEqProofs only [Try.f60, Option.getD_some, argS, IsRack_F, countRuns_F, countColors_F, hR, tkR, hr, cl, tkc, ZB, Int.reduceToNat, Nat.reduceLT, Nat.reduceLeDiff, Int.reduceLE, Int.reduceLT, Nat.reduceEqDiff, Nat.reduceSub, SB, SV.known, packR, ne_eq, reduceCtorEq, Nat.reduceEqDiff, ↓reduceIte, if_true, if_false, eq_self, Nat.reduceAdd, Nat.reduceMul, Nat.reduceSub, forall_const, oneCellS, litOne, flat1, Kd.isSca, flat, TYB]
    refine loop_intro (fun i : Nat => [(17, .int i), (16, .int 5), (15, .slice 1 1 5 5), (4, .int (sumT crN R 6 - spN ((cntL R).drop 1) i))]) (fun _ => [(1, .ints (cntL R) 51)]) 2 (fun i => i ≤ 5) (fun i => 5 - i) ?_ ?_
    · have b0 : spN ((cntL R).drop 1) 0 = 0 := rfl
      refine ⟨0, ?_, Sub.mk_id ?_ ?_ ?_ ?_ ?_⟩
      all_goals (try (simp only [c6, b0, Int.sub_zero, LB, subS, subH, wfS, wfH, SV.ren, renL, SObj.ren, SV.wf, SObj.wf, wfL, SV.known, Nat.reduceEqDiff, ↓reduceIte, if_true, if_false, eq_self, Nat.reduceAdd, Nat.reduceLT, Nat.reduceLeDiff, implies_true, reduceCtorEq, forall_const]; done))
      all_goals (try (simp only [c6, b0, Int.sub_zero, LB, subS, subH, wfS, wfH, SV.ren, renL, SObj.ren, SV.wf, SObj.wf, wfL, SV.known, Nat.reduceEqDiff, ↓reduceIte, if_true, if_false, eq_self, Nat.reduceAdd, Nat.reduceLT, Nat.reduceLeDiff, implies_true, reduceCtorEq, forall_const]; simp; done))
      all_goals (try (simp only [c6, b0, Int.sub_zero, LB, subS, subH, wfS, wfH, SV.ren, renL, SObj.ren, SV.wf, SObj.wf, wfL, SV.known, Nat.reduceEqDiff, ↓reduceIte, if_true, if_false, eq_self, Nat.reduceAdd, Nat.reduceLT, Nat.reduceLeDiff, implies_true, reduceCtorEq, forall_const]; (and_intros <;> (first | omega | rfl | (simp; done) | (simp; omega))); done))
      all_goals (try dsimp only)
      all_goals (and_intros <;> try (first | omega | (unfold In64; omega) | trivial | assumption))
    · intro i hi
      by_cases hlt : i < 5
      · have cb := cntL_bd R (1 + i)
        rw [d1, hR] at cb
        have es : spN ((cntL R).drop 1) (i + 1) = spN ((cntL R).drop 1) i + if 0 < ((cntL R).drop 1).getD i 0 then 1 else 0 := rfl
        have b1 := spN_bd ((cntL R).drop 1) i
        have hil : (i : Int) < 5 := by omega
        have em : sumT crN R 6 - spN ((cntL R).drop 1) (i + 1) = sumT crN R 6 - spN ((cntL R).drop 1) i - min (((cntL R).drop 1).getD i 0) 1 := by
          rw [es]; split <;> omega
        simp -implicitDefEqProofs only [lk_normal, d1, cl, hil, ZB, Int.reduceToNat, Nat.reduceLT, Nat.reduceLeDiff, Int.reduceLE, Int.reduceLT, Nat.reduceEqDiff, Nat.reduceSub, SB, SV.known, packR, ne_eq, reduceCtorEq, Nat.reduceEqDiff, ↓reduceIte, if_true, if_false, eq_self, Nat.reduceAdd, Nat.reduceMul, Nat.reduceSub, forall_const, oneCellS, litOne, flat1, Kd.isSca, flat, TYB]
        refine ⟨by omega, by omega, by unfold In64; omega, by unfold In64; omega, i + 1, by omega, by omega, Sub.mk_id ?_ ?_ ?_ ?_ ?_⟩
        all_goals (try simp only [em])
        all_goals ((try simp only [LB, subS, subH, wfS, wfH, SV.ren, renL, SObj.ren, SV.wf, SObj.wf, wfL, SV.known, Nat.reduceEqDiff, ↓reduceIte, if_true, if_false, eq_self, Nat.reduceAdd, Nat.reduceLT, Nat.reduceLeDiff, implies_true, reduceCtorEq, forall_const]) <;> simp)
      · obtain rfl : i = 5 := by omega
        simp -implicitDefEqProofs only [lk_normal, cl, ZB, Int.reduceToNat, Nat.reduceLT, Nat.reduceLeDiff, Int.reduceLE, Int.reduceLT, Nat.reduceEqDiff, Nat.reduceSub, SB, SV.known, packR, ne_eq, reduceCtorEq, Nat.reduceEqDiff, ↓reduceIte, if_true, if_false, eq_self, Nat.reduceAdd, Nat.reduceMul, Nat.reduceSub, forall_const, oneCellS, litOne, flat1, Kd.isSca, flat, TYB]
        (try (and_intros <;> try (first | omega | (unfold In64; omega) | trivial | assumption)))
def SpareRuns_F : List SV → Heap → Option (Prop × SV)
  | [.arr R], _ => some (R.length = 24, .tup [.int (spT R), .bool (rackB R)])
  | _, _ => none
theorem SpareRuns_T : ∀ args H p v, SpareRuns_F args H = some (p, v) → p → PureH Try.prog 60 args H v := by
  intro args H p v h hp
  unfold SpareRuns_F at h
  split at h
  · cases h; exact (SpareRuns_ok _ hp).any _
  · cases h
theorem sSpareRuns_ok (R : List Int) (hR : R.length = 24) : PureH Try.prog 61 [.arr R] [] (.tup [.int (spT R), .bool (rackB R)]) := by
  have tkR : R.take 24 = R := List.take_of_length_le (by omega)
  have cl := cntL_len R
  have tkc : (cntL R).take 6 = cntL R := List.take_of_length_le (by omega)
  have sb := sumT_bd hR crN_bd 6 (by omega)
  unfold spT
  cases hr : rackB R
  · refine pure_of_vc (X := ⟨Try.prog, tys, [(72, l2Rack_F), (126, l6Runs_F), (129, l2Counts_F)], [], true, true, 0, [], []⟩) fn_61 ⟨tys_ok, (.cons l2Rack_T (.cons l6Runs_T (.cons l2Counts_T .nil))), .nil, mixed⟩ (n0 := 0) (Nat.le_of_ble_eq_true rfl) (by simp [wfL, SV.wf]) (wfH_spec (by simp [wfH, SObj.wf])) (Nat.le_refl _) (fun _ => by simp [SV.wf, wfL]) ?_
    simp -implicitDefEqProofs only [Try.f61, Option.getD_some, argS, l2Rack_F, l6Runs_F, l2Counts_F, hR, tkR, hr, ZB, Int.reduceToNat, Nat.reduceLT, Nat.reduceLeDiff, Int.reduceLE, Int.reduceLT, Nat.reduceEqDiff, Nat.reduceSub, SB, SV.known, packR, ne_eq, reduceCtorEq, Nat.reduceEqDiff, ↓reduceIte, if_true, if_false, eq_self, Nat.reduceAdd, Nat.reduceMul, Nat.reduceSub, forall_const, oneCellS, litOne, flat1, Kd.isSca, flat, TYB]
  · refine pure_of_vc (X := ⟨Try.prog, tys, [(72, l2Rack_F), (126, l6Runs_F), (129, l2Counts_F)], [], true, true, 0, [], []⟩) fn_61 ⟨tys_ok, (.cons l2Rack_T (.cons l6Runs_T (.cons l2Counts_T .nil))), .nil, mixed⟩ (n0 := 0) (Nat.le_of_ble_eq_true rfl) (by simp [wfL, SV.wf]) (wfH_spec (by simp [wfH, SObj.wf])) (Nat.le_refl _) (fun _ => by simp [SV.wf, wfL]) ?_
    simp -implicitDefEqProofs only [Try.f61, Option.getD_some, argS, l2Rack_F, l6Runs_F, l2Counts_F, hR, tkR, hr, cl, tkc, ZB, Int.reduceToNat, Nat.reduceLT, Nat.reduceLeDiff, Int.reduceLE, Int.reduceLT, Nat.reduceEqDiff, Nat.reduceSub, SB, SV.known, packR, ne_eq, reduceCtorEq, Nat.reduceEqDiff, ↓reduceIte, if_true, if_false, eq_self, Nat.reduceAdd, Nat.reduceMul, Nat.reduceSub, forall_const, oneCellS, litOne, flat1, Kd.isSca, flat, TYB]
    have d1 : ∀ k, (cntL R).getD (k + 1) 0 = ((cntL R).drop 1).getD k 0 := fun k => by simp [List.getD, Nat.add_comm]
    refine loop_intro (fun i : Nat => [(6, .int (i + 1 : Nat)), (5, .int (sumT crN R 6 - spN ((cntL R).drop 1) i)), (4, .ptr 1 0)]) (fun _ => [(1, .ints (cntL R) 51)]) 2 (fun i => i ≤ 5) (fun i => 5 - i) ?_ ?_
    · have b0 : spN ((cntL R).drop 1) 0 = 0 := rfl
      refine ⟨0, ?_, Sub.mk_id ?_ ?_ ?_ ?_ ?_⟩
      all_goals (try (simp only [b0, Int.sub_zero, LB, subS, subH, wfS, wfH, SV.ren, renL, SObj.ren, SV.wf, SObj.wf, wfL, SV.known, Nat.reduceEqDiff, ↓reduceIte, if_true, if_false, eq_self, Nat.reduceAdd, Nat.reduceLT, Nat.reduceLeDiff, implies_true, reduceCtorEq, forall_const]; done))
      all_goals (try (simp only [b0, Int.sub_zero, LB, subS, subH, wfS, wfH, SV.ren, renL, SObj.ren, SV.wf, SObj.wf, wfL, SV.known, Nat.reduceEqDiff, ↓reduceIte, if_true, if_false, eq_self, Nat.reduceAdd, Nat.reduceLT, Nat.reduceLeDiff, implies_true, reduceCtorEq, forall_const]; simp; done))
      all_goals (try (simp only [b0, Int.sub_zero, LB, subS, subH, wfS, wfH, SV.ren, renL, SObj.ren, SV.wf, SObj.wf, wfL, SV.known, Nat.reduceEqDiff, ↓reduceIte, if_true, if_false, eq_self, Nat.reduceAdd, Nat.reduceLT, Nat.reduceLeDiff, implies_true, reduceCtorEq, forall_const]; (and_intros <;> (first | omega | rfl | (simp; done) | (simp; omega))); done))
      all_goals (try dsimp only)
      all_goals (and_intros <;> try (first | omega | (unfold In64; omega) | trivial | assumption))
    · intro i hi
      by_cases hlt : i < 5
      · have es : spN ((cntL R).drop 1) (i + 1) = spN ((cntL R).drop 1) i + if 0 < ((cntL R).drop 1).getD i 0 then 1 else 0 := rfl
        have b1 := spN_bd ((cntL R).drop 1) i
        have hil : ((i + 1 : Nat) : Int) ≤ 5 := by omega
        have hl6 : ((i + 1 : Nat) : Int) < 6 := by omega
        have h0 : 0 ≤ ((i + 1 : Nat) : Int) := by omega
        have hn6 : i + 1 < 6 := by omega
        simp -implicitDefEqProofs only [lk_normal, d1, cl, hil, hl6, h0, hn6, ZB, Int.reduceToNat, Nat.reduceLT, Nat.reduceLeDiff, Int.reduceLE, Int.reduceLT, Nat.reduceEqDiff, Nat.reduceSub, SB, SV.known, packR, ne_eq, reduceCtorEq, Nat.reduceEqDiff, ↓reduceIte, if_true, if_false, eq_self, Nat.reduceAdd, Nat.reduceMul, Nat.reduceSub, forall_const, oneCellS, litOne, flat1, Kd.isSca, flat, TYB]
        refine ⟨fun hp => ?_, fun hp => ?_⟩
        · have em : sumT crN R 6 - spN ((cntL R).drop 1) (i + 1) = sumT crN R 6 - spN ((cntL R).drop 1) i - 1 := by rw [es, if_pos hp]; omega
          refine ⟨by unfold In64; omega, by unfold In64; omega, i + 1, by omega, by omega, Sub.mk_id ?_ ?_ ?_ ?_ ?_⟩
          all_goals (try simp only [em])
          all_goals ((try simp only [LB, subS, subH, wfS, wfH, SV.ren, renL, SObj.ren, SV.wf, SObj.wf, wfL, SV.known, Nat.reduceEqDiff, ↓reduceIte, if_true, if_false, eq_self, Nat.reduceAdd, Nat.reduceLT, Nat.reduceLeDiff, implies_true, reduceCtorEq, forall_const]) <;> simp)
        · have em : sumT crN R 6 - spN ((cntL R).drop 1) (i + 1) = sumT crN R 6 - spN ((cntL R).drop 1) i := by rw [es, if_neg hp]; omega
          refine ⟨by unfold In64; omega, i + 1, by omega, by omega, Sub.mk_id ?_ ?_ ?_ ?_ ?_⟩
          all_goals (try simp only [em])
          all_goals ((try simp only [LB, subS, subH, wfS, wfH, SV.ren, renL, SObj.ren, SV.wf, SObj.wf, wfL, SV.known, Nat.reduceEqDiff, ↓reduceIte, if_true, if_false, eq_self, Nat.reduceAdd, Nat.reduceLT, Nat.reduceLeDiff, implies_true, reduceCtorEq, forall_const]) <;> simp)
      · obtain rfl : i = 5 := by omega
        have hil : ¬ (((5 + 1 : Nat) : Int) ≤ 5) := by omega
        simp -implicitDefEqProofs only [lk_normal, hil, cl, ZB, Int.reduceToNat, Nat.reduceLT, Nat.reduceLeDiff, Int.reduceLE, Int.reduceLT, Nat.reduceEqDiff, Nat.reduceSub, SB, SV.known, packR, ne_eq, reduceCtorEq, Nat.reduceEqDiff, ↓reduceIte, if_true, if_false, eq_self, Nat.reduceAdd, Nat.reduceMul, Nat.reduceSub, forall_const, oneCellS, litOne, flat1, Kd.isSca, flat, TYB]
        (try (and_intros <;> try (first | omega | (unfold In64; omega) | trivial | assumption)))
def sSpareRuns_F : List SV → Heap → Option (Prop × SV)
  | [.arr R], _ => some (R.length = 24, .tup [.int (spT R), .bool (rackB R)])
  | _, _ => none
theorem sSpareRuns_T : ∀ args H p v, sSpareRuns_F args H = some (p, v) → p → PureH Try.prog 61 args H v := by
  intro args H p v h hp
  unfold sSpareRuns_F at h
  split at h
  · cases h; exact (sSpareRuns_ok _ hp).any _
  · cases h
/-- The greatest of the first numbers behind a head. -/
def mxN (l : List Int) : Nat → Int
  | 0 => l.getD 0 0
  | k + 1 => max (mxN l k) (l.getD (k + 1) 0)
theorem mxN_le (l : List Int) (b : Int) : ∀ k, (mxN l k ≤ b) ↔ ∀ i, i ≤ k → l.getD i 0 ≤ b
  | 0 => ⟨fun h i hi => by obtain rfl : i = 0 := by omega
                           exact h, fun h => h 0 (Nat.le_refl _)⟩
  | k + 1 => by
    have ih := mxN_le l b k
    constructor
    · intro h i hi
      have h1 : mxN l k ≤ b := by unfold mxN at h; omega
      by_cases hik : i = k + 1
      · subst hik; unfold mxN at h; omega
      · exact ih.1 h1 i (by omega)
    · intro h
      have h1 := ih.2 fun i hi => h i (by omega)
      have h2 := h (k + 1) (Nat.le_refl _)
      unfold mxN; omega
def dfB (R : List Int) : Bool := rackB R && decide (mxN ((cntL R).drop 1) 4 ≤ 4)
--@tbl maxI = slices.Max[[]int,int]
theorem maxI_ok (L : List Int) (e off len cap : Nat) (hl : off + len ≤ L.length) (h0 : 0 < len) (hm : len ≤ 1000000) : PureH Try.prog 132 [.slice 0 off len cap] [(0, .ints L e)] (.int (mxN ((L.drop off).take len) (len - 1))) := by
  have hp : ¬ (len : Int) < 1 := by omega
  have gM : ∀ k, k < len → ((L.drop off).take len).getD k 0 = L.getD (off + k) 0 := fun k hk => by
    simp only [List.getD_eq_getElem?_getD, List.getElem?_take, if_pos hk, List.getElem?_drop]
  have g0 := gM 0 h0
  refine pure_of_vc (X := ⟨Try.prog, tys, [], [], true, true, 1, [], []⟩) fn_132 ⟨tys_ok, .nil, .nil, mixed⟩ (n0 := 1) (Nat.le_of_ble_eq_true rfl) (by simp [wfL, SV.wf]) (wfH_spec (by simp [wfH, SObj.wf])) (Nat.le_refl _) (fun _ => by simp [SV.wf, wfL]) ?_
  simp -implicitDefEqProofs only [Try.f132, Option.getD_some, argS, hp, ZB, Int.reduceToNat, Nat.reduceLT, Nat.reduceLeDiff, Int.reduceLE, Int.reduceLT, Nat.reduceEqDiff, Nat.reduceSub, SB, SV.known, packR, ne_eq, reduceCtorEq, Nat.reduceEqDiff, ↓reduceIte, if_true, if_false, eq_self, Nat.reduceAdd, Nat.reduceMul, Nat.reduceSub, forall_const, oneCellS, litOne, flat1, Kd.isSca, flat, TYB]
  refine ⟨by omega, by omega, ?_⟩
  refine loop_intro (fun i : Nat => [(4, .int (i + 1 : Nat)), (3, .int (mxN ((L.drop off).take len) i)), (0, .slice 0 off len cap)]) (fun _ => [(0, .ints L e)]) 1 (fun i => i + 1 ≤ len) (fun i => len - i) ?_ ?_
  · have b0 : mxN ((L.drop off).take len) 0 = L.getD off 0 := g0
    refine ⟨0, ?_, Sub.mk_id ?_ ?_ ?_ ?_ ?_⟩
    all_goals (try (simp only [b0, LB, subS, subH, wfS, wfH, SV.ren, renL, SObj.ren, SV.wf, SObj.wf, wfL, SV.known, Nat.reduceEqDiff, ↓reduceIte, if_true, if_false, eq_self, Nat.reduceAdd, Nat.reduceLT, Nat.reduceLeDiff, implies_true, reduceCtorEq, forall_const]; done))
    all_goals (try (simp only [b0, LB, subS, subH, wfS, wfH, SV.ren, renL, SObj.ren, SV.wf, SObj.wf, wfL, SV.known, Nat.reduceEqDiff, ↓reduceIte, if_true, if_false, eq_self, Nat.reduceAdd, Nat.reduceLT, Nat.reduceLeDiff, implies_true, reduceCtorEq, forall_const]; simp; done))
    all_goals (try (simp only [b0, LB, subS, subH, wfS, wfH, SV.ren, renL, SObj.ren, SV.wf, SObj.wf, wfL, SV.known, Nat.reduceEqDiff, ↓reduceIte, if_true, if_false, eq_self, Nat.reduceAdd, Nat.reduceLT, Nat.reduceLeDiff, implies_true, reduceCtorEq, forall_const]; (and_intros <;> (first | omega | rfl | (simp; done) | (simp; omega))); done))
    all_goals (try dsimp only)
    all_goals (and_intros <;> try (first | omega | (unfold In64; omega) | trivial | assumption))
  · intro i hi
    by_cases hlt : i + 1 < len
    · have hil : ((i + 1 : Nat) : Int) < len := by omega
      have g1 := gM (i + 1) hlt
      have es : mxN ((L.drop off).take len) (i + 1) = max (mxN ((L.drop off).take len) i) (L.getD (off + (i + 1)) 0) := by rw [← g1]; rfl
      have h00 : 0 ≤ ((i + 1 : Nat) : Int) := by omega
      have hb : off + (i + 1) < L.length := by omega
      simp -implicitDefEqProofs only [lk_normal, hil, h00, hb, ZB, Int.reduceToNat, Nat.reduceLT, Nat.reduceLeDiff, Int.reduceLE, Int.reduceLT, Nat.reduceEqDiff, Nat.reduceSub, SB, SV.known, packR, ne_eq, reduceCtorEq, Nat.reduceEqDiff, ↓reduceIte, if_true, if_false, eq_self, Nat.reduceAdd, Nat.reduceMul, Nat.reduceSub, forall_const, oneCellS, litOne, flat1, Kd.isSca, flat, TYB]
      refine ⟨by unfold In64; omega, i + 1, by omega, by omega, Sub.mk_id ?_ ?_ ?_ ?_ ?_⟩
      all_goals (try simp only [es])
      all_goals ((try simp only [LB, subS, subH, wfS, wfH, SV.ren, renL, SObj.ren, SV.wf, SObj.wf, wfL, SV.known, Nat.reduceEqDiff, ↓reduceIte, if_true, if_false, eq_self, Nat.reduceAdd, Nat.reduceLT, Nat.reduceLeDiff, implies_true, reduceCtorEq, forall_const]) <;> simp)
    · have hil : ¬ ((i + 1 : Nat) : Int) < len := by omega
      have ei : len - 1 = i := by omega
      simp -implicitDefEqProofs only [lk_normal, hil, ei, ZB, Int.reduceToNat, Nat.reduceLT, Nat.reduceLeDiff, Int.reduceLE, Int.reduceLT, Nat.reduceEqDiff, Nat.reduceSub, SB, SV.known, packR, ne_eq, reduceCtorEq, Nat.reduceEqDiff, ↓reduceIte, if_true, if_false, eq_self, Nat.reduceAdd, Nat.reduceMul, Nat.reduceSub, forall_const, oneCellS, litOne, flat1, Kd.isSca, flat, TYB]
--@tbl sDoesFit = spec.DoesFit
theorem sDoesFit_ok (R : List Int) (hR : R.length = 24) : PureH Try.prog 65 [.arr R] [] (.tup [.bool (dfB R), .bool (rackB R)]) := by
  have tkR : R.take 24 = R := List.take_of_length_le (by omega)
  have cl := cntL_len R
  have tkc : (cntL R).take 6 = cntL R := List.take_of_length_le (by omega)
  have d1 : ∀ k, (cntL R).getD (k + 1) 0 = ((cntL R).drop 1).getD k 0 := fun k => by simp [List.getD, Nat.add_comm]
  have hm := mxN_le ((cntL R).drop 1) 4 4
  unfold dfB
  cases hr : rackB R
  · refine pure_of_vc (X := ⟨Try.prog, tys, [(72, l2Rack_F), (129, l2Counts_F)], [], true, true, 0, [], []⟩) fn_65 ⟨tys_ok, (.cons l2Rack_T (.cons l2Counts_T .nil)), .nil, mixed⟩ (n0 := 0) (Nat.le_of_ble_eq_true rfl) (by simp [wfL, SV.wf]) (wfH_spec (by simp [wfH, SObj.wf])) (Nat.le_refl _) (fun _ => by simp [SV.wf, wfL]) ?_
    simp -implicitDefEqProofs only [Try.f65, Option.getD_some, argS, l2Rack_F, l2Counts_F, hR, tkR, hr, ZB, Int.reduceToNat, Nat.reduceLT, Nat.reduceLeDiff, Int.reduceLE, Int.reduceLT, Nat.reduceEqDiff, Nat.reduceSub, SB, SV.known, packR, ne_eq, reduceCtorEq, Nat.reduceEqDiff, ↓reduceIte, if_true, if_false, eq_self, Nat.reduceAdd, Nat.reduceMul, Nat.reduceSub, forall_const, oneCellS, litOne, flat1, Kd.isSca, flat, TYB]
  · refine pure_of_vc (X := ⟨Try.prog, tys, [(72, l2Rack_F), (129, l2Counts_F)], [], true, true, 0, [], []⟩) fn_65 ⟨tys_ok, (.cons l2Rack_T (.cons l2Counts_T .nil)), .nil, mixed⟩ (n0 := 0) (Nat.le_of_ble_eq_true rfl) (by simp [wfL, SV.wf]) (wfH_spec (by simp [wfH, SObj.wf])) (Nat.le_refl _) (fun _ => by simp [SV.wf, wfL]) ?_
    simp -implicitDefEqProofs only [Try.f65, Option.getD_some, argS, l2Rack_F, l2Counts_F, hR, tkR, hr, cl, tkc, ZB, Int.reduceToNat, Nat.reduceLT, Nat.reduceLeDiff, Int.reduceLE, Int.reduceLT, Nat.reduceEqDiff, Nat.reduceSub, SB, SV.known, packR, ne_eq, reduceCtorEq, Nat.reduceEqDiff, ↓reduceIte, if_true, if_false, eq_self, Nat.reduceAdd, Nat.reduceMul, Nat.reduceSub, forall_const, oneCellS, litOne, flat1, Kd.isSca, flat, TYB]
    refine loop_intro (fun i : Nat => [(5, .int (i + 1 : Nat)), (4, .ptr 1 0)]) (fun _ => [(1, .ints (cntL R) 51)]) 2 (fun i => i ≤ 5 ∧ ∀ j, j < i → ((cntL R).drop 1).getD j 0 ≤ 4) (fun i => 5 - i) ?_ ?_
    · refine ⟨0, ⟨by omega, fun j hj => absurd hj (by omega)⟩, Sub.mk_id ?_ ?_ ?_ ?_ ?_⟩
      all_goals ((try simp only [LB, subS, subH, wfS, wfH, SV.ren, renL, SObj.ren, SV.wf, SObj.wf, wfL, SV.known, Nat.reduceEqDiff, ↓reduceIte, if_true, if_false, eq_self, Nat.reduceAdd, Nat.reduceLT, Nat.reduceLeDiff, implies_true, reduceCtorEq, forall_const]) <;> simp)
    · rintro i ⟨hi, hno⟩
      by_cases hlt : i < 5
      · have hil : ((i + 1 : Nat) : Int) ≤ 5 := by omega
        have hl6 : ((i + 1 : Nat) : Int) < 6 := by omega
        have h0 : 0 ≤ ((i + 1 : Nat) : Int) := by omega
        have hn6 : i + 1 < 6 := by omega
        by_cases h4 : (4 : Int) < ((cntL R).drop 1).getD i 0
        · have hd : decide (mxN ((cntL R).drop 1) 4 ≤ 4) = false := decide_eq_false fun h => by
            have := hm.1 h i (by omega); omega
          simp -implicitDefEqProofs only [lk_normal, d1, cl, hil, hl6, h0, hn6, h4, hd, ZB, Int.reduceToNat, Nat.reduceLT, Nat.reduceLeDiff, Int.reduceLE, Int.reduceLT, Nat.reduceEqDiff, Nat.reduceSub, SB, SV.known, packR, ne_eq, reduceCtorEq, Nat.reduceEqDiff, ↓reduceIte, if_true, if_false, eq_self, Nat.reduceAdd, Nat.reduceMul, Nat.reduceSub, forall_const, oneCellS, litOne, flat1, Kd.isSca, flat, TYB]
        · simp -implicitDefEqProofs only [lk_normal, d1, cl, hil, hl6, h0, hn6, h4, ZB, Int.reduceToNat, Nat.reduceLT, Nat.reduceLeDiff, Int.reduceLE, Int.reduceLT, Nat.reduceEqDiff, Nat.reduceSub, SB, SV.known, packR, ne_eq, reduceCtorEq, Nat.reduceEqDiff, ↓reduceIte, if_true, if_false, eq_self, Nat.reduceAdd, Nat.reduceMul, Nat.reduceSub, forall_const, oneCellS, litOne, flat1, Kd.isSca, flat, TYB]
          refine ⟨by unfold In64; omega, i + 1, ⟨by omega, fun j hj => by
            by_cases hji : j = i
            · subst hji; omega
            · exact hno j (by omega)⟩, by omega, Sub.mk_id ?_ ?_ ?_ ?_ ?_⟩
          all_goals ((try simp only [LB, subS, subH, wfS, wfH, SV.ren, renL, SObj.ren, SV.wf, SObj.wf, wfL, SV.known, Nat.reduceEqDiff, ↓reduceIte, if_true, if_false, eq_self, Nat.reduceAdd, Nat.reduceLT, Nat.reduceLeDiff, implies_true, reduceCtorEq, forall_const]) <;> simp)
      · obtain rfl : i = 5 := by omega
        have hil : ¬ (((5 + 1 : Nat) : Int) ≤ 5) := by omega
        have hd : decide (mxN ((cntL R).drop 1) 4 ≤ 4) = true := decide_eq_true (hm.2 fun j hj => hno j (by omega))
        simp -implicitDefEqProofs only [lk_normal, hil, cl, hd, ZB, Int.reduceToNat, Nat.reduceLT, Nat.reduceLeDiff, Int.reduceLE, Int.reduceLT, Nat.reduceEqDiff, Nat.reduceSub, SB, SV.known, packR, ne_eq, reduceCtorEq, Nat.reduceEqDiff, ↓reduceIte, if_true, if_false, eq_self, Nat.reduceAdd, Nat.reduceMul, Nat.reduceSub, forall_const, oneCellS, litOne, flat1, Kd.isSca, flat, TYB]
def sDoesFit_F : List SV → Heap → Option (Prop × SV)
  | [.arr R], _ => some (R.length = 24, .tup [.bool (dfB R), .bool (rackB R)])
  | _, _ => none
theorem sDoesFit_T : ∀ args H p v, sDoesFit_F args H = some (p, v) → p → PureH Try.prog 65 args H v := by
  intro args H p v h hp
  unfold sDoesFit_F at h
  split at h
  · cases h; exact (sDoesFit_ok _ hp).any _
  · cases h
def maxI_F : List SV → Heap → Option (Prop × SV)
  | [.slice a off len _], H => match hget H a with
    | some (.ints L _) => some (off + len ≤ L.length ∧ 0 < len ∧ len ≤ 1000000, .int (mxN ((L.drop off).take len) (len - 1)))
    | _ => none
  | _, _ => none
theorem maxI_T : ∀ args H p v, maxI_F args H = some (p, v) → p → PureH Try.prog 132 args H v := by
  intro args H p v h hp
  unfold maxI_F at h
  split at h
  · rename_i a off len cap
    split at h
    · rename_i L e g
      cases h
      exact one_block (maxI_ok L e off len cap hp.1 hp.2.1 hp.2.2) g rfl (fun _ => trivial)
    · cases h
  · cases h
--@tbl DoesFit = impl.DoesFit
theorem DoesFit_ok (R : List Int) (hR : R.length = 24) : PureH Try.prog 64 [.arr R] [] (.tup [.bool (dfB R), .bool (rackB R)]) := by
  have tkR : R.take 24 = R := List.take_of_length_le (by omega)
  have cl := cntL_len R
  have tkc : (cntL R).take 6 = cntL R := List.take_of_length_le (by omega)
  have c6 : cutOff 6 1 0 1 = 1 := rfl
  have t5 : ((cntL R).drop 1).take 5 = (cntL R).drop 1 := List.take_of_length_le (by rw [List.length_drop]; omega)
  unfold dfB
  cases hr : rackB R
  · refine pure_of_vc (X := ⟨Try.prog, tys, [(11, IsRack_F), (128, countColors_F), (132, maxI_F)], [], true, true, 0, [], []⟩) fn_64 ⟨tys_ok, (.cons IsRack_T (.cons countColors_T (.cons maxI_T .nil))), .nil, mixed⟩ (n0 := 0) (Nat.le_of_ble_eq_true rfl) (by simp [wfL, SV.wf]) (wfH_spec (by simp [wfH, SObj.wf])) (Nat.le_refl _) (fun _ => by simp [SV.wf, wfL]) ?_
    simp -implicitDefEqProofs only [Try.f64, Option.getD_some, argS, IsRack_F, countColors_F, maxI_F, hR, tkR, hr, ZB, Int.reduceToNat, Nat.reduceLT, Nat.reduceLeDiff, Int.reduceLE, Int.reduceLT, Nat.reduceEqDiff, Nat.reduceSub, SB, SV.known, packR, ne_eq, reduceCtorEq, Nat.reduceEqDiff, ↓reduceIte, if_true, if_false, eq_self, Nat.reduceAdd, Nat.reduceMul, Nat.reduceSub, forall_const, oneCellS, litOne, flat1, Kd.isSca, flat, TYB]
  · refine pure_of_vc (X := ⟨Try.prog, tys, [(11, IsRack_F), (128, countColors_F), (132, maxI_F)], [], true, true, 0, [], []⟩) fn_64 ⟨tys_ok, (.cons IsRack_T (.cons countColors_T (.cons maxI_T .nil))), .nil, mixed⟩ (n0 := 0) (Nat.le_of_ble_eq_true rfl) (by simp [wfL, SV.wf]) (wfH_spec (by simp [wfH, SObj.wf])) (Nat.le_refl _) (fun _ => by simp [SV.wf, wfL]) ?_
    simp -implicitDefEqProofs only [Try.f64, Option.getD_some, argS, IsRack_F, countColors_F, maxI_F, hR, tkR, hr, cl, tkc, c6, t5, ZB, Int.reduceToNat, Nat.reduceLT, Nat.reduceLeDiff, Int.reduceLE, Int.reduceLT, Nat.reduceEqDiff, Nat.reduceSub, SB, SV.known, packR, ne_eq, reduceCtorEq, Nat.reduceEqDiff, ↓reduceIte, if_true, if_false, eq_self, Nat.reduceAdd, Nat.reduceMul, Nat.reduceSub, forall_const, oneCellS, litOne, flat1, Kd.isSca, flat, TYB]
def DoesFit_F : List SV → Heap → Option (Prop × SV)
  | [.arr R], _ => some (R.length = 24, .tup [.bool (dfB R), .bool (rackB R)])
  | _, _ => none
theorem DoesFit_T : ∀ args H p v, DoesFit_F args H = some (p, v) → p → PureH Try.prog 64 args H v := by
  intro args H p v h hp
  unfold DoesFit_F at h
  split at h
  · cases h; exact (DoesFit_ok _ hp).any _
  · cases h
end Go.Proofs.Ytopfnkmlgcjpbaa
/- Plain: no fewer runs than colors. -/
set_option maxRecDepth 100000
set_option linter.unusedSimpArgs false
set_option linter.unusedVariables false
namespace Go.Proofs.Ytopfnkmlgcjpbaa
open Go Go.RowKit
def b2i (b : Bool) : Int := if b = true then 1 else 0
def ndC (P : Int → Bool) : Int := b2i (P 1) + b2i (P 2) + b2i (P 3) + b2i (P 4) + b2i (P 5)
theorem b2i_bd (b : Bool) : 0 ≤ b2i b ∧ b2i b ≤ 1 := by cases b <;> simp [b2i]
theorem ndC_mono {P Q : Int → Bool} (h : ∀ c, P c = true → Q c = true) : ndC P ≤ ndC Q := by
  have g : ∀ c, b2i (P c) ≤ b2i (Q c) := fun c => by
    cases hp : P c
    · have := b2i_bd (Q c); simp [b2i] at *; omega
    · rw [h c hp]; exact Int.le_refl _
  have g1 := g 1; have g2 := g 2; have g3 := g 3; have g4 := g 4; have g5 := g 5
  unfold ndC; omega
theorem ndC_add {P Q : Int → Bool} {a : Int} (h : ∀ c, Q c = true → P c = true ∨ c = a) : ndC Q ≤ ndC P + 1 := by
  have g : ∀ c, b2i (Q c) ≤ b2i (P c) + if c = a then 1 else 0 := fun c => by
    have hp := b2i_bd (P c)
    cases hq : Q c
    · have e : b2i false = 0 := rfl
      rw [e]; split <;> omega
    · rcases h c hq with h | h
      · rw [h]
        split <;> omega
      · rw [if_pos h]
        have e : b2i true = 1 := rfl
        rw [e]; omega
  have g1 := g 1; have g2 := g 2; have g3 := g 3; have g4 := g 4; have g5 := g 5
  unfold ndC
  by_cases a1 : (1 : Int) = a
  · subst a1; simp at g1 g2 g3 g4 g5; omega
  · by_cases a2 : (2 : Int) = a
    · subst a2; simp at g1 g2 g3 g4 g5; omega
    · by_cases a3 : (3 : Int) = a
      · subst a3; simp at g1 g2 g3 g4 g5; omega
      · by_cases a4 : (4 : Int) = a
        · subst a4; simp at g1 g2 g3 g4 g5; omega
        · simp only [a1, a2, a3, a4, if_false] at g1 g2 g3 g4
          split at g5 <;> omega
theorem nd_runs (t : List Int) (ht : t.length = 4) : ∀ i, i ≤ 4 → ndC (fun c => decide (c ∈ t.take i)) ≤ ((RL t i).length / 2 : Nat) ∧ (0 < i → (RL t i).getD ((RL t i).length - 2) 0 = t.getD (i - 1) 0)
  | 0, _ => by
    refine ⟨?_, fun h => absurd h (by omega)⟩
    have e : ndC (fun c => decide (c ∈ t.take 0)) = 0 := by simp [ndC, b2i]
    rw [e]; omega
  | i + 1, hi => by
    obtain ⟨h1, h2⟩ := nd_runs t ht i (by omega)
    obtain ⟨n, n1, n2, n3⟩ := RL_even t ht i (by omega)
    have hm : ∀ c, c ∈ t.take (i + 1) ↔ c ∈ t.take i ∨ c = t.getD i 0 := fun c => by
      rw [List.take_succ_eq_append_getElem (by omega), List.mem_append, List.mem_singleton, List.getD_eq_getElem?_getD, List.getElem?_eq_getElem (by omega)]; rfl
    rw [RL_succ t i (by omega)]
    unfold stepR
    by_cases hc : 0 < (RL t i).length ∧ (RL t i).getD ((RL t i).length - 2) 0 = t.getD i 0
    · rw [if_pos hc]
      have i0 : 0 < i := by
        rcases Nat.eq_zero_or_pos i with h | h
        · subst h; rw [RL_zero] at hc; simp at hc
        · exact h
      have e := h2 i0
      have hin : t.getD i 0 ∈ t.take i := by
        rw [← hc.2, e, List.getD_eq_getElem?_getD, List.getElem?_eq_getElem (by omega)]
        exact List.mem_take_iff_getElem.2 ⟨i - 1, by omega, rfl⟩
      rw [List.length_set]
      refine ⟨Int.le_trans (ndC_mono fun c hcc => ?_) h1, fun _ => ?_⟩
      · have := of_decide_eq_true hcc
        rcases (hm c).1 this with h | h
        · exact decide_eq_true h
        · exact decide_eq_true (h ▸ hin)
      · rw [getD_set' _ _ _ _ (by omega), if_neg (by omega), hc.2]; rfl
    · rw [if_neg hc]
      refine ⟨?_, fun _ => ?_⟩
      · have := ndC_add (P := fun c => decide (c ∈ t.take i)) (Q := fun c => decide (c ∈ t.take (i + 1))) (a := t.getD i 0) fun c hcc => by
          rcases (hm c).1 (of_decide_eq_true hcc) with h | h
          · exact .inl (decide_eq_true h)
          · exact .inr h
        rw [List.length_append]
        simp only [List.length_cons, List.length_nil]
        omega
      · rw [List.length_append]
        simp only [List.length_cons, List.length_nil]
        rw [show (RL t i).length + (0 + 1 + 1) - 2 = (RL t i).length + 0 by omega, getD_app_right]; rfl
theorem nd_tube {R : List Int} (hR : R.length = 24) {k : Nat} (hk : k < 6) : ndC (fun c => decide (c ∈ (tubeAt R k).take (layN (tubeAt R k)))) ≤ crN (tubeAt R k) := by
  have hl := tubeAt_len hR hk
  exact (nd_runs _ hl (layN (tubeAt R k)) (lay_le _ hl)).1
/-- Colors of the first tubes. -/
def colK (R : List Int) : Nat → Int → Bool
  | 0, _ => false
  | k + 1, c => colK R k c || decide (c ∈ (tubeAt R k).take (layN (tubeAt R k)))
theorem ndC_or (P Q : Int → Bool) : ndC (fun c => P c || Q c) ≤ ndC P + ndC Q := by
  have g : ∀ c, b2i (P c || Q c) ≤ b2i (P c) + b2i (Q c) := fun c => by
    cases P c <;> cases Q c <;> simp [b2i]
  have g1 := g 1; have g2 := g 2; have g3 := g 3; have g4 := g 4; have g5 := g 5
  unfold ndC
  dsimp only
  omega
theorem nd_all {R : List Int} (hR : R.length = 24) : ∀ k, k ≤ 6 → ndC (colK R k) ≤ sumT crN R k
  | 0, _ => by simp [ndC, b2i, colK, sumT]
  | k + 1, hk => by
    have ih := nd_all hR k (by omega)
    have h2 := nd_tube hR (show k < 6 by omega)
    have h3 := ndC_or (colK R k) (fun c => decide (c ∈ (tubeAt R k).take (layN (tubeAt R k))))
    rw [sumT_succ]
    have e : ndC (colK R (k + 1)) = ndC (fun c => colK R k c || decide (c ∈ (tubeAt R k).take (layN (tubeAt R k)))) := rfl
    omega
theorem cnt_mem {R : List Int} (hR : R.length = 24) (hr : rackB R = true) {c : Nat} : ∀ k, k ≤ 24 → 0 < (cntL (R.take k)).getD c 0 → ∃ p, p < k ∧ (R.getD p 0).toNat = c
  | 0, _, h => by
    have z : (List.replicate 6 (0 : Int)).getD c 0 = 0 := by
      rw [List.getD_eq_getElem?_getD, List.getElem?_replicate]
      split <;> rfl
    rw [List.take_zero, cntL_nil, z] at h
    omega
  | k + 1, hk, h => by
    have rc := rack_cell hR hr (k := k) (by omega)
    rw [cntL_take_succ _ _ (by omega), incr_getD _ _ _ (by rw [cntL_len]; omega)] at h
    by_cases he : (R.getD k 0).toNat = c
    · exact ⟨k, by omega, he⟩
    · rw [if_neg he] at h
      obtain ⟨p, p1, p2⟩ := cnt_mem hR hr (c := c) k (by omega) (by omega)
      exact ⟨p, by omega, p2⟩
theorem colK_of {R : List Int} {c : Int} {i : Nat} (h : c ∈ (tubeAt R i).take (layN (tubeAt R i))) : ∀ k, i < k → colK R k c = true
  | 0, hk => absurd hk (by omega)
  | k + 1, hk => by
    unfold colK
    by_cases hik : i = k
    · subst hik
      rw [decide_eq_true h, Bool.or_true]
    · rw [colK_of h k (by omega), Bool.true_or]
theorem col_all {R : List Int} (hR : R.length = 24) (hr : rackB R = true) {c : Nat} (hc : 1 ≤ c) (h : 0 < (cntL R).getD c 0) : colK R 6 (c : Int) = true := by
  have tk : R.take 24 = R := List.take_of_length_le (by omega)
  obtain ⟨p, p1, p2⟩ := cnt_mem hR hr (c := c) 24 (Nat.le_refl _) (by rw [tk]; exact h)
  have hi : p / 4 < 6 := by omega
  have hl := tubeAt_len hR hi
  have tc := tube_cells hl (tubeAt_ok hr hi)
  have e : (tubeAt R (p / 4)).getD (p % 4) 0 = R.getD p 0 := by
    rw [tubeAt_getD _ _ _ (by omega), show p / 4 * 4 + p % 4 = p by omega]
  have hb : p % 4 < layN (tubeAt R (p / 4)) := by
    rcases Nat.lt_or_ge (p % 4) (layN (tubeAt R (p / 4))) with q | q
    · exact q
    · have := tc.2 _ q
      rw [e] at this; omega
  have hv : R.getD p 0 = (c : Int) := by omega
  refine colK_of (i := p / 4) ?_ 6 hi
  rw [← hv, ← e, List.getD_eq_getElem?_getD, List.getElem?_eq_getElem (by omega)]
  exact List.mem_take_iff_getElem.2 ⟨p % 4, by omega, rfl⟩
/-- No fewer runs than colors. -/
theorem spare_nn {R : List Int} (hR : R.length = 24) (hr : rackB R = true) : 0 ≤ sumT crN R 6 - spN ((cntL R).drop 1) 5 := by
  have h1 := nd_all hR 6 (Nat.le_refl _)
  have d1 : ∀ k, ((cntL R).drop 1).getD k 0 = (cntL R).getD (k + 1) 0 := fun k => by simp [List.getD, Nat.add_comm]
  have g : ∀ c : Nat, 1 ≤ c → (if 0 < (cntL R).getD c 0 then (1 : Int) else 0) ≤ b2i (colK R 6 (c : Int)) := fun c hc => by
    have hb := b2i_bd (colK R 6 (c : Int))
    by_cases h : 0 < (cntL R).getD c 0
    · rw [if_pos h, col_all hR hr hc h]; exact Int.le_refl _
    · rw [if_neg h]; omega
  have g1 := g 1 (by omega); have g2 := g 2 (by omega); have g3 := g 3 (by omega); have g4 := g 4 (by omega); have g5 := g 5 (by omega)
  have e : spN ((cntL R).drop 1) 5 = 0 + (if 0 < (cntL R).getD 1 0 then (1 : Int) else 0) + (if 0 < (cntL R).getD 2 0 then (1 : Int) else 0) + (if 0 < (cntL R).getD 3 0 then (1 : Int) else 0) + (if 0 < (cntL R).getD 4 0 then (1 : Int) else 0) + (if 0 < (cntL R).getD 5 0 then (1 : Int) else 0) := by
    simp only [spN, d1]
  have e2 : ndC (colK R 6) = b2i (colK R 6 ((1 : Nat) : Int)) + b2i (colK R 6 ((2 : Nat) : Int)) + b2i (colK R 6 ((3 : Nat) : Int)) + b2i (colK R 6 ((4 : Nat) : Int)) + b2i (colK R 6 ((5 : Nat) : Int)) := rfl
  omega
end Go.Proofs.Ytopfnkmlgcjpbaa
