/- Walks: slices.IndexFunc and slices.DeleteFunc over racks. -/
import Derived.Test.YtfdpeenamkpcbaaDel
import Derived.Test.YtfdpeenamkpcbaaUpd
set_option maxRecDepth 100000
set_option linter.unusedSimpArgs false
set_option linter.unusedVariables false
namespace Go.Proofs.Ytfdpeenamkpcbaa
open Go Go.RowKit
def chkR (L : List Int) (off len : Nat) : List (List Int) := (List.range len).map fun i => (L.drop (off + i * 24)).take 24
theorem chkR_len (L : List Int) (off len : Nat) : (chkR L off len).length = len := by simp [chkR]
theorem chkR_getD (L : List Int) (off len k : Nat) (h : k < len) : (chkR L off len).getD k [] = (L.drop (off + k * 24)).take 24 := by simp [chkR, List.getD, h]
theorem chkR_take (L : List Int) (off len k : Nat) (h : k ≤ len) : (chkR L off len).take k = chkR L off k := by
  unfold chkR
  rw [← List.map_take, List.take_range, Nat.min_eq_left h]
theorem chkR_succ (L : List Int) (off k : Nat) : chkR L off (k + 1) = chkR L off k ++ [(L.drop (off + k * 24)).take 24] := by
  unfold chkR
  rw [List.range_succ, List.map_append]; rfl
theorem chkR_mem {L : List Int} {off len : Nat} (h : off + len * 24 ≤ L.length) {x : List Int} (hx : x ∈ chkR L off len) : x.length = 24 := by
  obtain ⟨i, hi, rfl⟩ := List.mem_map.1 hx
  have := List.mem_range.1 hi
  rw [List.length_take, List.length_drop]; omega
theorem chkR_flat (L : List Int) : ∀ k, k * 24 ≤ L.length → (chkR L 0 k).flatten = L.take (k * 24)
  | 0, _ => by simp [chkR]
  | k + 1, h => by
    rw [chkR_succ, List.flatten_append, chkR_flat L k (by omega), Nat.zero_add, show (k + 1) * 24 = k * 24 + 24 by omega, List.take_add]
    simp
/-- What is keptR. -/
def keptR (np : List Int → Bool) (L : List Int) (k : Nat) : List Int := ((chkR L 0 k).filter np).flatten
theorem keptR_zero (np : List Int → Bool) (L : List Int) : keptR np L 0 = [] := rfl
theorem keptR_succ (np : List Int → Bool) (L : List Int) (k : Nat) : keptR np L (k + 1) = keptR np L k ++ if np ((L.drop (k * 24)).take 24) = true then (L.drop (k * 24)).take 24 else [] := by
  unfold keptR
  rw [chkR_succ, List.filter_append, List.flatten_append, Nat.zero_add]
  congr 1
  simp only [List.filter_cons, List.filter_nil]
  split <;> simp
theorem keptR_even (np : List Int → Bool) (L : List Int) : ∀ k, k * 24 ≤ L.length → ∃ i, (keptR np L k).length = i * 24 ∧ i ≤ k
  | 0, _ => ⟨0, rfl, by omega⟩
  | k + 1, h => by
    obtain ⟨i, h1, h2⟩ := keptR_even np L k (by omega)
    rw [keptR_succ, List.length_append, h1]
    split
    · exact ⟨i + 1, by rw [List.length_take, List.length_drop]; omega, by omega⟩
    · exact ⟨i, by simp, by omega⟩
theorem keptR_all {np : List Int → Bool} {L : List Int} : ∀ k, k * 24 ≤ L.length → (∀ i, i < k → np ((L.drop (i * 24)).take 24) = true) → keptR np L k = L.take (k * 24)
  | 0, _, _ => by simp [keptR_zero]
  | k + 1, h, hn => by
    rw [keptR_succ, if_pos (hn k (by omega)), keptR_all k (by omega) fun i hi => hn i (by omega), show (k + 1) * 24 = k * 24 + 24 by omega, List.take_add]
theorem keptR_app (np : List Int → Bool) (L M : List Int) : ∀ k, k * 24 ≤ L.length → keptR np (L ++ M) k = keptR np L k
  | 0, _ => rfl
  | k + 1, h => by
    have e : ((L ++ M).drop (k * 24)).take 24 = (L.drop (k * 24)).take 24 := by
      rw [List.drop_append_of_le_length (by omega), List.take_append_of_le_length (by rw [List.length_drop]; omega)]
    rw [keptR_succ, keptR_succ, keptR_app np L M k (by omega), e]

theorem indexFuncR_ok (g : Nat) (caps : List SV) (H Hc : Heap) (pr : List Int → Bool) (n0 b : Nat) (L : List Int) (e len cap : Nat) (hb : hget H b = some (.ints L e)) (hl : len * 24 ≤ L.length) (hm : len ≤ 9223372036854775806)
    (Q : List Int → Prop) (hQ : ∀ i, i < len → Q ((L.drop (i * 24)).take 24)) (hc : ∀ x : List Int, Q x → PureH Try.prog g (.arr x :: caps) Hc (.bool (pr x))) (hE : Ext Hc H) (hw : wfL n0 caps) (hwH : hwf n0 H) :
    PureH Try.prog 123 [.slice b 0 len cap, .fn g caps] H (.int (idxG pr (chkR L 0 len))) := by
  have hE2 := chkR_len L 0 len
  have h00 : b < n0 := (hwH b _ hb).1
  refine pure_of_vc (X := ⟨Try.prog, tys, [(g, fun args H' => match args with | .arr x :: r => some (r = caps ∧ Ext Hc H' ∧ Q x, .bool (pr x)) | _ => none)], [], true, true, n0, [], []⟩) fn_123
    ⟨tys_ok, .cons (fun args H' p v h hp => ?_) .nil, .nil, mixed⟩ (n0 := n0) (Nat.le_of_ble_eq_true rfl) ⟨by simpa [SV.wf] using h00, by simpa [SV.wf] using hw, trivial⟩ hwH (Nat.le_refl _) (fun _ => trivial) ?_
  · split at h
    · cases h
      obtain ⟨rfl, hx1, hx⟩ := hp
      exact (hc _ hx).weaken hx1 (fun _ => trivial)
    · cases h
  simp -implicitDefEqProofs only [Try.f123, Option.getD_some, argS, hb, SB, SV.known, packR, ne_eq, reduceCtorEq, Nat.reduceEqDiff, ↓reduceIte, if_true, if_false, eq_self, Nat.reduceAdd, Nat.reduceMul, Nat.reduceSub, forall_const, oneCellS, Kd.isSca, flat, TYB]
  refine loop_intro (fun i : Nat => [(0, .slice b 0 len cap), (1, .fn g caps), (7, .int len), (8, .int i)]) (fun i => H) n0 (fun i => i ≤ len ∧ ∀ k, k < i → pr ((chkR L 0 len).getD k []) = false) (fun i => len - i) ?_ ?_
  · refine ⟨0, ⟨by omega, by simp⟩, Sub.same ?_ ?_ hwH (Nat.le_refl _)⟩
    · simp [subS, subH, wfS, wfH, SV.ren, renL, SObj.ren, SV.wf, SObj.wf, wfL, sget_cons, hget_cons, SV.known, renL_id]
    · simp [subS, subH, wfS, wfH, SV.ren, renL, SObj.ren, SV.wf, SObj.wf, wfL, sget_cons, hget_cons, hw, h00]
  · intro i hi
    obtain ⟨hi1, hi2⟩ := hi
    simp -implicitDefEqProofs only [lk_normal, hb, SB, SV.known, packR, ne_eq, reduceCtorEq, Nat.reduceEqDiff, ↓reduceIte, if_true, if_false, eq_self, Nat.reduceAdd, Nat.reduceMul, Nat.reduceSub, forall_const, oneCellS, Kd.isSca, flat, TYB]
    refine ⟨fun h => ?_, fun h => ?_⟩
    · have hlt : i < len := by omega
      have e1 : 0 + (i : Int).toNat * 24 = i * 24 := by simp
      have e2 : (L.drop (i * 24)).take 24 = (chkR L 0 len).getD i [] := by rw [chkR_getD L 0 len i hlt, Nat.zero_add]
      have e3 : Q ((chkR L 0 len).getD i []) := by rw [← e2]; exact hQ i hlt
      simp only [Int.toNat_natCast, Nat.zero_add, e2]
      refine ⟨by omega, by omega, by omega, ⟨hE, e3⟩, ?_⟩
      cases hp : pr ((chkR L 0 len).getD i []) with
      | true =>
        simp -implicitDefEqProofs only [SB, SV.known, packR, ne_eq, reduceCtorEq, Nat.reduceEqDiff, ↓reduceIte, if_true, if_false, eq_self, Nat.reduceAdd, Nat.reduceMul, Nat.reduceSub, forall_const, oneCellS, Kd.isSca, flat, TYB]
        rw [idxG_hit (by omega) hp hi2]
      | false =>
        simp -implicitDefEqProofs only [lk_normal, SB, SV.known, packR, ne_eq, reduceCtorEq, Nat.reduceEqDiff, ↓reduceIte, if_true, if_false, eq_self, Nat.reduceAdd, Nat.reduceMul, Nat.reduceSub, forall_const, oneCellS, Kd.isSca, flat, TYB]
        refine ⟨by unfold In64; omega, i + 1, ⟨by omega, fun k hk => ?_⟩, by omega, Sub.same ?_ ?_ hwH (Nat.le_refl _)⟩
        · by_cases hki : k = i
          · subst hki; exact hp
          · exact hi2 k (by omega)
        · simp [subS, subH, wfS, wfH, SV.ren, renL, SObj.ren, SV.wf, SObj.wf, wfL, sget_cons, hget_cons, SV.known, renL_id]
        · simp [subS, subH, wfS, wfH, SV.ren, renL, SObj.ren, SV.wf, SObj.wf, wfL, sget_cons, hget_cons, hw, h00]
    · obtain rfl : i = len := by omega
      rw [idxG_none (by rw [hE2]; exact hi2)]
end Go.Proofs.Ytfdpeenamkpcbaa
