/- Contracts: slices.SortFunc over lists of numbers, in the order of lists. -/
import Derived.Test.YtdnechlmkbchaaaLay
import Derived.Test.YtdnechlmkbchaaaForm
import Derived.Test.YtdnechlmkbchaaaGen
set_option maxRecDepth 100000
set_option linter.unusedSimpArgs false
set_option linter.unusedVariables false
namespace Go.Proofs.Ytdnechlmkbchaaa
open Go Go.RowKit
abbrev Ro (k : Nat) := {x : List Int // x.length = k}
instance (k : Nat) : Inhabited (Ro k) := ⟨⟨List.replicate k 0, by simp⟩⟩
def encR {k : Nat} (x : Ro k) : List Value := x.1.map (Value.int .i64)
theorem encR_len {k : Nat} (x : Ro k) : (encR x).length = k := by unfold encR; rw [List.length_map]; exact x.2
theorem flat_lenW {w : Nat} : ∀ {Q : List (List Int)}, (∀ x ∈ Q, x.length = w) → Q.flatten.length = Q.length * w
  | [], _ => by simp
  | x :: Q, h => by
    rw [List.flatten_cons, List.length_append, flat_lenW fun y hy => h y (List.mem_cons_of_mem _ hy), h x (List.mem_cons_self ..), List.length_cons, Nat.add_mul]; omega
theorem flat_at {w : Nat} : ∀ {Q : List (List Int)}, (∀ x ∈ Q, x.length = w) → ∀ {i j : Nat}, i < Q.length → j < w → Q.flatten.getD (i * w + j) 0 = (Q.getD i []).getD j 0
  | [], _, i, _, hi, _ => by simp at hi
  | x :: Q, h, i, j, hi, hj => by
    have hx := h x (List.mem_cons_self ..)
    rw [List.flatten_cons]
    cases i with
    | zero =>
      rw [Nat.zero_mul, Nat.zero_add, getD_app _ _ _ (by omega)]; rfl
    | succ i =>
      have e : (i + 1) * w + j = x.length + (i * w + j) := by rw [hx, Nat.add_mul]; omega
      rw [e, List.getD_eq_getElem?_getD, List.getElem?_append_right (by omega), Nat.add_sub_cancel_left, ← List.getD_eq_getElem?_getD, flat_at (fun y hy => h y (List.mem_cons_of_mem _ hy)) (by simpa using hi) hj]
      rfl
def roL {k : Nat} (d : Array (Ro k)) : List (List Int) := d.toList.map (·.1)
theorem roL_len {k : Nat} (d : Array (Ro k)) : ∀ x ∈ roL d, x.length = k := fun x hx => by
  obtain ⟨y, _, rfl⟩ := List.mem_map.1 hx
  exact y.2
theorem flatK_ro {k : Nat} (hk : 0 < k) (d : Array (Ro k)) : Sort.flatK encR k d = ints (roL d).flatten := by
  have hl : (roL d).flatten.length = d.size * k := by rw [flat_lenW (roL_len d)]; simp [roL]
  have hsz : (ints (roL d).flatten).size = d.size * k := by unfold ints; rw [List.size_toArray, List.length_map, hl]
  refine Sort.ext_get! (by rw [hsz, Sort.size_flatK]) fun t ht => ?_
  have ht' : t < d.size * k := by simpa using ht
  rw [Sort.get_flatK _ _ _ _ ht']
  have hq : t / k < d.size := Nat.div_lt_of_lt_mul (by rw [Nat.mul_comm]; exact ht')
  have hr : t % k < k := Nat.mod_lt _ hk
  have e := flat_at (roL_len d) (i := t / k) (j := t % k) (by simpa [roL] using hq) hr
  have et : t / k * k + t % k = t := by rw [Nat.mul_comm]; exact Nat.div_add_mod t k
  rw [et] at e
  have e2 : (roL d).getD (t / k) [] = (d[t / k]!).1 := by
    rw [List.getD_eq_getElem?_getD, List.getElem?_eq_getElem (by simpa [roL] using hq)]
    simp [roL, hq]
  rw [e2] at e
  have hx := (d[t / k]!).2
  rw [getElem!_pos (encR d[t / k]!) (t % k) (by rw [encR_len]; exact hr), getElem!_pos (ints (roL d).flatten) t (by rw [hsz]; exact ht')]
  simp only [encR, ints, List.getElem_map, List.getElem_toArray]
  congr 1
  rw [List.getD_eq_getElem?_getD, List.getElem?_eq_getElem (by omega), List.getD_eq_getElem?_getD, List.getElem?_eq_getElem (by omega)] at e
  simpa using e.symm
theorem grow_of_bel {w w' : World} (h : Bel w.heap.size w w') : ∃ q os', w' = Sort.grow (w.drewN q) os' := by
  refine ⟨w'.drawn - w.drawn, w'.heap.extract w.heap.size w'.heap.size, ?_⟩
  have h1 := h.os; have h2 := h.tape; have h3 := h.output; have h4 := h.size; have h5 := h.block; have h6 := h.drawn
  have hh : w'.heap = w.heap ++ w'.heap.extract w.heap.size w'.heap.size := by
    apply Array.ext_getElem?
    intro i
    rw [Array.getElem?_append]
    split
    · exact h5 i (by assumption)
    · rw [Array.getElem?_extract]
      split
      · rw [show w.heap.size + (i - w.heap.size) = i by omega]
      · rw [Array.getElem?_eq_none (by omega)]
  cases w' with
  | mk hp tp dr os out =>
    cases w with
    | mk hp0 tp0 dr0 os0 out0 =>
      simp only at h1 h2 h3 h4 h5 h6 hh
      subst h1 h2 h3
      simp only [Sort.grow, World.drewN, World.mk.injEq]
      refine ⟨hh, trivial, by omega, trivial, trivial⟩
theorem swo_ro (k : Nat) : Sort.SWO (ltOf fun x y : Ro k => lexC x.1 y.1) where
  irrefl x := by simp [ltOf, lexC_refl]
  trans x y z h1 h2 := by
    simp only [ltOf, decide_eq_true_eq] at *
    exact lexC_trans (by rw [x.2, y.2]) (by rw [y.2, z.2]) h1 h2
  ntrans x y z h1 h2 := by
    simp only [ltOf, decide_eq_false_iff_not] at *
    have := lexL_trans (x := z.1) (y := y.1) (z := x.1) (by rw [z.2, y.2]) (by rw [y.2, x.2]) (by simp [lexL]; omega) (by simp [lexL]; omega)
    simp only [lexL, Bool.not_eq_true', decide_eq_false_iff_not] at this
    exact this
theorem cmp_lays {g k : Nat} {blk off size : Nat} {w : World} (hc : ∀ x y : List Int, x.length = k → y.length = k → PureH Try.prog g [.arr x, .arr y] [] (.int (lexC x y))) : CmpLays Try.prog g #[] encR k (fun x y : Ro k => lexC x.1 y.1) blk off size w := by
  intro m os dk _ x y
  have := (hc x.1 y.1 x.2 y.2).call (fun _ => 0) (sortWorldK encR k w blk off m dk os) (HR.nil _ _)
  refine this.mono fun e w' hh => ⟨hh.1, grow_of_bel hh.2⟩
theorem ints_get (L : List Int) (t : Nat) : (ints L)[t]? = L[t]?.map (Value.int .i64) := by simp [ints]
theorem ints_get! (L : List Int) (t : Nat) (h : t < L.length) : (ints L)[t]! = .int .i64 L[t] := by simp [ints, h]
/-- A row of cells inside a block of numbers. -/
theorem holds_mid {w : World} {blk e off : Nat} {A F Z : List Int} (hb : w.heap[blk]? = some (.cells (ints (A ++ F ++ Z)) e (0, 0))) (ho : A.length = off) : Sort.Holds id w blk off (ints F) := fun j hj => by
  have hj' : j < F.length := by simpa [ints] using hj
  refine ⟨?_, ?_⟩
  · simp only [World.cell?, hb]
    subst ho
    have h1 : (A ++ F ++ Z)[A.length + j]? = F[j]? := by
      rw [List.append_assoc, List.getElem?_append_right (by omega), Nat.add_sub_cancel_left, List.getElem?_append_left hj']
    show (ints (A ++ F ++ Z))[A.length + j]? = some (ints F)[j]!
    rw [ints_get, h1, ints_get! F j hj', List.getElem?_eq_getElem hj']; rfl
  · simp [World.frozen?, hb]
theorem put_mid {A F F' Z : List Int} {off : Nat} (ho : A.length = off) (hF : F'.length = F.length) : Sort.putCells id off (ints F') (ints (A ++ F ++ Z)) = ints (A ++ F' ++ Z) := by
  subst ho
  apply Array.ext_getElem?
  intro t
  simp only [Sort.putCells, Array.getElem?_mapIdx]
  have sz : (ints F').size = F'.length := by simp [ints]
  rw [ints_get, ints_get]
  by_cases h1 : t < A.length
  · rw [List.append_assoc, List.getElem?_append_left h1, List.append_assoc, List.getElem?_append_left h1]
    cases A[t]? with
    | none => rfl
    | some v => simp only [Option.map_some]; rw [if_neg (fun h => by rw [sz] at h; omega)]
  · rw [List.append_assoc, List.getElem?_append_right (show A.length ≤ t by omega), List.append_assoc, List.getElem?_append_right (show A.length ≤ t by omega)]
    by_cases h2 : t - A.length < F'.length
    · rw [List.getElem?_append_left (show t - A.length < F.length by omega), List.getElem?_append_left h2, List.getElem?_eq_getElem (by omega), List.getElem?_eq_getElem h2]
      simp only [Option.map_some]
      rw [if_pos (⟨by omega, by rw [sz]; omega⟩ : A.length ≤ t ∧ t < A.length + (ints F').size), ints_get! F' _ h2]; rfl
    · rw [List.getElem?_append_right (show F.length ≤ t - A.length by omega), List.getElem?_append_right (show F'.length ≤ t - A.length by omega), hF]
      cases Z[t - A.length - F.length]? with
      | none => rfl
      | some v => simp only [Option.map_some]; rw [if_neg (fun h => by rw [sz] at h; omega)]
theorem ro_sorted {k : Nat} {d d' : Array (Ro k)} (hp : Sort.PermIn 0 d.size d d') (hs : Sort.SortedIn (ltOf fun x y : Ro k => lexC x.1 y.1) 0 d.size d') : roL d' = srtT (roL d) := by
  have hsz := hp.1
  refine lexL_one (roL_len d') ?_ ?_ (srtT_pw (roL_len d))
  · have h3 := hp.2.2
    have e1 : d'.extract 0 d.size = d' := by rw [← hsz]; simp
    have e2 : d.extract 0 d.size = d := by simp
    rw [e1, e2] at h3
    exact (h3.map _).trans (srtT_perm _).symm
  · unfold roL
    rw [List.pairwise_map, List.pairwise_iff_getElem]
    intro i j hi hj hij
    have := hs i j (Nat.zero_le _) hij (by simpa [hsz] using hj)
    simp only [ltOf, decide_eq_false_iff_not] at this
    simp only [lexL, Bool.not_eq_true', decide_eq_false_iff_not]
    have gi : d'[i]! = d'.toList[i] := by rw [getElem!_pos _ _ (by simpa using hi)]; simp
    have gj : d'[j]! = d'.toList[j] := by rw [getElem!_pos _ _ (by simpa using hj)]; simp
    rw [← gi, ← gj]
    exact this
def mkRo {k : Nat} : (Q : List (List Int)) → (∀ x ∈ Q, x.length = k) → List (Ro k)
  | [], _ => []
  | x :: Q, h => ⟨x, h x (List.mem_cons_self ..)⟩ :: mkRo Q fun y hy => h y (List.mem_cons_of_mem _ hy)
theorem mkRo_map {k : Nat} : ∀ (Q : List (List Int)) (h : ∀ x ∈ Q, x.length = k), (mkRo Q h).map (·.1) = Q
  | [], _ => rfl
  | x :: Q, h => by simp [mkRo, mkRo_map Q]
/-- slices.SortFunc over lists of k numbers each, compared in the order of lists. -/
theorem sortF_ok {ρ : Go.Shelf.Ren} (L : SlLaysF0.n6 Try.prog ρ) (k : Nat) (hk : 0 < k) (aE : ∀ w, (isAgg (ρ.t 24)).run Try.prog w = .ok true w) (zE : ∀ w, (Go.sizeOf (ρ.t 24)).run Try.prog w = .ok k w) (g : Nat) (eg : Entd Try.prog g) (es : Entd Try.prog (ρ.f 6))
    (hc : ∀ x y : List Int, x.length = k → y.length = k → PureH Try.prog g [.arr x, .arr y] [] (.int (lexC x y))) (A Z : List Int) (Q : List (List Int)) (hQ : ∀ x ∈ Q, x.length = k) (e cap off n : Nat) (hA : A.length = off) (hn : Q.length = n) (hb : n < 4611686018427387904) :
    UpdP Try.prog (ρ.f 6) [.slice 0 off n cap, .fn g []] 0 [] (.ints (A ++ Q.flatten ++ Z) e) (.ints (A ++ (srtT Q).flatten ++ Z) e) (.tup []) := by
  refine ⟨es, rfl, fun _ => trivial, fun B w hH => ?_⟩
  have hblk : w.heap[B 0]? = some (.cells (ints (A ++ Q.flatten ++ Z)) e (0, 0)) := hH.at_ 0 _ rfl rfl
  have hlt : B 0 < w.heap.size := by
    rcases Nat.lt_or_ge (B 0) w.heap.size with h | h
    · exact h
    · rw [Array.getElem?_eq_none h] at hblk; cases hblk
  let d : Array (Ro k) := (mkRo Q hQ).toArray
  have dQ : roL d = Q := by show (mkRo Q hQ).map (·.1) = Q; exact mkRo_map Q hQ
  have dn : d.size = n := by
    have := congrArg List.length dQ
    simp [roL] at this
    omega
  have hH2 : Sort.HoldsK encR k w (B 0) off d := by
    unfold Sort.HoldsK
    rw [flatK_ro hk, dQ]
    exact holds_mid hblk hA
  have hcon := AnyQ.slices_SortFunc L k aE zE encR encR_len (fun x v hv => by
    obtain ⟨z, _, rfl⟩ := List.mem_map.1 hv
    rfl) (fun x y : Ro k => lexC x.1 y.1) (swo_ro k) g #[] (B 0) off cap d w eg (cmp_lays hc) hH2 hlt (by omega)
  rw [dn] at hcon
  refine hcon.mono fun r w' hh => ?_
  obtain ⟨rfl, d', m, os, hp, hs, rfl⟩ := hh
  have hs' := ro_sorted (d := d) (d' := d') (by rw [dn]; exact hp) (by rw [dn]; exact hs)
  rw [dQ] at hs'
  have hl : (srtT Q).flatten.length = Q.flatten.length := by
    rw [flat_lenW hQ, flat_lenW fun x hx => hQ x ((srtT_perm Q).mem_iff.1 hx), (srtT_perm Q).length_eq]
  have hblk' : (sortWorldK encR k w (B 0) off m d' os).heap[B 0]? = some (.cells (ints (A ++ (srtT Q).flatten ++ Z)) e (0, 0)) := by
    unfold sortWorldK Sort.grow Sort.putRowK Sort.putRow Sort.mapBlock Sort.ahead
    simp only []
    rw [Array.getElem?_append_left (by simpa using hlt), Array.getElem?_modify, if_pos rfl, hblk]
    simp only [Option.map_some, Sort.onCells]
    rw [flatK_ro hk, hs', put_mid hA hl]
  refine ⟨rfl, ⟨rfl, rfl, rfl, ?_, fun i hi hM => ?_, ?_⟩, hblk'⟩
  · exact size_sortWorldK_c encR k w (B 0) off m d' os
  · have hne : B 0 ≠ i := fun h => hM (.inl h.symm)
    unfold sortWorldK Sort.grow Sort.putRowK Sort.putRow Sort.mapBlock Sort.ahead
    simp only []
    rw [Array.getElem?_append_left (by simpa using hi), Array.getElem?_modify, if_neg hne]
  · exact Nat.le_add_right _ _
/-! At tubes. -/
theorem sortT_ok (A Z : List Int) (Q : List (List Int)) (hQ : ∀ x ∈ Q, x.length = 4) (e cap off n : Nat) (hA : A.length = off) (hn : Q.length = n) (hb : n < 4611686018427387904) :
    UpdP Try.prog 99 [.slice 0 off n cap, .fn 100 []] 0 [] (.ints (A ++ Q.flatten ++ Z) e) (.ints (A ++ (srtT Q).flatten ++ Z) e) (.tup []) :=
  sortF_ok laySortT 4 (by omega) Try.isAgg22 Try.sizeOf22 100 fn_100.ent fn_99.ent cmpT_ok A Z Q hQ e cap off n hA hn hb
def sortT_F : List SV → Heap → Nat → Nat → K1 → Prop
  | [.slice b 0 n _, .fn g []], H, N, m, κ => match hget H b with
    | some (.ints L e) => g = 100 ∧ L.length = 24 ∧ n = 6 ∧ m ≤ b ∧ κ (.tup []) ((b, .ints (frm L) e) :: H) N
    | _ => False
  | _, _, _, _, _ => False
--@tbl sortT = slices.SortFunc[[][4]int,[4]int]
theorem sortT_T : ∀ args H n m κ, sortT_F args H n m κ → GenOK Try.prog 99 args H n m κ := by
  intro args H N m κ h
  unfold sortT_F at h
  split at h
  · rename_i b n cap g
    split at h
    · rename_i L e hb
      obtain ⟨rfl, hL, rfl, hm, h⟩ := h
      have hu := sortT_ok [] [] (tubs L) (tubs_len hL) e cap 0 6 rfl (by simp [tubs]) (by omega)
      rw [List.nil_append, List.append_nil, List.nil_append, List.append_nil, tubs_flat hL] at hu
      have := gen_of_upd (H := H) (n := N) (m := m) (κ := κ) hu (fun _ => b) (fun j o1 hj => by
        rw [hget_cons] at hj
        split at hj
        · cases hj; exact hb
        · cases hj) (fun j1 o1 j2 o2 g1 g2 he => by
        rw [hget_cons] at g1 g2
        split at g1
        · split at g2
          · omega
          · cases g2
        · cases g1) (by simpa using hm) rfl (fun _ _ => trivial) (by simpa [SV.ren, renL, frm] using h)
      simpa [renL, SV.ren] using this
    · exact h.elim
  · exact h.elim
theorem formOf_ok (R : List Int) (hR : R.length = 24) : PureH Try.prog 54 [.arr R] [] (.arr (frm R)) := by
  have tkR : R.take 24 = R := List.take_of_length_le (by omega)
  have hl := frm_len hR
  have tkf : (frm R).take 24 = frm R := List.take_of_length_le (by omega)
  refine pure_of_vc (X := ⟨Try.prog, tys, [], [(99, sortT_F)], true, true, 0, [], []⟩) fn_54 ⟨tys_ok, .nil, (.cons sortT_T .nil), mixed⟩ (n0 := 0) (Nat.le_of_ble_eq_true rfl) (by simp [wfL, SV.wf]) (wfH_spec (by simp [wfH, SObj.wf])) (Nat.le_refl _) (fun _ => by simp [SV.wf, wfL]) ?_
  simp -implicitDefEqProofs only [Try.f54, Option.getD_some, argS, sortT_F, hR, tkR, hl, tkf, ZB, Int.reduceToNat, Nat.reduceLT, Nat.reduceLeDiff, Int.reduceLE, Int.reduceLT, Nat.reduceEqDiff, Nat.reduceSub, SB, SV.known, packR, ne_eq, reduceCtorEq, Nat.reduceEqDiff, ↓reduceIte, if_true, if_false, eq_self, Nat.reduceAdd, Nat.reduceMul, Nat.reduceSub, forall_const, oneCellS, litOne, flat1, Kd.isSca, flat, TYB]
--@tbl formOf = impl.formOf
def formOf_F : List SV → Heap → Option (Prop × SV)
  | [.arr R], _ => some (R.length = 24, .arr (frm R))
  | _, _ => none
theorem formOf_T : ∀ args H p v, formOf_F args H = some (p, v) → p → PureH Try.prog 54 args H v := by
  intro args H p v h hp
  unfold formOf_F at h
  split at h
  · cases h; exact (formOf_ok _ hp).any _
  · cases h
/-! At racks. -/
end Go.Proofs.Ytdnechlmkbchaaa
